/-
  No cell of these rows narrows 'for every input' (looked for: loops, veiled, ifaces, maps, wideKeys, modest, calm, conditions, laid).
  DERIVED. THE GIVEN ROWS OF THIS SEAT. 7 by the template 'for every input the law returns true; each argument reads behind the call as it read before'; 0 by the template 'total and deterministic' (their statements: YtigjoaejncfmdaaTotals.lean).
  GIVEN WITH THE SEED: the statements are not yours to turn. If you find one false, say at which input.
  Laid BY PROGRAM, IN A SANDBOX (cutbox-rows.mjs): the forced cells as the released guide's own fill.sh prints them over the translation 46e81cdbb726275e… (all of the seat's roots in one cut). By AI agents, Wed Nov 11 2026. No macro, syntax, notation, axiom, sorry.
-/
import Derived.Test.YtigjoaejncfmdaaChecked
import GoSem.Claim
import GoSem.ClaimJoined
import GoSem.ClaimMapViews
import Derived.JoinedTies
import Derived.KernelRfl
namespace Go.Proofs.Ytigjoaejncfmdaa
/- THE CELL 'sum', in the pinned program and in every row, IS THE sha256 OF THE DUMP (.gsa) THAT YtigjoaejncfmdaaProg.lean LOADS. Nothing in Lean hashes anything: it is a label: what it is worth is what the hold of that sum in a sandbox is worth. -/
noncomputable def Try.pinned : Pinned := { name := "ytigjoaejncfmdaa", sum := "46e81cdbb726275e98e24873847a462bf63748516ff6433ce961db3f208b056b", checked := Try.checked }
namespace Rows
def none {H : Type} : Left H := { results := [], args := [] }

/-- 'stirruplaw28.CurtailBars': WHATEVER THE INPUT: true; the input reads as it did. -/
def curtailBarsSpec : ChangeSpec := { name := "curtailBars", fn := fun _ => fun
  | [d1, d2, d3] => { results := [.lit (.bool true)], args := [d1, d2, d3] }
  | _ => none }
def curtailBarsRow : OpenClaim := { program := "ytigjoaejncfmdaa", sum := "46e81cdbb726275e98e24873847a462bf63748516ff6433ce961db3f208b056b", func := "stirrup/stirruplaw28.CurtailBars", spec := "curtailBars", unfollowed := true, recurses := true, apart := false }
def CurtailBarsSaid : Prop := curtailBarsRow.holds Try.pinned (OpenSpec.ofChange curtailBarsSpec)

/-- ITS FALSE NEIGHBOUR: 'it returns false'. Refute it at one input. -/
def curtailBarsWrong : ChangeSpec := { name := "curtailBars", fn := fun _ => fun
  | [d1, d2, d3] => { results := [.lit (.bool false)], args := [d1, d2, d3] }
  | _ => none }
def CurtailBarsWrongFalsely : Prop := curtailBarsRow.holds Try.pinned (OpenSpec.ofChange curtailBarsWrong)

/-- 'stirruplaw28.CurtailLevels': WHATEVER THE INPUT: true; the input reads as it did. -/
def curtailLevelsSpec : ChangeSpec := { name := "curtailLevels", fn := fun _ => fun
  | [d1, d2, d3] => { results := [.lit (.bool true)], args := [d1, d2, d3] }
  | _ => none }
def curtailLevelsRow : OpenClaim := { program := "ytigjoaejncfmdaa", sum := "46e81cdbb726275e98e24873847a462bf63748516ff6433ce961db3f208b056b", func := "stirrup/stirruplaw28.CurtailLevels", spec := "curtailLevels", unfollowed := true, recurses := true, apart := false }
def CurtailLevelsSaid : Prop := curtailLevelsRow.holds Try.pinned (OpenSpec.ofChange curtailLevelsSpec)

/-- ITS FALSE NEIGHBOUR: 'it returns false'. Refute it at one input. -/
def curtailLevelsWrong : ChangeSpec := { name := "curtailLevels", fn := fun _ => fun
  | [d1, d2, d3] => { results := [.lit (.bool false)], args := [d1, d2, d3] }
  | _ => none }
def CurtailLevelsWrongFalsely : Prop := curtailLevelsRow.holds Try.pinned (OpenSpec.ofChange curtailLevelsWrong)

/-- 'stirruplaw28.CurtailNested': WHATEVER THE INPUT: true; the input reads as it did. -/
def curtailNestedSpec : ChangeSpec := { name := "curtailNested", fn := fun _ => fun
  | [d1, d2, d3, d4] => { results := [.lit (.bool true)], args := [d1, d2, d3, d4] }
  | _ => none }
def curtailNestedRow : OpenClaim := { program := "ytigjoaejncfmdaa", sum := "46e81cdbb726275e98e24873847a462bf63748516ff6433ce961db3f208b056b", func := "stirrup/stirruplaw28.CurtailNested", spec := "curtailNested", unfollowed := true, recurses := true, apart := false }
def CurtailNestedSaid : Prop := curtailNestedRow.holds Try.pinned (OpenSpec.ofChange curtailNestedSpec)

/-- ITS FALSE NEIGHBOUR: 'it returns false'. Refute it at one input. -/
def curtailNestedWrong : ChangeSpec := { name := "curtailNested", fn := fun _ => fun
  | [d1, d2, d3, d4] => { results := [.lit (.bool false)], args := [d1, d2, d3, d4] }
  | _ => none }
def CurtailNestedWrongFalsely : Prop := curtailNestedRow.holds Try.pinned (OpenSpec.ofChange curtailNestedWrong)

/-- 'stirruplaw28.CurtailMore': WHATEVER THE INPUT: true; the input reads as it did. -/
def curtailMoreSpec : ChangeSpec := { name := "curtailMore", fn := fun _ => fun
  | [d1, d2, d3, d4, d5] => { results := [.lit (.bool true)], args := [d1, d2, d3, d4, d5] }
  | _ => none }
def curtailMoreRow : OpenClaim := { program := "ytigjoaejncfmdaa", sum := "46e81cdbb726275e98e24873847a462bf63748516ff6433ce961db3f208b056b", func := "stirrup/stirruplaw28.CurtailMore", spec := "curtailMore", unfollowed := true, recurses := true, apart := false }
def CurtailMoreSaid : Prop := curtailMoreRow.holds Try.pinned (OpenSpec.ofChange curtailMoreSpec)

/-- ITS FALSE NEIGHBOUR: 'it returns false'. Refute it at one input. -/
def curtailMoreWrong : ChangeSpec := { name := "curtailMore", fn := fun _ => fun
  | [d1, d2, d3, d4, d5] => { results := [.lit (.bool false)], args := [d1, d2, d3, d4, d5] }
  | _ => none }
def CurtailMoreWrongFalsely : Prop := curtailMoreRow.holds Try.pinned (OpenSpec.ofChange curtailMoreWrong)

/-- 'stirruplaw28.CurtailChecks': WHATEVER THE INPUT: true; the input reads as it did. -/
def curtailChecksSpec : ChangeSpec := { name := "curtailChecks", fn := fun _ => fun
  | [d1, d2, d3, d4] => { results := [.lit (.bool true)], args := [d1, d2, d3, d4] }
  | _ => none }
def curtailChecksRow : OpenClaim := { program := "ytigjoaejncfmdaa", sum := "46e81cdbb726275e98e24873847a462bf63748516ff6433ce961db3f208b056b", func := "stirrup/stirruplaw28.CurtailChecks", spec := "curtailChecks", unfollowed := true, recurses := true, apart := false }
def CurtailChecksSaid : Prop := curtailChecksRow.holds Try.pinned (OpenSpec.ofChange curtailChecksSpec)

/-- ITS FALSE NEIGHBOUR: 'it returns false'. Refute it at one input. -/
def curtailChecksWrong : ChangeSpec := { name := "curtailChecks", fn := fun _ => fun
  | [d1, d2, d3, d4] => { results := [.lit (.bool false)], args := [d1, d2, d3, d4] }
  | _ => none }
def CurtailChecksWrongFalsely : Prop := curtailChecksRow.holds Try.pinned (OpenSpec.ofChange curtailChecksWrong)

/-- 'stirruplaw28.CurtailLeast': WHATEVER THE INPUT: true; the input reads as it did. -/
def curtailLeastSpec : ChangeSpec := { name := "curtailLeast", fn := fun _ => fun
  | [d1, d2, d3, d4] => { results := [.lit (.bool true)], args := [d1, d2, d3, d4] }
  | _ => none }
def curtailLeastRow : OpenClaim := { program := "ytigjoaejncfmdaa", sum := "46e81cdbb726275e98e24873847a462bf63748516ff6433ce961db3f208b056b", func := "stirrup/stirruplaw28.CurtailLeast", spec := "curtailLeast", unfollowed := true, recurses := true, apart := false }
def CurtailLeastSaid : Prop := curtailLeastRow.holds Try.pinned (OpenSpec.ofChange curtailLeastSpec)

/-- ITS FALSE NEIGHBOUR: 'it returns false'. Refute it at one input. -/
def curtailLeastWrong : ChangeSpec := { name := "curtailLeast", fn := fun _ => fun
  | [d1, d2, d3, d4] => { results := [.lit (.bool false)], args := [d1, d2, d3, d4] }
  | _ => none }
def CurtailLeastWrongFalsely : Prop := curtailLeastRow.holds Try.pinned (OpenSpec.ofChange curtailLeastWrong)

/-- 'stirruplaw28.CurtailServes': WHATEVER THE INPUT: true; the input reads as it did. -/
def curtailServesSpec : ChangeSpec := { name := "curtailServes", fn := fun _ => fun
  | [d1, d2, d3, d4, d5] => { results := [.lit (.bool true)], args := [d1, d2, d3, d4, d5] }
  | _ => none }
def curtailServesRow : OpenClaim := { program := "ytigjoaejncfmdaa", sum := "46e81cdbb726275e98e24873847a462bf63748516ff6433ce961db3f208b056b", func := "stirrup/stirruplaw28.CurtailServes", spec := "curtailServes", unfollowed := true, recurses := true, apart := false }
def CurtailServesSaid : Prop := curtailServesRow.holds Try.pinned (OpenSpec.ofChange curtailServesSpec)

/-- ITS FALSE NEIGHBOUR: 'it returns false'. Refute it at one input. -/
def curtailServesWrong : ChangeSpec := { name := "curtailServes", fn := fun _ => fun
  | [d1, d2, d3, d4, d5] => { results := [.lit (.bool false)], args := [d1, d2, d3, d4, d5] }
  | _ => none }
def CurtailServesWrongFalsely : Prop := curtailServesRow.holds Try.pinned (OpenSpec.ofChange curtailServesWrong)

/- THE SECOND FORM. 'bulk': how many values and letters a reading holds, each counted each time it is reached (what is shared counts as often as it is met; a slice's spare places count too). A statement '..UptoSaid' is the law's where the arguments, and the package variables that the reading takes, are together of bulk at most 1048576: NARROWER than '..Said'. Prove '..Said' where nothing that the law and all that it calls make is longer than what came in: it says more and counts as full. Else prove '..UptoSaid'. A law counts once. -/
mutual
def uptoBulk {H : Type} : DataW H → Nat
  | .lit (.string bytes) => bytes.length + 1
  | .lit _ => 1
  | .nil => 1
  | .ptr d => uptoBulk d + 1
  | .slice elems spare => uptoBulkAll elems + uptoBulkAll spare + 1
  | .agg parts => uptoBulkAll parts + 1
  | .iface _ d => uptoBulk d + 1
  | .map entries => uptoBulkEntries entries + 1
  | .held _ => 1
def uptoBulkAll {H : Type} : List (DataW H) → Nat
  | [] => 0
  | d :: r => uptoBulk d + uptoBulkAll r
def uptoBulkEntries {H : Type} : List (Lit × DataW H) → Nat
  | [] => 0
  | x :: r => uptoBulkEntry x + uptoBulkEntries r
def uptoBulkEntry {H : Type} : Lit × DataW H → Nat
  | (.string bytes, d) => bytes.length + uptoBulk d + 1
  | (_, d) => uptoBulk d + 1
 end
def uptoSmall : (H : Type) → List (DataW H) → Bool := fun _ ds => decide (uptoBulkAll ds ≤ 1048576)
def OpenSpec.upto (s : _root_.Go.ChangeSpec) : _root_.Go.OpenSpec := { _root_.Go.OpenSpec.ofChange s with cond := some uptoSmall }

/-- 'stirruplaw28.CurtailBars', WHERE WHAT IT READS IS OF BULK AT MOST 1048576: true; the input reads as it did. -/
def curtailBarsUptoRow : OpenClaim := { program := "ytigjoaejncfmdaa", sum := "46e81cdbb726275e98e24873847a462bf63748516ff6433ce961db3f208b056b", func := "stirrup/stirruplaw28.CurtailBars", spec := "curtailBars", unfollowed := true, recurses := true, apart := false, narrowed := true }
def CurtailBarsUptoSaid : Prop := curtailBarsUptoRow.holds Try.pinned (OpenSpec.upto curtailBarsSpec)

/-- 'stirruplaw28.CurtailLevels', WHERE WHAT IT READS IS OF BULK AT MOST 1048576: true; the input reads as it did. -/
def curtailLevelsUptoRow : OpenClaim := { program := "ytigjoaejncfmdaa", sum := "46e81cdbb726275e98e24873847a462bf63748516ff6433ce961db3f208b056b", func := "stirrup/stirruplaw28.CurtailLevels", spec := "curtailLevels", unfollowed := true, recurses := true, apart := false, narrowed := true }
def CurtailLevelsUptoSaid : Prop := curtailLevelsUptoRow.holds Try.pinned (OpenSpec.upto curtailLevelsSpec)

/-- 'stirruplaw28.CurtailNested', WHERE WHAT IT READS IS OF BULK AT MOST 1048576: true; the input reads as it did. -/
def curtailNestedUptoRow : OpenClaim := { program := "ytigjoaejncfmdaa", sum := "46e81cdbb726275e98e24873847a462bf63748516ff6433ce961db3f208b056b", func := "stirrup/stirruplaw28.CurtailNested", spec := "curtailNested", unfollowed := true, recurses := true, apart := false, narrowed := true }
def CurtailNestedUptoSaid : Prop := curtailNestedUptoRow.holds Try.pinned (OpenSpec.upto curtailNestedSpec)

/-- 'stirruplaw28.CurtailMore', WHERE WHAT IT READS IS OF BULK AT MOST 1048576: true; the input reads as it did. -/
def curtailMoreUptoRow : OpenClaim := { program := "ytigjoaejncfmdaa", sum := "46e81cdbb726275e98e24873847a462bf63748516ff6433ce961db3f208b056b", func := "stirrup/stirruplaw28.CurtailMore", spec := "curtailMore", unfollowed := true, recurses := true, apart := false, narrowed := true }
def CurtailMoreUptoSaid : Prop := curtailMoreUptoRow.holds Try.pinned (OpenSpec.upto curtailMoreSpec)

/-- 'stirruplaw28.CurtailChecks', WHERE WHAT IT READS IS OF BULK AT MOST 1048576: true; the input reads as it did. -/
def curtailChecksUptoRow : OpenClaim := { program := "ytigjoaejncfmdaa", sum := "46e81cdbb726275e98e24873847a462bf63748516ff6433ce961db3f208b056b", func := "stirrup/stirruplaw28.CurtailChecks", spec := "curtailChecks", unfollowed := true, recurses := true, apart := false, narrowed := true }
def CurtailChecksUptoSaid : Prop := curtailChecksUptoRow.holds Try.pinned (OpenSpec.upto curtailChecksSpec)

/-- 'stirruplaw28.CurtailLeast', WHERE WHAT IT READS IS OF BULK AT MOST 1048576: true; the input reads as it did. -/
def curtailLeastUptoRow : OpenClaim := { program := "ytigjoaejncfmdaa", sum := "46e81cdbb726275e98e24873847a462bf63748516ff6433ce961db3f208b056b", func := "stirrup/stirruplaw28.CurtailLeast", spec := "curtailLeast", unfollowed := true, recurses := true, apart := false, narrowed := true }
def CurtailLeastUptoSaid : Prop := curtailLeastUptoRow.holds Try.pinned (OpenSpec.upto curtailLeastSpec)

/-- 'stirruplaw28.CurtailServes', WHERE WHAT IT READS IS OF BULK AT MOST 1048576: true; the input reads as it did. -/
def curtailServesUptoRow : OpenClaim := { program := "ytigjoaejncfmdaa", sum := "46e81cdbb726275e98e24873847a462bf63748516ff6433ce961db3f208b056b", func := "stirrup/stirruplaw28.CurtailServes", spec := "curtailServes", unfollowed := true, recurses := true, apart := false, narrowed := true }
def CurtailServesUptoSaid : Prop := curtailServesUptoRow.holds Try.pinned (OpenSpec.upto curtailServesSpec)

end Rows
end Go.Proofs.Ytigjoaejncfmdaa
