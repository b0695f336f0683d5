/-
  No cell of these rows narrows 'for every input' (looked for: loops, veiled, ifaces, maps, wideKeys, modest, calm, conditions, laid).
  DERIVED. THE GIVEN ROWS OF THIS SEAT. 5 by the template 'for every input the law returns true; each argument reads behind the call as it read before'; 0 by the template 'total and deterministic' (their statements: YtaggnajjmopobaaTotals.lean).
  GIVEN WITH THE SEED: the statements are not yours to turn. If you find one false, say at which input.
  Laid BY PROGRAM, IN A SANDBOX (cutbox-rows.mjs): the forced cells as the released guide's own fill.sh prints them over the translation 6aa5bc15bac47aad… (all of the seat's roots in one cut). By AI agents, Wed Nov 11 2026. No macro, syntax, notation, axiom, sorry.
-/
import Derived.Test.YtaggnajjmopobaaChecked
import GoSem.Claim
import GoSem.ClaimJoined
import GoSem.ClaimMapViews
import Derived.JoinedTies
import Derived.KernelRfl
namespace Go.Proofs.Ytaggnajjmopobaa
/- THE CELL 'sum', in the pinned program and in every row, IS THE sha256 OF THE DUMP (.gsa) THAT YtaggnajjmopobaaProg.lean LOADS. Nothing in Lean hashes anything: it is a label: what it is worth is what the hold of that sum in a sandbox is worth. -/
noncomputable def Try.pinned : Pinned := { name := "ytaggnajjmopobaa", sum := "6aa5bc15bac47aad490fbc73ebbdc5d49c85a375c82df07d9fc38e1e2863c808", checked := Try.checked }
namespace Rows
def none {H : Type} : Left H := { results := [], args := [] }

/-- 'stirruplaw34.OffcutDoes': WHATEVER THE INPUT: true; the input reads as it did. -/
def offcutDoesSpec : ChangeSpec := { name := "offcutDoes", fn := fun _ => fun
  | [d1, d2] => { results := [.lit (.bool true)], args := [d1, d2] }
  | _ => none }
def offcutDoesRow : OpenClaim := { program := "ytaggnajjmopobaa", sum := "6aa5bc15bac47aad490fbc73ebbdc5d49c85a375c82df07d9fc38e1e2863c808", func := "stirrup/stirruplaw34.OffcutDoes", spec := "offcutDoes", inPlace := ["maps.clone"], unfollowed := true, recurses := true, apart := false }
def OffcutDoesSaid : Prop := offcutDoesRow.holds Try.pinned (OpenSpec.ofChange offcutDoesSpec)

/-- ITS FALSE NEIGHBOUR: 'it returns false'. Refute it at one input. -/
def offcutDoesWrong : ChangeSpec := { name := "offcutDoes", fn := fun _ => fun
  | [d1, d2] => { results := [.lit (.bool false)], args := [d1, d2] }
  | _ => none }
def OffcutDoesWrongFalsely : Prop := offcutDoesRow.holds Try.pinned (OpenSpec.ofChange offcutDoesWrong)

/-- 'stirruplaw34.OffcutNone': WHATEVER THE INPUT: true; the input reads as it did. -/
def offcutNoneSpec : ChangeSpec := { name := "offcutNone", fn := fun _ => fun
  | [d] => { results := [.lit (.bool true)], args := [d] }
  | _ => none }
def offcutNoneRow : OpenClaim := { program := "ytaggnajjmopobaa", sum := "6aa5bc15bac47aad490fbc73ebbdc5d49c85a375c82df07d9fc38e1e2863c808", func := "stirrup/stirruplaw34.OffcutNone", spec := "offcutNone", inPlace := ["maps.clone"], unfollowed := true, recurses := true, apart := false }
def OffcutNoneSaid : Prop := offcutNoneRow.holds Try.pinned (OpenSpec.ofChange offcutNoneSpec)

/-- ITS FALSE NEIGHBOUR: 'it returns false'. Refute it at one input. -/
def offcutNoneWrong : ChangeSpec := { name := "offcutNone", fn := fun _ => fun
  | [d] => { results := [.lit (.bool false)], args := [d] }
  | _ => none }
def OffcutNoneWrongFalsely : Prop := offcutNoneRow.holds Try.pinned (OpenSpec.ofChange offcutNoneWrong)

/-- 'stirruplaw34.OffcutTakes': WHATEVER THE INPUT: true; the input reads as it did. -/
def offcutTakesSpec : ChangeSpec := { name := "offcutTakes", fn := fun _ => fun
  | [d1, d2, d3] => { results := [.lit (.bool true)], args := [d1, d2, d3] }
  | _ => none }
def offcutTakesRow : OpenClaim := { program := "ytaggnajjmopobaa", sum := "6aa5bc15bac47aad490fbc73ebbdc5d49c85a375c82df07d9fc38e1e2863c808", func := "stirrup/stirruplaw34.OffcutTakes", spec := "offcutTakes", inPlace := ["maps.clone"], unfollowed := true, recurses := true, apart := false }
def OffcutTakesSaid : Prop := offcutTakesRow.holds Try.pinned (OpenSpec.ofChange offcutTakesSpec)

/-- ITS FALSE NEIGHBOUR: 'it returns false'. Refute it at one input. -/
def offcutTakesWrong : ChangeSpec := { name := "offcutTakes", fn := fun _ => fun
  | [d1, d2, d3] => { results := [.lit (.bool false)], args := [d1, d2, d3] }
  | _ => none }
def OffcutTakesWrongFalsely : Prop := offcutTakesRow.holds Try.pinned (OpenSpec.ofChange offcutTakesWrong)

/-- 'stirruplaw34.OffcutPuts': WHATEVER THE INPUT: true; the input reads as it did. -/
def offcutPutsSpec : ChangeSpec := { name := "offcutPuts", fn := fun _ => fun
  | [d1, d2, d3, d4] => { results := [.lit (.bool true)], args := [d1, d2, d3, d4] }
  | _ => none }
def offcutPutsRow : OpenClaim := { program := "ytaggnajjmopobaa", sum := "6aa5bc15bac47aad490fbc73ebbdc5d49c85a375c82df07d9fc38e1e2863c808", func := "stirrup/stirruplaw34.OffcutPuts", spec := "offcutPuts", inPlace := ["maps.clone"], unfollowed := true, recurses := true, apart := false }
def OffcutPutsSaid : Prop := offcutPutsRow.holds Try.pinned (OpenSpec.ofChange offcutPutsSpec)

/-- ITS FALSE NEIGHBOUR: 'it returns false'. Refute it at one input. -/
def offcutPutsWrong : ChangeSpec := { name := "offcutPuts", fn := fun _ => fun
  | [d1, d2, d3, d4] => { results := [.lit (.bool false)], args := [d1, d2, d3, d4] }
  | _ => none }
def OffcutPutsWrongFalsely : Prop := offcutPutsRow.holds Try.pinned (OpenSpec.ofChange offcutPutsWrong)

/-- 'stirruplaw34.OffcutServes': WHATEVER THE INPUT: true; the input reads as it did. -/
def offcutServesSpec : ChangeSpec := { name := "offcutServes", fn := fun _ => fun
  | [d1, d2, d3] => { results := [.lit (.bool true)], args := [d1, d2, d3] }
  | _ => none }
def offcutServesRow : OpenClaim := { program := "ytaggnajjmopobaa", sum := "6aa5bc15bac47aad490fbc73ebbdc5d49c85a375c82df07d9fc38e1e2863c808", func := "stirrup/stirruplaw34.OffcutServes", spec := "offcutServes", inPlace := ["maps.clone"], unfollowed := true, recurses := true, apart := false }
def OffcutServesSaid : Prop := offcutServesRow.holds Try.pinned (OpenSpec.ofChange offcutServesSpec)

/-- ITS FALSE NEIGHBOUR: 'it returns false'. Refute it at one input. -/
def offcutServesWrong : ChangeSpec := { name := "offcutServes", fn := fun _ => fun
  | [d1, d2, d3] => { results := [.lit (.bool false)], args := [d1, d2, d3] }
  | _ => none }
def OffcutServesWrongFalsely : Prop := offcutServesRow.holds Try.pinned (OpenSpec.ofChange offcutServesWrong)

/- THE SECOND FORM. 'bulk': how many values and letters a reading holds, each counted each time it is reached (what is shared counts as often as it is met; a slice's spare places count too). A statement '..UptoSaid' is the law's where the arguments, and the package variables that the reading takes, are together of bulk at most 1048576: NARROWER than '..Said'. Prove '..Said' where nothing that the law and all that it calls make is longer than what came in: it says more and counts as full. Else prove '..UptoSaid'. A law counts once. -/
mutual
def uptoBulk {H : Type} : DataW H → Nat
  | .lit (.string bytes) => bytes.length + 1
  | .lit _ => 1
  | .nil => 1
  | .ptr d => uptoBulk d + 1
  | .slice elems spare => uptoBulkAll elems + uptoBulkAll spare + 1
  | .agg parts => uptoBulkAll parts + 1
  | .iface _ d => uptoBulk d + 1
  | .map entries => uptoBulkEntries entries + 1
  | .held _ => 1
def uptoBulkAll {H : Type} : List (DataW H) → Nat
  | [] => 0
  | d :: r => uptoBulk d + uptoBulkAll r
def uptoBulkEntries {H : Type} : List (Lit × DataW H) → Nat
  | [] => 0
  | x :: r => uptoBulkEntry x + uptoBulkEntries r
def uptoBulkEntry {H : Type} : Lit × DataW H → Nat
  | (.string bytes, d) => bytes.length + uptoBulk d + 1
  | (_, d) => uptoBulk d + 1
 end
def uptoSmall : (H : Type) → List (DataW H) → Bool := fun _ ds => decide (uptoBulkAll ds ≤ 1048576)
def OpenSpec.upto (s : _root_.Go.ChangeSpec) : _root_.Go.OpenSpec := { _root_.Go.OpenSpec.ofChange s with cond := some uptoSmall }

/-- 'stirruplaw34.OffcutDoes', WHERE WHAT IT READS IS OF BULK AT MOST 1048576: true; the input reads as it did. -/
def offcutDoesUptoRow : OpenClaim := { program := "ytaggnajjmopobaa", sum := "6aa5bc15bac47aad490fbc73ebbdc5d49c85a375c82df07d9fc38e1e2863c808", func := "stirrup/stirruplaw34.OffcutDoes", spec := "offcutDoes", inPlace := ["maps.clone"], unfollowed := true, recurses := true, apart := false, narrowed := true }
def OffcutDoesUptoSaid : Prop := offcutDoesUptoRow.holds Try.pinned (OpenSpec.upto offcutDoesSpec)

/-- 'stirruplaw34.OffcutNone', WHERE WHAT IT READS IS OF BULK AT MOST 1048576: true; the input reads as it did. -/
def offcutNoneUptoRow : OpenClaim := { program := "ytaggnajjmopobaa", sum := "6aa5bc15bac47aad490fbc73ebbdc5d49c85a375c82df07d9fc38e1e2863c808", func := "stirrup/stirruplaw34.OffcutNone", spec := "offcutNone", inPlace := ["maps.clone"], unfollowed := true, recurses := true, apart := false, narrowed := true }
def OffcutNoneUptoSaid : Prop := offcutNoneUptoRow.holds Try.pinned (OpenSpec.upto offcutNoneSpec)

/-- 'stirruplaw34.OffcutTakes', WHERE WHAT IT READS IS OF BULK AT MOST 1048576: true; the input reads as it did. -/
def offcutTakesUptoRow : OpenClaim := { program := "ytaggnajjmopobaa", sum := "6aa5bc15bac47aad490fbc73ebbdc5d49c85a375c82df07d9fc38e1e2863c808", func := "stirrup/stirruplaw34.OffcutTakes", spec := "offcutTakes", inPlace := ["maps.clone"], unfollowed := true, recurses := true, apart := false, narrowed := true }
def OffcutTakesUptoSaid : Prop := offcutTakesUptoRow.holds Try.pinned (OpenSpec.upto offcutTakesSpec)

/-- 'stirruplaw34.OffcutPuts', WHERE WHAT IT READS IS OF BULK AT MOST 1048576: true; the input reads as it did. -/
def offcutPutsUptoRow : OpenClaim := { program := "ytaggnajjmopobaa", sum := "6aa5bc15bac47aad490fbc73ebbdc5d49c85a375c82df07d9fc38e1e2863c808", func := "stirrup/stirruplaw34.OffcutPuts", spec := "offcutPuts", inPlace := ["maps.clone"], unfollowed := true, recurses := true, apart := false, narrowed := true }
def OffcutPutsUptoSaid : Prop := offcutPutsUptoRow.holds Try.pinned (OpenSpec.upto offcutPutsSpec)

/-- 'stirruplaw34.OffcutServes', WHERE WHAT IT READS IS OF BULK AT MOST 1048576: true; the input reads as it did. -/
def offcutServesUptoRow : OpenClaim := { program := "ytaggnajjmopobaa", sum := "6aa5bc15bac47aad490fbc73ebbdc5d49c85a375c82df07d9fc38e1e2863c808", func := "stirrup/stirruplaw34.OffcutServes", spec := "offcutServes", inPlace := ["maps.clone"], unfollowed := true, recurses := true, apart := false, narrowed := true }
def OffcutServesUptoSaid : Prop := offcutServesUptoRow.holds Try.pinned (OpenSpec.upto offcutServesSpec)

end Rows
end Go.Proofs.Ytaggnajjmopobaa
