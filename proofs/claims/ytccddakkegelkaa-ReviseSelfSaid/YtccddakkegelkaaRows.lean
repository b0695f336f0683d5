/-
  No cell of these rows narrows 'for every input' (looked for: loops, veiled, ifaces, maps, wideKeys, modest, calm, conditions, laid).
  DERIVED. THE GIVEN ROWS OF THIS SEAT. 5 by the template 'for every input the law returns true; each argument reads behind the call as it read before'; 0 by the template 'total and deterministic' (their statements: YtccddakkegelkaaTotals.lean).
  GIVEN WITH THE SEED: the statements are not yours to turn. If you find one false, say at which input.
  Laid BY PROGRAM, IN A SANDBOX (cutbox-rows.mjs): the forced cells as the released guide's own fill.sh prints them over the translation debbc8664a5f0756… (all of the seat's roots in one cut). By AI agents, Wed Nov 11 2026. No macro, syntax, notation, axiom, sorry.
-/
import Derived.Test.YtccddakkegelkaaChecked
import GoSem.Claim
import GoSem.ClaimJoined
import GoSem.ClaimMapViews
import Derived.JoinedTies
import Derived.KernelRfl
namespace Go.Proofs.Ytccddakkegelkaa
/- THE CELL 'sum', in the pinned program and in every row, IS THE sha256 OF THE DUMP (.gsa) THAT YtccddakkegelkaaProg.lean LOADS. Nothing in Lean hashes anything: it is a label: what it is worth is what the hold of that sum in a sandbox is worth. -/
noncomputable def Try.pinned : Pinned := { name := "ytccddakkegelkaa", sum := "debbc8664a5f0756898fa9dc412dfdef97de24f86557d1417cdd9884484bfbd3", checked := Try.checked }
namespace Rows
def none {H : Type} : Left H := { results := [], args := [] }

/-- 'stirruplaw41.ReviseCompares': WHATEVER THE INPUT: true; the input reads as it did. -/
def reviseComparesSpec : ChangeSpec := { name := "reviseCompares", fn := fun _ => fun
  | [d1, d2] => { results := [.lit (.bool true)], args := [d1, d2] }
  | _ => none }
def reviseComparesRow : OpenClaim := { program := "ytccddakkegelkaa", sum := "debbc8664a5f0756898fa9dc412dfdef97de24f86557d1417cdd9884484bfbd3", func := "stirrup/stirruplaw41.ReviseCompares", spec := "reviseCompares", inPlace := ["internal/abi.NoEscape"], unfollowed := true, recurses := true, apart := false }
def ReviseComparesSaid : Prop := reviseComparesRow.holds Try.pinned (OpenSpec.ofChange reviseComparesSpec)

/-- ITS FALSE NEIGHBOUR: 'it returns false'. Refute it at one input. -/
def reviseComparesWrong : ChangeSpec := { name := "reviseCompares", fn := fun _ => fun
  | [d1, d2] => { results := [.lit (.bool false)], args := [d1, d2] }
  | _ => none }
def ReviseComparesWrongFalsely : Prop := reviseComparesRow.holds Try.pinned (OpenSpec.ofChange reviseComparesWrong)

/-- 'stirruplaw41.ReviseTurned': WHATEVER THE INPUT: true; the input reads as it did. -/
def reviseTurnedSpec : ChangeSpec := { name := "reviseTurned", fn := fun _ => fun
  | [d1, d2] => { results := [.lit (.bool true)], args := [d1, d2] }
  | _ => none }
def reviseTurnedRow : OpenClaim := { program := "ytccddakkegelkaa", sum := "debbc8664a5f0756898fa9dc412dfdef97de24f86557d1417cdd9884484bfbd3", func := "stirrup/stirruplaw41.ReviseTurned", spec := "reviseTurned", inPlace := ["internal/abi.NoEscape"], unfollowed := true, recurses := true, apart := false }
def ReviseTurnedSaid : Prop := reviseTurnedRow.holds Try.pinned (OpenSpec.ofChange reviseTurnedSpec)

/-- ITS FALSE NEIGHBOUR: 'it returns false'. Refute it at one input. -/
def reviseTurnedWrong : ChangeSpec := { name := "reviseTurned", fn := fun _ => fun
  | [d1, d2] => { results := [.lit (.bool false)], args := [d1, d2] }
  | _ => none }
def ReviseTurnedWrongFalsely : Prop := reviseTurnedRow.holds Try.pinned (OpenSpec.ofChange reviseTurnedWrong)

/-- 'stirruplaw41.ReviseApplies': WHATEVER THE INPUT: true; the input reads as it did. -/
def reviseAppliesSpec : ChangeSpec := { name := "reviseApplies", fn := fun _ => fun
  | [d1, d2, d3] => { results := [.lit (.bool true)], args := [d1, d2, d3] }
  | _ => none }
def reviseAppliesRow : OpenClaim := { program := "ytccddakkegelkaa", sum := "debbc8664a5f0756898fa9dc412dfdef97de24f86557d1417cdd9884484bfbd3", func := "stirrup/stirruplaw41.ReviseApplies", spec := "reviseApplies", inPlace := ["internal/abi.NoEscape"], unfollowed := true, recurses := true, apart := false }
def ReviseAppliesSaid : Prop := reviseAppliesRow.holds Try.pinned (OpenSpec.ofChange reviseAppliesSpec)

/-- ITS FALSE NEIGHBOUR: 'it returns false'. Refute it at one input. -/
def reviseAppliesWrong : ChangeSpec := { name := "reviseApplies", fn := fun _ => fun
  | [d1, d2, d3] => { results := [.lit (.bool false)], args := [d1, d2, d3] }
  | _ => none }
def ReviseAppliesWrongFalsely : Prop := reviseAppliesRow.holds Try.pinned (OpenSpec.ofChange reviseAppliesWrong)

/-- 'stirruplaw41.ReviseSelf': WHATEVER THE INPUT: true; the input reads as it did. -/
def reviseSelfSpec : ChangeSpec := { name := "reviseSelf", fn := fun _ => fun
  | [d] => { results := [.lit (.bool true)], args := [d] }
  | _ => none }
def reviseSelfRow : OpenClaim := { program := "ytccddakkegelkaa", sum := "debbc8664a5f0756898fa9dc412dfdef97de24f86557d1417cdd9884484bfbd3", func := "stirrup/stirruplaw41.ReviseSelf", spec := "reviseSelf", inPlace := ["internal/abi.NoEscape"], unfollowed := true, recurses := true, apart := false }
def ReviseSelfSaid : Prop := reviseSelfRow.holds Try.pinned (OpenSpec.ofChange reviseSelfSpec)

/-- ITS FALSE NEIGHBOUR: 'it returns false'. Refute it at one input. -/
def reviseSelfWrong : ChangeSpec := { name := "reviseSelf", fn := fun _ => fun
  | [d] => { results := [.lit (.bool false)], args := [d] }
  | _ => none }
def ReviseSelfWrongFalsely : Prop := reviseSelfRow.holds Try.pinned (OpenSpec.ofChange reviseSelfWrong)

/-- 'stirruplaw41.ReviseJoins': WHATEVER THE INPUT: true; the input reads as it did. -/
def reviseJoinsSpec : ChangeSpec := { name := "reviseJoins", fn := fun _ => fun
  | [d1, d2] => { results := [.lit (.bool true)], args := [d1, d2] }
  | _ => none }
def reviseJoinsRow : OpenClaim := { program := "ytccddakkegelkaa", sum := "debbc8664a5f0756898fa9dc412dfdef97de24f86557d1417cdd9884484bfbd3", func := "stirrup/stirruplaw41.ReviseJoins", spec := "reviseJoins", inPlace := ["internal/abi.NoEscape"], unfollowed := true, recurses := true, apart := false }
def ReviseJoinsSaid : Prop := reviseJoinsRow.holds Try.pinned (OpenSpec.ofChange reviseJoinsSpec)

/-- ITS FALSE NEIGHBOUR: 'it returns false'. Refute it at one input. -/
def reviseJoinsWrong : ChangeSpec := { name := "reviseJoins", fn := fun _ => fun
  | [d1, d2] => { results := [.lit (.bool false)], args := [d1, d2] }
  | _ => none }
def ReviseJoinsWrongFalsely : Prop := reviseJoinsRow.holds Try.pinned (OpenSpec.ofChange reviseJoinsWrong)

/- THE SECOND FORM. 'bulk': how many values and letters a reading holds, each counted each time it is reached (what is shared counts as often as it is met; a slice's spare places count too). A statement '..UptoSaid' is the law's where the arguments, and the package variables that the reading takes, are together of bulk at most 1048576: NARROWER than '..Said'. Prove '..Said' where nothing that the law and all that it calls make is longer than what came in: it says more and counts as full. Else prove '..UptoSaid'. A law counts once. -/
mutual
def uptoBulk {H : Type} : DataW H → Nat
  | .lit (.string bytes) => bytes.length + 1
  | .lit _ => 1
  | .nil => 1
  | .ptr d => uptoBulk d + 1
  | .slice elems spare => uptoBulkAll elems + uptoBulkAll spare + 1
  | .agg parts => uptoBulkAll parts + 1
  | .iface _ d => uptoBulk d + 1
  | .map entries => uptoBulkEntries entries + 1
  | .held _ => 1
def uptoBulkAll {H : Type} : List (DataW H) → Nat
  | [] => 0
  | d :: r => uptoBulk d + uptoBulkAll r
def uptoBulkEntries {H : Type} : List (Lit × DataW H) → Nat
  | [] => 0
  | x :: r => uptoBulkEntry x + uptoBulkEntries r
def uptoBulkEntry {H : Type} : Lit × DataW H → Nat
  | (.string bytes, d) => bytes.length + uptoBulk d + 1
  | (_, d) => uptoBulk d + 1
 end
def uptoSmall : (H : Type) → List (DataW H) → Bool := fun _ ds => decide (uptoBulkAll ds ≤ 1048576)
def OpenSpec.upto (s : _root_.Go.ChangeSpec) : _root_.Go.OpenSpec := { _root_.Go.OpenSpec.ofChange s with cond := some uptoSmall }

/-- 'stirruplaw41.ReviseCompares', WHERE WHAT IT READS IS OF BULK AT MOST 1048576: true; the input reads as it did. -/
def reviseComparesUptoRow : OpenClaim := { program := "ytccddakkegelkaa", sum := "debbc8664a5f0756898fa9dc412dfdef97de24f86557d1417cdd9884484bfbd3", func := "stirrup/stirruplaw41.ReviseCompares", spec := "reviseCompares", inPlace := ["internal/abi.NoEscape"], unfollowed := true, recurses := true, apart := false, narrowed := true }
def ReviseComparesUptoSaid : Prop := reviseComparesUptoRow.holds Try.pinned (OpenSpec.upto reviseComparesSpec)

/-- 'stirruplaw41.ReviseTurned', WHERE WHAT IT READS IS OF BULK AT MOST 1048576: true; the input reads as it did. -/
def reviseTurnedUptoRow : OpenClaim := { program := "ytccddakkegelkaa", sum := "debbc8664a5f0756898fa9dc412dfdef97de24f86557d1417cdd9884484bfbd3", func := "stirrup/stirruplaw41.ReviseTurned", spec := "reviseTurned", inPlace := ["internal/abi.NoEscape"], unfollowed := true, recurses := true, apart := false, narrowed := true }
def ReviseTurnedUptoSaid : Prop := reviseTurnedUptoRow.holds Try.pinned (OpenSpec.upto reviseTurnedSpec)

/-- 'stirruplaw41.ReviseApplies', WHERE WHAT IT READS IS OF BULK AT MOST 1048576: true; the input reads as it did. -/
def reviseAppliesUptoRow : OpenClaim := { program := "ytccddakkegelkaa", sum := "debbc8664a5f0756898fa9dc412dfdef97de24f86557d1417cdd9884484bfbd3", func := "stirrup/stirruplaw41.ReviseApplies", spec := "reviseApplies", inPlace := ["internal/abi.NoEscape"], unfollowed := true, recurses := true, apart := false, narrowed := true }
def ReviseAppliesUptoSaid : Prop := reviseAppliesUptoRow.holds Try.pinned (OpenSpec.upto reviseAppliesSpec)

/-- 'stirruplaw41.ReviseSelf', WHERE WHAT IT READS IS OF BULK AT MOST 1048576: true; the input reads as it did. -/
def reviseSelfUptoRow : OpenClaim := { program := "ytccddakkegelkaa", sum := "debbc8664a5f0756898fa9dc412dfdef97de24f86557d1417cdd9884484bfbd3", func := "stirrup/stirruplaw41.ReviseSelf", spec := "reviseSelf", inPlace := ["internal/abi.NoEscape"], unfollowed := true, recurses := true, apart := false, narrowed := true }
def ReviseSelfUptoSaid : Prop := reviseSelfUptoRow.holds Try.pinned (OpenSpec.upto reviseSelfSpec)

/-- 'stirruplaw41.ReviseJoins', WHERE WHAT IT READS IS OF BULK AT MOST 1048576: true; the input reads as it did. -/
def reviseJoinsUptoRow : OpenClaim := { program := "ytccddakkegelkaa", sum := "debbc8664a5f0756898fa9dc412dfdef97de24f86557d1417cdd9884484bfbd3", func := "stirrup/stirruplaw41.ReviseJoins", spec := "reviseJoins", inPlace := ["internal/abi.NoEscape"], unfollowed := true, recurses := true, apart := false, narrowed := true }
def ReviseJoinsUptoSaid : Prop := reviseJoinsUptoRow.holds Try.pinned (OpenSpec.upto reviseJoinsSpec)

end Rows
end Go.Proofs.Ytccddakkegelkaa
