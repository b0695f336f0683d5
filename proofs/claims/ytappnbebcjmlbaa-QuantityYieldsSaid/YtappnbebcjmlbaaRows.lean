/-
  No cell of these rows narrows 'for every input' (looked for: loops, veiled, ifaces, maps, wideKeys, modest, calm, conditions, laid).
  DERIVED. THE GIVEN ROWS OF THIS SEAT. 4 by the template 'for every input the law returns true; each argument reads behind the call as it read before'; 0 by the template 'total and deterministic' (their statements: YtappnbebcjmlbaaTotals.lean).
  GIVEN WITH THE SEED: the statements are not yours to turn. If you find one false, say at which input.
  Laid BY PROGRAM, IN A SANDBOX (cutbox-rows.mjs): the forced cells as the released guide's own fill.sh prints them over the translation d8adb04d902d487c… (all of the seat's roots in one cut). By AI agents, Wed Nov 11 2026. No macro, syntax, notation, axiom, sorry.
-/
import Derived.Test.YtappnbebcjmlbaaChecked
import GoSem.Claim
import GoSem.ClaimJoined
import GoSem.ClaimMapViews
import Derived.JoinedTies
import Derived.KernelRfl
namespace Go.Proofs.Ytappnbebcjmlbaa
/- THE CELL 'sum', in the pinned program and in every row, IS THE sha256 OF THE DUMP (.gsa) THAT YtappnbebcjmlbaaProg.lean LOADS. Nothing in Lean hashes anything: it is a label: what it is worth is what the hold of that sum in a sandbox is worth. -/
noncomputable def Try.pinned : Pinned := { name := "ytappnbebcjmlbaa", sum := "d8adb04d902d487c7a04e75a5c4a013e458073c927338e1f4aae82b102cd1392", checked := Try.checked }
namespace Rows
def none {H : Type} : Left H := { results := [], args := [] }

/-- 'stirruplaw48.QuantityMasses': WHATEVER THE INPUT: true; the input reads as it did. -/
def quantityMassesSpec : ChangeSpec := { name := "quantityMasses", fn := fun _ => fun
  | [d] => { results := [.lit (.bool true)], args := [d] }
  | _ => none }
def quantityMassesRow : OpenClaim := { program := "ytappnbebcjmlbaa", sum := "d8adb04d902d487c7a04e75a5c4a013e458073c927338e1f4aae82b102cd1392", func := "stirrup/stirruplaw48.QuantityMasses", spec := "quantityMasses", unfollowed := true, recurses := true, apart := false }
def QuantityMassesSaid : Prop := quantityMassesRow.holds Try.pinned (OpenSpec.ofChange quantityMassesSpec)

/-- ITS FALSE NEIGHBOUR: 'it returns false'. Refute it at one input. -/
def quantityMassesWrong : ChangeSpec := { name := "quantityMasses", fn := fun _ => fun
  | [d] => { results := [.lit (.bool false)], args := [d] }
  | _ => none }
def QuantityMassesWrongFalsely : Prop := quantityMassesRow.holds Try.pinned (OpenSpec.ofChange quantityMassesWrong)

/-- 'stirruplaw48.QuantitySums': WHATEVER THE INPUT: true; the input reads as it did. -/
def quantitySumsSpec : ChangeSpec := { name := "quantitySums", fn := fun _ => fun
  | [d] => { results := [.lit (.bool true)], args := [d] }
  | _ => none }
def quantitySumsRow : OpenClaim := { program := "ytappnbebcjmlbaa", sum := "d8adb04d902d487c7a04e75a5c4a013e458073c927338e1f4aae82b102cd1392", func := "stirrup/stirruplaw48.QuantitySums", spec := "quantitySums", unfollowed := true, recurses := true, apart := false }
def QuantitySumsSaid : Prop := quantitySumsRow.holds Try.pinned (OpenSpec.ofChange quantitySumsSpec)

/-- ITS FALSE NEIGHBOUR: 'it returns false'. Refute it at one input. -/
def quantitySumsWrong : ChangeSpec := { name := "quantitySums", fn := fun _ => fun
  | [d] => { results := [.lit (.bool false)], args := [d] }
  | _ => none }
def QuantitySumsWrongFalsely : Prop := quantitySumsRow.holds Try.pinned (OpenSpec.ofChange quantitySumsWrong)

/-- 'stirruplaw48.QuantityOrders': WHATEVER THE INPUT: true; the input reads as it did. -/
def quantityOrdersSpec : ChangeSpec := { name := "quantityOrders", fn := fun _ => fun
  | [d1, d2, d3] => { results := [.lit (.bool true)], args := [d1, d2, d3] }
  | _ => none }
def quantityOrdersRow : OpenClaim := { program := "ytappnbebcjmlbaa", sum := "d8adb04d902d487c7a04e75a5c4a013e458073c927338e1f4aae82b102cd1392", func := "stirrup/stirruplaw48.QuantityOrders", spec := "quantityOrders", unfollowed := true, recurses := true, apart := false }
def QuantityOrdersSaid : Prop := quantityOrdersRow.holds Try.pinned (OpenSpec.ofChange quantityOrdersSpec)

/-- ITS FALSE NEIGHBOUR: 'it returns false'. Refute it at one input. -/
def quantityOrdersWrong : ChangeSpec := { name := "quantityOrders", fn := fun _ => fun
  | [d1, d2, d3] => { results := [.lit (.bool false)], args := [d1, d2, d3] }
  | _ => none }
def QuantityOrdersWrongFalsely : Prop := quantityOrdersRow.holds Try.pinned (OpenSpec.ofChange quantityOrdersWrong)

/-- 'stirruplaw48.QuantityYields': WHATEVER THE INPUT: true; the input reads as it did. -/
def quantityYieldsSpec : ChangeSpec := { name := "quantityYields", fn := fun _ => fun
  | [d1, d2, d3] => { results := [.lit (.bool true)], args := [d1, d2, d3] }
  | _ => none }
def quantityYieldsRow : OpenClaim := { program := "ytappnbebcjmlbaa", sum := "d8adb04d902d487c7a04e75a5c4a013e458073c927338e1f4aae82b102cd1392", func := "stirrup/stirruplaw48.QuantityYields", spec := "quantityYields", unfollowed := true, recurses := true, apart := false }
def QuantityYieldsSaid : Prop := quantityYieldsRow.holds Try.pinned (OpenSpec.ofChange quantityYieldsSpec)

/-- ITS FALSE NEIGHBOUR: 'it returns false'. Refute it at one input. -/
def quantityYieldsWrong : ChangeSpec := { name := "quantityYields", fn := fun _ => fun
  | [d1, d2, d3] => { results := [.lit (.bool false)], args := [d1, d2, d3] }
  | _ => none }
def QuantityYieldsWrongFalsely : Prop := quantityYieldsRow.holds Try.pinned (OpenSpec.ofChange quantityYieldsWrong)

/- THE SECOND FORM. 'bulk': how many values and letters a reading holds, each counted each time it is reached (what is shared counts as often as it is met; a slice's spare places count too). A statement '..UptoSaid' is the law's where the arguments, and the package variables that the reading takes, are together of bulk at most 1048576: NARROWER than '..Said'. Prove '..Said' where nothing that the law and all that it calls make is longer than what came in: it says more and counts as full. Else prove '..UptoSaid'. A law counts once. -/
mutual
def uptoBulk {H : Type} : DataW H → Nat
  | .lit (.string bytes) => bytes.length + 1
  | .lit _ => 1
  | .nil => 1
  | .ptr d => uptoBulk d + 1
  | .slice elems spare => uptoBulkAll elems + uptoBulkAll spare + 1
  | .agg parts => uptoBulkAll parts + 1
  | .iface _ d => uptoBulk d + 1
  | .map entries => uptoBulkEntries entries + 1
  | .held _ => 1
def uptoBulkAll {H : Type} : List (DataW H) → Nat
  | [] => 0
  | d :: r => uptoBulk d + uptoBulkAll r
def uptoBulkEntries {H : Type} : List (Lit × DataW H) → Nat
  | [] => 0
  | x :: r => uptoBulkEntry x + uptoBulkEntries r
def uptoBulkEntry {H : Type} : Lit × DataW H → Nat
  | (.string bytes, d) => bytes.length + uptoBulk d + 1
  | (_, d) => uptoBulk d + 1
 end
def uptoSmall : (H : Type) → List (DataW H) → Bool := fun _ ds => decide (uptoBulkAll ds ≤ 1048576)
def OpenSpec.upto (s : _root_.Go.ChangeSpec) : _root_.Go.OpenSpec := { _root_.Go.OpenSpec.ofChange s with cond := some uptoSmall }

/-- 'stirruplaw48.QuantityMasses', WHERE WHAT IT READS IS OF BULK AT MOST 1048576: true; the input reads as it did. -/
def quantityMassesUptoRow : OpenClaim := { program := "ytappnbebcjmlbaa", sum := "d8adb04d902d487c7a04e75a5c4a013e458073c927338e1f4aae82b102cd1392", func := "stirrup/stirruplaw48.QuantityMasses", spec := "quantityMasses", unfollowed := true, recurses := true, apart := false, narrowed := true }
def QuantityMassesUptoSaid : Prop := quantityMassesUptoRow.holds Try.pinned (OpenSpec.upto quantityMassesSpec)

/-- 'stirruplaw48.QuantitySums', WHERE WHAT IT READS IS OF BULK AT MOST 1048576: true; the input reads as it did. -/
def quantitySumsUptoRow : OpenClaim := { program := "ytappnbebcjmlbaa", sum := "d8adb04d902d487c7a04e75a5c4a013e458073c927338e1f4aae82b102cd1392", func := "stirrup/stirruplaw48.QuantitySums", spec := "quantitySums", unfollowed := true, recurses := true, apart := false, narrowed := true }
def QuantitySumsUptoSaid : Prop := quantitySumsUptoRow.holds Try.pinned (OpenSpec.upto quantitySumsSpec)

/-- 'stirruplaw48.QuantityOrders', WHERE WHAT IT READS IS OF BULK AT MOST 1048576: true; the input reads as it did. -/
def quantityOrdersUptoRow : OpenClaim := { program := "ytappnbebcjmlbaa", sum := "d8adb04d902d487c7a04e75a5c4a013e458073c927338e1f4aae82b102cd1392", func := "stirrup/stirruplaw48.QuantityOrders", spec := "quantityOrders", unfollowed := true, recurses := true, apart := false, narrowed := true }
def QuantityOrdersUptoSaid : Prop := quantityOrdersUptoRow.holds Try.pinned (OpenSpec.upto quantityOrdersSpec)

/-- 'stirruplaw48.QuantityYields', WHERE WHAT IT READS IS OF BULK AT MOST 1048576: true; the input reads as it did. -/
def quantityYieldsUptoRow : OpenClaim := { program := "ytappnbebcjmlbaa", sum := "d8adb04d902d487c7a04e75a5c4a013e458073c927338e1f4aae82b102cd1392", func := "stirrup/stirruplaw48.QuantityYields", spec := "quantityYields", unfollowed := true, recurses := true, apart := false, narrowed := true }
def QuantityYieldsUptoSaid : Prop := quantityYieldsUptoRow.holds Try.pinned (OpenSpec.upto quantityYieldsSpec)

end Rows
end Go.Proofs.Ytappnbebcjmlbaa
