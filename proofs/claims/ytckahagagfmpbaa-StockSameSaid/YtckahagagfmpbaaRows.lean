/-
  No cell of these rows narrows 'for every input' (looked for: loops, veiled, ifaces, maps, wideKeys, modest, calm, conditions, laid).
  DERIVED. THE GIVEN ROWS OF THIS SEAT. 6 by the template 'for every input the law returns true; each argument reads behind the call as it read before'; 0 by the template 'total and deterministic' (their statements: YtckahagagfmpbaaTotals.lean).
  GIVEN WITH THE SEED: the statements are not yours to turn. If you find one false, say at which input.
  Laid BY PROGRAM, IN A SANDBOX (cutbox-rows.mjs): the forced cells as the released guide's own fill.sh prints them over the translation 9ef4c4867456964c… (all of the seat's roots in one cut). By AI agents, Wed Nov 11 2026. No macro, syntax, notation, axiom, sorry.
-/
import Derived.Test.YtckahagagfmpbaaChecked
import GoSem.Claim
import GoSem.ClaimJoined
import GoSem.ClaimMapViews
import Derived.JoinedTies
import Derived.KernelRfl
namespace Go.Proofs.Ytckahagagfmpbaa
/- THE CELL 'sum', in the pinned program and in every row, IS THE sha256 OF THE DUMP (.gsa) THAT YtckahagagfmpbaaProg.lean LOADS. Nothing in Lean hashes anything: it is a label: what it is worth is what the hold of that sum in a sandbox is worth. -/
noncomputable def Try.pinned : Pinned := { name := "ytckahagagfmpbaa", sum := "9ef4c4867456964ca38bba2007dde76581ad5843815d99d20a6ceb1367e721ab", checked := Try.checked }
namespace Rows
def none {H : Type} : Left H := { results := [], args := [] }

/-- 'stirruplaw30.StockForms': WHATEVER THE INPUT: true; the input reads as it did. -/
def stockFormsSpec : ChangeSpec := { name := "stockForms", fn := fun _ => fun
  | [d1, d2] => { results := [.lit (.bool true)], args := [d1, d2] }
  | _ => none }
def stockFormsRow : OpenClaim := { program := "ytckahagagfmpbaa", sum := "9ef4c4867456964ca38bba2007dde76581ad5843815d99d20a6ceb1367e721ab", func := "stirrup/stirruplaw30.StockForms", spec := "stockForms", unfollowed := true, recurses := true, apart := false }
def StockFormsSaid : Prop := stockFormsRow.holds Try.pinned (OpenSpec.ofChange stockFormsSpec)

/-- ITS FALSE NEIGHBOUR: 'it returns false'. Refute it at one input. -/
def stockFormsWrong : ChangeSpec := { name := "stockForms", fn := fun _ => fun
  | [d1, d2] => { results := [.lit (.bool false)], args := [d1, d2] }
  | _ => none }
def StockFormsWrongFalsely : Prop := stockFormsRow.holds Try.pinned (OpenSpec.ofChange stockFormsWrong)

/-- 'stirruplaw30.StockFits': WHATEVER THE INPUT: true; the input reads as it did. -/
def stockFitsSpec : ChangeSpec := { name := "stockFits", fn := fun _ => fun
  | [d1, d2, d3] => { results := [.lit (.bool true)], args := [d1, d2, d3] }
  | _ => none }
def stockFitsRow : OpenClaim := { program := "ytckahagagfmpbaa", sum := "9ef4c4867456964ca38bba2007dde76581ad5843815d99d20a6ceb1367e721ab", func := "stirrup/stirruplaw30.StockFits", spec := "stockFits", unfollowed := true, recurses := true, apart := false }
def StockFitsSaid : Prop := stockFitsRow.holds Try.pinned (OpenSpec.ofChange stockFitsSpec)

/-- ITS FALSE NEIGHBOUR: 'it returns false'. Refute it at one input. -/
def stockFitsWrong : ChangeSpec := { name := "stockFits", fn := fun _ => fun
  | [d1, d2, d3] => { results := [.lit (.bool false)], args := [d1, d2, d3] }
  | _ => none }
def StockFitsWrongFalsely : Prop := stockFitsRow.holds Try.pinned (OpenSpec.ofChange stockFitsWrong)

/-- 'stirruplaw30.StockShort': WHATEVER THE INPUT: true; the input reads as it did. -/
def stockShortSpec : ChangeSpec := { name := "stockShort", fn := fun _ => fun
  | [d1, d2] => { results := [.lit (.bool true)], args := [d1, d2] }
  | _ => none }
def stockShortRow : OpenClaim := { program := "ytckahagagfmpbaa", sum := "9ef4c4867456964ca38bba2007dde76581ad5843815d99d20a6ceb1367e721ab", func := "stirrup/stirruplaw30.StockShort", spec := "stockShort", unfollowed := true, recurses := true, apart := false }
def StockShortSaid : Prop := stockShortRow.holds Try.pinned (OpenSpec.ofChange stockShortSpec)

/-- ITS FALSE NEIGHBOUR: 'it returns false'. Refute it at one input. -/
def stockShortWrong : ChangeSpec := { name := "stockShort", fn := fun _ => fun
  | [d1, d2] => { results := [.lit (.bool false)], args := [d1, d2] }
  | _ => none }
def StockShortWrongFalsely : Prop := stockShortRow.holds Try.pinned (OpenSpec.ofChange stockShortWrong)

/-- 'stirruplaw30.StockMerges': WHATEVER THE INPUT: true; the input reads as it did. -/
def stockMergesSpec : ChangeSpec := { name := "stockMerges", fn := fun _ => fun
  | [d1, d2] => { results := [.lit (.bool true)], args := [d1, d2] }
  | _ => none }
def stockMergesRow : OpenClaim := { program := "ytckahagagfmpbaa", sum := "9ef4c4867456964ca38bba2007dde76581ad5843815d99d20a6ceb1367e721ab", func := "stirrup/stirruplaw30.StockMerges", spec := "stockMerges", unfollowed := true, recurses := true, apart := false }
def StockMergesSaid : Prop := stockMergesRow.holds Try.pinned (OpenSpec.ofChange stockMergesSpec)

/-- ITS FALSE NEIGHBOUR: 'it returns false'. Refute it at one input. -/
def stockMergesWrong : ChangeSpec := { name := "stockMerges", fn := fun _ => fun
  | [d1, d2] => { results := [.lit (.bool false)], args := [d1, d2] }
  | _ => none }
def StockMergesWrongFalsely : Prop := stockMergesRow.holds Try.pinned (OpenSpec.ofChange stockMergesWrong)

/-- 'stirruplaw30.StockLists': WHATEVER THE INPUT: true; the input reads as it did. -/
def stockListsSpec : ChangeSpec := { name := "stockLists", fn := fun _ => fun
  | [d] => { results := [.lit (.bool true)], args := [d] }
  | _ => none }
def stockListsRow : OpenClaim := { program := "ytckahagagfmpbaa", sum := "9ef4c4867456964ca38bba2007dde76581ad5843815d99d20a6ceb1367e721ab", func := "stirrup/stirruplaw30.StockLists", spec := "stockLists", unfollowed := true, recurses := true, apart := false }
def StockListsSaid : Prop := stockListsRow.holds Try.pinned (OpenSpec.ofChange stockListsSpec)

/-- ITS FALSE NEIGHBOUR: 'it returns false'. Refute it at one input. -/
def stockListsWrong : ChangeSpec := { name := "stockLists", fn := fun _ => fun
  | [d] => { results := [.lit (.bool false)], args := [d] }
  | _ => none }
def StockListsWrongFalsely : Prop := stockListsRow.holds Try.pinned (OpenSpec.ofChange stockListsWrong)

/-- 'stirruplaw30.StockSame': WHATEVER THE INPUT: true; the input reads as it did. -/
def stockSameSpec : ChangeSpec := { name := "stockSame", fn := fun _ => fun
  | [d] => { results := [.lit (.bool true)], args := [d] }
  | _ => none }
def stockSameRow : OpenClaim := { program := "ytckahagagfmpbaa", sum := "9ef4c4867456964ca38bba2007dde76581ad5843815d99d20a6ceb1367e721ab", func := "stirrup/stirruplaw30.StockSame", spec := "stockSame", unfollowed := true, recurses := true, apart := false }
def StockSameSaid : Prop := stockSameRow.holds Try.pinned (OpenSpec.ofChange stockSameSpec)

/-- ITS FALSE NEIGHBOUR: 'it returns false'. Refute it at one input. -/
def stockSameWrong : ChangeSpec := { name := "stockSame", fn := fun _ => fun
  | [d] => { results := [.lit (.bool false)], args := [d] }
  | _ => none }
def StockSameWrongFalsely : Prop := stockSameRow.holds Try.pinned (OpenSpec.ofChange stockSameWrong)

/- THE SECOND FORM. 'bulk': how many values and letters a reading holds, each counted each time it is reached (what is shared counts as often as it is met; a slice's spare places count too). A statement '..UptoSaid' is the law's where the arguments, and the package variables that the reading takes, are together of bulk at most 1048576: NARROWER than '..Said'. Prove '..Said' where nothing that the law and all that it calls make is longer than what came in: it says more and counts as full. Else prove '..UptoSaid'. A law counts once. -/
mutual
def uptoBulk {H : Type} : DataW H → Nat
  | .lit (.string bytes) => bytes.length + 1
  | .lit _ => 1
  | .nil => 1
  | .ptr d => uptoBulk d + 1
  | .slice elems spare => uptoBulkAll elems + uptoBulkAll spare + 1
  | .agg parts => uptoBulkAll parts + 1
  | .iface _ d => uptoBulk d + 1
  | .map entries => uptoBulkEntries entries + 1
  | .held _ => 1
def uptoBulkAll {H : Type} : List (DataW H) → Nat
  | [] => 0
  | d :: r => uptoBulk d + uptoBulkAll r
def uptoBulkEntries {H : Type} : List (Lit × DataW H) → Nat
  | [] => 0
  | x :: r => uptoBulkEntry x + uptoBulkEntries r
def uptoBulkEntry {H : Type} : Lit × DataW H → Nat
  | (.string bytes, d) => bytes.length + uptoBulk d + 1
  | (_, d) => uptoBulk d + 1
 end
def uptoSmall : (H : Type) → List (DataW H) → Bool := fun _ ds => decide (uptoBulkAll ds ≤ 1048576)
def OpenSpec.upto (s : _root_.Go.ChangeSpec) : _root_.Go.OpenSpec := { _root_.Go.OpenSpec.ofChange s with cond := some uptoSmall }

/-- 'stirruplaw30.StockForms', WHERE WHAT IT READS IS OF BULK AT MOST 1048576: true; the input reads as it did. -/
def stockFormsUptoRow : OpenClaim := { program := "ytckahagagfmpbaa", sum := "9ef4c4867456964ca38bba2007dde76581ad5843815d99d20a6ceb1367e721ab", func := "stirrup/stirruplaw30.StockForms", spec := "stockForms", unfollowed := true, recurses := true, apart := false, narrowed := true }
def StockFormsUptoSaid : Prop := stockFormsUptoRow.holds Try.pinned (OpenSpec.upto stockFormsSpec)

/-- 'stirruplaw30.StockFits', WHERE WHAT IT READS IS OF BULK AT MOST 1048576: true; the input reads as it did. -/
def stockFitsUptoRow : OpenClaim := { program := "ytckahagagfmpbaa", sum := "9ef4c4867456964ca38bba2007dde76581ad5843815d99d20a6ceb1367e721ab", func := "stirrup/stirruplaw30.StockFits", spec := "stockFits", unfollowed := true, recurses := true, apart := false, narrowed := true }
def StockFitsUptoSaid : Prop := stockFitsUptoRow.holds Try.pinned (OpenSpec.upto stockFitsSpec)

/-- 'stirruplaw30.StockShort', WHERE WHAT IT READS IS OF BULK AT MOST 1048576: true; the input reads as it did. -/
def stockShortUptoRow : OpenClaim := { program := "ytckahagagfmpbaa", sum := "9ef4c4867456964ca38bba2007dde76581ad5843815d99d20a6ceb1367e721ab", func := "stirrup/stirruplaw30.StockShort", spec := "stockShort", unfollowed := true, recurses := true, apart := false, narrowed := true }
def StockShortUptoSaid : Prop := stockShortUptoRow.holds Try.pinned (OpenSpec.upto stockShortSpec)

/-- 'stirruplaw30.StockMerges', WHERE WHAT IT READS IS OF BULK AT MOST 1048576: true; the input reads as it did. -/
def stockMergesUptoRow : OpenClaim := { program := "ytckahagagfmpbaa", sum := "9ef4c4867456964ca38bba2007dde76581ad5843815d99d20a6ceb1367e721ab", func := "stirrup/stirruplaw30.StockMerges", spec := "stockMerges", unfollowed := true, recurses := true, apart := false, narrowed := true }
def StockMergesUptoSaid : Prop := stockMergesUptoRow.holds Try.pinned (OpenSpec.upto stockMergesSpec)

/-- 'stirruplaw30.StockLists', WHERE WHAT IT READS IS OF BULK AT MOST 1048576: true; the input reads as it did. -/
def stockListsUptoRow : OpenClaim := { program := "ytckahagagfmpbaa", sum := "9ef4c4867456964ca38bba2007dde76581ad5843815d99d20a6ceb1367e721ab", func := "stirrup/stirruplaw30.StockLists", spec := "stockLists", unfollowed := true, recurses := true, apart := false, narrowed := true }
def StockListsUptoSaid : Prop := stockListsUptoRow.holds Try.pinned (OpenSpec.upto stockListsSpec)

/-- 'stirruplaw30.StockSame', WHERE WHAT IT READS IS OF BULK AT MOST 1048576: true; the input reads as it did. -/
def stockSameUptoRow : OpenClaim := { program := "ytckahagagfmpbaa", sum := "9ef4c4867456964ca38bba2007dde76581ad5843815d99d20a6ceb1367e721ab", func := "stirrup/stirruplaw30.StockSame", spec := "stockSame", unfollowed := true, recurses := true, apart := false, narrowed := true }
def StockSameUptoSaid : Prop := stockSameUptoRow.holds Try.pinned (OpenSpec.upto stockSameSpec)

end Rows
end Go.Proofs.Ytckahagagfmpbaa
