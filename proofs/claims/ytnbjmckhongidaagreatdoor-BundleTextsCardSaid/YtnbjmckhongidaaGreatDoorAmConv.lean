/-
  The abstract machine, continued: strings.Trim at a set of ASCII bytes, strconv.Atoi at a short numeral, by the kit's contracts.
  Conditions: none; generic over the program.
-/
import Derived.Test.YtnbjmckhongidaaGreatDoorAmStrs
import Derived.Shelf.Strings.SlTrimAscii
import Derived.Shelf.Strconv.Atoi
import Derived.Lib.AtoiErrMem
namespace Go.AM
open Go.Proofs Go.Lib Go.Sort Go.Shelf
set_option linter.unusedVariables false
set_option linter.unusedSimpArgs false
set_option linter.unusedSectionVars false
/-- A call that lays new rows alone. -/
theorem fun_of_new {P : Program} {f : FuncId} {args : List Value} {y : Value} {v : AV} (hB : Bodied P f) (hv : ∀ E, FV E v y) (h : ∀ w, Calls P f args.toArray w fun e w' => e = .returned y ∧ Go.RowKit.Below w.heap.size w w' ∧ w.drawn ≤ w'.drawn) : Fun P f (args.map .lit) (Ret v []) := by
  refine ⟨hB, fun E xs hx hS hG => ?_⟩
  have hxs : xs = args := by
    clear h hS hG
    induction args generalizing xs with
    | nil => simpa [FVs] using hx
    | cons a args ih =>
      simp only [List.map_cons, FVs, FV] at hx
      obtain ⟨y1, ys, rfl, rfl, h2⟩ := hx
      rw [ih ys h2]
  subst hxs
  refine (h E.w).mono ?_
  rintro e w' ⟨rfl, hb, hd⟩
  refine ⟨_, _, _, { E.clear with w := w' }, fun _ => [], rfl, rfl, ⟨rfl, rfl⟩, ?_⟩
  refine ⟨⟨hb.os, ⟨hb.tape, hd⟩, hb.output, hb.size, fun b hbb _ => hb.block b hbb⟩, ⟨fun b hbb => ⟨hbb, hb.block b (hS b hbb)⟩, fun r hr => hr.elim⟩, fun r hr => .inl hr, fun b hb => .inl hb, ?_, ?_, hv _⟩
  · intro r o hr; simp [find] at hr
  · intro r r' o o' b hr; simp [find] at hr
section
variable {P : Program} {s : List (Nat × AV)} {b : List (Nat × Obj)} {n t e : Nat}
/-- A nil interface value against the literal nil. -/
theorem q.ifn {ty d id : Nat} {x : Operand} {ms : _} (hu : P.underlying ty = some (.interface ms)) (hx : opv s x = some (.lit .nilIface) := by exact rfl) : stepQ P ⟨s, b, n, t, e⟩ id (.binOp .eql ty x (.const .nilIface) d) = some (.lit (.bool true), []) := by
  have h1 := pureOn_underlying hu
  have h2 : pureOn P (Op.equal ty .nilIface .nilIface) = some true := by
    rw [show Op.equal ty .nilIface .nilIface = Op.equalIn (9999 + 1) ty .nilIface .nilIface from rfl, Op.equalIn]
    simp only [pureOn_bind, h1, Option.bind_some]
    rfl
  have h3 : bin P .eql ty x (.const .nilIface) .nilIface .nilIface = some (.bool true) := by
    simp [bin, eqGuard, binOp, pureOn_bind, pureOn_pure, h2, -bind_pure_comp]
  have hy : opv s (.const .nilIface) = some (.lit .nilIface) := rfl
  simp only [stepQ, opv_ev hx, opv_ev hy, toVal, h3]
  rfl
end
end Go.AM
