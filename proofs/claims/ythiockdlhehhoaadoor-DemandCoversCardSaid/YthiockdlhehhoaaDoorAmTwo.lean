/-
  The abstract machine, continued: a call that hands back a value with several pieces of new memory.
  Conditions: none; generic over the program.
-/
import Derived.Test.YthiockdlhehhoaaDoorAmAuto
import Derived.Test.YthiockdlhehhoaaDoorAmOwn
namespace Go.AM
set_option linter.unusedVariables false
set_option linter.unusedSimpArgs false
set_option linter.unusedSectionVars false
theorem S.cg {P : Program} {s : List (Nat × AV)} {n t e : Nat} {x : Operand} {b : List (Nat × Obj)} {ops : Array Oper} {rest : List Oper} {Q : St → Prop} {d ty : Nat} {pos' : String} {aft : Array Edge} {g : Option (Nat × Bool)} {as_ : Array Operand} {ts : Array TypeId} {f : FuncId} {first caps : List AV} {vs : List AV} {l new : List (Nat × Obj)} {v v' : AV} (n' : Nat) (b' : List (Nat × Obj))
    (hc : calleeOf (St.ev ⟨s, b, n, t, e⟩ x) = some (f, first, caps) := by exact rfl) (hv : viewL ⟨s, b, n, t, e⟩ (first ++ (as_.toList.map (St.ev ⟨s, b, n, t, e⟩) ++ caps)) = some vs := by exact rfl) (hF : Fun P f vs (Ret v l)) (hl : liftAV n v = some v' := by exact rfl) (hn : liftObjs n l = some new := by exact rfl) (hn' : (∀ r ob, find new r = some ob → r < n') ∧ n ≤ n') (hb : new ++ b = b' := by exact rfl)
    (hm : closedL (first ++ (as_.toList.map (St.ev ⟨s, b, n, t, e⟩) ++ caps)) = true := by exact rfl)
    (hg : guardGo (dstsOf ops) ⟨s, b, n, t, e⟩ g = some true := by exact rfl) (hd : Nat.blt d t = true := by exact rfl) (h : SeqL P ops rest ⟨(d, v') :: s, b', n', t, e⟩ Q) :
    SeqL P ops (⟨some d, .call { callee := .value x, args := as_, argTypes := ts }, ty, pos', aft, g⟩ :: rest) ⟨s, b, n, t, e⟩ Q := by
  subst hb
  refine SeqL.call hg rfl hc hv hF (.inl hm) (fun d' h' => by cases h'; exact Nat.le_of_ble_eq_true hd) ?_
  rintro u l ⟨rfl, rfl⟩
  exact ⟨v', new, n', hl, hn, hn'.1, hn'.2, h⟩
end Go.AM
