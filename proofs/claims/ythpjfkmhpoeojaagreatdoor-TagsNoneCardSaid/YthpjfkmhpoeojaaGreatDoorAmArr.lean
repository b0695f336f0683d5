/-
  The abstract machine, continued: an element of an array's value.
  Conditions: none; generic over the program.
-/
import Derived.Test.YthpjfkmhpoeojaaGreatDoorAmStr
import Derived.Test.YthpjfkmhpoeojaaGreatDoorAmDraw
import Derived.Test.YthpjfkmhpoeojaaGreatDoorAmEq
import Derived.Test.YthpjfkmhpoeojaaGreatDoorAmRes
namespace Go.AM
set_option linter.unusedVariables false
set_option linter.unusedSimpArgs false
set_option linter.unusedSectionVars false
section rules
variable {P : Program} {s : List (Nat × AV)} {b : List (Nat × Obj)} {n t e id : Nat} {x y : Operand} {k : IntKind} {i : Int}
theorem Wk.forget {b : List (Nat × Obj)} (ds : List Nat) : Wk ⟨s, b, n, t, e⟩ ⟨hide ds s, b, n, t, e⟩ :=
  Wk.sub (fun j v hv => by
    simp only [find_hide] at hv
    split at hv
    · cases hv
    · exact hv) (fun _ _ h => h) (Nat.le_refl _) rfl rfl
theorem Ev.retg {b : List (Nat × Obj)} {rs : List ResultVar} {Post : AV → List (Nat × Obj) → Prop} {vs : List AV} {v : AV} {objs : List (Nat × Obj)} (ks : List Nat) (hr : resAV P ⟨s, b, n, t, e⟩ rs = some vs) (h : Post v objs) (hv : renAV (pos ks 0) (packAV vs) = some v := by exact rfl) (ho : keepObjs ⟨s, b, n, t, e⟩ (pos ks 0) 0 ks = some objs := by exact rfl) (hnd : ks.Nodup := by decide) :
    endP P rs Post .ret ⟨s, b, n, t, e⟩ := ⟨ks, hnd, by simp only [retP, hr, hv, ho]; exact h⟩
theorem S.c1g {b : List (Nat × Obj)} {ops : Array Oper} {rest : List Oper} {Q : St → Prop} {d ty : Nat} {pos' : String} {aft : Array Edge} {g : Option (Nat × Bool)} {as_ : Array Operand} {ts : Array TypeId} {f : FuncId} {first caps : List AV} {vs : List AV} {o : Obj} {v v' : AV} (hc : calleeOf (St.ev ⟨s, b, n, t, e⟩ x) = some (f, first, caps) := by exact rfl) (hv : viewL ⟨s, b, n, t, e⟩ (first ++ (as_.toList.map (St.ev ⟨s, b, n, t, e⟩) ++ caps)) = some vs := by exact rfl) (hF : Fun P f vs (Ret v [(0, o)])) (hl : liftAV n v = some v' := by exact rfl)
    (hm : closedL (first ++ (as_.toList.map (St.ev ⟨s, b, n, t, e⟩) ++ caps)) = true := by exact rfl) (ho : o.cl = true := by exact rfl)
    (hg : guardGo (dstsOf ops) ⟨s, b, n, t, e⟩ g = some true := by exact rfl) (hd : Nat.blt d t = true := by exact rfl) (h : SeqL P ops rest ⟨(d, v') :: s, (n, o) :: b, n + 1, t, e⟩ Q) :
    SeqL P ops (⟨some d, .call { callee := .value x, args := as_, argTypes := ts }, ty, pos', aft, g⟩ :: rest) ⟨s, b, n, t, e⟩ Q := by
  refine SeqL.call hg rfl hc hv hF (.inl hm) (fun d' h' => by cases h'; exact Nat.le_of_ble_eq_true hd) ?_; rintro u l ⟨rfl, rfl⟩; refine ⟨v', [(n, o)], n + 1, hl, ?_, fun r ob h => fresh1 h, Nat.le_succ _, h⟩; simp only [liftObjs, renObj, ho, Nat.zero_add]
end rules
end Go.AM
namespace Go.AM
set_option linter.unusedVariables false
set_option linter.unusedSimpArgs false
section rules
variable {P : Program} {s : List (Nat × AV)} {b : List (Nat × Obj)} {n t e id ty d : Nat} {x y : Operand}
end rules
end Go.AM
