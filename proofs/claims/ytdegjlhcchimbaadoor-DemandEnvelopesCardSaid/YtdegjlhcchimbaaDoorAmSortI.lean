/-
  The abstract machine, continued: slices.Sort and slices.Reverse at ints by the kit's contracts.
  Conditions: none; generic over the program.
-/
import Derived.Test.YtdegjlhcchimbaaDoorAmRow1
import Derived.Shelf.Sort.Plain
import Derived.Shelf.Slices.In.SortNone
import Derived.Shelf.Slices.Reverse
namespace Go.AM
open Go.Proofs Go.Lib Go.Sort Go.Shelf
set_option linter.unusedVariables false
set_option linter.unusedSimpArgs false
set_option linter.unusedSectionVars false
theorem encI_L : EncL (fun x : Int => [.lit (.int .i64 x)]) (fun x => [Value.int .i64 x]) 1 := ⟨fun _ => rfl, fun _ => rfl, fun x v hv => by rw [List.mem_singleton] at hv; subst hv; rfl⟩
/-- slices.Sort at ints. -/
theorem sortI_R {P : Program} {ρ : Ren} (L : Lays.n189 P ρ) (hB : Bodied P (ρ.f 189)) {el : Nat} (l : List Int) (hn : l.length ≤ 1000000) :
    FunR P (ρ.f 189) [.als 0 0 l.length] [(0, ⟨true, el, 1, l.map fun x => [.lit (.int .i64 x)], true⟩)] 1 (fun v objs => ∃ l' : List Int, l' = l.mergeSort (fun x y => decide (x ≤ y)) ∧ v = .tup [] ∧ objs = [(0, ⟨true, el, 1, l'.map fun x => [.lit (.int .i64 x)], true⟩)]) := by
  refine inplace_X (more := []) (Φ := fun l' : List Int => l' = l.mergeSort (fun x y => decide (x ≤ y))) hB encI_L (by decide) (fun l' h => by rw [h]; exact List.length_mergeSort _) rfl (fun e => by rw [e]; simp) ?_ ?_
  · intro hl E ms hms
    simp only [FVs] at hms
    subst hms
    exact Any.slices_Sort_int_none L none 0 E.w
  · intro E b cap ms hms hH hblt hG hS
    simp only [FVs] at hms
    subst hms
    refine (Any.slices_Sort_int L b 0 cap l E.w (holds1 hH) hblt (by omega)).mono ?_
    rintro e w' ⟨rfl, n, os, rfl⟩
    refine ⟨rfl, _, n, os, rfl, ?_⟩
    rw [putRow1]
/-- slices.Reverse at ints. -/
theorem reverseI_R {P : Program} {ρ : Ren} (L : Lays.n112 P ρ) (hB : Bodied P (ρ.f 112)) {el : Nat} (l : List Int) (hn : l.length ≤ 1000000) :
    FunR P (ρ.f 112) [.als 0 0 l.length] [(0, ⟨true, el, 1, l.map fun x => [.lit (.int .i64 x)], true⟩)] 1 (fun v objs => ∃ l' : List Int, l' = l.reverse ∧ v = .tup [] ∧ objs = [(0, ⟨true, el, 1, l'.map fun x => [.lit (.int .i64 x)], true⟩)]) := by
  refine inplace_X (more := []) (Φ := fun l' : List Int => l' = l.reverse) hB encI_L (by decide) (fun l' h => by rw [h]; exact List.length_reverse) rfl (fun e => by rw [e]; rfl) ?_ ?_
  · intro hl E ms hms
    simp only [FVs] at hms
    subst hms
    exact Any.slices_Reverse_int_empty L none 0 E.w
  · intro E b cap ms hms hH hblt hG hS
    simp only [FVs] at hms
    subst hms
    refine (Any.slices_Reverse_int L b 0 cap l E.w (holds1 hH) (by omega)).mono ?_
    rintro e w' ⟨rfl, n, rfl⟩
    refine ⟨rfl, _, n, #[], rfl, ?_⟩
    rw [grow_empty, putRow1]
end Go.AM
namespace Go.AM
set_option linter.unusedVariables false
set_option linter.unusedSimpArgs false
section rules
variable {P : Program} {s : List (Nat × AV)} {b : List (Nat × Obj)} {n t e : Nat} {ops : Array Oper} {rest : List Oper} {Q : St → Prop} {d ty : Nat} {pos' : String} {aft : Array Edge} {g : Option (Nat × Bool)} {x : Operand} {Post : AV → List (Nat × Obj) → Prop}
/-- A row of one's own handed back beside a number. -/
theorem Ev.own2 {q q2 r m : Nat} {v : Value} {slc : Bool} {el sz : Nat} {rows : List (List AV)} (h : Post (.tup [.als 0 0 m, .lit v]) [(0, ⟨slc, el, sz, rows, true⟩)]) (h1 : find s q = some (.als r 0 m) := by exact rfl) (h2 : find s q2 = some (.lit v) := by exact rfl) (ho : find b r = some ⟨slc, el, sz, rows, true⟩ := by exact rfl) :
    endP P [.tmp q, .tmp q2] Post .ret ⟨s, b, n, t, e⟩ := by
  refine ⟨[r], by simp, ?_⟩
  simp only [retP, resAV, St.get, h1, h2, Option.getD_some, Option.map_some, packAV, renAV, renL, keepObjs, ho, Option.bind_some, renObj, pos, if_true, Nat.beq_refl, cond_true]
  exact h
/-- A call that hands back such a pair. -/
theorem S.c1t {as_ : Array Operand} {ts : Array TypeId} {f : FuncId} {first caps : List AV} {vs : List AV} {o : Obj} {m : Nat} {v : Value} (hc : calleeOf (St.ev ⟨s, b, n, t, e⟩ x) = some (f, first, caps) := by exact rfl) (hv : viewL ⟨s, b, n, t, e⟩ (first ++ (as_.toList.map (St.ev ⟨s, b, n, t, e⟩) ++ caps)) = some vs := by exact rfl) (hF : Fun P f vs (Ret (.tup [.als 0 0 m, .lit v]) [(0, o)]))
    (hm : closedL (first ++ (as_.toList.map (St.ev ⟨s, b, n, t, e⟩) ++ caps)) = true := by exact rfl) (ho : o.cl = true := by exact rfl)
    (hg : guardGo (dstsOf ops) ⟨s, b, n, t, e⟩ g = some true := by exact rfl) (hd : Nat.blt d t = true := by exact rfl) (h : SeqL P ops rest ⟨(d, .tup [.als n 0 m, .lit v]) :: s, (n, o) :: b, n + 1, t, e⟩ Q) :
    SeqL P ops (⟨some d, .call { callee := .value x, args := as_, argTypes := ts }, ty, pos', aft, g⟩ :: rest) ⟨s, b, n, t, e⟩ Q := by
  refine SeqL.call hg rfl hc hv hF (.inl hm) (fun d' h' => by cases h'; exact Nat.le_of_ble_eq_true hd) ?_
  rintro u l ⟨rfl, rfl⟩
  refine ⟨.tup [.als n 0 m, .lit v], [(n, o)], n + 1, by simp [liftAV, renAV, renL], ?_, fun r ob h => fresh1 h, Nat.le_succ _, h⟩
  simp only [liftObjs, renObj, ho, Nat.zero_add]
end rules
end Go.AM
