/-
  Part 19 of the proof: the abstract machine, proved sound over the model.
  Conditions: none.
-/
import Derived.Shelf.Slices.CompactI
import Derived.Test.YtlpgjlnkfgacbaaGreatDoorX18
set_option linter.unusedVariables false
set_option linter.unusedSimpArgs false
set_option linter.unusedSectionVars false
namespace Go.AM
open Go.Proofs Go.Lib Go.Sort Go.Shelf
def cmpR (l : List Int) : List Int := Lib.compact l ++ List.replicate (l.length - (Lib.compact l).length) 0
theorem compact_len (l : List Int) : (Lib.compact l).length ≤ l.length := by
  have key : ∀ m, (Lib.compactUpTo l.toArray m).length ≤ m := by
    intro m
    induction m with
    | zero => simp [Lib.compactUpTo]
    | succ m ih =>
      rw [Lib.compactUpTo_succ, List.length_append]
      split <;> simp <;> omega
  exact key l.length
theorem compactI_R {P : Program} {ρ : Ren} (L : Lays2.n20 P ρ) (hB : Bodied P (ρ.f 20)) {el : Nat} (l : List Int) (hn : l.length ≤ 1000000) :
    FunR P (ρ.f 20) [.als 0 0 l.length] [(0, ⟨true, el, 1, l.map fun x => [.lit (.int .i64 x)], true⟩)] 1 (fun v objs => ∃ l' : List Int, l' = cmpR l ∧ v = .als 0 0 (Lib.compact l).length ∧ objs = [(0, ⟨true, el, 1, l'.map fun x => [.lit (.int .i64 x)], true⟩)]) := by
  have hcl := compact_len l; refine inplaceS_X (more := []) (Φ := fun l' : List Int => l' = cmpR l) (K := fun _ => (Lib.compact l).length) hB encI_L (by decide) (fun l' h => by rw [h, cmpR]; simp; omega) (fun _ _ => hcl) rfl (fun e => by rw [e]; rfl) ?_ ?_
  · intro hl E ms hms; simp only [FVs] at hms; subst hms; exact Any.slices_Compact_int_empty L none 0 E.w
  intro E b cap ms hms hH hb hcap; simp only [FVs] at hms; subst hms; refine (Any.slices_Compact_int L b 0 cap l E.w (holds1 hH) (by omega) hcap).mono ?_; rintro e w' ⟨rfl, n, rfl⟩; refine ⟨_, n, #[], rfl, rfl, ?_⟩; rw [grow_empty, cmpR, putRow1]
section
variable {P : Program} {s : List (Nat × AV)} {b : List (Nat × Obj)} {n t e : Nat}
theorem Wk.frzp {T : Type} {f : T → List AV} (l : List T) (d : Nat) (b' : List (Nat × Obj)) {slc : Bool} {r el c m : Nat} (hs : Aw s d = some (.als r 0 m) := by exact rfl) (ho : Aw b r = some ⟨slc, el, c, l.map f, true⟩ := by exact rfl) (hm : m ≤ l.length := by omega) (hk : Nat.ble e r = true := by exact rfl) (hb : Fl b r = b' := by exact rfl) :
    Wk ⟨s, b, n, t, e⟩ ⟨(d, .sh c ((l.take m).map f)) :: s, b', n, t, e⟩ := by
  subst hb; have := Wk.freeze (σ := ⟨s, b, n, t, e⟩) d (r := r) (lo := 0) (n := m) (by simp [St.get, hs]) ho rfl (by simp only [List.length_map]; omega) (Nat.le_of_ble_eq_true hk); rw [List.drop_zero, ← List.map_take] at this; exact this
end
end Go.AM
namespace Go.AM
section
variable {P : Program} {s : List (Nat × AV)} {b : List (Nat × Obj)} {n t e : Nat}
end
end Go.AM
namespace Go.AM
section
variable {P : Program} {s : List (Nat × AV)} {b : List (Nat × Obj)} {n t e : Nat}
end
end Go.AM
