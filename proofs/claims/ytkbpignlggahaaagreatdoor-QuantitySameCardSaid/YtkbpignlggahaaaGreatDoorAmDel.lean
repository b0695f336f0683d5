/-
  The abstract machine, continued: an append of a row's own part into its own room, clear, a row cut off: what slices.Delete needs.
  Conditions: none; generic over the program.
-/
import Derived.Test.YtkbpignlggahaaaGreatDoorAmOwn
import Derived.Lib.AppendZeros
namespace Go.AM
open Go.Proofs
set_option linter.unusedVariables false
set_option linter.unusedSimpArgs false
set_option linter.unusedSectionVars false
section
variable {P : Program} {s : List (Nat × AV)} {b : List (Nat × Obj)} {n t e r : Nat}
variable {ops : Array Oper} {rest : List Oper} {Q : St → Prop} {d ty : Nat} {pos : String} {aft : Array Edge} {g : Option (Nat × Bool)} {x y : Operand}
theorem Wk.cut {T : Type} {f : T → List AV} {l : List T} {el c m : Nat} {zs : List AV} (d : Nat) (b' : List (Nat × Obj)) (hze : zeroCellsAV P el = some zs) (hcl : P.cellsOf el = c) (hs : find s d = some (.als r 0 m) := by exact rfl) (ho : find b r = some ⟨true, el, c, l.map f, true⟩ := by exact rfl) (hm : m ≤ l.length := by first | omega | (simp only [List.length_append, List.length_take, List.length_drop, List.length_replicate]; omega)) (hb' : del b r = b' := by exact rfl) :
    Wk ⟨s, b, n, t, e⟩ ⟨(d, .als n 0 (l.take m).length) :: s, (n, ⟨true, el, c, (l.take m).map f, true⟩) :: b', n + 1, t, e⟩ := by
  subst hb'; intro C E X a hr; obtain ⟨i0, z, hi, hzz, _, _, _⟩ := zeroCellsAV_spec hze; have hsz := cellsOf_info hi; rw [hcl] at hsz; subst hsz; obtain ⟨hD, hZ, hok, hrow⟩ := hr.objs r _ ho; have hxv := hr.slots d _ hs; simp only [FV] at hxv; obtain ⟨_, A0, n0, c0, A, cc, hH, hxe, hnc, hA, _⟩ := hxv; obtain ⟨rfl, rfl⟩ := hA rfl
  have hrow' : FVr (E.by true) i0.size ((l.take m).map f) ((X r).take (m * i0.size)) := by rw [List.map_take]; exact FVr.take m hrow
  have hlt : (l.take m).length = m := by rw [List.length_take]; omega
  have hok' : ObjOK E.w (.slice A m cc) ((X r).take (m * i0.size)) ⟨true, el, i0.size, (l.take m).map f, true⟩ := by
    simp only [ObjOK] at hok ⊢
    rcases hok with ⟨hd, h1, h2⟩ | ⟨g, cap, cur, hd, hg, hcap, hmax, hcs, htk⟩ | ⟨g, es, clk, hd, _⟩
    · rw [hH] at hd; simp only [Value.slice.injEq] at hd; obtain ⟨rfl, rfl, rfl⟩ := hd
      have hl0 : l = [] := by simpa using h1
      subst hl0
      have hm0 : m = 0 := by simpa using hm
      subst hm0; exact .inl ⟨rfl, rfl, by simp⟩
    · rw [hH] at hd; simp only [Value.slice.injEq, List.length_map] at hd; obtain ⟨rfl, rfl, rfl⟩ := hd; simp only [List.length_map] at hcap htk; refine .inr (.inl ⟨g, cc, cur, by rw [List.length_map, hlt], hg, by rw [List.length_map, hlt]; exact hnc, hmax, hcs, ?_⟩); rw [List.length_map, hlt, ← htk, List.take_take, Nat.min_eq_left (Nat.mul_le_mul_right _ hm)]
    · rw [hH] at hd; cases hd
  have hblk : ∀ k, blockOf (.slice A m cc) = some k → ∃ r' ob, some r = some r' ∧ find b r' = some ob ∧ blockOf (E.H r') = some k := fun k hk => ⟨r, _, rfl, ho, by rw [hH]; exact hk⟩; obtain ⟨E', X', e1, hrel, hval⟩ := hr.appended (hr0 := some r) (i := i0) (o1 := ⟨true, el, i0.size, (l.take m).map f, true⟩) (rows2 := []) (news := []) (c1 := true) (c2 := true) (w' := E.w) hrow' hblk (by simp [FVr]) (by simpa using hok') rfl (Tp.refl _) rfl (Nat.le_refl _) (fun _ _ _ => rfl) (fun k hk => ⟨.inl hk, hok'.lt hk⟩) ⟨_, _, _, rfl⟩; refine ⟨E', X', e1, ?_⟩; have hb1 : ((l.take m).map f ++ []) = (l.take m).map f := List.append_nil _; simp only [Bool.and_self, hb1, List.length_nil, Nat.add_zero, List.length_map] at hrel hval; refine ⟨?_, hrel.size, hrel.defers, hrel.objs, hrel.apart, hrel.stay, hrel.fresh, hrel.kept, hrel.mine, hrel.env, hrel.envD, hrel.base, hrel.grow, hrel.envk, hrel.glob⟩; intro s' v hv; rw [find_cons] at hv
  split at hv
  · rename_i e2
    simp only [Option.some.injEq] at hv; subst e2 hv; rw [hxe]; exact hval
  · exact hrel.slots s' v hv
end
end Go.AM
