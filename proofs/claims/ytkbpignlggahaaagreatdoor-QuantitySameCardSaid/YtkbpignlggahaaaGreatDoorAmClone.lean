/-
  The abstract machine, continued: maps.Clone, delete, a map against nil.
  Conditions: none; generic over the program.
-/
import Derived.Test.YtkbpignlggahaaaGreatDoorAmMap
import Derived.Shelf.SlMaps.Clone
namespace Go.AM
open Go.Proofs Go.Shelf Go.MapKept
set_option linter.unusedVariables false
set_option linter.unusedSimpArgs false
set_option linter.unusedSectionVars false
def CloP (mt sz : Nat) (rows : List (List AV)) (v : AV) (objs : List (Nat × Obj)) : Prop := (rows = [] ∧ v = .lit (.map none) ∧ objs = []) ∨ (v = .hd 0 ∧ objs = [(0, ⟨true, mt, sz, rows, true⟩)])
theorem map_eraseIdx {A B : Type} (f : A → B) : ∀ (l : List A) (j : Nat), (l.eraseIdx j).map f = (l.map f).eraseIdx j
  | [], _ => rfl
  | _ :: _, 0 => rfl
  | x :: l, j + 1 => by simp [map_eraseIdx f l j]
def mdel {K V : Type} [DecidableEq K] (m : List (K × V)) (k : K) : List (K × V) := m.eraseIdx (mpos m k)
section plain
variable {K V : Type} [DecidableEq K]
theorem mdel_cons_eq {p : K × V} {m : List (K × V)} {k : K} (h : k = p.1) : mdel (p :: m) k = m := by unfold mdel; rw [mpos, if_pos h]; rfl
theorem mdel_cons_ne {p : K × V} {m : List (K × V)} {k : K} (h : ¬ k = p.1) : mdel (p :: m) k = p :: mdel m k := by unfold mdel; rw [mpos, if_neg h]; rfl
theorem mdel_sub (m : List (K × V)) (k : K) : (mdel m k).Sublist m := List.eraseIdx_sublist _ _
theorem mdel_nodup {m : List (K × V)} (h : (m.map (·.1)).Nodup) (k : K) : ((mdel m k).map (·.1)).Nodup := ((mdel_sub m k).map _).nodup h
theorem mget_mdel {m : List (K × V)} (h : (m.map (·.1)).Nodup) (k k' : K) : mget (mdel m k) k' = if k' = k then none else mget m k' := by
  induction m with
  | nil => unfold mdel; simp [mget]
  | cons p m ih =>
    simp only [List.map_cons, List.nodup_cons] at h
    by_cases h1 : k = p.1
    · rw [mdel_cons_eq h1]
      by_cases h2 : k' = k
      · rw [if_pos h2, h2, h1]
        cases hg : mget m p.1 with
        | none => rfl
        | some v => exact absurd ((mget_isSome m p.1).1 (by rw [hg]; rfl)) h.1
      · rw [if_neg h2, mget_cons, if_neg (fun e => h2 (e.trans h1.symm))]
    · rw [mdel_cons_ne h1, mget_cons, mget_cons, ih h.2]
      by_cases h2 : k' = k
      · rw [if_pos h2, if_neg (fun e => h1 (h2.symm.trans e)), if_pos h2]
      · simp only [if_neg h2]
end plain
theorem FVr_erase {E : Env} {sz : Nat} : ∀ (rows : List (List AV)) (es : List MapEntry) (j : Nat), 0 < sz → (∀ x ∈ es, (rowM x).length = sz) → FVr E sz rows (flatM es) → FVr E sz (rows.eraseIdx j) (flatM (es.eraseIdx j))
  | [], [], j, _, _, h => by simpa using h
  | [], e :: es, j, _, _, h => absurd h FVr_flat_nil
  | r :: rows, [], j, h0, _, h => by
    exfalso
    simp only [FVr, flatM, List.map_nil, List.flatten_nil] at h; obtain ⟨ys, zs, h1, h2, h3, _⟩ := h; have : ys = [] := (List.append_eq_nil_iff.1 h1.symm).1; subst this
    cases r with
    | nil => simp at h2; omega
    | cons c r => simp only [FVc] at h3; obtain ⟨_, _, h4, _⟩ := h3; cases h4
  | r :: rows, e :: es, 0, h0, hl, h => (FVr_rowM h (hl e (by simp))).2.2
  | r :: rows, e :: es, j + 1, h0, hl, h => by
    obtain ⟨g1, g2, g3⟩ := FVr_rowM h (hl e (by simp)); exact FVr_rowM_of g1 g2 (FVr_erase rows es j h0 (fun x hx => hl x (by simp [hx])) g3)
section rules
variable {P : Program} {ops : Array Oper} {rest : List Oper} {s : List (Nat × AV)} {b : List (Nat × Obj)} {n t e id : Nat} {Q : St → Prop} {dd ty ty' ty2 : Nat} {pos : String} {aft : Array Edge} {g : Option (Nat × Bool)} {x y z : Operand}
variable {K V : Type} [DecidableEq K] {d : TypeDesc} {kv : K → Value} {vv : V → Value} {m : List (K × V)} {k : K} {mt r el : Nat} {z0 : V} {cl : Bool}
theorem S.del {kt : TypeId} (b' : List (Nat × Obj)) (h : KL d kv) (ht : mapTy P mt = some (d, some (vv z0))) (hx : opv s x = some (.hd r) := by exact rfl) (ho : find b r = some ⟨true, el, 3, m.map (rowK kv vv), true⟩ := by exact rfl) (hy : opv s y = some (.lit (kv k)) := by exact rfl)
    (hdel : del b r = b' := by exact rfl) (hg : guardGo (dstsOf ops) ⟨s, b, n, t, e⟩ g = some true := by exact rfl) (hn : SeqL P ops rest ⟨s, (r, ⟨true, el, 3, (mdel m k).map (rowK kv vv), true⟩) :: b', n, t, e⟩ Q) :
    SeqL P ops (⟨none, .call { callee := .builtin .delete, args := #[x, y], argTypes := #[mt, kt] }, ty, pos, aft, g⟩ :: rest) ⟨s, b, n, t, e⟩ Q := by
  subst hdel; refine SeqL.of_run hg fun C E X a hr => ?_; obtain ⟨kt', et, z1, ht1, ht2, hzz, hz1⟩ := mapTy_spec ht; obtain ⟨_, hZ, hok, hrr⟩ := hr.objs r _ ho; have hxv := hr.ev x; rw [opv_ev hx] at hxv; obtain ⟨bb, es, clk, hH, hgg, hwf, hfl, hxe⟩ := hok.asMap rfl hxv; rw [← hfl] at hrr; have hye := rel_ev_lit hr hy; have hik := keyB_is (h.key k)
  rcases findAV_spec (show (0 : Nat) < 3 by decide) hwf.len hrr (findAV_K (vv := vv) h k m 0) with ⟨h1, h2, h3⟩ | ⟨j, v1, vs, e1, h1, h2, h3, h4, h5, h6, h7⟩
  · have hm0 : mget m k = none := by simpa using h1
    have hmd : mdel m k = m := by unfold mdel; rw [mpos_none hm0, List.eraseIdx_of_length_le (Nat.le_refl _)]
    obtain ⟨E', X', hw, hr'⟩ := hr.putMap ho rfl rfl hH hgg es clk hwf ((mdel m k).map (rowK kv vv)) (by rw [hmd]; exact hrr); refine ⟨.tuple #[], E', X', _, ?_, hr', hn⟩
    unfold execOp
    simp [resolve, invoke, builtin, Builtin.delete_, hxe, hye, run_underlying ht1, Go.MapKept.run_getObj_map hgg, Go.MapKept.run_checkKey ht2 hik, Go.MapKept.run_findKey ht2 h2, Go.MapKept.run_setObj_map _ hgg, Result.andThen, hw]
  · obtain ⟨u, hu⟩ : ∃ u, mget m k = some u := by
      cases hm : mget m k with
      | none => rw [hm] at h1; simp at h1
      | some u => exact ⟨u, rfl⟩
    have hjp : j = mpos m k := by
      rw [hu] at h1; simp only [Option.map_some, Option.some.injEq, Prod.mk.injEq] at h1; omega
    have hjl : j < es.size := by
      have := (List.getElem?_eq_some_iff.1 h3).1
      simpa using this
    have her : (es.eraseIdxIfInBounds j).toList = es.toList.eraseIdx j := by
      unfold Array.eraseIdxIfInBounds
      rw [dif_pos hjl, Array.toList_eraseIdx]
    obtain ⟨E', X', hw, hr'⟩ := hr.putMap ho rfl rfl hH hgg (es.eraseIdxIfInBounds j) clk ⟨stamped_erase hwf.st j, fun x hx => by
      rw [her] at hx
      exact hwf.len x ((List.eraseIdx_sublist _ _).subset hx)⟩ ((mdel m k).map (rowK kv vv)) (by
        rw [her, mdel, ← hjp, map_eraseIdx]
        exact FVr_erase _ _ j (show (0 : Nat) < 3 by decide) hwf.len hrr)
    refine ⟨.tuple #[], E', X', _, ?_, hr', hn⟩
    have h6' : Instr.findNow d (kv k) es.toList 0 = some (some (j, e1.val)) := by simpa using h6
    unfold execOp
    simp [resolve, invoke, builtin, Builtin.delete_, hxe, hye, run_underlying ht1, Go.MapKept.run_getObj_map hgg, Go.MapKept.run_checkKey ht2 hik, Go.MapKept.run_findKey ht2 h6', Go.MapKept.run_setObj_map _ hgg, Result.andThen, hw]
def nmL : Nat → Nat → List AV → List AV
  | _, _, [] => []
  | 0, sz, c :: cs => (match c with | .lit (.map none) => .shm sz [] | c => c) :: cs
  | j + 1, sz, c :: cs => c :: nmL j sz cs
theorem FVc.nmL {E : Env} : ∀ (j sz : Nat) (r : List AV) (xs : List Value), FVc E r xs → FVc E (AM.nmL j sz r) xs
  | j, _, [], _, h => by cases j <;> simpa [AM.nmL] using h
  | 0, sz, c :: cs, xs, h => by
    simp only [AM.nmL, FVc] at h ⊢; obtain ⟨y, ys, h1, h2, h3, h4⟩ := h; refine ⟨y, ys, h1, h2, ?_, h4⟩
    split
    · simp only [FV] at h3 ⊢; exact .inl ⟨h3, trivial⟩
    · exact h3
  | j + 1, sz, c :: cs, xs, h => by
    simp only [AM.nmL, FVc] at h ⊢; obtain ⟨y, ys, h1, h2, h3, h4⟩ := h; exact ⟨y, ys, h1, h2, h3, FVc.nmL j sz cs ys h4⟩
end rules
end Go.AM
