/-
  The abstract machine, continued: maps.Clone, delete, a map against nil.
  Conditions: none; generic over the program.
-/
import Derived.Test.YtaggnajjmopobaaAmMap
import Derived.Shelf.SlMaps.Clone
namespace Go.AM
open Go.Proofs Go.Shelf Go.MapKept
set_option linter.unusedVariables false
set_option linter.unusedSimpArgs false
set_option linter.unusedSectionVars false
/-- What maps.Clone hands back: nil of nil, else a new map with the same rows. -/
def CloP (mt sz : Nat) (rows : List (List AV)) (v : AV) (objs : List (Nat × Obj)) : Prop := (rows = [] ∧ v = .lit (.map none) ∧ objs = []) ∨ (v = .hd 0 ∧ objs = [(0, ⟨true, mt, sz, rows, true⟩)])
theorem clone_F {P : Program} {ρ : Ren} (L : SlLaysW.n5 P ρ) (hB : Bodied P (ρ.f 5)) (mt sz : Nat) (rows : List (List AV)) : Fun P (ρ.f 5) [.shm sz rows] (CloP mt sz rows) := by
  refine ⟨hB, fun E xs hx hS hG => ?_⟩
  simp only [FVs, FV] at hx
  obtain ⟨y, ys, rfl, hy, rfl⟩ := hx
  rcases hy with ⟨rfl, rfl⟩ | ⟨b, es, clk, rfl, hSb, hg, hwf, hr_⟩
  · refine (AnyW.maps_Clone_nil L E.w).mono ?_
    rintro e w' ⟨rfl, rfl⟩
    refine ⟨_, .lit (.map none), [], E.clear, fun _ => [], rfl, rfl, .inl ⟨rfl, rfl, rfl⟩, ?_⟩
    exact ⟨Keep.refl _ _, ⟨fun b hb => ⟨hb, rfl⟩, fun r hr => hr.elim⟩, fun r hr => .inl hr, fun b hb => .inl hb, fun r o hr => by simp [find] at hr, fun r r' o o' b hr => by simp [find] at hr, by simp [FV]⟩
  · have hg' : E.w.heap[b]? = some (.map es clk) := hg
    refine (AnyW.maps_Clone L b es clk E.w hg').mono ?_
    rintro e w' ⟨rfl, rfl⟩
    have hold : ∀ k, k < E.w.heap.size → (E.w.alloc (.map es clk)).heap[k]? = E.w.heap[k]? := fun k hk => (Go.RowKit.Below.refl E.w.heap.size E.w).alloc (Nat.le_refl _) (.map es clk) |>.block k hk
    have hsz : (E.w.alloc (.map es clk)).heap.size = E.w.heap.size + 1 := by simp
    have hnew : (E.w.alloc (.map es clk)).heap[E.w.heap.size]? = some (.map es clk) := Go.heap_alloc_new _ _
    have hle : E.clear.clear.le (Env.clear { w := E.w.alloc (.map es clk), H := fun _ => .map (some E.w.heap.size), Z := fun _ => sz, D := fun r => r = 0, S := E.S }) :=
      ⟨fun k hk => ⟨hk, hold k (hS k hk)⟩, fun r hr => hr.elim⟩
    refine ⟨_, .hd 0, [(0, ⟨true, mt, sz, rows, true⟩)], { w := E.w.alloc (.map es clk), H := fun _ => .map (some E.w.heap.size), Z := fun _ => sz, D := fun r => r = 0, S := E.S }, fun _ => flatM es.toList, rfl, rfl, .inr ⟨rfl, rfl⟩, ?_⟩
    refine ⟨⟨rfl, ⟨rfl, Nat.le_refl _⟩, rfl, ?_, fun k hk _ => hold k hk⟩, ⟨fun k hk => ⟨hk, hold k (hS k hk)⟩, fun r hr => hr.elim⟩, fun r hr => .inr ⟨⟨true, mt, sz, rows, true⟩, by simp only at hr; simp [find_cons, hr]⟩, fun k hk => .inl hk, fun r o hr => ?_, fun r r' o o' k h1 h2 _ _ => ?_, ?_⟩
    · show E.w.heap.size ≤ (E.w.alloc (.map es clk)).heap.size
      omega
    · rw [find_cons] at hr
      split at hr
      · rename_i e0
        simp only [Option.some.injEq] at hr
        subst hr
        refine ⟨e0.symm, fun h => h.elim, rfl, ?_, ?_, fun k hk => ?_⟩
        · unfold ObjOK
          exact .inr (.inr ⟨_, es, clk, rfl, hnew, hwf, rfl⟩)
        · exact FVr.le _ _ hle _ hr_
        · simp only [blockOf, Option.some.injEq] at hk
          show E.w.heap.size ≤ k
          omega
      · simp [find] at hr
    · rw [find_cons] at h1 h2
      split at h1
      · rename_i e1
        split at h2
        · rename_i e2
          exact e1.symm.trans e2
        · simp [find] at h2
      · simp [find] at h1
    · simp only [FV]
      exact ⟨trivial, .inl ⟨_, rfl, rfl⟩⟩
theorem map_eraseIdx {A B : Type} (f : A → B) : ∀ (l : List A) (j : Nat), (l.eraseIdx j).map f = (l.map f).eraseIdx j
  | [], _ => rfl
  | _ :: _, 0 => rfl
  | x :: l, j + 1 => by simp [map_eraseIdx f l j]
/-- Without a key. -/
def mdel {K V : Type} [DecidableEq K] (m : List (K × V)) (k : K) : List (K × V) := m.eraseIdx (mpos m k)
section plain
variable {K V : Type} [DecidableEq K]
theorem mdel_cons_eq {p : K × V} {m : List (K × V)} {k : K} (h : k = p.1) : mdel (p :: m) k = m := by unfold mdel; rw [mpos, if_pos h]; rfl
theorem mdel_cons_ne {p : K × V} {m : List (K × V)} {k : K} (h : ¬ k = p.1) : mdel (p :: m) k = p :: mdel m k := by unfold mdel; rw [mpos, if_neg h]; rfl
theorem mdel_sub (m : List (K × V)) (k : K) : (mdel m k).Sublist m := List.eraseIdx_sublist _ _
theorem mdel_nodup {m : List (K × V)} (h : (m.map (·.1)).Nodup) (k : K) : ((mdel m k).map (·.1)).Nodup := ((mdel_sub m k).map _).nodup h
theorem mget_mdel {m : List (K × V)} (h : (m.map (·.1)).Nodup) (k k' : K) : mget (mdel m k) k' = if k' = k then none else mget m k' := by
  induction m with
  | nil => unfold mdel; simp [mget]
  | cons p m ih =>
    simp only [List.map_cons, List.nodup_cons] at h
    by_cases h1 : k = p.1
    · rw [mdel_cons_eq h1]
      by_cases h2 : k' = k
      · rw [if_pos h2, h2, h1]
        cases hg : mget m p.1 with
        | none => rfl
        | some v => exact absurd ((mget_isSome m p.1).1 (by rw [hg]; rfl)) h.1
      · rw [if_neg h2, mget_cons, if_neg (fun e => h2 (e.trans h1.symm))]
    · rw [mdel_cons_ne h1, mget_cons, mget_cons, ih h.2]
      by_cases h2 : k' = k
      · rw [if_pos h2, if_neg (fun e => h1 (h2.symm.trans e)), if_pos h2]
      · simp only [if_neg h2]
end plain
theorem FVr_erase {E : Env} {sz : Nat} : ∀ (rows : List (List AV)) (es : List MapEntry) (j : Nat), 0 < sz → (∀ x ∈ es, (rowM x).length = sz) → FVr E sz rows (flatM es) → FVr E sz (rows.eraseIdx j) (flatM (es.eraseIdx j))
  | [], [], j, _, _, h => by simpa using h
  | [], e :: es, j, _, _, h => absurd h FVr_flat_nil
  | r :: rows, [], j, h0, _, h => by
    exfalso
    simp only [FVr, flatM, List.map_nil, List.flatten_nil] at h
    obtain ⟨ys, zs, h1, h2, h3, _⟩ := h
    have : ys = [] := (List.append_eq_nil_iff.1 h1.symm).1
    subst this
    cases r with
    | nil => simp at h2; omega
    | cons c r => simp only [FVc] at h3; obtain ⟨_, _, h4, _⟩ := h3; cases h4
  | r :: rows, e :: es, 0, h0, hl, h => (FVr_rowM h (hl e (by simp))).2.2
  | r :: rows, e :: es, j + 1, h0, hl, h => by
    obtain ⟨g1, g2, g3⟩ := FVr_rowM h (hl e (by simp))
    exact FVr_rowM_of g1 g2 (FVr_erase rows es j h0 (fun x hx => hl x (by simp [hx])) g3)
section rules
variable {P : Program} {ops : Array Oper} {rest : List Oper} {s : List (Nat × AV)} {b : List (Nat × Obj)} {n t e id : Nat} {Q : St → Prop} {dd ty ty' ty2 : Nat} {pos : String} {aft : Array Edge} {g : Option (Nat × Bool)} {x y z : Operand}
variable {K V : Type} [DecidableEq K] {d : TypeDesc} {kv : K → Value} {vv : V → Value} {m : List (K × V)} {k : K} {mt r el : Nat} {z0 : V} {cl : Bool}
/-- maps.Clone called. -/
theorem S.clo {f : FuncId} {sz : Nat} {rows : List (List AV)} {ts : Array TypeId} (hF : Fun P f [.shm sz rows] (CloP mt sz rows)) (hc : calleeOf (St.ev ⟨s, b, n, t, e⟩ x) = some (f, [], []) := by exact rfl) (hv : viewL ⟨s, b, n, t, e⟩ ([] ++ (#[y].toList.map (St.ev ⟨s, b, n, t, e⟩) ++ [])) = some [.shm sz rows] := by exact rfl)
    (hm : closedL ([] ++ (#[y].toList.map (St.ev ⟨s, b, n, t, e⟩) ++ [])) = true := by exact rfl) (hg : guardGo (dstsOf ops) ⟨s, b, n, t, e⟩ g = some true := by exact rfl) (hd : Nat.blt dd t = true := by exact rfl)
    (h0 : rows = [] → SeqL P ops rest ⟨(dd, .lit (.map none)) :: s, b, n, t, e⟩ Q) (h1 : SeqL P ops rest ⟨(dd, .hd n) :: s, (n, ⟨true, mt, sz, rows, true⟩) :: b, n + 1, t, e⟩ Q) :
    SeqL P ops (⟨some dd, .call { callee := .value x, args := #[y], argTypes := ts }, ty, pos, aft, g⟩ :: rest) ⟨s, b, n, t, e⟩ Q := by
  refine SeqL.call hg rfl hc hv hF (.inl hm) (fun d' h' => by cases h'; exact Nat.le_of_ble_eq_true hd) ?_
  rintro u l (⟨hr, rfl, rfl⟩ | ⟨rfl, rfl⟩)
  · exact ⟨.lit (.map none), [], n, by simp [liftAV, renAV], by simp [liftObjs], fun r ob h => by simp [find] at h, Nat.le_refl _, h0 hr⟩
  · refine ⟨.hd n, [(n, ⟨true, mt, sz, rows, true⟩)], n + 1, by simp [liftAV, renAV], ?_, fun r ob h => fresh1 h, Nat.le_succ _, h1⟩
    simp only [liftObjs, renObj, Nat.zero_add]
/-- A nil map against nil. -/
theorem S.meq0 {kt et : Nat} (hu : P.underlying ty' = some (.map kt et)) (hx : opv s x = some (.lit (.map none)) := by exact rfl) (hy : opv s y = some (.lit (.map none)) := by exact rfl) (hg : guardGo (dstsOf ops) ⟨s, b, n, t, e⟩ g = some true := by exact rfl) (hd : Nat.blt dd t = true := by exact rfl)
    (h : SeqL P ops rest ⟨(dd, .lit (.bool true)) :: s, b, n, t, e⟩ Q) : SeqL P ops (⟨some dd, .binOp .eql ty' x y ty2, ty, pos, aft, g⟩ :: rest) ⟨s, b, n, t, e⟩ Q := by
  refine SeqL.of_run hg fun C E X a hr => ?_
  have hxe := rel_ev_lit hr hx
  have hye := rel_ev_lit hr hy
  refine ⟨.bool true, E, X, _, ?_, hr.put (some dd) (v := .lit (.bool true)) (fun d' e' => by cases e'; exact Nat.le_of_ble_eq_true hd) (by simp [FV]), h⟩
  unfold execOp
  simp [hxe, hye, eqGuard, run_eql_map_nil_sl E.w _ _ _ none hu, Result.andThen]
/-- A map of the call's own against nil. -/
theorem S.meq1 {kt et : Nat} {o : Obj} (hu : P.underlying ty' = some (.map kt et)) (hx : opv s x = some (.hd r) := by exact rfl) (ho : find b r = some o := by exact rfl) (hs : o.slc = true := by exact rfl) (hy : opv s y = some (.lit (.map none)) := by exact rfl) (hg : guardGo (dstsOf ops) ⟨s, b, n, t, e⟩ g = some true := by exact rfl) (hd : Nat.blt dd t = true := by exact rfl)
    (h : SeqL P ops rest ⟨(dd, .lit (.bool false)) :: s, b, n, t, e⟩ Q) : SeqL P ops (⟨some dd, .binOp .eql ty' x y ty2, ty, pos, aft, g⟩ :: rest) ⟨s, b, n, t, e⟩ Q := by
  refine SeqL.of_run hg fun C E X a hr => ?_
  obtain ⟨_, hZ, hok, hrr⟩ := hr.objs r _ ho
  have hxv := hr.ev x
  rw [opv_ev hx] at hxv
  obtain ⟨bb, es, clk, hH, hgg, hwf, hfl, hxe⟩ := hok.asMap hs hxv
  have hye := rel_ev_lit hr hy
  refine ⟨.bool false, E, X, _, ?_, hr.put (some dd) (v := .lit (.bool false)) (fun d' e' => by cases e'; exact Nat.le_of_ble_eq_true hd) (by simp [FV]), h⟩
  unfold execOp
  simp [hxe, hye, eqGuard, run_eql_map_nil_sl E.w _ _ _ (some bb) hu, Result.andThen]
/-- delete. -/
theorem S.del {kt : TypeId} (b' : List (Nat × Obj)) (h : KL d kv) (ht : mapTy P mt = some (d, some (vv z0))) (hx : opv s x = some (.hd r) := by exact rfl) (ho : find b r = some ⟨true, el, 3, m.map (rowK kv vv), true⟩ := by exact rfl) (hy : opv s y = some (.lit (kv k)) := by exact rfl)
    (hdel : del b r = b' := by exact rfl) (hg : guardGo (dstsOf ops) ⟨s, b, n, t, e⟩ g = some true := by exact rfl) (hn : SeqL P ops rest ⟨s, (r, ⟨true, el, 3, (mdel m k).map (rowK kv vv), true⟩) :: b', n, t, e⟩ Q) :
    SeqL P ops (⟨none, .call { callee := .builtin .delete, args := #[x, y], argTypes := #[mt, kt] }, ty, pos, aft, g⟩ :: rest) ⟨s, b, n, t, e⟩ Q := by
  subst hdel
  refine SeqL.of_run hg fun C E X a hr => ?_
  obtain ⟨kt', et, z1, ht1, ht2, hzz, hz1⟩ := mapTy_spec ht
  obtain ⟨_, hZ, hok, hrr⟩ := hr.objs r _ ho
  have hxv := hr.ev x
  rw [opv_ev hx] at hxv
  obtain ⟨bb, es, clk, hH, hgg, hwf, hfl, hxe⟩ := hok.asMap rfl hxv
  rw [← hfl] at hrr
  have hye := rel_ev_lit hr hy
  have hik := keyB_is (h.key k)
  rcases findAV_spec (show (0 : Nat) < 3 by decide) hwf.len hrr (findAV_K (vv := vv) h k m 0) with ⟨h1, h2, h3⟩ | ⟨j, v1, vs, e1, h1, h2, h3, h4, h5, h6, h7⟩
  · have hm0 : mget m k = none := by simpa using h1
    have hmd : mdel m k = m := by unfold mdel; rw [mpos_none hm0, List.eraseIdx_of_length_le (Nat.le_refl _)]
    obtain ⟨E', X', hw, hr'⟩ := hr.putMap ho rfl rfl hH hgg es clk hwf ((mdel m k).map (rowK kv vv)) (by rw [hmd]; exact hrr)
    refine ⟨.tuple #[], E', X', _, ?_, hr', hn⟩
    unfold execOp
    simp [resolve, invoke, builtin, Builtin.delete_, hxe, hye, run_underlying ht1, Go.MapKept.run_getObj_map hgg, Go.MapKept.run_checkKey ht2 hik, Go.MapKept.run_findKey ht2 h2, Go.MapKept.run_setObj_map _ hgg, Result.andThen, hw]
  · obtain ⟨u, hu⟩ : ∃ u, mget m k = some u := by
      cases hm : mget m k with
      | none => rw [hm] at h1; simp at h1
      | some u => exact ⟨u, rfl⟩
    have hjp : j = mpos m k := by
      rw [hu] at h1
      simp only [Option.map_some, Option.some.injEq, Prod.mk.injEq] at h1
      omega
    have hjl : j < es.size := by
      have := (List.getElem?_eq_some_iff.1 h3).1
      simpa using this
    have her : (es.eraseIdxIfInBounds j).toList = es.toList.eraseIdx j := by
      unfold Array.eraseIdxIfInBounds
      rw [dif_pos hjl, Array.toList_eraseIdx]
    obtain ⟨E', X', hw, hr'⟩ := hr.putMap ho rfl rfl hH hgg (es.eraseIdxIfInBounds j) clk ⟨stamped_erase hwf.st j, fun x hx => by
      rw [her] at hx
      exact hwf.len x ((List.eraseIdx_sublist _ _).subset hx)⟩ ((mdel m k).map (rowK kv vv)) (by
        rw [her, mdel, ← hjp, map_eraseIdx]
        exact FVr_erase _ _ j (show (0 : Nat) < 3 by decide) hwf.len hrr)
    refine ⟨.tuple #[], E', X', _, ?_, hr', hn⟩
    have h6' : Instr.findNow d (kv k) es.toList 0 = some (some (j, e1.val)) := by simpa using h6
    unfold execOp
    simp [resolve, invoke, builtin, Builtin.delete_, hxe, hye, run_underlying ht1, Go.MapKept.run_getObj_map hgg, Go.MapKept.run_checkKey ht2 hik, Go.MapKept.run_findKey ht2 h6', Go.MapKept.run_setObj_map _ hgg, Result.andThen, hw]
/-- A nil map as a value. -/
theorem Wk.nshm {d0 sz : Nat} (hs : find s d0 = some (.lit (.map none)) := by exact rfl) : Wk ⟨s, b, n, t, e⟩ ⟨(d0, .shm sz []) :: s, b, n, t, e⟩ := by
  intro C E X a hr
  refine ⟨E, X, rfl, { hr with slots := fun s' v hv => ?_ }⟩
  rw [find_cons] at hv
  split at hv
  · rename_i e0
    simp only [Option.some.injEq] at hv
    subst hv e0
    have := hr.slots _ _ hs
    simp only [FV] at this ⊢
    exact .inl ⟨this, trivial⟩
  · exact hr.slots s' v hv
/-- A variable whose cells j hold a nil map: as a shared map without rows. -/
def nmL : Nat → Nat → List AV → List AV
  | _, _, [] => []
  | 0, sz, c :: cs => (match c with | .lit (.map none) => .shm sz [] | c => c) :: cs
  | j + 1, sz, c :: cs => c :: nmL j sz cs
theorem nmL_len (j sz : Nat) (r : List AV) : (nmL j sz r).length = r.length := by
  induction r generalizing j with
  | nil => cases j <;> rfl
  | cons c r ih => cases j <;> simp [nmL, ih]
theorem FVc.nmL {E : Env} : ∀ (j sz : Nat) (r : List AV) (xs : List Value), FVc E r xs → FVc E (AM.nmL j sz r) xs
  | j, _, [], _, h => by cases j <;> simpa [AM.nmL] using h
  | 0, sz, c :: cs, xs, h => by
    simp only [AM.nmL, FVc] at h ⊢
    obtain ⟨y, ys, h1, h2, h3, h4⟩ := h
    refine ⟨y, ys, h1, h2, ?_, h4⟩
    split
    · simp only [FV] at h3 ⊢
      exact .inl ⟨h3, trivial⟩
    · exact h3
  | j + 1, sz, c :: cs, xs, h => by
    simp only [AM.nmL, FVc] at h ⊢
    obtain ⟨y, ys, h1, h2, h3, h4⟩ := h
    exact ⟨y, ys, h1, h2, h3, FVc.nmL j sz cs ys h4⟩
theorem Wk.nmv {row row' : List AV} {slc : Bool} {sz sz' : Nat} (r j : Nat) (b' : List (Nat × Obj)) (ho : find b r = some ⟨slc, el, sz, [row], cl⟩ := by exact rfl) (hr' : nmL j sz' row = row' := by exact rfl) (hb : del b r = b' := by exact rfl) :
    Wk ⟨s, b, n, t, e⟩ ⟨s, (r, ⟨slc, el, sz, [row'], cl⟩) :: b', n, t, e⟩ := by
  subst hr'
  refine Wk.objw r b' ho rfl (fun E xs h => ?_) hb
  simp only [FVr] at h ⊢
  obtain ⟨ys, zs, h1, h2, h3, h4⟩ := h
  exact ⟨ys, zs, h1, by rw [nmL_len]; exact h2, FVc.nmL _ _ _ _ h3, h4⟩
end rules
end Go.AM
