-- TYPES 3 4
import Derived.Test.YtigjoaejncfmdaaA6
namespace Go.Proofs.Ytigjoaejncfmdaa
open Go Go.AM
set_option linter.unusedSimpArgs false
set_option maxRecDepth 100000
-- PP
theorem rarea_fun (d : Int) (h0 : 0 ≤ d) (h1 : d ≤ 1000) : Fun Try.prog 44 [.lit (.int .i64 d)] (Ret (.lit (.int .i64 (areaOf d))) []) := by
  have h2 : 0 ≤ 7854 * d * d := Int.mul_nonneg (by omega) h0
  have h3 : 7854 * d * d ≤ 7854 * 1000 * 1000 := Int.mul_le_mul (by omega) h1 h0 (by omega)
  have h4 : -9223372036854775808 ≤ 7854 * d * d := by omega
  have h5 : 7854 * d * d ≤ 9223372036854775807 := by omega
  refine Fun.of (nt := 9) (rs := [.tmp 2]) Try.func44 rfl rfl rfl rfl rfl ?_
  repeat refine Ev.seq ?_
  refine Ev.region_S fun K hK => ?_
  refine S.q rfl rfl (q_assign rfl) ?_
  refine S.end (hK _ ?_)
  clear hK K
  try show Ev _ _ _ _
  repeat refine Ev.seq ?_
  refine Ev.region_S fun K hK => ?_
  refine S.q rfl rfl (q_move rfl) ?_
  refine S.q rfl rfl (q_mul rfl rfl (by first | omega | assumption) (by first | omega | assumption)) ?_
  refine S.q rfl rfl (q_move rfl) ?_
  refine S.q rfl rfl (q_mul rfl rfl (by first | omega | assumption) (by first | omega | assumption)) ?_
  refine S.q rfl rfl (q_add rfl rfl (by first | omega | assumption) (by first | omega | assumption)) ?_
  refine S.q rfl rfl (q_quo rfl rfl (by first | omega | assumption) (by first | omega | assumption) (by first | omega | assumption)) ?_
  refine S.q rfl rfl (q_assign rfl) ?_
  refine S.end (hK _ ?_)
  clear hK K
  try show Ev _ _ _ _
  repeat refine Ev.seq ?_
  refine Ev.ret ?_
  refine ⟨[], List.nodup_nil, ?_⟩
  simp only [retP, resAV, packAV, renAV, renL, keepObjs, St.get, find_cons, reduceIte, Option.map_some, Nat.reduceEqDiff, Ret, and_self, areaOf]

theorem between_fun (x lo hi : Int) : Fun Try.prog 62 [.lit (.int .i64 x), .lit (.int .i64 lo), .lit (.int .i64 hi)] (Ret (.lit (.bool (decide (lo ≤ x ∧ x ≤ hi)))) []) := by
  refine Fun.of (nt := 15) (rs := [.tmp 6]) Try.func62 rfl rfl rfl rfl rfl ?_
  repeat refine Ev.seq ?_
  refine Ev.region_S fun K hK => ?_
  refine S.q rfl rfl (q_assign rfl) ?_
  refine S.end (hK _ ?_)
  clear hK K
  try show Ev _ _ _ _
  by_cases h1 : lo ≤ x
  · by_cases h2 : x ≤ hi
    · repeat refine Ev.seq ?_
      refine Ev.region_S fun K hK => ?_
      refine S.q rfl rfl (q_move rfl) ?_
      refine S.q rfl rfl (q_move rfl) ?_
      first | refine S.q rfl rfl (q_geq_t rfl rfl (by first | omega | assumption)) ?_ | refine S.q rfl rfl (q_geq_f rfl rfl (by first | omega | assumption)) ?_ | refine S.q rfl rfl (q_geq rfl rfl) ?_
      refine S.q rfl rfl (q_move rfl) ?_
      first | refine S.skip rfl rfl ?_ | refine S.q rfl rfl (q_move rfl) ?_
      first | refine S.skip rfl rfl ?_ | refine S.q rfl rfl (q_move rfl) ?_
      first | refine S.skip rfl rfl ?_ | refine S.q rfl rfl (q_leq_t rfl rfl (by first | omega | assumption)) ?_ | refine S.q rfl rfl (q_leq_f rfl rfl (by first | omega | assumption)) ?_ | refine S.q rfl rfl (q_leq rfl rfl) ?_
      first | refine S.q rfl rfl (q_pick_t rfl rfl) ?_ | refine S.q rfl rfl (q_pick_f rfl rfl) ?_
      refine S.q rfl rfl (q_assign rfl) ?_
      refine S.end (hK _ ?_)
      clear hK K
      try show Ev _ _ _ _
      repeat refine Ev.seq ?_
      refine Ev.ret ?_
      refine ⟨[], List.nodup_nil, ?_⟩
      simp only [retP, resAV, packAV, renAV, renL, keepObjs, St.get, find_cons, reduceIte, Option.map_some, Nat.reduceEqDiff, Ret, and_self, h1, h2, decide_true]
    · repeat refine Ev.seq ?_
      refine Ev.region_S fun K hK => ?_
      refine S.q rfl rfl (q_move rfl) ?_
      refine S.q rfl rfl (q_move rfl) ?_
      first | refine S.q rfl rfl (q_geq_t rfl rfl (by first | omega | assumption)) ?_ | refine S.q rfl rfl (q_geq_f rfl rfl (by first | omega | assumption)) ?_ | refine S.q rfl rfl (q_geq rfl rfl) ?_
      refine S.q rfl rfl (q_move rfl) ?_
      first | refine S.skip rfl rfl ?_ | refine S.q rfl rfl (q_move rfl) ?_
      first | refine S.skip rfl rfl ?_ | refine S.q rfl rfl (q_move rfl) ?_
      first | refine S.skip rfl rfl ?_ | refine S.q rfl rfl (q_leq_t rfl rfl (by first | omega | assumption)) ?_ | refine S.q rfl rfl (q_leq_f rfl rfl (by first | omega | assumption)) ?_ | refine S.q rfl rfl (q_leq rfl rfl) ?_
      first | refine S.q rfl rfl (q_pick_t rfl rfl) ?_ | refine S.q rfl rfl (q_pick_f rfl rfl) ?_
      refine S.q rfl rfl (q_assign rfl) ?_
      refine S.end (hK _ ?_)
      clear hK K
      try show Ev _ _ _ _
      repeat refine Ev.seq ?_
      refine Ev.ret ?_
      refine ⟨[], List.nodup_nil, ?_⟩
      simp only [retP, resAV, packAV, renAV, renL, keepObjs, St.get, find_cons, reduceIte, Option.map_some, Nat.reduceEqDiff, Ret, and_self, h1, h2, decide_false, and_false]
  · repeat refine Ev.seq ?_
    refine Ev.region_S fun K hK => ?_
    refine S.q rfl rfl (q_move rfl) ?_
    refine S.q rfl rfl (q_move rfl) ?_
    first | refine S.q rfl rfl (q_geq_t rfl rfl (by first | omega | assumption)) ?_ | refine S.q rfl rfl (q_geq_f rfl rfl (by first | omega | assumption)) ?_ | refine S.q rfl rfl (q_geq rfl rfl) ?_
    refine S.q rfl rfl (q_move rfl) ?_
    first | refine S.skip rfl rfl ?_ | refine S.q rfl rfl (q_move rfl) ?_
    first | refine S.skip rfl rfl ?_ | refine S.q rfl rfl (q_move rfl) ?_
    first | refine S.skip rfl rfl ?_ | refine S.q rfl rfl (q_leq_t rfl rfl (by first | omega | assumption)) ?_ | refine S.q rfl rfl (q_leq_f rfl rfl (by first | omega | assumption)) ?_ | refine S.q rfl rfl (q_leq rfl rfl) ?_
    first | refine S.q rfl rfl (q_pick_t rfl rfl) ?_ | refine S.q rfl rfl (q_pick_f rfl rfl) ?_
    refine S.q rfl rfl (q_assign rfl) ?_
    refine S.end (hK _ ?_)
    clear hK K
    try show Ev _ _ _ _
    repeat refine Ev.seq ?_
    refine Ev.ret ?_
    refine ⟨[], List.nodup_nil, ?_⟩
    simp only [retP, resAV, packAV, renAV, renL, keepObjs, St.get, find_cons, reduceIte, Option.map_some, Nat.reduceEqDiff, Ret, and_self, h1, decide_false, false_and]

theorem between_t {x lo hi : Int} (h : lo ≤ x ∧ x ≤ hi) : Fun Try.prog 62 [.lit (.int .i64 x), .lit (.int .i64 lo), .lit (.int .i64 hi)] (Ret (.lit (.bool true)) []) := by
  have := between_fun x lo hi
  rwa [decide_eq_true h] at this
theorem between_f {x lo hi : Int} (h : ¬ (lo ≤ x ∧ x ≤ hi)) : Fun Try.prog 62 [.lit (.int .i64 x), .lit (.int .i64 lo), .lit (.int .i64 hi)] (Ret (.lit (.bool false)) []) := by
  have := between_fun x lo hi
  rwa [decide_eq_false h] at this

theorem rplace_t {n : Int} (h : Place n) : Fun Try.prog 61 [.lit (.int .i64 n)] (Ret (.lit (.bool true)) []) := by
  refine Fun.of (nt := 5) (rs := [.tmp 2]) Try.func61 rfl rfl rfl rfl rfl ?_
  repeat refine Ev.seq ?_
  refine Ev.region_S fun K hK => ?_
  refine S.q rfl rfl (q_assign rfl) ?_
  refine S.end (hK _ ?_)
  clear hK K
  try show Ev _ _ _ _
  repeat refine Ev.seq ?_
  refine Ev.region_S fun K hK => ?_
  refine S.q rfl rfl (q_move rfl) ?_
  refine SeqL.call rfl rfl rfl rfl (between_t h) (.inl rfl) (fun d h => by cases h; exact of_decide_eq_true rfl) ?_
  rintro v objs ⟨rfl, rfl⟩
  refine ⟨_, _, _, rfl, rfl, fun r ob h => fresh0 h, Nat.le_refl _, ?_⟩
  refine S.q rfl rfl (q_assign rfl) ?_
  refine S.end (hK _ ?_)
  clear hK K
  try show Ev _ _ _ _
  repeat refine Ev.seq ?_
  refine Ev.ret ?_
  refine ⟨[], List.nodup_nil, ?_⟩
  simp only [retP, resAV, packAV, renAV, renL, keepObjs, St.get, find_cons, reduceIte, Option.map_some, Nat.reduceEqDiff, Ret, and_self]
theorem rplace_f {n : Int} (h : ¬ Place n) : Fun Try.prog 61 [.lit (.int .i64 n)] (Ret (.lit (.bool false)) []) := by
  refine Fun.of (nt := 5) (rs := [.tmp 2]) Try.func61 rfl rfl rfl rfl rfl ?_
  repeat refine Ev.seq ?_
  refine Ev.region_S fun K hK => ?_
  refine S.q rfl rfl (q_assign rfl) ?_
  refine S.end (hK _ ?_)
  clear hK K
  try show Ev _ _ _ _
  repeat refine Ev.seq ?_
  refine Ev.region_S fun K hK => ?_
  refine S.q rfl rfl (q_move rfl) ?_
  refine SeqL.call rfl rfl rfl rfl (between_f h) (.inl rfl) (fun d h => by cases h; exact of_decide_eq_true rfl) ?_
  rintro v objs ⟨rfl, rfl⟩
  refine ⟨_, _, _, rfl, rfl, fun r ob h => fresh0 h, Nat.le_refl _, ?_⟩
  refine S.q rfl rfl (q_assign rfl) ?_
  refine S.end (hK _ ?_)
  clear hK K
  try show Ev _ _ _ _
  repeat refine Ev.seq ?_
  refine Ev.ret ?_
  refine ⟨[], List.nodup_nil, ?_⟩
  simp only [retP, resAV, packAV, renAV, renL, keepObjs, St.get, find_cons, reduceIte, Option.map_some, Nat.reduceEqDiff, Ret, and_self]

theorem rsizes_fun : Fun Try.prog 63 [] (Ret (.als 0 0 9) [(0, ⟨true, 3, 1, sizes.map intC, true⟩)]) := by
  refine Fun.of (nt := 2) (rs := [.tmp 0]) Try.func63 rfl rfl rfl rfl rfl ?_
  repeat refine Ev.seq ?_
  refine Ev.region_S fun K hK => ?_
  refine S.q rfl rfl (q_assign rfl) ?_
  refine S.end (hK _ ?_)
  clear hK K
  try show Ev _ _ _ _
  repeat refine Ev.seq ?_
  refine Ev.region_S fun K hK => ?_
  first | refine S.new (q_buildSlice (cl := true) am_el43 am_ze3 am_cl3 rfl (by simp only [fillAV, rowsOf, cellsAV, splice, Value.oneCell', cond_true, cond_false, Option.bind_some, Option.map_some, List.getElem?_cons_zero, List.getElem?_cons_succ, List.length_cons, List.length_nil, List.take_succ_cons, List.take_zero, List.drop_succ_cons, List.drop_zero, List.nil_append, List.cons_append, List.append_nil, Nat.reduceAdd, beq_dec, ble_dec, Nat.reduceEqDiff, Nat.reduceLeDiff, decide_true, decide_false, Bool.and_self, Bool.and_true, Bool.true_and]; rfl) rfl rfl) rfl rfl ?_ | refine S.new (q_buildSlice (cl := false) am_el43 am_ze3 am_cl3 rfl (by simp only [fillAV, rowsOf, cellsAV, splice, Value.oneCell', cond_true, cond_false, Option.bind_some, Option.map_some, List.getElem?_cons_zero, List.getElem?_cons_succ, List.length_cons, List.length_nil, List.take_succ_cons, List.take_zero, List.drop_succ_cons, List.drop_zero, List.nil_append, List.cons_append, List.append_nil, Nat.reduceAdd, beq_dec, ble_dec, Nat.reduceEqDiff, Nat.reduceLeDiff, decide_true, decide_false, Bool.and_self, Bool.and_true, Bool.true_and]; rfl) rfl rfl) rfl rfl ?_
  refine S.q rfl rfl (q_assign rfl) ?_
  refine S.end (hK _ ?_)
  clear hK K
  try show Ev _ _ _ _
  repeat refine Ev.seq ?_
  refine Ev.ret ?_
  refine ⟨[0], by decide, ?_⟩
  simp only [retP, resAV, packAV, renAV, renL, keepObjs, renObj, pos_cons, pos_nil, Nat.reduceAdd, Nat.zero_add, List.cons_append, List.nil_append, List.append_nil, St.get, find_cons, reduceIte, Option.map_some, Option.bind_some, Nat.reduceEqDiff, Ret, and_self, sizes, intC, List.map_cons, List.map_nil]

theorem rsize_fun (d : Int) : Fun Try.prog 43 [.lit (.int .i64 d)] (Ret (.lit (.bool (decide (d ∈ sizes)))) []) := by
  refine Fun.of (nt := 18) (rs := [.tmp 2]) Try.func43 rfl rfl rfl rfl rfl ?_
  repeat refine Ev.seq ?_
  refine Ev.region_S fun K hK => ?_
  refine S.q rfl rfl (q_assign rfl) ?_
  refine S.end (hK _ ?_)
  clear hK K
  try show Ev _ _ _ _
  repeat refine Ev.seq ?_
  refine Ev.region_S fun K hK => ?_
  refine SeqL.call rfl rfl rfl rfl (rsizes_fun) (.inl rfl) (fun d h => by cases h; exact of_decide_eq_true rfl) ?_
  rintro v objs ⟨rfl, rfl⟩
  refine ⟨_, _, _ + 1, rfl, rfl, fun r ob h => fresh1 h, Nat.le_succ _, ?_⟩
  refine S.q rfl rfl (q_assign rfl) ?_
  refine S.end (hK _ ?_)
  clear hK K
  try show Ev _ _ _ _
  repeat refine Ev.seq ?_
  refine Ev.region_S fun K hK => ?_
  refine S.q rfl rfl (q_assign rfl) ?_
  refine S.end (hK _ ?_)
  clear hK K
  try show Ev _ _ _ _
  refine Ev.block (Ev.loop (ι := {p : List Int × List Int // p.1 ++ p.2 = sizes ∧ (d ∈ sizes ↔ d ∈ p.2)}) (fun p => ⟨[(0, .lit (.int .i64 d)), (3, .als 0 0 9), (4, .lit (.int .i64 p.1.1.length))], [(0, ⟨true, 3, 1, sizes.map intC, true⟩)], 1, 18, 0⟩)
    (fun p => p.1.2.length) ⟨([], sizes), rfl, Iff.rfl⟩ ?_ ?_)
  · refine Wk.ren [0] (by decide) ?_ ?_ rfl rfl rfl (fun i hi => absurd hi (Nat.not_lt_zero i))
    · simp only [slotsRen, renAV, argSlots, St.get, find_cons, reduceIte, Nat.reduceEqDiff, Nat.reduceAdd, Nat.reduceMul, and_self, pos_cons, Option.map_some, List.length_append, List.length_cons, List.length_nil, Nat.zero_add, Int.natCast_add, Int.cast_ofNat_Int, List.append_nil, List.cons_append]
    · simp only [keepObjs, find_cons, del_cons, del_nil, reduceIte, Nat.reduceEqDiff, Nat.reduceAdd, Nat.reduceMul, Option.bind_some, renObj, List.nil_append, List.append_nil, List.cons_append]
  · rintro ⟨⟨pre, suf⟩, hp, hin⟩
    simp only at hp hin
    dsimp only
    have h9 : pre.length + suf.length = 9 := by rw [← List.length_append, hp]; rfl
    cases suf with
    | nil =>
      have h10 : pre.length = 9 := h9
      repeat refine Ev.seq ?_
      refine Ev.region_S fun K hK => ?_
      refine S.q rfl rfl (q_move rfl) ?_
      refine S.q rfl rfl (q_move rfl) ?_
      refine S.q rfl rfl (q_len am_el43 rfl (by simp only [lenAV, List.length_map]; rfl)) ?_
      first | refine S.q rfl rfl (q_lss_t rfl rfl (by first | omega | assumption)) ?_ | refine S.q rfl rfl (q_lss_f rfl rfl (by first | omega | assumption)) ?_ | refine S.q rfl rfl (q_lss rfl rfl) ?_
      refine S.end (hK _ ?_)
      clear hK K
      try show Ev _ _ _ _
      repeat refine Ev.seq ?_
      refine Ev.cond rfl (fun h => ?_) (fun h => ?_)
      · cases h
      refine Ev.exit ?_
      show Ev _ _ _ _
      repeat refine Ev.seq ?_
      refine Ev.region_S fun K hK => ?_
      refine S.q rfl rfl (q_assign rfl) ?_
      refine S.end (hK _ ?_)
      clear hK K
      try show Ev _ _ _ _
      have hno : ¬ d ∈ sizes := fun h => by have := hin.1 h; simp at this
      repeat refine Ev.seq ?_
      refine Ev.ret ?_
      refine ⟨[], List.nodup_nil, ?_⟩
      simp only [retP, resAV, packAV, renAV, renL, keepObjs, St.get, find_cons, reduceIte, Option.map_some, Nat.reduceEqDiff, Ret, and_self, hno, decide_false]
    | cons s suf =>
      have h10 : pre.length < 9 := by rw [List.length_cons] at h9; omega
      have hidx : sizes[pre.length]? = some s := by rw [← hp]; simp
      repeat refine Ev.seq ?_
      refine Ev.region_S fun K hK => ?_
      refine S.q rfl rfl (q_move rfl) ?_
      refine S.q rfl rfl (q_move rfl) ?_
      refine S.q rfl rfl (q_len am_el43 rfl (by simp only [lenAV, List.length_map]; rfl)) ?_
      first | refine S.q rfl rfl (q_lss_t rfl rfl (by first | omega | assumption)) ?_ | refine S.q rfl rfl (q_lss_f rfl rfl (by first | omega | assumption)) ?_ | refine S.q rfl rfl (q_lss rfl rfl) ?_
      refine S.end (hK _ ?_)
      clear hK K
      try show Ev _ _ _ _
      repeat refine Ev.seq ?_
      refine Ev.cond rfl (fun h => ?_) (fun h => ?_)
      rotate_left
      · cases h
      refine Ev.skip ?_
      show Ev _ _ _ _
      repeat refine Ev.seq ?_
      refine Ev.block ?_
      by_cases hd : s = d
      · repeat refine Ev.seq ?_
        refine Ev.region_S fun K hK => ?_
        refine S.q rfl rfl (q_move rfl) ?_
        refine S.q rfl rfl (q_move rfl) ?_
        first | refine S.q rfl rfl (q_ia am_el43 am_cl3 rfl rfl rfl rfl rfl (by first | omega | assumption) (by first | omega | assumption) rfl) ?_ | refine S.q rfl rfl (q_ias am_el43 am_cl3 rfl rfl rfl (by first | omega | assumption) (by first | (simp only [List.getElem?_map, Int.toNat_natCast, Nat.zero_add, Option.map_some, hidx]; rfl) | rfl)) ?_
        first | refine S.q rfl rfl (q_load1 am_ag3 rfl rfl) ?_ | refine S.q rfl rfl (q_load1 am_ag3 rfl (cells_adr rfl (by first | (simp only [List.getElem?_map, Int.toNat_natCast, Nat.zero_add, Option.map_some, hidx]; rfl) | rfl) rfl)) ?_
        refine S.q rfl rfl (q_move rfl) ?_
        first | refine S.q rfl rfl (q_eql_t rfl rfl (by first | omega | assumption)) ?_ | refine S.q rfl rfl (q_eql_f rfl rfl (by first | omega | assumption)) ?_ | refine S.q rfl rfl (q_eql rfl rfl) ?_
        refine S.end (hK _ ?_)
        clear hK K
        try show Ev _ _ _ _
        repeat refine Ev.seq ?_
        refine Ev.cond rfl (fun h => ?_) (fun h => ?_)
        rotate_left
        · cases h
        repeat refine Ev.seq ?_
        refine Ev.region_S fun K hK => ?_
        refine S.q rfl rfl (q_assign rfl) ?_
        refine S.end (hK _ ?_)
        clear hK K
        try show Ev _ _ _ _
        have hyes : d ∈ sizes := hin.2 (by simp [hd])
        repeat refine Ev.seq ?_
        refine Ev.ret ?_
        refine ⟨[], List.nodup_nil, ?_⟩
        simp only [retP, resAV, packAV, renAV, renL, keepObjs, St.get, find_cons, reduceIte, Option.map_some, Nat.reduceEqDiff, Ret, and_self, hyes, decide_true]
      · repeat refine Ev.seq ?_
        refine Ev.region_S fun K hK => ?_
        refine S.q rfl rfl (q_move rfl) ?_
        refine S.q rfl rfl (q_move rfl) ?_
        first | refine S.q rfl rfl (q_ia am_el43 am_cl3 rfl rfl rfl rfl rfl (by first | omega | assumption) (by first | omega | assumption) rfl) ?_ | refine S.q rfl rfl (q_ias am_el43 am_cl3 rfl rfl rfl (by first | omega | assumption) (by first | (simp only [List.getElem?_map, Int.toNat_natCast, Nat.zero_add, Option.map_some, hidx]; rfl) | rfl)) ?_
        first | refine S.q rfl rfl (q_load1 am_ag3 rfl rfl) ?_ | refine S.q rfl rfl (q_load1 am_ag3 rfl (cells_adr rfl (by first | (simp only [List.getElem?_map, Int.toNat_natCast, Nat.zero_add, Option.map_some, hidx]; rfl) | rfl) rfl)) ?_
        refine S.q rfl rfl (q_move rfl) ?_
        first | refine S.q rfl rfl (q_eql_t rfl rfl (by first | omega | assumption)) ?_ | refine S.q rfl rfl (q_eql_f rfl rfl (by first | omega | assumption)) ?_ | refine S.q rfl rfl (q_eql rfl rfl) ?_
        refine S.end (hK _ ?_)
        clear hK K
        try show Ev _ _ _ _
        repeat refine Ev.seq ?_
        refine Ev.cond rfl (fun h => ?_) (fun h => ?_)
        · cases h
        refine Ev.skip ?_
        show Ev _ _ _ _
        repeat refine Ev.seq ?_
        refine Ev.region_S fun K hK => ?_
        refine S.q rfl rfl (q_move rfl) ?_
        refine S.q rfl rfl (q_add rfl rfl (by first | omega | assumption) (by first | omega | assumption)) ?_
        refine S.q rfl rfl (q_assign rfl) ?_
        refine S.end (hK _ ?_)
        clear hK K
        try show Ev _ _ _ _
        refine ⟨⟨(pre ++ [s], suf), by rw [← hp]; simp, ?_⟩, by simp, ?_⟩
        · rw [hin, List.mem_cons]
          exact ⟨fun h => h.resolve_left (fun e => hd e.symm), .inr⟩
        · refine Wk.ren [0] (by decide) ?_ ?_ rfl rfl rfl (fun i hi => absurd hi (Nat.not_lt_zero i))
          · simp only [slotsRen, renAV, argSlots, St.get, find_cons, reduceIte, Nat.reduceEqDiff, Nat.reduceAdd, Nat.reduceMul, and_self, pos_cons, Option.map_some, List.length_append, List.length_cons, List.length_nil, Nat.zero_add, Int.natCast_add, Int.cast_ofNat_Int]
          · simp only [keepObjs, find_cons, del_cons, del_nil, reduceIte, Nat.reduceEqDiff, Nat.reduceAdd, Nat.reduceMul, Option.bind_some, renObj, List.nil_append]
end Go.Proofs.Ytigjoaejncfmdaa
