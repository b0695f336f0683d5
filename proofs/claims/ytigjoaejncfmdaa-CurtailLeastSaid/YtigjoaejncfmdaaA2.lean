-- TYPES 3 4
import Derived.Test.YtigjoaejncfmdaaAmRule
import Derived.Test.YtigjoaejncfmdaaAmFacts
namespace Go.Proofs.Ytigjoaejncfmdaa
open Go Go.AM
set_option linter.unusedSimpArgs false
set_option maxRecDepth 100000
-- PP
def intC (n : Int) : List AV := [.lit (.int .i64 n)]

def idxFrom (v : Int) : List Int → Int → Int
  | [], _ => -1
  | x :: l, k => if v = x then k else idxFrom v l (k + 1)

theorem index_fun (l : List Int) (v : Int) (hlen : l.length ≤ 1000000) : Fun Try.prog 86 [.sh 1 (l.map intC), .lit (.int .i64 v)] (Ret (.lit (.int .i64 (idxFrom v l 0))) []) := by
  refine Fun.of (nt := 19) (rs := [.tmp 4]) Try.func86 rfl rfl rfl rfl rfl ?_
  repeat refine Ev.seq ?_
  refine Ev.region_S fun K hK => ?_
  refine S.q rfl rfl (q_assign rfl) ?_
  refine S.end (hK _ ?_)
  clear hK K
  try show Ev _ _ _ _
  repeat refine Ev.seq ?_
  refine Ev.region_S fun K hK => ?_
  refine S.q rfl rfl (q_move rfl) ?_
  refine S.q rfl rfl (q_len am_el43 rfl (by simp only [lenAV, List.length_map]; rfl)) ?_
  refine S.q rfl rfl (q_move rfl) ?_
  refine S.end (hK _ ?_)
  clear hK K
  try show Ev _ _ _ _
  refine Ev.block (Ev.loop (ι := {p : List Int × List Int // p.1 ++ p.2 = l ∧ idxFrom v l 0 = idxFrom v p.2 p.1.length}) (fun p => ⟨[(0, .sh 1 (l.map intC)), (1, .lit (.int .i64 v)), (7, .lit (.int .i64 l.length)), (8, .lit (.int .i64 p.1.1.length))], [], 0, 19, 0⟩)
      (fun p => p.1.2.length) ⟨([], l), rfl, rfl⟩ ?_ ?_)
  · refine Wk.ren [] List.nodup_nil ?_ rfl rfl rfl rfl (fun i hi => absurd hi (Nat.not_lt_zero i))
    simp only [slotsRen, renAV, argSlots, St.get, find_cons, reduceIte, Nat.reduceEqDiff, and_self, List.length_nil, Int.natCast_zero, Int.ofNat_zero, Int.cast_ofNat_Int]
  · rintro ⟨⟨pre, suf⟩, hp, hok⟩
    simp only at hp hok
    dsimp only
    cases suf with
    | nil =>
      rw [List.append_nil] at hp
      subst hp
      repeat refine Ev.seq ?_
      refine Ev.region_S fun K hK => ?_
      first | refine S.q rfl rfl (q_lss_t rfl rfl (by first | omega | assumption)) ?_ | refine S.q rfl rfl (q_lss_f rfl rfl (by first | omega | assumption)) ?_ | refine S.q rfl rfl (q_lss rfl rfl) ?_
      refine S.end (hK _ ?_)
      clear hK K
      try show Ev _ _ _ _
      repeat refine Ev.seq ?_
      refine Ev.cond rfl (fun h => ?_) (fun h => ?_)
      · cases h
      refine Ev.exit ?_
      show Ev _ _ _ _
      repeat refine Ev.seq ?_
      refine Ev.region_S fun K hK => ?_
      refine S.q rfl rfl (q_assign rfl) ?_
      refine S.end (hK _ ?_)
      clear hK K
      try show Ev _ _ _ _
      repeat refine Ev.seq ?_
      refine Ev.ret ?_
      refine ⟨[], List.nodup_nil, ?_⟩
      simp only [retP, resAV, packAV, renAV, renL, keepObjs, St.get, find_cons, reduceIte, Option.map_some, Nat.reduceEqDiff, Ret, and_self, hok, idxFrom]
    | cons s suf =>
      have hlt : (pre.length : Int) < l.length := by rw [← hp, List.length_append, List.length_cons]; omega
      have hidx : l[pre.length]? = some s := by rw [← hp]; simp
      repeat refine Ev.seq ?_
      refine Ev.region_S fun K hK => ?_
      first | refine S.q rfl rfl (q_lss_t rfl rfl (by first | omega | assumption)) ?_ | refine S.q rfl rfl (q_lss_f rfl rfl (by first | omega | assumption)) ?_ | refine S.q rfl rfl (q_lss rfl rfl) ?_
      refine S.end (hK _ ?_)
      clear hK K
      try show Ev _ _ _ _
      repeat refine Ev.seq ?_
      refine Ev.cond rfl (fun h => ?_) (fun h => ?_)
      rotate_left
      · cases h
      refine Ev.skip ?_
      show Ev _ _ _ _
      repeat refine Ev.seq ?_
      refine Ev.block ?_
      repeat refine Ev.seq ?_
      refine Ev.region_S fun K hK => ?_
      refine S.q rfl rfl (q_move rfl) ?_
      refine S.q rfl rfl (q_assign rfl) ?_
      refine S.end (hK _ ?_)
      clear hK K
      try show Ev _ _ _ _
      by_cases hv : v = s
      · repeat refine Ev.seq ?_
        refine Ev.region_S fun K hK => ?_
        refine S.q rfl rfl (q_move rfl) ?_
        refine S.q rfl rfl (q_move rfl) ?_
        refine S.q rfl rfl (q_move rfl) ?_
        first | refine S.q rfl rfl (q_ia am_el43 am_cl3 rfl rfl rfl rfl rfl (by first | omega | assumption) (by first | omega | assumption) rfl) ?_ | refine S.q rfl rfl (q_ias am_el43 am_cl3 rfl rfl rfl (by first | omega | assumption) (by first | (simp only [List.getElem?_map, Int.toNat_natCast, Nat.zero_add, Option.map_some, hidx]; rfl) | rfl)) ?_
        first | refine S.q rfl rfl (q_load1 am_ag3 rfl rfl) ?_ | refine S.q rfl rfl (q_load1 am_ag3 rfl (cells_adr rfl (by first | (simp only [List.getElem?_map, Int.toNat_natCast, Nat.zero_add, Option.map_some, hidx]; rfl) | rfl) rfl)) ?_
        first | refine S.q rfl rfl (q_eql_t rfl rfl (by first | omega | assumption)) ?_ | refine S.q rfl rfl (q_eql_f rfl rfl (by first | omega | assumption)) ?_ | refine S.q rfl rfl (q_eql rfl rfl) ?_
        refine S.end (hK _ ?_)
        clear hK K
        try show Ev _ _ _ _
        repeat refine Ev.seq ?_
        refine Ev.cond rfl (fun h => ?_) (fun h => ?_)
        rotate_left
        · cases h
        repeat refine Ev.seq ?_
        refine Ev.region_S fun K hK => ?_
        refine S.q rfl rfl (q_move rfl) ?_
        refine S.q rfl rfl (q_assign rfl) ?_
        refine S.end (hK _ ?_)
        clear hK K
        try show Ev _ _ _ _
        have hval : idxFrom v l 0 = pre.length := by rw [hok, idxFrom, if_pos hv]
        repeat refine Ev.seq ?_
        refine Ev.ret ?_
        refine ⟨[], List.nodup_nil, ?_⟩
        simp only [retP, resAV, packAV, renAV, renL, keepObjs, St.get, find_cons, reduceIte, Option.map_some, Nat.reduceEqDiff, Ret, and_self, hval]
      · repeat refine Ev.seq ?_
        refine Ev.region_S fun K hK => ?_
        refine S.q rfl rfl (q_move rfl) ?_
        refine S.q rfl rfl (q_move rfl) ?_
        refine S.q rfl rfl (q_move rfl) ?_
        first | refine S.q rfl rfl (q_ia am_el43 am_cl3 rfl rfl rfl rfl rfl (by first | omega | assumption) (by first | omega | assumption) rfl) ?_ | refine S.q rfl rfl (q_ias am_el43 am_cl3 rfl rfl rfl (by first | omega | assumption) (by first | (simp only [List.getElem?_map, Int.toNat_natCast, Nat.zero_add, Option.map_some, hidx]; rfl) | rfl)) ?_
        first | refine S.q rfl rfl (q_load1 am_ag3 rfl rfl) ?_ | refine S.q rfl rfl (q_load1 am_ag3 rfl (cells_adr rfl (by first | (simp only [List.getElem?_map, Int.toNat_natCast, Nat.zero_add, Option.map_some, hidx]; rfl) | rfl) rfl)) ?_
        first | refine S.q rfl rfl (q_eql_t rfl rfl (by first | omega | assumption)) ?_ | refine S.q rfl rfl (q_eql_f rfl rfl (by first | omega | assumption)) ?_ | refine S.q rfl rfl (q_eql rfl rfl) ?_
        refine S.end (hK _ ?_)
        clear hK K
        try show Ev _ _ _ _
        repeat refine Ev.seq ?_
        refine Ev.cond rfl (fun h => ?_) (fun h => ?_)
        · cases h
        refine Ev.skip ?_
        show Ev _ _ _ _
        repeat refine Ev.seq ?_
        refine Ev.region_S fun K hK => ?_
        refine S.q rfl rfl (q_add rfl rfl (by first | omega | assumption) (by first | omega | assumption)) ?_
        refine S.q rfl rfl (q_move rfl) ?_
        refine S.end (hK _ ?_)
        clear hK K
        try show Ev _ _ _ _
        refine ⟨⟨(pre ++ [s], suf), by rw [← hp]; simp, ?_⟩, by simp, ?_⟩
        · rw [hok, idxFrom, if_neg hv, List.length_append]
          rfl
        · refine Wk.ren [] List.nodup_nil ?_ rfl rfl rfl rfl (fun i hi => absurd hi (Nat.not_lt_zero i))
          simp only [slotsRen, renAV, argSlots, St.get, find_cons, reduceIte, Nat.reduceEqDiff, and_self, List.length_append, List.length_cons, List.length_nil, Nat.zero_add, Int.natCast_add, Int.cast_ofNat_Int]

theorem idxFrom_nonneg (v : Int) : ∀ (l : List Int) (k : Int), 0 ≤ k → (0 ≤ idxFrom v l k ↔ v ∈ l)
  | [], k, _ => by simp [idxFrom]
  | x :: l, k, hk => by
    unfold idxFrom
    split
    · rename_i h; simp [h, hk]
    · rename_i h; simp [h, idxFrom_nonneg v l (k + 1) (by omega)]

theorem contains_fun (l : List Int) (v : Int) (hlen : l.length ≤ 1000000) : Fun Try.prog 74 [.sh 1 (l.map intC), .lit (.int .i64 v)] (Ret (.lit (.bool (decide (v ∈ l)))) []) := by
  have hi := idxFrom_nonneg v l 0 (Int.le_refl _)
  refine Fun.of (nt := 9) (rs := [.tmp 4]) Try.func74 rfl rfl rfl rfl rfl ?_
  repeat refine Ev.seq ?_
  refine Ev.region_S fun K hK => ?_
  refine S.q rfl rfl (q_assign rfl) ?_
  refine S.end (hK _ ?_)
  clear hK K
  try show Ev _ _ _ _
  by_cases hv : v ∈ l
  · have h0 := hi.2 hv
    repeat refine Ev.seq ?_
    refine Ev.region_S fun K hK => ?_
    refine S.q rfl rfl (q_move rfl) ?_
    refine S.q rfl rfl (q_move rfl) ?_
    refine SeqL.call rfl rfl rfl rfl (index_fun l v hlen) (.inl rfl) (fun d h => by cases h; exact of_decide_eq_true rfl) ?_
    rintro v objs ⟨rfl, rfl⟩
    refine ⟨_, _, _, rfl, rfl, fun r ob h => fresh0 h, Nat.le_refl _, ?_⟩
    first | refine S.q rfl rfl (q_geq_t rfl rfl (by first | omega | assumption)) ?_ | refine S.q rfl rfl (q_geq_f rfl rfl (by first | omega | assumption)) ?_ | refine S.q rfl rfl (q_geq rfl rfl) ?_
    refine S.q rfl rfl (q_assign rfl) ?_
    refine S.end (hK _ ?_)
    clear hK K
    try show Ev _ _ _ _
    repeat refine Ev.seq ?_
    refine Ev.ret ?_
    refine ⟨[], List.nodup_nil, ?_⟩
    simp only [retP, resAV, packAV, renAV, renL, keepObjs, St.get, find_cons, reduceIte, Option.map_some, Nat.reduceEqDiff, Ret, and_self, hv, decide_true]
  · have h0 : ¬ 0 ≤ idxFrom v l 0 := fun h => hv (hi.1 h)
    repeat refine Ev.seq ?_
    refine Ev.region_S fun K hK => ?_
    refine S.q rfl rfl (q_move rfl) ?_
    refine S.q rfl rfl (q_move rfl) ?_
    refine SeqL.call rfl rfl rfl rfl (index_fun l v hlen) (.inl rfl) (fun d h => by cases h; exact of_decide_eq_true rfl) ?_
    rintro v objs ⟨rfl, rfl⟩
    refine ⟨_, _, _, rfl, rfl, fun r ob h => fresh0 h, Nat.le_refl _, ?_⟩
    first | refine S.q rfl rfl (q_geq_t rfl rfl (by first | omega | assumption)) ?_ | refine S.q rfl rfl (q_geq_f rfl rfl (by first | omega | assumption)) ?_ | refine S.q rfl rfl (q_geq rfl rfl) ?_
    refine S.q rfl rfl (q_assign rfl) ?_
    refine S.end (hK _ ?_)
    clear hK K
    try show Ev _ _ _ _
    repeat refine Ev.seq ?_
    refine Ev.ret ?_
    refine ⟨[], List.nodup_nil, ?_⟩
    simp only [retP, resAV, packAV, renAV, renL, keepObjs, St.get, find_cons, reduceIte, Option.map_some, Nat.reduceEqDiff, Ret, and_self, hv, decide_false]

def sizes : List Int := [6, 8, 10, 12, 16, 20, 25, 32, 40]

theorem sizes_fun : Fun Try.prog 28 [] (Ret (.als 0 0 9) [(0, ⟨true, 3, 1, sizes.map intC, true⟩)]) := by
  refine Fun.of (nt := 2) (rs := [.tmp 0]) Try.func28 rfl rfl rfl rfl rfl ?_
  repeat refine Ev.seq ?_
  refine Ev.region_S fun K hK => ?_
  refine S.q rfl rfl (q_assign rfl) ?_
  refine S.end (hK _ ?_)
  clear hK K
  try show Ev _ _ _ _
  repeat refine Ev.seq ?_
  refine Ev.region_S fun K hK => ?_
  first | refine S.new (q_buildSlice (cl := true) am_el43 am_ze3 am_cl3 rfl (by simp only [fillAV, rowsOf, cellsAV, splice, Value.oneCell', cond_true, cond_false, Option.bind_some, Option.map_some, List.getElem?_cons_zero, List.getElem?_cons_succ, List.length_cons, List.length_nil, List.take_succ_cons, List.take_zero, List.drop_succ_cons, List.drop_zero, List.nil_append, List.cons_append, List.append_nil, Nat.reduceAdd, beq_dec, ble_dec, Nat.reduceEqDiff, Nat.reduceLeDiff, decide_true, decide_false, Bool.and_self, Bool.and_true, Bool.true_and]; rfl) rfl rfl) rfl rfl ?_ | refine S.new (q_buildSlice (cl := false) am_el43 am_ze3 am_cl3 rfl (by simp only [fillAV, rowsOf, cellsAV, splice, Value.oneCell', cond_true, cond_false, Option.bind_some, Option.map_some, List.getElem?_cons_zero, List.getElem?_cons_succ, List.length_cons, List.length_nil, List.take_succ_cons, List.take_zero, List.drop_succ_cons, List.drop_zero, List.nil_append, List.cons_append, List.append_nil, Nat.reduceAdd, beq_dec, ble_dec, Nat.reduceEqDiff, Nat.reduceLeDiff, decide_true, decide_false, Bool.and_self, Bool.and_true, Bool.true_and]; rfl) rfl rfl) rfl rfl ?_
  refine S.q rfl rfl (q_assign rfl) ?_
  refine S.end (hK _ ?_)
  clear hK K
  try show Ev _ _ _ _
  repeat refine Ev.seq ?_
  refine Ev.ret ?_
  refine ⟨[0], by decide, ?_⟩
  simp only [retP, resAV, packAV, renAV, renL, keepObjs, renObj, pos_cons, pos_nil, Nat.reduceAdd, Nat.zero_add, List.cons_append, List.nil_append, List.append_nil, St.get, find_cons, reduceIte, Option.map_some, Option.bind_some, Nat.reduceEqDiff, Ret, and_self, sizes, intC, List.map_cons, List.map_nil]

theorem size_fun (d : Int) : Fun Try.prog 67 [.lit (.int .i64 d)] (Ret (.lit (.bool (decide (d ∈ sizes)))) []) := by
  refine Fun.of (nt := 6) (rs := [.tmp 2]) Try.func67 rfl rfl rfl rfl rfl ?_
  repeat refine Ev.seq ?_
  refine Ev.region_S fun K hK => ?_
  refine S.q rfl rfl (q_assign rfl) ?_
  refine S.end (hK _ ?_)
  clear hK K
  try show Ev _ _ _ _
  repeat refine Ev.seq ?_
  refine Ev.region_S fun K hK => ?_
  refine SeqL.call rfl rfl rfl rfl (sizes_fun) (.inl rfl) (fun d h => by cases h; exact of_decide_eq_true rfl) ?_
  rintro v objs ⟨rfl, rfl⟩
  refine ⟨_, _, _ + 1, rfl, rfl, fun r ob h => fresh1 h, Nat.le_succ _, ?_⟩
  refine S.q rfl rfl (q_move rfl) ?_
  refine SeqL.call rfl rfl rfl rfl (contains_fun sizes d (by decide)) (.inr (noSh_ret rfl)) (fun d h => by cases h; exact of_decide_eq_true rfl) ?_
  rintro v objs ⟨rfl, rfl⟩
  refine ⟨_, _, _, rfl, rfl, fun r ob h => fresh0 h, Nat.le_refl _, ?_⟩
  refine S.q rfl rfl (q_assign rfl) ?_
  refine S.end (hK _ ?_)
  clear hK K
  try show Ev _ _ _ _
  repeat refine Ev.seq ?_
  refine Ev.ret ?_
  refine ⟨[], List.nodup_nil, ?_⟩
  simp only [retP, resAV, packAV, renAV, renL, keepObjs, St.get, find_cons, reduceIte, Option.map_some, Nat.reduceEqDiff, Ret, and_self]
end Go.Proofs.Ytigjoaejncfmdaa
