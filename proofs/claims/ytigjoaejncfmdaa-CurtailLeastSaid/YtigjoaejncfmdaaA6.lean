-- TYPES 3 4
import Derived.Test.YtigjoaejncfmdaaA5
namespace Go.Proofs.Ytigjoaejncfmdaa
open Go Go.AM
set_option linter.unusedSimpArgs false
set_option maxRecDepth 100000
-- PP
def most : List (Int × Int) → Int → Int
  | [], m => m
  | s :: l, m => most l (max m s.2)
theorem most_append (l : List (Int × Int)) (s : Int × Int) : ∀ m, most (l ++ [s]) m = max (most l m) s.2 := by
  induction l with
  | nil => intro m; rfl
  | cons x l ih => intro m; exact ih _
theorem most_bd (l : List (Int × Int)) (hl : ∀ s ∈ l, 0 ≤ s.2 ∧ s.2 ≤ 1099511627776) : ∀ m, 0 ≤ m → m ≤ 1099511627776 → 0 ≤ most l m ∧ most l m ≤ 1099511627776 := by
  induction l with
  | nil => intro m h1 h2; exact ⟨h1, h2⟩
  | cons x l ih =>
    intro m h1 h2
    have := hl x (by simp)
    exact ih (fun s hs => hl s (by simp [hs])) _ (by omega) (by omega)

theorem okL_mem : ∀ {l : List (Int × Int)} {p : Option (Int × Int)}, okL p l → ∀ s ∈ l, Place s.1 ∧ 0 ≤ s.2 ∧ s.2 ≤ 1099511627776
  | [], _, _, s, hs => by simp at hs
  | x :: l, p, h, s, hs => by
    rcases List.mem_cons.1 hs with rfl | hs
    · exact ⟨h.1.1, h.1.2.1, h.1.2.2.1⟩
    · exact okL_mem h.2 s hs

theorem count_fun (l : List (Int × Int)) (a : Int) (ha : 1 ≤ a) (ha' : a ≤ 1000000) (hl : ∀ s ∈ l, 0 ≤ s.2 ∧ s.2 ≤ 1099511627776) (hlen : l.length ≤ 1000) :
    Fun Try.prog 39 [.sh 2 (l.map stepC), .lit (.int .i64 a)] (Ret (.lit (.int .i64 ((most l 0 + a - 1) / a))) []) := by
  refine Fun.of (nt := 25) (rs := [.tmp 4]) Try.func39 rfl rfl rfl rfl rfl ?_
  repeat refine Ev.seq ?_
  refine Ev.region_S fun K hK => ?_
  refine S.q rfl rfl (q_assign rfl) ?_
  refine S.end (hK _ ?_)
  clear hK K
  try show Ev _ _ _ _
  repeat refine Ev.seq ?_
  refine Ev.region_S fun K hK => ?_
  refine S.q rfl rfl (q_assign rfl) ?_
  refine S.end (hK _ ?_)
  clear hK K
  try show Ev _ _ _ _
  repeat refine Ev.seq ?_
  refine Ev.region_S fun K hK => ?_
  refine S.q rfl rfl (q_move rfl) ?_
  refine S.q rfl rfl (q_len am_el22 rfl (by simp only [lenAV, List.length_map]; rfl)) ?_
  refine S.q rfl rfl (q_move rfl) ?_
  refine S.end (hK _ ?_)
  clear hK K
  try show Ev _ _ _ _
  refine Ev.block (Ev.loop (ι := {p : List (Int × Int) × List (Int × Int) // p.1 ++ p.2 = l}) (fun p => ⟨[(1, .lit (.int .i64 a)), (5, .lit (.int .i64 (most p.1.1 0))), (8, .sh 2 (l.map stepC)), (9, .lit (.int .i64 l.length)), (10, .lit (.int .i64 p.1.1.length))], [], 0, 25, 0⟩)
    (fun p => p.1.2.length) ⟨([], l), rfl⟩ ?_ ?_)
  · refine Wk.ren [] List.nodup_nil ?_ rfl rfl rfl rfl (fun i hi => absurd hi (Nat.not_lt_zero i))
    simp only [slotsRen, renAV, argSlots, St.get, find_cons, reduceIte, Nat.reduceEqDiff, and_self, most, List.length_nil, Int.natCast_zero, Int.ofNat_zero, Int.cast_ofNat_Int]
  · rintro ⟨⟨pre, suf⟩, hp⟩
    simp only at hp
    dsimp only
    cases suf with
    | nil =>
      rw [List.append_nil] at hp
      subst hp
      have hb := most_bd pre hl 0 (by omega) (by omega)
      repeat refine Ev.seq ?_
      refine Ev.region_S fun K hK => ?_
      first | refine S.q rfl rfl (q_lss_t rfl rfl (by first | omega | assumption)) ?_ | refine S.q rfl rfl (q_lss_f rfl rfl (by first | omega | assumption)) ?_ | refine S.q rfl rfl (q_lss rfl rfl) ?_
      refine S.end (hK _ ?_)
      clear hK K
      try show Ev _ _ _ _
      repeat refine Ev.seq ?_
      refine Ev.cond rfl (fun h => ?_) (fun h => ?_)
      · cases h
      refine Ev.exit ?_
      show Ev _ _ _ _
      repeat refine Ev.seq ?_
      refine Ev.region_S fun K hK => ?_
      refine S.q rfl rfl (q_move rfl) ?_
      refine S.q rfl rfl (q_move rfl) ?_
      refine S.q rfl rfl (q_add rfl rfl (by first | omega | assumption) (by first | omega | assumption)) ?_
      refine S.q rfl rfl (q_sub rfl rfl (by first | omega | assumption) (by first | omega | assumption)) ?_
      refine S.q rfl rfl (q_move rfl) ?_
      refine S.q rfl rfl (q_quo rfl rfl (by first | omega | assumption) (by first | omega | assumption) (by first | omega | assumption)) ?_
      refine S.q rfl rfl (q_assign rfl) ?_
      refine S.end (hK _ ?_)
      clear hK K
      try show Ev _ _ _ _
      repeat refine Ev.seq ?_
      refine Ev.ret ?_
      refine ⟨[], List.nodup_nil, ?_⟩
      simp only [retP, resAV, packAV, renAV, renL, keepObjs, St.get, find_cons, reduceIte, Option.map_some, Nat.reduceEqDiff, Ret, and_self]
    | cons s suf =>
      have hlt : (pre.length : Int) < l.length := by rw [← hp, List.length_append, List.length_cons]; omega
      have hidx : l[pre.length]? = some s := by rw [← hp]; simp
      repeat refine Ev.seq ?_
      refine Ev.region_S fun K hK => ?_
      first | refine S.q rfl rfl (q_lss_t rfl rfl (by first | omega | assumption)) ?_ | refine S.q rfl rfl (q_lss_f rfl rfl (by first | omega | assumption)) ?_ | refine S.q rfl rfl (q_lss rfl rfl) ?_
      refine S.end (hK _ ?_)
      clear hK K
      try show Ev _ _ _ _
      repeat refine Ev.seq ?_
      refine Ev.cond rfl (fun h => ?_) (fun h => ?_)
      rotate_left
      · cases h
      refine Ev.skip ?_
      show Ev _ _ _ _
      repeat refine Ev.seq ?_
      refine Ev.block ?_
      repeat refine Ev.seq ?_
      refine Ev.region_S fun K hK => ?_
      first | refine S.q rfl rfl (q_ia am_el22 am_cl57 rfl rfl rfl rfl rfl (by first | omega | assumption) (by first | omega | assumption) rfl) ?_ | refine S.q rfl rfl (q_ias am_el22 am_cl57 rfl rfl rfl (by first | omega | assumption) (by first | (simp only [List.getElem?_map, Int.toNat_natCast, Nat.zero_add, Option.map_some, hidx]; rfl) | rfl)) ?_
      first | refine S.q rfl rfl (q_loadA am_ag57 am_cl57 rfl (cells_sadr0) rfl (take_all rfl)) ?_ | refine S.q rfl rfl (q_loadA am_ag57 am_cl57 rfl (cells_adr0 rfl (by first | (simp only [List.getElem?_map, Int.toNat_natCast, Nat.zero_add, Option.map_some, hidx]; rfl) | rfl)) rfl (take_all rfl)) ?_ | refine S.q rfl rfl (q_loadA am_ag57 am_cl57 rfl (cells_sadr (by (try simp only [splice, del_cons, del_nil, List.set_cons_zero, List.set_cons_succ, List.take_succ_cons, List.take_zero, List.drop_succ_cons, List.drop_zero, List.nil_append, List.cons_append, List.append_nil, List.length_cons, List.length_nil, Nat.reduceAdd, Nat.reduceEqDiff, reduceIte]); rfl)) rfl (by (try simp only [splice, del_cons, del_nil, List.set_cons_zero, List.set_cons_succ, List.take_succ_cons, List.take_zero, List.drop_succ_cons, List.drop_zero, List.nil_append, List.cons_append, List.append_nil, List.length_cons, List.length_nil, Nat.reduceAdd, Nat.reduceEqDiff, reduceIte]); rfl)) ?_ | refine S.q rfl rfl (q_loadA am_ag57 am_cl57 rfl (cells_adr rfl (by first | (simp only [List.getElem?_map, Int.toNat_natCast, Nat.zero_add, Option.map_some, hidx]; rfl) | rfl) (by (try simp only [splice, del_cons, del_nil, List.set_cons_zero, List.set_cons_succ, List.take_succ_cons, List.take_zero, List.drop_succ_cons, List.drop_zero, List.nil_append, List.cons_append, List.append_nil, List.length_cons, List.length_nil, Nat.reduceAdd, Nat.reduceEqDiff, reduceIte]); rfl)) rfl (by (try simp only [splice, del_cons, del_nil, List.set_cons_zero, List.set_cons_succ, List.take_succ_cons, List.take_zero, List.drop_succ_cons, List.drop_zero, List.nil_append, List.cons_append, List.append_nil, List.length_cons, List.length_nil, Nat.reduceAdd, Nat.reduceEqDiff, reduceIte]); rfl)) ?_
      refine S.new (q_alloc am_ze57 rfl) rfl rfl ?_
      first | refine S.st (cl' := true) rfl am_in57 am_cl57 rfl rfl rfl (by first | (simp only [List.getElem?_map, Int.toNat_natCast, Nat.zero_add, Option.map_some, hidx]; rfl) | rfl) rfl rfl (by (try simp only [splice, del_cons, del_nil, List.set_cons_zero, List.set_cons_succ, List.take_succ_cons, List.take_zero, List.drop_succ_cons, List.drop_zero, List.nil_append, List.cons_append, List.append_nil, List.length_cons, List.length_nil, Nat.reduceAdd, Nat.reduceEqDiff, reduceIte]); rfl) (by (try simp only [splice, del_cons, del_nil, List.set_cons_zero, List.set_cons_succ, List.take_succ_cons, List.take_zero, List.drop_succ_cons, List.drop_zero, List.nil_append, List.cons_append, List.append_nil, List.length_cons, List.length_nil, Nat.reduceAdd, Nat.reduceEqDiff, reduceIte]); rfl) rfl (by (try simp only [splice, del_cons, del_nil, List.set_cons_zero, List.set_cons_succ, List.take_succ_cons, List.take_zero, List.drop_succ_cons, List.drop_zero, List.nil_append, List.cons_append, List.append_nil, List.length_cons, List.length_nil, Nat.reduceAdd, Nat.reduceEqDiff, reduceIte]); rfl) ?_ | refine S.st (cl' := false) rfl am_in57 am_cl57 rfl rfl rfl (by first | (simp only [List.getElem?_map, Int.toNat_natCast, Nat.zero_add, Option.map_some, hidx]; rfl) | rfl) rfl rfl (by (try simp only [splice, del_cons, del_nil, List.set_cons_zero, List.set_cons_succ, List.take_succ_cons, List.take_zero, List.drop_succ_cons, List.drop_zero, List.nil_append, List.cons_append, List.append_nil, List.length_cons, List.length_nil, Nat.reduceAdd, Nat.reduceEqDiff, reduceIte]); rfl) (by (try simp only [splice, del_cons, del_nil, List.set_cons_zero, List.set_cons_succ, List.take_succ_cons, List.take_zero, List.drop_succ_cons, List.drop_zero, List.nil_append, List.cons_append, List.append_nil, List.length_cons, List.length_nil, Nat.reduceAdd, Nat.reduceEqDiff, reduceIte]); rfl) rfl (by (try simp only [splice, del_cons, del_nil, List.set_cons_zero, List.set_cons_succ, List.take_succ_cons, List.take_zero, List.drop_succ_cons, List.drop_zero, List.nil_append, List.cons_append, List.append_nil, List.length_cons, List.length_nil, Nat.reduceAdd, Nat.reduceEqDiff, reduceIte]); rfl) ?_
      refine S.end (hK _ ?_)
      clear hK K
      try show Ev _ _ _ _
      repeat refine Ev.seq ?_
      refine Ev.region_S fun K hK => ?_
      refine S.q rfl rfl (q_move rfl) ?_
      first | refine S.q rfl rfl (q_fa am_fi57_1 am_cl3 rfl rfl rfl) ?_ | refine S.q rfl rfl (q_fas am_fi57_1 am_cl3 rfl rfl rfl) ?_
      first | refine S.q rfl rfl (q_load1 am_ag3 rfl rfl) ?_ | refine S.q rfl rfl (q_load1 am_ag3 rfl (cells_adr rfl rfl rfl)) ?_
      refine S.q rfl rfl (q_max rfl rfl) ?_
      refine S.q rfl rfl (q_assign rfl) ?_
      refine S.end (hK _ ?_)
      clear hK K
      try show Ev _ _ _ _
      repeat refine Ev.seq ?_
      refine Ev.region_S fun K hK => ?_
      refine S.q rfl rfl (q_add rfl rfl (by first | omega | assumption) (by first | omega | assumption)) ?_
      refine S.q rfl rfl (q_move rfl) ?_
      refine S.end (hK _ ?_)
      clear hK K
      try show Ev _ _ _ _
      refine ⟨⟨(pre ++ [s], suf), by rw [← hp]; simp⟩, by simp, ?_⟩
      refine Wk.ren [] List.nodup_nil ?_ rfl rfl rfl rfl (fun i hi => absurd hi (Nat.not_lt_zero i))
      simp only [slotsRen, renAV, argSlots, St.get, find_cons, reduceIte, Nat.reduceEqDiff, and_self, most_append, List.length_append, List.length_cons, List.length_nil, Nat.zero_add, Int.natCast_add, Int.cast_ofNat_Int]

theorem given_t {l : List (Int × Int)} {d a : Int} (h : givenE l d a = 0) : Fun Try.prog 38 [.sh 2 (l.map stepC), .lit (.int .i64 d), .lit (.int .i64 a)] (Ret (.tup [.lit (.int .i64 (areaOf d)), .lit (.int .i64 0)]) []) := by
  have := given_fun l d a
  rwa [givenA, if_pos h, h] at this
theorem given_f {l : List (Int × Int)} {d a : Int} (h : ¬ givenE l d a = 0) : Fun Try.prog 38 [.sh 2 (l.map stepC), .lit (.int .i64 d), .lit (.int .i64 a)] (Ret (.tup [.lit (.int .i64 0), .lit (.int .i64 (givenE l d a))]) []) := by
  have := given_fun l d a
  rwa [givenA, if_neg h] at this

theorem givenE_zero {l : List (Int × Int)} {d a : Int} (h : givenE l d a = 0) : OKSteps l ∧ sizeOK d a ∧ lastOK l := by
  unfold givenE at h
  split at h
  · rename_i h1
    split at h
    · rename_i h2
      split at h
      · rename_i h3
        exact ⟨h1, h2, h3⟩
      · omega
    · omega
  · omega

theorem area_bd {d : Int} (h : d ∈ sizes) : 28 ≤ areaOf d ∧ areaOf d ≤ 125664 := by
  simp only [sizes, List.mem_cons, List.not_mem_nil, or_false] at h
  rcases h with h | h | h | h | h | h | h | h | h <;> subst h <;> decide

def leastN (l : List (Int × Int)) (d : Int) : Int := (most l 0 + areaOf d - 1) / areaOf d

theorem Least_t {l : List (Int × Int)} {d : Int} (h0 : givenE l d 0 = 0) : Fun Try.prog 19 [.sh 2 (l.map stepC), .lit (.int .i64 d)] (Ret (.tup [.lit (.int .i64 (leastN l d)), .lit (.int .i64 0)]) []) := by
  obtain ⟨hs, hz, _⟩ := givenE_zero h0
  have hb := area_bd hz.1
  refine Fun.of (nt := 20) (rs := [.tmp 4, .tmp 5]) Try.func19 rfl rfl rfl rfl rfl ?_
  repeat refine Ev.seq ?_
  refine Ev.region_S fun K hK => ?_
  refine S.q rfl rfl (q_assign rfl) ?_
  refine S.q rfl rfl (q_assign rfl) ?_
  refine S.end (hK _ ?_)
  clear hK K
  try show Ev _ _ _ _
  repeat refine Ev.seq ?_
  refine Ev.region_S fun K hK => ?_
  refine S.q rfl rfl (q_move rfl) ?_
  refine S.q rfl rfl (q_move rfl) ?_
  refine SeqL.call rfl rfl rfl rfl (given_t h0) (.inl rfl) (fun d h => by cases h; exact of_decide_eq_true rfl) ?_
  rintro v objs ⟨rfl, rfl⟩
  refine ⟨_, _, _, rfl, rfl, fun r ob h => fresh0 h, Nat.le_refl _, ?_⟩
  refine S.q rfl rfl (q_move rfl) ?_
  refine S.q rfl rfl (q_extract rfl rfl) ?_
  refine S.q rfl rfl (q_extract rfl rfl) ?_
  refine S.q rfl rfl (q_assign rfl) ?_
  refine S.q rfl rfl (q_assign rfl) ?_
  refine S.end (hK _ ?_)
  clear hK K
  try show Ev _ _ _ _
  repeat refine Ev.seq ?_
  refine Ev.region_S fun K hK => ?_
  refine S.q rfl rfl (q_move rfl) ?_
  first | refine S.q rfl rfl (q_neq_t rfl rfl (by first | omega | assumption)) ?_ | refine S.q rfl rfl (q_neq_f rfl rfl (by first | omega | assumption)) ?_ | refine S.q rfl rfl (q_neq rfl rfl) ?_
  refine S.end (hK _ ?_)
  clear hK K
  try show Ev _ _ _ _
  repeat refine Ev.seq ?_
  refine Ev.cond rfl (fun h => ?_) (fun h => ?_)
  · cases h
  refine Ev.skip ?_
  show Ev _ _ _ _
  repeat refine Ev.seq ?_
  refine Ev.region_S fun K hK => ?_
  refine S.q rfl rfl (q_move rfl) ?_
  refine S.q rfl rfl (q_move rfl) ?_
  refine SeqL.call rfl rfl rfl rfl (count_fun l (areaOf d) (by omega) (by omega) (fun s hs' => (okL_mem hs.2 s hs').2) (Nat.le_trans hs.1 (by decide))) (.inl rfl) (fun d h => by cases h; exact of_decide_eq_true rfl) ?_
  rintro v objs ⟨rfl, rfl⟩
  refine ⟨_, _, _, rfl, rfl, fun r ob h => fresh0 h, Nat.le_refl _, ?_⟩
  refine S.q rfl rfl (q_assign rfl) ?_
  refine S.q rfl rfl (q_assign rfl) ?_
  refine S.end (hK _ ?_)
  clear hK K
  try show Ev _ _ _ _
  repeat refine Ev.seq ?_
  refine Ev.ret ?_
  refine ⟨[], List.nodup_nil, ?_⟩
  simp only [retP, resAV, packAV, renAV, renL, keepObjs, St.get, find_cons, reduceIte, Option.map_some, Nat.reduceEqDiff, Ret, and_self, leastN]

theorem Least_f {l : List (Int × Int)} {d : Int} (h0 : ¬ givenE l d 0 = 0) : Fun Try.prog 19 [.sh 2 (l.map stepC), .lit (.int .i64 d)] (Ret (.tup [.lit (.int .i64 0), .lit (.int .i64 (givenE l d 0))]) []) := by
  refine Fun.of (nt := 20) (rs := [.tmp 4, .tmp 5]) Try.func19 rfl rfl rfl rfl rfl ?_
  repeat refine Ev.seq ?_
  refine Ev.region_S fun K hK => ?_
  refine S.q rfl rfl (q_assign rfl) ?_
  refine S.q rfl rfl (q_assign rfl) ?_
  refine S.end (hK _ ?_)
  clear hK K
  try show Ev _ _ _ _
  repeat refine Ev.seq ?_
  refine Ev.region_S fun K hK => ?_
  refine S.q rfl rfl (q_move rfl) ?_
  refine S.q rfl rfl (q_move rfl) ?_
  refine SeqL.call rfl rfl rfl rfl (given_f h0) (.inl rfl) (fun d h => by cases h; exact of_decide_eq_true rfl) ?_
  rintro v objs ⟨rfl, rfl⟩
  refine ⟨_, _, _, rfl, rfl, fun r ob h => fresh0 h, Nat.le_refl _, ?_⟩
  refine S.q rfl rfl (q_move rfl) ?_
  refine S.q rfl rfl (q_extract rfl rfl) ?_
  refine S.q rfl rfl (q_extract rfl rfl) ?_
  refine S.q rfl rfl (q_assign rfl) ?_
  refine S.q rfl rfl (q_assign rfl) ?_
  refine S.end (hK _ ?_)
  clear hK K
  try show Ev _ _ _ _
  repeat refine Ev.seq ?_
  refine Ev.region_S fun K hK => ?_
  refine S.q rfl rfl (q_move rfl) ?_
  first | refine S.q rfl rfl (q_neq_t rfl rfl (by first | omega | assumption)) ?_ | refine S.q rfl rfl (q_neq_f rfl rfl (by first | omega | assumption)) ?_ | refine S.q rfl rfl (q_neq rfl rfl) ?_
  refine S.end (hK _ ?_)
  clear hK K
  try show Ev _ _ _ _
  repeat refine Ev.seq ?_
  refine Ev.cond rfl (fun h => ?_) (fun h => ?_)
  rotate_left
  · cases h
  repeat refine Ev.seq ?_
  refine Ev.region_S fun K hK => ?_
  refine S.q rfl rfl (q_move rfl) ?_
  refine S.q rfl rfl (q_assign rfl) ?_
  refine S.q rfl rfl (q_assign rfl) ?_
  refine S.end (hK _ ?_)
  clear hK K
  try show Ev _ _ _ _
  repeat refine Ev.seq ?_
  refine Ev.ret ?_
  refine ⟨[], List.nodup_nil, ?_⟩
  simp only [retP, resAV, packAV, renAV, renL, keepObjs, St.get, find_cons, reduceIte, Option.map_some, Nat.reduceEqDiff, Ret, and_self]

theorem Level_f {l : List (Int × Int)} {d k : Int} (h0 : ¬ givenE l d 0 = 0) : Fun Try.prog 20 [.sh 2 (l.map stepC), .lit (.int .i64 d), .lit (.int .i64 k)] (Ret (.tup [.lit (.slice none 0 0), .lit (.int .i64 (givenE l d 0))]) []) := by
  refine Fun.of (nt := 31) (rs := [.tmp 6, .tmp 7]) Try.func20 rfl rfl rfl rfl rfl ?_
  repeat refine Ev.seq ?_
  refine Ev.region_S fun K hK => ?_
  refine S.q rfl rfl (q_assign rfl) ?_
  refine S.q rfl rfl (q_assign rfl) ?_
  refine S.end (hK _ ?_)
  clear hK K
  try show Ev _ _ _ _
  repeat refine Ev.seq ?_
  refine Ev.region_S fun K hK => ?_
  refine S.q rfl rfl (q_move rfl) ?_
  refine S.q rfl rfl (q_move rfl) ?_
  refine SeqL.call rfl rfl rfl rfl (given_f h0) (.inl rfl) (fun d h => by cases h; exact of_decide_eq_true rfl) ?_
  rintro v objs ⟨rfl, rfl⟩
  refine ⟨_, _, _, rfl, rfl, fun r ob h => fresh0 h, Nat.le_refl _, ?_⟩
  refine S.q rfl rfl (q_move rfl) ?_
  refine S.q rfl rfl (q_extract rfl rfl) ?_
  refine S.q rfl rfl (q_extract rfl rfl) ?_
  refine S.q rfl rfl (q_assign rfl) ?_
  refine S.q rfl rfl (q_assign rfl) ?_
  refine S.end (hK _ ?_)
  clear hK K
  try show Ev _ _ _ _
  repeat refine Ev.seq ?_
  refine Ev.region_S fun K hK => ?_
  refine S.q rfl rfl (q_move rfl) ?_
  first | refine S.q rfl rfl (q_neq_t rfl rfl (by first | omega | assumption)) ?_ | refine S.q rfl rfl (q_neq_f rfl rfl (by first | omega | assumption)) ?_ | refine S.q rfl rfl (q_neq rfl rfl) ?_
  refine S.end (hK _ ?_)
  clear hK K
  try show Ev _ _ _ _
  repeat refine Ev.seq ?_
  refine Ev.cond rfl (fun h => ?_) (fun h => ?_)
  rotate_left
  · cases h
  repeat refine Ev.seq ?_
  refine Ev.region_S fun K hK => ?_
  refine S.q rfl rfl (q_move rfl) ?_
  refine S.q rfl rfl (q_assign rfl) ?_
  refine S.q rfl rfl (q_assign rfl) ?_
  refine S.end (hK _ ?_)
  clear hK K
  try show Ev _ _ _ _
  repeat refine Ev.seq ?_
  refine Ev.ret ?_
  refine ⟨[], List.nodup_nil, ?_⟩
  simp only [retP, resAV, packAV, renAV, renL, keepObjs, St.get, find_cons, reduceIte, Option.map_some, Nat.reduceEqDiff, Ret, and_self]

theorem Level_r {l : List (Int × Int)} {d k : Int} (h0 : givenE l d 0 = 0) (hk : ¬ (1 ≤ k ∧ k ≤ 1000)) : Fun Try.prog 20 [.sh 2 (l.map stepC), .lit (.int .i64 d), .lit (.int .i64 k)] (Ret (.tup [.lit (.slice none 0 0), .lit (.int .i64 2)]) []) := by
  refine Fun.of (nt := 31) (rs := [.tmp 6, .tmp 7]) Try.func20 rfl rfl rfl rfl rfl ?_
  repeat refine Ev.seq ?_
  refine Ev.region_S fun K hK => ?_
  refine S.q rfl rfl (q_assign rfl) ?_
  refine S.q rfl rfl (q_assign rfl) ?_
  refine S.end (hK _ ?_)
  clear hK K
  try show Ev _ _ _ _
  repeat refine Ev.seq ?_
  refine Ev.region_S fun K hK => ?_
  refine S.q rfl rfl (q_move rfl) ?_
  refine S.q rfl rfl (q_move rfl) ?_
  refine SeqL.call rfl rfl rfl rfl (given_t h0) (.inl rfl) (fun d h => by cases h; exact of_decide_eq_true rfl) ?_
  rintro v objs ⟨rfl, rfl⟩
  refine ⟨_, _, _, rfl, rfl, fun r ob h => fresh0 h, Nat.le_refl _, ?_⟩
  refine S.q rfl rfl (q_move rfl) ?_
  refine S.q rfl rfl (q_extract rfl rfl) ?_
  refine S.q rfl rfl (q_extract rfl rfl) ?_
  refine S.q rfl rfl (q_assign rfl) ?_
  refine S.q rfl rfl (q_assign rfl) ?_
  refine S.end (hK _ ?_)
  clear hK K
  try show Ev _ _ _ _
  repeat refine Ev.seq ?_
  refine Ev.region_S fun K hK => ?_
  refine S.q rfl rfl (q_move rfl) ?_
  first | refine S.q rfl rfl (q_neq_t rfl rfl (by first | omega | assumption)) ?_ | refine S.q rfl rfl (q_neq_f rfl rfl (by first | omega | assumption)) ?_ | refine S.q rfl rfl (q_neq rfl rfl) ?_
  refine S.end (hK _ ?_)
  clear hK K
  try show Ev _ _ _ _
  repeat refine Ev.seq ?_
  refine Ev.cond rfl (fun h => ?_) (fun h => ?_)
  · cases h
  refine Ev.skip ?_
  show Ev _ _ _ _
  by_cases h1 : k < 1
  · repeat refine Ev.seq ?_
    refine Ev.region_S fun K hK => ?_
    refine S.q rfl rfl (q_move rfl) ?_
    first | refine S.q rfl rfl (q_lss_t rfl rfl (by first | omega | assumption)) ?_ | refine S.q rfl rfl (q_lss_f rfl rfl (by first | omega | assumption)) ?_ | refine S.q rfl rfl (q_lss rfl rfl) ?_
    refine S.q rfl rfl (q_move rfl) ?_
    first | refine S.skip rfl rfl ?_ | refine S.q rfl rfl (q_move rfl) ?_
    first | refine S.skip rfl rfl ?_ | refine S.q rfl rfl (q_gtr_t rfl rfl (by first | omega | assumption)) ?_ | refine S.q rfl rfl (q_gtr_f rfl rfl (by first | omega | assumption)) ?_ | refine S.q rfl rfl (q_gtr rfl rfl) ?_
    first | refine S.q rfl rfl (q_pick_t rfl rfl) ?_ | refine S.q rfl rfl (q_pick_f rfl rfl) ?_
    refine S.end (hK _ ?_)
    clear hK K
    try show Ev _ _ _ _
    repeat refine Ev.seq ?_
    refine Ev.cond rfl (fun h => ?_) (fun h => ?_)
    rotate_left
    · cases h
    repeat refine Ev.seq ?_
    refine Ev.region_S fun K hK => ?_
    refine S.q rfl rfl (q_assign rfl) ?_
    refine S.q rfl rfl (q_assign rfl) ?_
    refine S.end (hK _ ?_)
    clear hK K
    try show Ev _ _ _ _
    repeat refine Ev.seq ?_
    refine Ev.ret ?_
    refine ⟨[], List.nodup_nil, ?_⟩
    simp only [retP, resAV, packAV, renAV, renL, keepObjs, St.get, find_cons, reduceIte, Option.map_some, Nat.reduceEqDiff, Ret, and_self]
  · have h2 : 1000 < k := by omega
    repeat refine Ev.seq ?_
    refine Ev.region_S fun K hK => ?_
    refine S.q rfl rfl (q_move rfl) ?_
    first | refine S.q rfl rfl (q_lss_t rfl rfl (by first | omega | assumption)) ?_ | refine S.q rfl rfl (q_lss_f rfl rfl (by first | omega | assumption)) ?_ | refine S.q rfl rfl (q_lss rfl rfl) ?_
    refine S.q rfl rfl (q_move rfl) ?_
    first | refine S.skip rfl rfl ?_ | refine S.q rfl rfl (q_move rfl) ?_
    first | refine S.skip rfl rfl ?_ | refine S.q rfl rfl (q_gtr_t rfl rfl (by first | omega | assumption)) ?_ | refine S.q rfl rfl (q_gtr_f rfl rfl (by first | omega | assumption)) ?_ | refine S.q rfl rfl (q_gtr rfl rfl) ?_
    first | refine S.q rfl rfl (q_pick_t rfl rfl) ?_ | refine S.q rfl rfl (q_pick_f rfl rfl) ?_
    refine S.end (hK _ ?_)
    clear hK K
    try show Ev _ _ _ _
    repeat refine Ev.seq ?_
    refine Ev.cond rfl (fun h => ?_) (fun h => ?_)
    rotate_left
    · cases h
    repeat refine Ev.seq ?_
    refine Ev.region_S fun K hK => ?_
    refine S.q rfl rfl (q_assign rfl) ?_
    refine S.q rfl rfl (q_assign rfl) ?_
    refine S.end (hK _ ?_)
    clear hK K
    try show Ev _ _ _ _
    repeat refine Ev.seq ?_
    refine Ev.ret ?_
    refine ⟨[], List.nodup_nil, ?_⟩
    simp only [retP, resAV, packAV, renAV, renL, keepObjs, St.get, find_cons, reduceIte, Option.map_some, Nat.reduceEqDiff, Ret, and_self]

theorem Level_t {l : List (Int × Int)} {d k : Int} (h0 : givenE l d 0 = 0) (hk : 1 ≤ k ∧ k ≤ 1000) :
    Fun Try.prog 20 [.sh 2 (l.map stepC), .lit (.int .i64 d), .lit (.int .i64 k)] (Ret (.tup [.als 0 0 (levGo ((k - 1) * areaOf d) l []).length, .lit (.int .i64 0)]) [(0, ⟨true, 36, 2, (levGo ((k - 1) * areaOf d) l []).map stepC, true⟩)]) := by
  obtain ⟨hs, hz, hlast⟩ := givenE_zero h0
  have hb := area_bd hz.1
  have hm0 : 0 ≤ (k - 1) * areaOf d := Int.mul_nonneg (by omega) (by omega)
  have hm1 : (k - 1) * areaOf d ≤ 999 * 125664 := Int.mul_le_mul (by omega) hb.2 (by omega) (by omega)
  have hm2 : -9223372036854775808 ≤ (k - 1) * areaOf d := by omega
  have hm3 : (k - 1) * areaOf d ≤ 9223372036854775807 := by omega
  refine Fun.of (nt := 31) (rs := [.tmp 6, .tmp 7]) Try.func20 rfl rfl rfl rfl rfl ?_
  repeat refine Ev.seq ?_
  refine Ev.region_S fun K hK => ?_
  refine S.q rfl rfl (q_assign rfl) ?_
  refine S.q rfl rfl (q_assign rfl) ?_
  refine S.end (hK _ ?_)
  clear hK K
  try show Ev _ _ _ _
  repeat refine Ev.seq ?_
  refine Ev.region_S fun K hK => ?_
  refine S.q rfl rfl (q_move rfl) ?_
  refine S.q rfl rfl (q_move rfl) ?_
  refine SeqL.call rfl rfl rfl rfl (given_t h0) (.inl rfl) (fun d h => by cases h; exact of_decide_eq_true rfl) ?_
  rintro v objs ⟨rfl, rfl⟩
  refine ⟨_, _, _, rfl, rfl, fun r ob h => fresh0 h, Nat.le_refl _, ?_⟩
  refine S.q rfl rfl (q_move rfl) ?_
  refine S.q rfl rfl (q_extract rfl rfl) ?_
  refine S.q rfl rfl (q_extract rfl rfl) ?_
  refine S.q rfl rfl (q_assign rfl) ?_
  refine S.q rfl rfl (q_assign rfl) ?_
  refine S.end (hK _ ?_)
  clear hK K
  try show Ev _ _ _ _
  repeat refine Ev.seq ?_
  refine Ev.region_S fun K hK => ?_
  refine S.q rfl rfl (q_move rfl) ?_
  first | refine S.q rfl rfl (q_neq_t rfl rfl (by first | omega | assumption)) ?_ | refine S.q rfl rfl (q_neq_f rfl rfl (by first | omega | assumption)) ?_ | refine S.q rfl rfl (q_neq rfl rfl) ?_
  refine S.end (hK _ ?_)
  clear hK K
  try show Ev _ _ _ _
  repeat refine Ev.seq ?_
  refine Ev.cond rfl (fun h => ?_) (fun h => ?_)
  · cases h
  refine Ev.skip ?_
  show Ev _ _ _ _
  repeat refine Ev.seq ?_
  refine Ev.region_S fun K hK => ?_
  refine S.q rfl rfl (q_move rfl) ?_
  first | refine S.q rfl rfl (q_lss_t rfl rfl (by first | omega | assumption)) ?_ | refine S.q rfl rfl (q_lss_f rfl rfl (by first | omega | assumption)) ?_ | refine S.q rfl rfl (q_lss rfl rfl) ?_
  refine S.q rfl rfl (q_move rfl) ?_
  first | refine S.skip rfl rfl ?_ | refine S.q rfl rfl (q_move rfl) ?_
  first | refine S.skip rfl rfl ?_ | refine S.q rfl rfl (q_gtr_t rfl rfl (by first | omega | assumption)) ?_ | refine S.q rfl rfl (q_gtr_f rfl rfl (by first | omega | assumption)) ?_ | refine S.q rfl rfl (q_gtr rfl rfl) ?_
  first | refine S.q rfl rfl (q_pick_t rfl rfl) ?_ | refine S.q rfl rfl (q_pick_f rfl rfl) ?_
  refine S.end (hK _ ?_)
  clear hK K
  try show Ev _ _ _ _
  repeat refine Ev.seq ?_
  refine Ev.cond rfl (fun h => ?_) (fun h => ?_)
  · cases h
  refine Ev.skip ?_
  show Ev _ _ _ _
  repeat refine Ev.seq ?_
  refine Ev.region_S fun K hK => ?_
  refine S.q rfl rfl (q_move rfl) ?_
  refine S.q rfl rfl (q_move rfl) ?_
  refine S.q rfl rfl (q_sub rfl rfl (by first | omega | assumption) (by first | omega | assumption)) ?_
  refine S.q rfl rfl (q_move rfl) ?_
  refine S.q rfl rfl (q_mul rfl rfl (by first | omega | assumption) (by first | omega | assumption)) ?_
  refine SeqL.call rfl rfl rfl rfl (level_fun l ((k - 1) * areaOf d) hs.1 hlast hm0) (.inl rfl) (fun d h => by cases h; exact of_decide_eq_true rfl) ?_
  rintro v objs ⟨rfl, rfl⟩
  refine ⟨_, _, _ + 1, rfl, rfl, fun r ob h => fresh1 h, Nat.le_succ _, ?_⟩
  refine S.q rfl rfl (q_assign rfl) ?_
  refine S.q rfl rfl (q_assign rfl) ?_
  refine S.end (hK _ ?_)
  clear hK K
  try show Ev _ _ _ _
  repeat refine Ev.seq ?_
  refine Ev.ret ?_
  refine ⟨[0], by decide, ?_⟩
  simp only [retP, resAV, packAV, renAV, renL, keepObjs, renObj, pos_cons, pos_nil, Nat.reduceAdd, Nat.zero_add, List.cons_append, List.nil_append, List.append_nil, St.get, find_cons, reduceIte, Option.map_some, Option.bind_some, Nat.reduceEqDiff, Ret, and_self]
end Go.Proofs.Ytigjoaejncfmdaa
