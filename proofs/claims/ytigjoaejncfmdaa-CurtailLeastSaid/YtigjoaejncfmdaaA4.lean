-- TYPES 3 4
import Derived.Test.YtigjoaejncfmdaaA3
namespace Go.Proofs.Ytigjoaejncfmdaa
open Go Go.AM
set_option linter.unusedSimpArgs false
set_option maxRecDepth 100000
-- PP
theorem valid_t {l : List (Int × Int)} (h : OKSteps l) : Fun Try.prog 47 [.sh 2 (l.map stepC)] (Ret (.lit (.bool true)) []) := by
  have := valid_fun l
  rwa [decide_eq_true h] at this
theorem valid_f {l : List (Int × Int)} (h : ¬ OKSteps l) : Fun Try.prog 47 [.sh 2 (l.map stepC)] (Ret (.lit (.bool false)) []) := by
  have := valid_fun l
  rwa [decide_eq_false h] at this

def lastOK (l : List (Int × Int)) : Prop := ∀ s, l.getLast? = some s → s.2 = 0
instance (l) : Decidable (lastOK l) := by
  unfold lastOK
  cases h : l.getLast? with
  | none => exact .isTrue (by simp)
  | some s => exact decidable_of_iff (s.2 = 0) (by simp)

def sizeOK (d a : Int) : Prop := d ∈ sizes ∧ 0 ≤ a ∧ a ≤ 1048576
instance (d a) : Decidable (sizeOK d a) := by unfold sizeOK; infer_instance

/-- The error of a demand, a size and an anchorage length. -/
def givenE (l : List (Int × Int)) (d a : Int) : Int := if OKSteps l then (if sizeOK d a then (if lastOK l then 0 else 21) else 2) else 1
def givenA (l : List (Int × Int)) (d a : Int) : Int := if givenE l d a = 0 then areaOf d else 0

theorem Area_t {d : Int} (h : d ∈ sizes) : Fun Try.prog 26 [.lit (.int .i64 d)] (Ret (.tup [.lit (.int .i64 (areaOf d)), .lit (.int .i64 0)]) []) := by
  have := Area_fun d
  rwa [areaN, errN, if_pos h, if_pos h] at this
theorem Area_f {d : Int} (h : ¬ d ∈ sizes) : Fun Try.prog 26 [.lit (.int .i64 d)] (Ret (.tup [.lit (.int .i64 0), .lit (.int .i64 1)]) []) := by
  have := Area_fun d
  rwa [areaN, errN, if_neg h, if_neg h] at this

theorem given_fun (l : List (Int × Int)) (d a : Int) : Fun Try.prog 38 [.sh 2 (l.map stepC), .lit (.int .i64 d), .lit (.int .i64 a)] (Ret (.tup [.lit (.int .i64 (givenA l d a)), .lit (.int .i64 (givenE l d a))]) []) := by
  refine Fun.of (nt := 42) (rs := [.tmp 6, .tmp 7]) Try.func38 rfl rfl rfl rfl rfl ?_
  repeat refine Ev.seq ?_
  refine Ev.region_S fun K hK => ?_
  refine S.q rfl rfl (q_assign rfl) ?_
  refine S.q rfl rfl (q_assign rfl) ?_
  refine S.end (hK _ ?_)
  clear hK K
  try show Ev _ _ _ _
  by_cases hl : OKSteps l
  case neg =>
    have he : givenE l d a = 1 := if_neg hl
    have ha : givenA l d a = 0 := by unfold givenA; rw [he]; rfl
    repeat refine Ev.seq ?_
    refine Ev.region_S fun K hK => ?_
    refine S.q rfl rfl (q_move rfl) ?_
    refine SeqL.call rfl rfl rfl rfl (valid_f hl) (.inl rfl) (fun d h => by cases h; exact of_decide_eq_true rfl) ?_
    rintro v objs ⟨rfl, rfl⟩
    refine ⟨_, _, _, rfl, rfl, fun r ob h => fresh0 h, Nat.le_refl _, ?_⟩
    first | refine S.q rfl rfl (q_not_t rfl) ?_ | refine S.q rfl rfl (q_not_f rfl) ?_ | refine S.q rfl rfl (q_not rfl) ?_
    refine S.end (hK _ ?_)
    clear hK K
    try show Ev _ _ _ _
    repeat refine Ev.seq ?_
    refine Ev.cond rfl (fun h => ?_) (fun h => ?_)
    rotate_left
    · cases h
    repeat refine Ev.seq ?_
    refine Ev.region_S fun K hK => ?_
    refine S.q rfl rfl (q_assign rfl) ?_
    refine S.q rfl rfl (q_assign rfl) ?_
    refine S.end (hK _ ?_)
    clear hK K
    try show Ev _ _ _ _
    repeat refine Ev.seq ?_
    refine Ev.ret ?_
    refine ⟨[], List.nodup_nil, ?_⟩
    simp only [retP, resAV, packAV, renAV, renL, keepObjs, St.get, find_cons, reduceIte, Option.map_some, Nat.reduceEqDiff, Ret, and_self, he, ha]
  repeat refine Ev.seq ?_
  refine Ev.region_S fun K hK => ?_
  refine S.q rfl rfl (q_move rfl) ?_
  refine SeqL.call rfl rfl rfl rfl (valid_t hl) (.inl rfl) (fun d h => by cases h; exact of_decide_eq_true rfl) ?_
  rintro v objs ⟨rfl, rfl⟩
  refine ⟨_, _, _, rfl, rfl, fun r ob h => fresh0 h, Nat.le_refl _, ?_⟩
  first | refine S.q rfl rfl (q_not_t rfl) ?_ | refine S.q rfl rfl (q_not_f rfl) ?_ | refine S.q rfl rfl (q_not rfl) ?_
  refine S.end (hK _ ?_)
  clear hK K
  try show Ev _ _ _ _
  repeat refine Ev.seq ?_
  refine Ev.cond rfl (fun h => ?_) (fun h => ?_)
  · cases h
  refine Ev.skip ?_
  show Ev _ _ _ _
  by_cases hd : d ∈ sizes
  case neg =>
    have he : givenE l d a = 2 := by unfold givenE; rw [if_pos hl, if_neg (fun h => hd h.1)]
    have ha : givenA l d a = 0 := by unfold givenA; rw [he]; rfl
    repeat refine Ev.seq ?_
    refine Ev.region_S fun K hK => ?_
    refine S.q rfl rfl (q_move rfl) ?_
    refine SeqL.call rfl rfl rfl rfl (Area_f hd) (.inl rfl) (fun d h => by cases h; exact of_decide_eq_true rfl) ?_
    rintro v objs ⟨rfl, rfl⟩
    refine ⟨_, _, _, rfl, rfl, fun r ob h => fresh0 h, Nat.le_refl _, ?_⟩
    refine S.q rfl rfl (q_move rfl) ?_
    refine S.q rfl rfl (q_extract rfl rfl) ?_
    refine S.q rfl rfl (q_extract rfl rfl) ?_
    refine S.q rfl rfl (q_assign rfl) ?_
    refine S.q rfl rfl (q_assign rfl) ?_
    refine S.end (hK _ ?_)
    clear hK K
    try show Ev _ _ _ _
    repeat refine Ev.seq ?_
    refine Ev.region_S fun K hK => ?_
    refine S.q rfl rfl (q_move rfl) ?_
    first | refine S.q rfl rfl (q_neq_t rfl rfl (by first | omega | assumption)) ?_ | refine S.q rfl rfl (q_neq_f rfl rfl (by first | omega | assumption)) ?_ | refine S.q rfl rfl (q_neq rfl rfl) ?_
    refine S.q rfl rfl (q_move rfl) ?_
    first | refine S.skip rfl rfl ?_ | refine S.q rfl rfl (q_move rfl) ?_
    first | refine S.skip rfl rfl ?_ | refine S.q rfl rfl (q_lss_t rfl rfl (by first | omega | assumption)) ?_ | refine S.q rfl rfl (q_lss_f rfl rfl (by first | omega | assumption)) ?_ | refine S.q rfl rfl (q_lss rfl rfl) ?_
    first | refine S.q rfl rfl (q_pick_t rfl rfl) ?_ | refine S.q rfl rfl (q_pick_f rfl rfl) ?_
    refine S.q rfl rfl (q_move rfl) ?_
    first | refine S.skip rfl rfl ?_ | refine S.q rfl rfl (q_move rfl) ?_
    first | refine S.skip rfl rfl ?_ | refine S.q rfl rfl (q_gtr_t rfl rfl (by first | omega | assumption)) ?_ | refine S.q rfl rfl (q_gtr_f rfl rfl (by first | omega | assumption)) ?_ | refine S.q rfl rfl (q_gtr rfl rfl) ?_
    first | refine S.q rfl rfl (q_pick_t rfl rfl) ?_ | refine S.q rfl rfl (q_pick_f rfl rfl) ?_
    refine S.end (hK _ ?_)
    clear hK K
    try show Ev _ _ _ _
    repeat refine Ev.seq ?_
    refine Ev.cond rfl (fun h => ?_) (fun h => ?_)
    rotate_left
    · cases h
    repeat refine Ev.seq ?_
    refine Ev.region_S fun K hK => ?_
    refine S.q rfl rfl (q_assign rfl) ?_
    refine S.q rfl rfl (q_assign rfl) ?_
    refine S.end (hK _ ?_)
    clear hK K
    try show Ev _ _ _ _
    repeat refine Ev.seq ?_
    refine Ev.ret ?_
    refine ⟨[], List.nodup_nil, ?_⟩
    simp only [retP, resAV, packAV, renAV, renL, keepObjs, St.get, find_cons, reduceIte, Option.map_some, Nat.reduceEqDiff, Ret, and_self, he, ha]
  repeat refine Ev.seq ?_
  refine Ev.region_S fun K hK => ?_
  refine S.q rfl rfl (q_move rfl) ?_
  refine SeqL.call rfl rfl rfl rfl (Area_t hd) (.inl rfl) (fun d h => by cases h; exact of_decide_eq_true rfl) ?_
  rintro v objs ⟨rfl, rfl⟩
  refine ⟨_, _, _, rfl, rfl, fun r ob h => fresh0 h, Nat.le_refl _, ?_⟩
  refine S.q rfl rfl (q_move rfl) ?_
  refine S.q rfl rfl (q_extract rfl rfl) ?_
  refine S.q rfl rfl (q_extract rfl rfl) ?_
  refine S.q rfl rfl (q_assign rfl) ?_
  refine S.q rfl rfl (q_assign rfl) ?_
  refine S.end (hK _ ?_)
  clear hK K
  try show Ev _ _ _ _
  by_cases ha1 : a < 0
  · have he : givenE l d a = 2 := by unfold givenE; rw [if_pos hl, if_neg (fun h => by have := h.2.1; omega)]
    have ha : givenA l d a = 0 := by unfold givenA; rw [he]; rfl
    repeat refine Ev.seq ?_
    refine Ev.region_S fun K hK => ?_
    refine S.q rfl rfl (q_move rfl) ?_
    first | refine S.q rfl rfl (q_neq_t rfl rfl (by first | omega | assumption)) ?_ | refine S.q rfl rfl (q_neq_f rfl rfl (by first | omega | assumption)) ?_ | refine S.q rfl rfl (q_neq rfl rfl) ?_
    refine S.q rfl rfl (q_move rfl) ?_
    first | refine S.skip rfl rfl ?_ | refine S.q rfl rfl (q_move rfl) ?_
    first | refine S.skip rfl rfl ?_ | refine S.q rfl rfl (q_lss_t rfl rfl (by first | omega | assumption)) ?_ | refine S.q rfl rfl (q_lss_f rfl rfl (by first | omega | assumption)) ?_ | refine S.q rfl rfl (q_lss rfl rfl) ?_
    first | refine S.q rfl rfl (q_pick_t rfl rfl) ?_ | refine S.q rfl rfl (q_pick_f rfl rfl) ?_
    refine S.q rfl rfl (q_move rfl) ?_
    first | refine S.skip rfl rfl ?_ | refine S.q rfl rfl (q_move rfl) ?_
    first | refine S.skip rfl rfl ?_ | refine S.q rfl rfl (q_gtr_t rfl rfl (by first | omega | assumption)) ?_ | refine S.q rfl rfl (q_gtr_f rfl rfl (by first | omega | assumption)) ?_ | refine S.q rfl rfl (q_gtr rfl rfl) ?_
    first | refine S.q rfl rfl (q_pick_t rfl rfl) ?_ | refine S.q rfl rfl (q_pick_f rfl rfl) ?_
    refine S.end (hK _ ?_)
    clear hK K
    try show Ev _ _ _ _
    repeat refine Ev.seq ?_
    refine Ev.cond rfl (fun h => ?_) (fun h => ?_)
    rotate_left
    · cases h
    repeat refine Ev.seq ?_
    refine Ev.region_S fun K hK => ?_
    refine S.q rfl rfl (q_assign rfl) ?_
    refine S.q rfl rfl (q_assign rfl) ?_
    refine S.end (hK _ ?_)
    clear hK K
    try show Ev _ _ _ _
    repeat refine Ev.seq ?_
    refine Ev.ret ?_
    refine ⟨[], List.nodup_nil, ?_⟩
    simp only [retP, resAV, packAV, renAV, renL, keepObjs, St.get, find_cons, reduceIte, Option.map_some, Nat.reduceEqDiff, Ret, and_self, he, ha]
  by_cases ha2 : 1048576 < a
  · have he : givenE l d a = 2 := by unfold givenE; rw [if_pos hl, if_neg (fun h => by have := h.2.2; omega)]
    have ha : givenA l d a = 0 := by unfold givenA; rw [he]; rfl
    repeat refine Ev.seq ?_
    refine Ev.region_S fun K hK => ?_
    refine S.q rfl rfl (q_move rfl) ?_
    first | refine S.q rfl rfl (q_neq_t rfl rfl (by first | omega | assumption)) ?_ | refine S.q rfl rfl (q_neq_f rfl rfl (by first | omega | assumption)) ?_ | refine S.q rfl rfl (q_neq rfl rfl) ?_
    refine S.q rfl rfl (q_move rfl) ?_
    first | refine S.skip rfl rfl ?_ | refine S.q rfl rfl (q_move rfl) ?_
    first | refine S.skip rfl rfl ?_ | refine S.q rfl rfl (q_lss_t rfl rfl (by first | omega | assumption)) ?_ | refine S.q rfl rfl (q_lss_f rfl rfl (by first | omega | assumption)) ?_ | refine S.q rfl rfl (q_lss rfl rfl) ?_
    first | refine S.q rfl rfl (q_pick_t rfl rfl) ?_ | refine S.q rfl rfl (q_pick_f rfl rfl) ?_
    refine S.q rfl rfl (q_move rfl) ?_
    first | refine S.skip rfl rfl ?_ | refine S.q rfl rfl (q_move rfl) ?_
    first | refine S.skip rfl rfl ?_ | refine S.q rfl rfl (q_gtr_t rfl rfl (by first | omega | assumption)) ?_ | refine S.q rfl rfl (q_gtr_f rfl rfl (by first | omega | assumption)) ?_ | refine S.q rfl rfl (q_gtr rfl rfl) ?_
    first | refine S.q rfl rfl (q_pick_t rfl rfl) ?_ | refine S.q rfl rfl (q_pick_f rfl rfl) ?_
    refine S.end (hK _ ?_)
    clear hK K
    try show Ev _ _ _ _
    repeat refine Ev.seq ?_
    refine Ev.cond rfl (fun h => ?_) (fun h => ?_)
    rotate_left
    · cases h
    repeat refine Ev.seq ?_
    refine Ev.region_S fun K hK => ?_
    refine S.q rfl rfl (q_assign rfl) ?_
    refine S.q rfl rfl (q_assign rfl) ?_
    refine S.end (hK _ ?_)
    clear hK K
    try show Ev _ _ _ _
    repeat refine Ev.seq ?_
    refine Ev.ret ?_
    refine ⟨[], List.nodup_nil, ?_⟩
    simp only [retP, resAV, packAV, renAV, renL, keepObjs, St.get, find_cons, reduceIte, Option.map_some, Nat.reduceEqDiff, Ret, and_self, he, ha]
  have hsz : sizeOK d a := ⟨hd, by omega, by omega⟩
  repeat refine Ev.seq ?_
  refine Ev.region_S fun K hK => ?_
  refine S.q rfl rfl (q_move rfl) ?_
  first | refine S.q rfl rfl (q_neq_t rfl rfl (by first | omega | assumption)) ?_ | refine S.q rfl rfl (q_neq_f rfl rfl (by first | omega | assumption)) ?_ | refine S.q rfl rfl (q_neq rfl rfl) ?_
  refine S.q rfl rfl (q_move rfl) ?_
  first | refine S.skip rfl rfl ?_ | refine S.q rfl rfl (q_move rfl) ?_
  first | refine S.skip rfl rfl ?_ | refine S.q rfl rfl (q_lss_t rfl rfl (by first | omega | assumption)) ?_ | refine S.q rfl rfl (q_lss_f rfl rfl (by first | omega | assumption)) ?_ | refine S.q rfl rfl (q_lss rfl rfl) ?_
  first | refine S.q rfl rfl (q_pick_t rfl rfl) ?_ | refine S.q rfl rfl (q_pick_f rfl rfl) ?_
  refine S.q rfl rfl (q_move rfl) ?_
  first | refine S.skip rfl rfl ?_ | refine S.q rfl rfl (q_move rfl) ?_
  first | refine S.skip rfl rfl ?_ | refine S.q rfl rfl (q_gtr_t rfl rfl (by first | omega | assumption)) ?_ | refine S.q rfl rfl (q_gtr_f rfl rfl (by first | omega | assumption)) ?_ | refine S.q rfl rfl (q_gtr rfl rfl) ?_
  first | refine S.q rfl rfl (q_pick_t rfl rfl) ?_ | refine S.q rfl rfl (q_pick_f rfl rfl) ?_
  refine S.end (hK _ ?_)
  clear hK K
  try show Ev _ _ _ _
  repeat refine Ev.seq ?_
  refine Ev.cond rfl (fun h => ?_) (fun h => ?_)
  · cases h
  refine Ev.skip ?_
  show Ev _ _ _ _
  have hlen : l.length ≤ 200 := hl.1
  rcases List.eq_nil_or_concat l with hnil | ⟨l', q, hq⟩
  · subst hnil
    have he : givenE [] d a = 0 := by unfold givenE; rw [if_pos hl, if_pos hsz]; rfl
    have ha : givenA [] d a = areaOf d := by unfold givenA; rw [he]; rfl
    repeat refine Ev.seq ?_
    refine Ev.region_S fun K hK => ?_
    refine S.q rfl rfl (q_move rfl) ?_
    refine S.q rfl rfl (q_len am_el22 rfl (by simp only [lenAV, List.length_map]; rfl)) ?_
    first | refine S.q rfl rfl (q_gtr_t rfl rfl (by first | omega | assumption)) ?_ | refine S.q rfl rfl (q_gtr_f rfl rfl (by first | omega | assumption)) ?_ | refine S.q rfl rfl (q_gtr rfl rfl) ?_
    refine S.q rfl rfl (q_move rfl) ?_
    first | refine S.skip rfl rfl ?_ | refine S.q rfl rfl (q_move rfl) ?_
    first | refine S.skip rfl rfl ?_ | refine S.q rfl rfl (q_move rfl) ?_
    first | refine S.skip rfl rfl ?_ | refine S.q rfl rfl (q_len am_el22 rfl (by simp only [lenAV, List.length_map]; rfl)) ?_
    first | refine S.skip rfl rfl ?_ | refine S.q rfl rfl (q_sub rfl rfl (by first | omega | assumption) (by first | omega | assumption)) ?_
    first | refine S.skip rfl rfl ?_ | refine S.q rfl rfl (q_ia am_el22 am_cl57 rfl rfl rfl rfl rfl (by first | omega | assumption) (by first | omega | assumption) rfl) ?_ | refine S.q rfl rfl (q_ias am_el22 am_cl57 rfl rfl rfl (by first | omega | assumption) rfl) ?_
    first | refine S.skip rfl rfl ?_ | refine S.q rfl rfl (q_fa am_fi57_1 am_cl3 rfl rfl rfl) ?_ | refine S.q rfl rfl (q_fas am_fi57_1 am_cl3 rfl rfl rfl) ?_
    first | refine S.skip rfl rfl ?_ | refine S.q rfl rfl (q_load1 am_ag3 rfl rfl) ?_ | refine S.q rfl rfl (q_load1 am_ag3 rfl (cells_adr rfl rfl rfl)) ?_
    first | refine S.skip rfl rfl ?_ | refine S.q rfl rfl (q_neq_t rfl rfl (by first | omega | assumption)) ?_ | refine S.q rfl rfl (q_neq_f rfl rfl (by first | omega | assumption)) ?_ | refine S.q rfl rfl (q_neq rfl rfl) ?_
    first | refine S.q rfl rfl (q_pick_t rfl rfl) ?_ | refine S.q rfl rfl (q_pick_f rfl rfl) ?_
    refine S.end (hK _ ?_)
    clear hK K
    try show Ev _ _ _ _
    repeat refine Ev.seq ?_
    refine Ev.cond rfl (fun h => ?_) (fun h => ?_)
    · cases h
    refine Ev.skip ?_
    show Ev _ _ _ _
    repeat refine Ev.seq ?_
    refine Ev.region_S fun K hK => ?_
    refine S.q rfl rfl (q_move rfl) ?_
    refine S.q rfl rfl (q_assign rfl) ?_
    refine S.q rfl rfl (q_assign rfl) ?_
    refine S.end (hK _ ?_)
    clear hK K
    try show Ev _ _ _ _
    repeat refine Ev.seq ?_
    refine Ev.ret ?_
    refine ⟨[], List.nodup_nil, ?_⟩
    simp only [retP, resAV, packAV, renAV, renL, keepObjs, St.get, find_cons, reduceIte, Option.map_some, Nat.reduceEqDiff, Ret, and_self, he, ha]
  · rw [List.concat_eq_append] at hq
    have hpos : (0 : Int) < l.length := by rw [hq]; simp
    have hidx : l[((l.length : Int) - 1).toNat]? = some q := by rw [hq]; simp
    have hlast : l.getLast? = some q := by rw [hq]; simp
    by_cases h0 : q.2 = 0
    · have hok : lastOK l := fun s hs => by rw [hlast] at hs; cases hs; exact h0
      have he : givenE l d a = 0 := by unfold givenE; rw [if_pos hl, if_pos hsz, if_pos hok]
      have ha : givenA l d a = areaOf d := by unfold givenA; rw [he]; rfl
      repeat refine Ev.seq ?_
      refine Ev.region_S fun K hK => ?_
      refine S.q rfl rfl (q_move rfl) ?_
      refine S.q rfl rfl (q_len am_el22 rfl (by simp only [lenAV, List.length_map]; rfl)) ?_
      first | refine S.q rfl rfl (q_gtr_t rfl rfl (by first | omega | assumption)) ?_ | refine S.q rfl rfl (q_gtr_f rfl rfl (by first | omega | assumption)) ?_ | refine S.q rfl rfl (q_gtr rfl rfl) ?_
      refine S.q rfl rfl (q_move rfl) ?_
      first | refine S.skip rfl rfl ?_ | refine S.q rfl rfl (q_move rfl) ?_
      first | refine S.skip rfl rfl ?_ | refine S.q rfl rfl (q_move rfl) ?_
      first | refine S.skip rfl rfl ?_ | refine S.q rfl rfl (q_len am_el22 rfl (by simp only [lenAV, List.length_map]; rfl)) ?_
      first | refine S.skip rfl rfl ?_ | refine S.q rfl rfl (q_sub rfl rfl (by first | omega | assumption) (by first | omega | assumption)) ?_
      first | refine S.skip rfl rfl ?_ | refine S.q rfl rfl (q_ia am_el22 am_cl57 rfl rfl rfl rfl rfl (by first | omega | assumption) (by first | omega | assumption) rfl) ?_ | refine S.q rfl rfl (q_ias am_el22 am_cl57 rfl rfl rfl (by first | omega | assumption) (by first | (simp only [List.getElem?_map, Int.toNat_natCast, Nat.zero_add, Option.map_some, hidx]; rfl) | rfl)) ?_
      first | refine S.skip rfl rfl ?_ | refine S.q rfl rfl (q_fa am_fi57_1 am_cl3 rfl rfl rfl) ?_ | refine S.q rfl rfl (q_fas am_fi57_1 am_cl3 rfl rfl rfl) ?_
      first | refine S.skip rfl rfl ?_ | refine S.q rfl rfl (q_load1 am_ag3 rfl rfl) ?_ | refine S.q rfl rfl (q_load1 am_ag3 rfl (cells_adr rfl (by first | (simp only [List.getElem?_map, Int.toNat_natCast, Nat.zero_add, Option.map_some, hidx]; rfl) | rfl) rfl)) ?_
      first | refine S.skip rfl rfl ?_ | refine S.q rfl rfl (q_neq_t rfl rfl (by first | omega | assumption)) ?_ | refine S.q rfl rfl (q_neq_f rfl rfl (by first | omega | assumption)) ?_ | refine S.q rfl rfl (q_neq rfl rfl) ?_
      first | refine S.q rfl rfl (q_pick_t rfl rfl) ?_ | refine S.q rfl rfl (q_pick_f rfl rfl) ?_
      refine S.end (hK _ ?_)
      clear hK K
      try show Ev _ _ _ _
      repeat refine Ev.seq ?_
      refine Ev.cond rfl (fun h => ?_) (fun h => ?_)
      · cases h
      refine Ev.skip ?_
      show Ev _ _ _ _
      repeat refine Ev.seq ?_
      refine Ev.region_S fun K hK => ?_
      refine S.q rfl rfl (q_move rfl) ?_
      refine S.q rfl rfl (q_assign rfl) ?_
      refine S.q rfl rfl (q_assign rfl) ?_
      refine S.end (hK _ ?_)
      clear hK K
      try show Ev _ _ _ _
      repeat refine Ev.seq ?_
      refine Ev.ret ?_
      refine ⟨[], List.nodup_nil, ?_⟩
      simp only [retP, resAV, packAV, renAV, renL, keepObjs, St.get, find_cons, reduceIte, Option.map_some, Nat.reduceEqDiff, Ret, and_self, he, ha]
    · have hok : ¬ lastOK l := fun h => h0 (h q hlast)
      have he : givenE l d a = 21 := by unfold givenE; rw [if_pos hl, if_pos hsz, if_neg hok]
      have ha : givenA l d a = 0 := by unfold givenA; rw [he]; rfl
      repeat refine Ev.seq ?_
      refine Ev.region_S fun K hK => ?_
      refine S.q rfl rfl (q_move rfl) ?_
      refine S.q rfl rfl (q_len am_el22 rfl (by simp only [lenAV, List.length_map]; rfl)) ?_
      first | refine S.q rfl rfl (q_gtr_t rfl rfl (by first | omega | assumption)) ?_ | refine S.q rfl rfl (q_gtr_f rfl rfl (by first | omega | assumption)) ?_ | refine S.q rfl rfl (q_gtr rfl rfl) ?_
      refine S.q rfl rfl (q_move rfl) ?_
      first | refine S.skip rfl rfl ?_ | refine S.q rfl rfl (q_move rfl) ?_
      first | refine S.skip rfl rfl ?_ | refine S.q rfl rfl (q_move rfl) ?_
      first | refine S.skip rfl rfl ?_ | refine S.q rfl rfl (q_len am_el22 rfl (by simp only [lenAV, List.length_map]; rfl)) ?_
      first | refine S.skip rfl rfl ?_ | refine S.q rfl rfl (q_sub rfl rfl (by first | omega | assumption) (by first | omega | assumption)) ?_
      first | refine S.skip rfl rfl ?_ | refine S.q rfl rfl (q_ia am_el22 am_cl57 rfl rfl rfl rfl rfl (by first | omega | assumption) (by first | omega | assumption) rfl) ?_ | refine S.q rfl rfl (q_ias am_el22 am_cl57 rfl rfl rfl (by first | omega | assumption) (by first | (simp only [List.getElem?_map, Int.toNat_natCast, Nat.zero_add, Option.map_some, hidx]; rfl) | rfl)) ?_
      first | refine S.skip rfl rfl ?_ | refine S.q rfl rfl (q_fa am_fi57_1 am_cl3 rfl rfl rfl) ?_ | refine S.q rfl rfl (q_fas am_fi57_1 am_cl3 rfl rfl rfl) ?_
      first | refine S.skip rfl rfl ?_ | refine S.q rfl rfl (q_load1 am_ag3 rfl rfl) ?_ | refine S.q rfl rfl (q_load1 am_ag3 rfl (cells_adr rfl (by first | (simp only [List.getElem?_map, Int.toNat_natCast, Nat.zero_add, Option.map_some, hidx]; rfl) | rfl) rfl)) ?_
      first | refine S.skip rfl rfl ?_ | refine S.q rfl rfl (q_neq_t rfl rfl (by first | omega | assumption)) ?_ | refine S.q rfl rfl (q_neq_f rfl rfl (by first | omega | assumption)) ?_ | refine S.q rfl rfl (q_neq rfl rfl) ?_
      first | refine S.q rfl rfl (q_pick_t rfl rfl) ?_ | refine S.q rfl rfl (q_pick_f rfl rfl) ?_
      refine S.end (hK _ ?_)
      clear hK K
      try show Ev _ _ _ _
      repeat refine Ev.seq ?_
      refine Ev.cond rfl (fun h => ?_) (fun h => ?_)
      rotate_left
      · cases h
      repeat refine Ev.seq ?_
      refine Ev.region_S fun K hK => ?_
      refine S.q rfl rfl (q_assign rfl) ?_
      refine S.q rfl rfl (q_assign rfl) ?_
      refine S.end (hK _ ?_)
      clear hK K
      try show Ev _ _ _ _
      repeat refine Ev.seq ?_
      refine Ev.ret ?_
      refine ⟨[], List.nodup_nil, ?_⟩
      simp only [retP, resAV, packAV, renAV, renL, keepObjs, St.get, find_cons, reduceIte, Option.map_some, Nat.reduceEqDiff, Ret, and_self, he, ha]
end Go.Proofs.Ytigjoaejncfmdaa
