-- TYPES 3 4
import Derived.Test.YtigjoaejncfmdaaA2
import Derived.Test.YtigjoaejncfmdaaA1
namespace Go.Proofs.Ytigjoaejncfmdaa
open Go Go.AM
set_option linter.unusedSimpArgs false
set_option maxRecDepth 100000
-- PP
def areaOf (d : Int) : Int := (7854 * d * d + 50) / 100

theorem area_fun (d : Int) (h0 : 0 ≤ d) (h1 : d ≤ 1000) : Fun Try.prog 51 [.lit (.int .i64 d)] (Ret (.lit (.int .i64 (areaOf d))) []) := by
  have h2 : 0 ≤ 7854 * d * d := Int.mul_nonneg (by omega) h0
  have h3 : 7854 * d * d ≤ 7854 * 1000 * 1000 := Int.mul_le_mul (by omega) h1 h0 (by omega)
  have h4 : -9223372036854775808 ≤ 7854 * d * d := by omega
  have h5 : 7854 * d * d ≤ 9223372036854775807 := by omega
  refine Fun.of (nt := 9) (rs := [.tmp 2]) Try.func51 rfl rfl rfl rfl rfl ?_
  repeat refine Ev.seq ?_
  refine Ev.region_S fun K hK => ?_
  refine S.q rfl rfl (q_assign rfl) ?_
  refine S.end (hK _ ?_)
  clear hK K
  try show Ev _ _ _ _
  repeat refine Ev.seq ?_
  refine Ev.region_S fun K hK => ?_
  refine S.q rfl rfl (q_move rfl) ?_
  refine S.q rfl rfl (q_mul rfl rfl (by first | omega | assumption) (by first | omega | assumption)) ?_
  refine S.q rfl rfl (q_move rfl) ?_
  refine S.q rfl rfl (q_mul rfl rfl (by first | omega | assumption) (by first | omega | assumption)) ?_
  refine S.q rfl rfl (q_add rfl rfl (by first | omega | assumption) (by first | omega | assumption)) ?_
  refine S.q rfl rfl (q_quo rfl rfl (by first | omega | assumption) (by first | omega | assumption) (by first | omega | assumption)) ?_
  refine S.q rfl rfl (q_assign rfl) ?_
  refine S.end (hK _ ?_)
  clear hK K
  try show Ev _ _ _ _
  repeat refine Ev.seq ?_
  refine Ev.ret ?_
  refine ⟨[], List.nodup_nil, ?_⟩
  simp only [retP, resAV, packAV, renAV, renL, keepObjs, St.get, find_cons, reduceIte, Option.map_some, Nat.reduceEqDiff, Ret, and_self, areaOf]

theorem area1_fun (d : Int) (h0 : 0 ≤ d) (h1 : d ≤ 1000) : Fun Try.prog 50 [.sadr [.lit (.int .i64 d)] 0] (Ret (.lit (.int .i64 (areaOf d))) []) := by
  refine Fun.of (nt := 4) (rs := [.tmp 1]) Try.func50 rfl rfl rfl rfl rfl ?_
  repeat refine Ev.seq ?_
  refine Ev.region_S fun K hK => ?_
  refine S.q rfl rfl (q_assign rfl) ?_
  refine S.end (hK _ ?_)
  clear hK K
  try show Ev _ _ _ _
  repeat refine Ev.seq ?_
  refine Ev.region_S fun K hK => ?_
  first | refine S.q rfl rfl (q_load1 am_ag3 rfl rfl) ?_ | refine S.q rfl rfl (q_load1 am_ag3 rfl (cells_adr rfl rfl rfl)) ?_
  refine SeqL.call rfl rfl rfl rfl (area_fun d h0 h1) (.inl rfl) (fun d h => by cases h; exact of_decide_eq_true rfl) ?_
  rintro v objs ⟨rfl, rfl⟩
  refine ⟨_, _, _, rfl, rfl, fun r ob h => fresh0 h, Nat.le_refl _, ?_⟩
  refine S.q rfl rfl (q_assign rfl) ?_
  refine S.end (hK _ ?_)
  clear hK K
  try show Ev _ _ _ _
  repeat refine Ev.seq ?_
  refine Ev.ret ?_
  refine ⟨[], List.nodup_nil, ?_⟩
  simp only [retP, resAV, packAV, renAV, renL, keepObjs, St.get, find_cons, reduceIte, Option.map_some, Nat.reduceEqDiff, Ret, and_self]

theorem size_t {d : Int} (h : d ∈ sizes) : Fun Try.prog 67 [.lit (.int .i64 d)] (Ret (.lit (.bool true)) []) := by
  have := size_fun d
  rwa [decide_eq_true h] at this
theorem size_f {d : Int} (h : ¬ d ∈ sizes) : Fun Try.prog 67 [.lit (.int .i64 d)] (Ret (.lit (.bool false)) []) := by
  have := size_fun d
  rwa [decide_eq_false h] at this
theorem sizes_bd {d : Int} (h : d ∈ sizes) : 6 ≤ d ∧ d ≤ 40 := by
  simp only [sizes, List.mem_cons, List.not_mem_nil, or_false] at h
  omega

def errN (d : Int) : Int := if d ∈ sizes then 0 else 1
def areaN (d : Int) : Int := if d ∈ sizes then areaOf d else 0

theorem sized_fun (d : Int) : Fun Try.prog 49 [.lit (.int .i64 d), .fn (.func 50) [] [.sadr [.lit (.int .i64 d)] 0]] (Ret (.tup [.lit (.int .i64 (areaN d)), .lit (.int .i64 (errN d))]) []) := by
  refine Fun.of (nt := 11) (rs := [.tmp 4, .tmp 5]) Try.func49 rfl rfl rfl rfl rfl ?_
  repeat refine Ev.seq ?_
  refine Ev.region_S fun K hK => ?_
  refine S.q rfl rfl (q_assign rfl) ?_
  refine S.q rfl rfl (q_assign rfl) ?_
  refine S.end (hK _ ?_)
  clear hK K
  try show Ev _ _ _ _
  by_cases hd : d ∈ sizes
  · have hb := sizes_bd hd
    repeat refine Ev.seq ?_
    refine Ev.region_S fun K hK => ?_
    refine S.q rfl rfl (q_move rfl) ?_
    refine SeqL.call rfl rfl rfl rfl (size_t hd) (.inl rfl) (fun d h => by cases h; exact of_decide_eq_true rfl) ?_
    rintro v objs ⟨rfl, rfl⟩
    refine ⟨_, _, _, rfl, rfl, fun r ob h => fresh0 h, Nat.le_refl _, ?_⟩
    first | refine S.q rfl rfl (q_not_t rfl) ?_ | refine S.q rfl rfl (q_not_f rfl) ?_ | refine S.q rfl rfl (q_not rfl) ?_
    refine S.end (hK _ ?_)
    clear hK K
    try show Ev _ _ _ _
    repeat refine Ev.seq ?_
    refine Ev.cond rfl (fun h => ?_) (fun h => ?_)
    · cases h
    refine Ev.skip ?_
    show Ev _ _ _ _
    repeat refine Ev.seq ?_
    refine Ev.region_S fun K hK => ?_
    refine S.q rfl rfl (q_move rfl) ?_
    refine SeqL.call rfl rfl rfl rfl (area1_fun d (by omega) (by omega)) (.inl rfl) (fun d h => by cases h; exact of_decide_eq_true rfl) ?_
    rintro v objs ⟨rfl, rfl⟩
    refine ⟨_, _, _, rfl, rfl, fun r ob h => fresh0 h, Nat.le_refl _, ?_⟩
    refine S.q rfl rfl (q_assign rfl) ?_
    refine S.q rfl rfl (q_assign rfl) ?_
    refine S.end (hK _ ?_)
    clear hK K
    try show Ev _ _ _ _
    repeat refine Ev.seq ?_
    refine Ev.ret ?_
    refine ⟨[], List.nodup_nil, ?_⟩
    simp only [retP, resAV, packAV, renAV, renL, keepObjs, St.get, find_cons, reduceIte, Option.map_some, Nat.reduceEqDiff, Ret, and_self, areaN, errN, hd, if_true]
  · repeat refine Ev.seq ?_
    refine Ev.region_S fun K hK => ?_
    refine S.q rfl rfl (q_move rfl) ?_
    refine SeqL.call rfl rfl rfl rfl (size_f hd) (.inl rfl) (fun d h => by cases h; exact of_decide_eq_true rfl) ?_
    rintro v objs ⟨rfl, rfl⟩
    refine ⟨_, _, _, rfl, rfl, fun r ob h => fresh0 h, Nat.le_refl _, ?_⟩
    first | refine S.q rfl rfl (q_not_t rfl) ?_ | refine S.q rfl rfl (q_not_f rfl) ?_ | refine S.q rfl rfl (q_not rfl) ?_
    refine S.end (hK _ ?_)
    clear hK K
    try show Ev _ _ _ _
    repeat refine Ev.seq ?_
    refine Ev.cond rfl (fun h => ?_) (fun h => ?_)
    rotate_left
    · cases h
    repeat refine Ev.seq ?_
    refine Ev.region_S fun K hK => ?_
    refine S.q rfl rfl (q_assign rfl) ?_
    refine S.q rfl rfl (q_assign rfl) ?_
    refine S.end (hK _ ?_)
    clear hK K
    try show Ev _ _ _ _
    repeat refine Ev.seq ?_
    refine Ev.ret ?_
    refine ⟨[], List.nodup_nil, ?_⟩
    simp only [retP, resAV, packAV, renAV, renL, keepObjs, St.get, find_cons, reduceIte, Option.map_some, Nat.reduceEqDiff, Ret, and_self, areaN, errN, hd, if_false]

theorem Area_fun (d : Int) : Fun Try.prog 26 [.lit (.int .i64 d)] (Ret (.tup [.lit (.int .i64 (areaN d)), .lit (.int .i64 (errN d))]) []) := by
  refine Fun.of (nt := 9) (rs := [.tmp 2, .tmp 3]) Try.func26 rfl rfl rfl rfl rfl ?_
  repeat refine Ev.seq ?_
  refine Ev.region_S fun K hK => ?_
  first | refine S.new (q_box (cl := true) rfl rfl rfl rfl) rfl rfl ?_ | refine S.new (q_box (cl := false) rfl rfl rfl rfl) rfl rfl ?_
  refine S.q rfl rfl (q_assign rfl) ?_
  refine S.q rfl rfl (q_assign rfl) ?_
  refine S.end (hK _ ?_)
  clear hK K
  try show Ev _ _ _ _
  repeat refine Ev.seq ?_
  refine Ev.region_S fun K hK => ?_
  first | refine S.q rfl rfl (q_load1 am_ag3 rfl rfl) ?_ | refine S.q rfl rfl (q_load1 am_ag3 rfl (cells_adr rfl rfl rfl)) ?_
  refine S.q rfl rfl (q_makeFunc rfl rfl) ?_
  refine SeqL.call rfl rfl rfl rfl (sized_fun d) (.inr (noSh_ret rfl)) (fun d h => by cases h; exact of_decide_eq_true rfl) ?_
  rintro v objs ⟨rfl, rfl⟩
  refine ⟨_, _, _, rfl, rfl, fun r ob h => fresh0 h, Nat.le_refl _, ?_⟩
  refine S.q rfl rfl (q_extract rfl rfl) ?_
  refine S.q rfl rfl (q_extract rfl rfl) ?_
  refine S.q rfl rfl (q_assign rfl) ?_
  refine S.q rfl rfl (q_assign rfl) ?_
  refine S.end (hK _ ?_)
  clear hK K
  try show Ev _ _ _ _
  repeat refine Ev.seq ?_
  refine Ev.ret ?_
  refine ⟨[], List.nodup_nil, ?_⟩
  simp only [retP, resAV, packAV, renAV, renL, keepObjs, St.get, find_cons, reduceIte, Option.map_some, Nat.reduceEqDiff, Ret, and_self]
end Go.Proofs.Ytigjoaejncfmdaa
