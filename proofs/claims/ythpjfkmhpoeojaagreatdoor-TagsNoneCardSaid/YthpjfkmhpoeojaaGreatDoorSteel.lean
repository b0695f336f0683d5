/-
  Layer 11: sizes and areas.
  Conditions: none.
-/
import Derived.Test.YthpjfkmhpoeojaaGreatDoorBase
namespace Go.Proofs.YthpjfkmhpoeojaaGreatDoor
open Go Go.AM
set_option linter.unusedSimpArgs false
set_option linter.unusedVariables false
set_option maxRecDepth 100000
def sizes : List Int := [6, 8, 10, 12, 16, 20, 25, 32, 40]
theorem size_bd {d : Int} (h : d ∈ sizes) : 6 ≤ d ∧ d ≤ 40 := by
  simp only [sizes, List.mem_cons, List.not_mem_nil, or_false] at h; omega
def idxI (l : List Int) (v : Int) : Int := idxP (fun x => decide (v = x)) l 0
theorem index_fun (l : List Int) (v : Int) (hlen : l.length ≤ 140737488355328) : Fun Tryz.prog 97 [.sh 1 (l.map intC), .lit (.int .i64 v)] (Ret (.lit (.int .i64 (idxI l v))) []) := by
  unfold idxI
  refine Fun.of (nt := 19) (rs := [.tmp 4]) Tryz.func97 rfl rfl rfl rfl rfl ?_; refine Ev.sr fun K hK => S.o q.as (S.end (hK _ ?_)); clear hK K; refine Ev.seq ?_; refine Ev.sr fun K hK => S.o q.mv (S.o (q.lens am_el54) (S.o q.mv (S.end (hK _ ?_)))); clear hK K; refine Ev.block ?_; refine Ev.loopU (ι := {q : List Int × List Int // q.1 ++ q.2 = l ∧ ∀ x ∈ q.1, decide (v = x) = false}) [] [0, 1, 7] (fun ⟨(pre, suf), _⟩ => [(8, .lit (.int .i64 ((pre.length : Int))))]) (fun ⟨(pre, suf), _⟩ => []) (fun ⟨(pre, suf), _⟩ => suf.length) ⟨([], l), rfl, fun x hx => by simp at hx⟩ (.c (.c (.c .n))) keep_n (slots_c (he := (by first | rfl | (simp; done) | (congr 2; omega))) (h := trivial)) ?_; rintro ⟨⟨pre, suf⟩, hp, hinv⟩ R0 hR0; dsimp only [List.cons_append, List.nil_append, List.length_cons, List.length_nil]
  simp only at hp hinv
  have hpl : pre.length + suf.length = (l).length := by rw [← hp, List.length_append]
  rcases suf with _ | ⟨s, suf⟩
  · rw [List.append_nil] at hp; subst hp; simp only [List.length_nil] at hpl; refine Ev.sr fun K hK => S.o q.lss (S.end (hK _ ?_)); clear hK K; refine Ev.ud (fun c1 => ?_) (fun c1 => ?_)
    · first
    | omega | contradiction
    | refine Ev.seq ?_; refine Ev.block ?_; refine Ev.sr fun K hK => S.o q.mv (S.o q.as (S.end (hK _ ?_))); clear hK K; refine Ev.sr fun K hK => S.o q.mv (S.o q.mv (S.o q.mv (S.o (q.ix am_el54 am_cl3 (hl := (by first | exact atig (by omega)))) (S.o (q.ls am_ag3) (S.o q.eql (S.end (hK _ ?_))))))); clear hK K; refine Ev.cd (fun c2 => ?_) (fun c2 => ?_)
      · first
      | omega | contradiction
      | refine Ev.sr fun K hK => S.o q.mv (S.o q.as (S.end (hK _ ?_))); clear hK K; refine Ev.ret ?_; refine hR0 _ _ ?_; refine Ev.ret1 ?_; refine ⟨?_, rfl⟩
        first | (congr 2; rw [← hp, idxP_append _ pre _ 0 hinv, idxP, if_pos (decide_eq_true ‹_›)]; omega) | (congr 2; rw [idxP_none _ pre 0 hinv])
      · first
      | omega | contradiction
      | refine Ev.skip ?_; show Ev _ _ _ _; refine Ev.region_S fun K hK => S.o q.add (S.o q.mv (S.end (hK _ ?_))); clear hK K; refine hR0 _ _ ?_; refine roundU [] [0, 1, 7] ⟨(pre ++ [s], suf), by rw [← hp]; simp, ?_⟩ ?_ keep_n (slots_c (he := (by first | rfl | (simp; done) | (congr 2; omega))) (h := trivial)) (.c (.c (.c .n)))
        intro x hx; simp only [List.mem_append, List.mem_singleton] at hx; rcases hx with hx | rfl
        · exact hinv x hx
        · exact decide_eq_false ‹_›
        all_goals (dsimp only; simp only [List.length_cons]; omega)
    · first
    | omega | contradiction
    | refine Ev.exit ?_; refine hR0 _ _ ?_; show Ev _ _ _ _; refine Ev.sr fun K hK => S.o q.as (S.end (hK _ ?_)); clear hK K; refine Ev.ret ?_; refine Ev.ret1 ?_; refine ⟨?_, rfl⟩
      first | (congr 2; rw [← hp, idxP_append _ pre _ 0 hinv, idxP, if_pos (decide_eq_true ‹_›)]; omega) | (congr 2; rw [idxP_none _ pre 0 hinv])
  · simp only [List.length_cons] at hpl
    have hidx : (l)[pre.length]? = some s := by rw [← hp]; simp
    refine Ev.sr fun K hK => S.o q.lss (S.end (hK _ ?_)); clear hK K; refine Ev.ud (fun c3 => ?_) (fun c3 => ?_)
    · first
    | omega | contradiction
    | refine Ev.seq ?_; refine Ev.block ?_; refine Ev.sr fun K hK => S.o q.mv (S.o q.as (S.end (hK _ ?_))); clear hK K; refine Ev.sr fun K hK => S.o q.mv (S.o q.mv (S.o q.mv (S.o (q.ix am_el54 am_cl3 (hl := (by first | exact ati hidx (by omega) | exact atig (by omega)))) (S.o (q.ls am_ag3) (S.o q.eql (S.end (hK _ ?_))))))); clear hK K; refine Ev.cd (fun c4 => ?_) (fun c4 => ?_)
      · first
      | omega | contradiction
      | refine Ev.sr fun K hK => S.o q.mv (S.o q.as (S.end (hK _ ?_))); clear hK K; refine Ev.ret ?_; refine hR0 _ _ ?_; refine Ev.ret1 ?_; refine ⟨?_, rfl⟩
        first | (congr 2; rw [← hp, idxP_append _ pre _ 0 hinv, idxP, if_pos (decide_eq_true ‹_›)]; omega) | (congr 2; rw [idxP_none _ pre 0 hinv])
      · first
      | omega | contradiction
      | refine Ev.skip ?_; show Ev _ _ _ _; refine Ev.region_S fun K hK => S.o q.add (S.o q.mv (S.end (hK _ ?_))); clear hK K; refine hR0 _ _ ?_; refine roundU [] [0, 1, 7] ⟨(pre ++ [s], suf), by rw [← hp]; simp, ?_⟩ ?_ keep_n (slots_c (he := (by first | rfl | (simp; done) | (congr 2; omega))) (h := trivial)) (.c (.c (.c .n)))
        intro x hx; simp only [List.mem_append, List.mem_singleton] at hx; rcases hx with hx | rfl
        · exact hinv x hx
        · exact decide_eq_false ‹_›
        all_goals (dsimp only; simp only [List.length_cons]; omega)
    · first
    | omega | contradiction
    | refine Ev.exit ?_; refine hR0 _ _ ?_; show Ev _ _ _ _; refine Ev.sr fun K hK => S.o q.as (S.end (hK _ ?_)); clear hK K; refine Ev.ret ?_; refine Ev.ret1 ?_; refine ⟨?_, rfl⟩
      first | (congr 2; rw [← hp, idxP_append _ pre _ 0 hinv, idxP, if_pos (decide_eq_true ‹_›)]; omega) | (congr 2; rw [idxP_none _ pre 0 hinv])
theorem contains_fun (l : List Int) (v : Int) (hlen : l.length ≤ 140737488355328) : Fun Tryz.prog 83 [.sh 1 (l.map intC), .lit (.int .i64 v)] (Ret (.lit (.bool (decide (v ∈ l)))) []) := by
  have hd : decide (v ∈ l) = decide (0 ≤ idxI l v) := by
    rw [decide_eq_decide, idxI, idxP_nonneg _ l 0 (Int.le_refl _)]
    constructor
    · intro h; exact ⟨v, h, by simp⟩
    · rintro ⟨x, hx, h⟩; rw [of_decide_eq_true h]; exact hx
  rw [hd]; refine Fun.of (nt := 9) (rs := [.tmp 4]) Tryz.func83 rfl rfl rfl rfl rfl ?_; refine Ev.sr fun K hK => S.o q.as (S.end (hK _ ?_)); clear hK K; refine Ev.sr fun K hK => S.o q.mv (S.o q.mv (S.c0 (hF := index_fun _ _ (by omega)) (h := S.o q.geq (S.o q.as (S.end (hK _ ?_)))))); clear hK K; refine Ev.ret ?_; refine Ev.ret1 ?_; refine ⟨?_, rfl⟩; rfl
theorem sizes_fun : Fun Tryz.prog 84 [] (Ret (.sh 1 (sizes.map intC)) []) := by
  refine Fun.of (nt := 2) (rs := [.tmp 0]) Tryz.func84 rfl rfl rfl rfl rfl ?_; refine Ev.sr fun K hK => S.o q.as (S.end (hK _ ?_)); clear hK K; refine Ev.sr fun K hK => S.nn (q.bs [[_], [_], [_], [_], [_], [_], [_], [_], [_]] true am_el54 am_ze3 am_cl3) (S.o q.as (S.end (hK _ ?_))); clear hK K; refine Ev.weaken (Wk.frzl (f := intC) [_, _, _, _, _, _, _, _, _] 0 []) ?_; refine Ev.ret ?_; refine Ev.ret1 ?_; refine ⟨?_, rfl⟩; rfl
theorem rsizes_fun : Fun Tryz.prog 95 [] (Ret (.sh 1 (sizes.map intC)) []) := by
  refine Fun.of (nt := 2) (rs := [.tmp 0]) Tryz.func95 rfl rfl rfl rfl rfl ?_; refine Ev.sr fun K hK => S.o q.as (S.end (hK _ ?_)); clear hK K; refine Ev.sr fun K hK => S.nn (q.bs [[_], [_], [_], [_], [_], [_], [_], [_], [_]] true am_el54 am_ze3 am_cl3) (S.o q.as (S.end (hK _ ?_))); clear hK K; refine Ev.weaken (Wk.frzl (f := intC) [_, _, _, _, _, _, _, _, _] 0 []) ?_; refine Ev.ret ?_; refine Ev.ret1 ?_; refine ⟨?_, rfl⟩; rfl
theorem size_fun (d : Int) : Fun Tryz.prog 67 [.lit (.int .i64 d)] (Ret (.lit (.bool (decide (d ∈ sizes)))) []) := by
  refine Fun.of (nt := 6) (rs := [.tmp 2]) Tryz.func67 rfl rfl rfl rfl rfl ?_; refine Ev.sr fun K hK => S.o q.as (S.end (hK _ ?_)); clear hK K; refine Ev.sr fun K hK => S.c0 (hF := sizes_fun) (h := S.o q.mv (S.c0 (hF := contains_fun _ _ (by decide)) (h := S.o q.as (S.end (hK _ ?_))))); clear hK K; refine Ev.ret ?_; refine Ev.ret1 ?_; refine ⟨?_, rfl⟩; rfl
theorem rsize_fun (d : Int) : Fun Tryz.prog 77 [.lit (.int .i64 d)] (Ret (.lit (.bool (decide (d ∈ sizes)))) []) := by
  generalize hsz : sizes = sz
  have hszl : sz.length = 9 := by rw [← hsz]; rfl
  refine Fun.of (nt := 18) (rs := [.tmp 2]) Tryz.func77 rfl rfl rfl rfl rfl ?_; refine Ev.sr fun K hK => S.o q.as (S.end (hK _ ?_)); clear hK K; refine Ev.sr fun K hK => S.c0 (hF := hsz ▸ rsizes_fun) (h := S.o q.as (S.end (hK _ ?_))); clear hK K; refine Ev.seq ?_; refine Ev.sr fun K hK => S.o q.as (S.end (hK _ ?_)); clear hK K; refine Ev.block ?_; refine Ev.loopU (ι := {q : List Int × List Int // q.1 ++ q.2 = sz ∧ ∀ x ∈ q.1, ¬ x = d}) [] [0, 3] (fun ⟨(pre, suf), _⟩ => [(4, .lit (.int .i64 ((pre.length : Int))))]) (fun ⟨(pre, suf), _⟩ => []) (fun ⟨(pre, suf), _⟩ => suf.length) ⟨([], sz), rfl, fun x hx => by simp at hx⟩ (.c (.c .n)) keep_n (slots_c (he := (by first | rfl | (simp; done) | (congr 2; omega))) (h := trivial)) ?_; rintro ⟨⟨pre, suf⟩, hp, hinv⟩ R0 hR0; dsimp only [List.cons_append, List.nil_append, List.length_cons, List.length_nil]
  simp only at hp hinv
  have hpl : pre.length + suf.length = (sz).length := by rw [← hp, List.length_append]
  rcases suf with _ | ⟨s, suf⟩
  · rw [List.append_nil] at hp; subst hp; simp only [List.length_nil] at hpl; refine Ev.seq ?_; refine Ev.sr fun K hK => S.o q.mv (S.o q.mv (S.o (q.lens am_el54) (S.o q.lss (S.end (hK _ ?_))))); clear hK K; refine Ev.cd (fun c1 => ?_) (fun c1 => ?_)
    · first
    | omega | contradiction
    | refine Ev.skip ?_; show Ev _ _ _ _; refine Ev.seq ?_; refine Ev.block ?_; refine Ev.sr fun K hK => S.o q.mv (S.o q.mv (S.o (q.ix am_el54 am_cl3 (hl := (by first | exact atig (by omega)))) (S.o (q.ls am_ag3) (S.o q.mv (S.o q.eql (S.end (hK _ ?_))))))); clear hK K; refine Ev.cd (fun c2 => ?_) (fun c2 => ?_)
      · first
      | omega | contradiction
      | refine Ev.sr fun K hK => S.o q.as (S.end (hK _ ?_)); clear hK K; refine Ev.ret ?_; refine hR0 _ _ ?_; refine Ev.ret1 ?_; refine ⟨?_, rfl⟩
        first | exact bT (by rw [← hp]; simp [*]) | exact bF (fun h => hinv _ h rfl)
      · first
      | omega | contradiction
      | refine Ev.skip ?_; show Ev _ _ _ _; refine Ev.region_S fun K hK => S.o q.mv (S.o q.add (S.o q.as (S.end (hK _ ?_)))); clear hK K; refine hR0 _ _ ?_; refine roundU [] [0, 3] ⟨(pre ++ [s], suf), by rw [← hp]; simp, ?_⟩ ?_ keep_n (slots_c (he := (by first | rfl | (simp; done) | (congr 2; omega))) (h := trivial)) (.c (.c .n))
        intro x hx; simp only [List.mem_append, List.mem_singleton] at hx; rcases hx with hx | rfl
        · exact hinv x hx
        · assumption
        all_goals (dsimp only; simp only [List.length_cons]; omega)
    · first
    | omega | contradiction
    | refine Ev.exit ?_; refine hR0 _ _ ?_; show Ev _ _ _ _; refine Ev.sr fun K hK => S.o q.as (S.end (hK _ ?_)); clear hK K; refine Ev.ret ?_; refine Ev.ret1 ?_; refine ⟨?_, rfl⟩
      first | exact bT (by rw [← hp]; simp [*]) | exact bF (fun h => hinv _ h rfl)
  · simp only [List.length_cons] at hpl
    have hidx : (sz)[pre.length]? = some s := by rw [← hp]; simp
    refine Ev.seq ?_; refine Ev.sr fun K hK => S.o q.mv (S.o q.mv (S.o (q.lens am_el54) (S.o q.lss (S.end (hK _ ?_))))); clear hK K; refine Ev.cd (fun c3 => ?_) (fun c3 => ?_)
    · first
    | omega | contradiction
    | refine Ev.skip ?_; show Ev _ _ _ _; refine Ev.seq ?_; refine Ev.block ?_; refine Ev.sr fun K hK => S.o q.mv (S.o q.mv (S.o (q.ix am_el54 am_cl3 (hl := (by first | exact ati hidx (by omega) | exact atig (by omega)))) (S.o (q.ls am_ag3) (S.o q.mv (S.o q.eql (S.end (hK _ ?_))))))); clear hK K; refine Ev.cd (fun c4 => ?_) (fun c4 => ?_)
      · first
      | omega | contradiction
      | refine Ev.sr fun K hK => S.o q.as (S.end (hK _ ?_)); clear hK K; refine Ev.ret ?_; refine hR0 _ _ ?_; refine Ev.ret1 ?_; refine ⟨?_, rfl⟩
        first | exact bT (by rw [← hp]; simp [*]) | exact bF (fun h => hinv _ h rfl)
      · first
      | omega | contradiction
      | refine Ev.skip ?_; show Ev _ _ _ _; refine Ev.region_S fun K hK => S.o q.mv (S.o q.add (S.o q.as (S.end (hK _ ?_)))); clear hK K; refine hR0 _ _ ?_; refine roundU [] [0, 3] ⟨(pre ++ [s], suf), by rw [← hp]; simp, ?_⟩ ?_ keep_n (slots_c (he := (by first | rfl | (simp; done) | (congr 2; omega))) (h := trivial)) (.c (.c .n))
        intro x hx; simp only [List.mem_append, List.mem_singleton] at hx; rcases hx with hx | rfl
        · exact hinv x hx
        · assumption
        all_goals (dsimp only; simp only [List.length_cons]; omega)
    · first
    | omega | contradiction
    | refine Ev.exit ?_; refine hR0 _ _ ?_; show Ev _ _ _ _; refine Ev.sr fun K hK => S.o q.as (S.end (hK _ ?_)); clear hK K; refine Ev.ret ?_; refine Ev.ret1 ?_; refine ⟨?_, rfl⟩
      first | exact bT (by rw [← hp]; simp [*]) | exact bF (fun h => hinv _ h rfl)
def szV (d v : Int) : Int := if d ∈ sizes then v else 0
def szE (d : Int) : Int := if d ∈ sizes then 0 else 1
theorem sized1_fun (d : Int) (g : FuncId) (c0 : List AV) (v : Int) (hg : d ∈ sizes → Fun Tryz.prog g [.sadr c0 0] (Ret (.lit (.int .i64 v)) [])) :
    Fun Tryz.prog 87 [.lit (.int .i64 d), .fn (.func g) [] [.sadr c0 0]] (Ret (.tup [.lit (.int .i64 (szV d v)), .lit (.int .i64 (szE d))]) []) := by
  refine Fun.of (nt := 11) (rs := [.tmp 4, .tmp 5]) Tryz.func87 rfl rfl rfl rfl rfl ?_; refine Ev.sr fun K hK => S.o q.as (S.o q.as (S.end (hK _ ?_))); clear hK K; refine Ev.seq ?_; refine Ev.sr fun K hK => S.o q.mv (S.c0 (hF := size_fun _) (h := S.o q.not (S.end (hK _ ?_)))); clear hK K; refine Ev.cn (fun c1 => ?_) (fun c1 => ?_)
  · first
  | omega | contradiction
  | refine Ev.sr fun K hK => S.o q.as (S.o q.as (S.end (hK _ ?_))); clear hK K; refine Ev.ret ?_; refine Ev.ret2 ?_; refine ⟨?_, rfl⟩
    first | (rw [szV, szE, if_pos ‹_›, if_pos ‹_›]; done) | (rw [szV, szE, if_neg ‹_›, if_neg ‹_›]; done)
  · first
  | omega | contradiction
  | refine Ev.skip ?_; show Ev _ _ _ _; refine Ev.sr fun K hK => S.o q.mv (S.c0 (hF := hg ‹_›) (h := S.o q.as (S.o q.as (S.end (hK _ ?_))))); clear hK K; refine Ev.ret ?_; refine Ev.ret2 ?_; refine ⟨?_, rfl⟩
    first | (rw [szV, szE, if_pos ‹_›, if_pos ‹_›]; done) | (rw [szV, szE, if_neg ‹_›, if_neg ‹_›]; done)
theorem sized2_fun (d : Int) (g : FuncId) (c0 : List AV) (c1 : List AV) (v : Int) (hg : d ∈ sizes → Fun Tryz.prog g [.sadr c0 0, .sadr c1 0] (Ret (.lit (.int .i64 v)) [])) :
    Fun Tryz.prog 87 [.lit (.int .i64 d), .fn (.func g) [] [.sadr c0 0, .sadr c1 0]] (Ret (.tup [.lit (.int .i64 (szV d v)), .lit (.int .i64 (szE d))]) []) := by
  refine Fun.of (nt := 11) (rs := [.tmp 4, .tmp 5]) Tryz.func87 rfl rfl rfl rfl rfl ?_; refine Ev.sr fun K hK => S.o q.as (S.o q.as (S.end (hK _ ?_))); clear hK K; refine Ev.seq ?_; refine Ev.sr fun K hK => S.o q.mv (S.c0 (hF := size_fun _) (h := S.o q.not (S.end (hK _ ?_)))); clear hK K; refine Ev.cn (fun c1 => ?_) (fun c1 => ?_)
  · first
  | omega | contradiction
  | refine Ev.sr fun K hK => S.o q.as (S.o q.as (S.end (hK _ ?_))); clear hK K; refine Ev.ret ?_; refine Ev.ret2 ?_; refine ⟨?_, rfl⟩
    first | (rw [szV, szE, if_pos ‹_›, if_pos ‹_›]; done) | (rw [szV, szE, if_neg ‹_›, if_neg ‹_›]; done)
  · first
  | omega | contradiction
  | refine Ev.skip ?_; show Ev _ _ _ _; refine Ev.sr fun K hK => S.o q.mv (S.c0 (hF := hg ‹_›) (h := S.o q.as (S.o q.as (S.end (hK _ ?_))))); clear hK K; refine Ev.ret ?_; refine Ev.ret2 ?_; refine ⟨?_, rfl⟩
    first | (rw [szV, szE, if_pos ‹_›, if_pos ‹_›]; done) | (rw [szV, szE, if_neg ‹_›, if_neg ‹_›]; done)
end Go.Proofs.YthpjfkmhpoeojaaGreatDoor
