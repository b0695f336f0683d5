/-
  Layer 11: sizes and areas.
  Conditions: none.
-/
import Derived.Test.YtnbjmckhongidaaGreatDoorBase
import Derived.Test.YtnbjmckhongidaaGreatDoorNames
import Derived.Test.YtnbjmckhongidaaGreatDoorAmRes
namespace Go.Proofs.YtnbjmckhongidaaGreatDoor
open Go Go.AM
set_option linter.unusedSimpArgs false
set_option linter.unusedVariables false
set_option maxRecDepth 100000

def sizes : List Int := [6, 8, 10, 12, 16, 20, 25, 32, 40]
theorem size_bd {d : Int} (h : d ∈ sizes) : 6 ≤ d ∧ d ≤ 40 := by
  simp only [sizes, List.mem_cons, List.not_mem_nil, or_false] at h
  omega
/-- The place of a number. -/
def idxI (l : List Int) (v : Int) : Int := idxP (fun x => decide (v = x)) l 0
theorem index_fun (l : List Int) (v : Int) (hlen : l.length ≤ 140737488355328) : Fun Tryz.prog 98 [.sh 1 (l.map intC), .lit (.int .i64 v)] (Ret (.lit (.int .i64 (idxI l v))) []) := by
  unfold idxI
  refine Fun.of (nt := 19) (rs := [.tmp 4]) Tryz.func98 rfl rfl rfl rfl rfl ?_
  refine Ev.sr fun K hK => S.o q.as (S.end (hK _ ?_))
  clear hK K
  refine Ev.seq ?_
  refine Ev.sr fun K hK => S.o q.mv (S.o (q.lens am_el70) (S.o q.mv (S.end (hK _ ?_))))
  clear hK K
  refine Ev.block ?_
  refine Ev.loopU (ι := {q : List Int × List Int // q.1 ++ q.2 = l ∧ ∀ x ∈ q.1, decide (v = x) = false}) [] [0, 1, 7] (fun ⟨(pre, suf), _⟩ => [(8, .lit (.int .i64 ((pre.length : Int))))]) (fun ⟨(pre, suf), _⟩ => []) (fun ⟨(pre, suf), _⟩ => suf.length) ⟨([], l), rfl, fun x hx => by simp at hx⟩ (.c (.c (.c .n))) keep_n (slots_c (he := (by first | rfl | (simp; done) | (congr 2; omega))) (h := trivial)) ?_
  rintro ⟨⟨pre, suf⟩, hp, hinv⟩ R0 hR0
  dsimp only [List.cons_append, List.nil_append, List.length_cons, List.length_nil]
  simp only at hp hinv
  have hpl : pre.length + suf.length = (l).length := by rw [← hp, List.length_append]
  rcases suf with _ | ⟨s, suf⟩
  · rw [List.append_nil] at hp; subst hp; simp only [List.length_nil] at hpl
    refine Ev.sr fun K hK => S.o q.lss (S.end (hK _ ?_))
    clear hK K
    refine Ev.ud (fun c1 => ?_) (fun c1 => ?_)
    · first
    | (first | omega | contradiction)
    | refine Ev.seq ?_
      refine Ev.block ?_
      refine Ev.sr fun K hK => S.o q.mv (S.o q.as (S.end (hK _ ?_)))
      clear hK K
      refine Ev.sr fun K hK => S.o q.mv (S.o q.mv (S.o q.mv (S.o (q.ix am_el70 am_cl3 (hl := (by first | exact atig (by omega)))) (S.o (q.ls am_ag3) (S.o q.eql (S.end (hK _ ?_)))))))
      clear hK K
      refine Ev.cd (fun c2 => ?_) (fun c2 => ?_)
      · first
      | (first | omega | contradiction)
      | refine Ev.sr fun K hK => S.o q.mv (S.o q.as (S.end (hK _ ?_)))
        clear hK K
        refine Ev.ret ?_
        refine hR0 _ _ ?_
        refine Ev.ret1 ?_
        refine ⟨?_, rfl⟩
        first | (congr 2; rw [← hp, idxP_append _ pre _ 0 hinv, idxP, if_pos (decide_eq_true ‹_›)]; omega) | (congr 2; rw [idxP_none _ pre 0 hinv])
      · first
      | (first | omega | contradiction)
      | refine Ev.skip ?_
        show Ev _ _ _ _
        refine Ev.region_S fun K hK => S.o q.add (S.o q.mv (S.end (hK _ ?_)))
        clear hK K
        refine hR0 _ _ ?_
        refine roundU [] [0, 1, 7] ⟨(pre ++ [s], suf), by rw [← hp]; simp, ?_⟩ ?_ keep_n (slots_c (he := (by first | rfl | (simp; done) | (congr 2; omega))) (h := trivial)) (.c (.c (.c .n)))
        intro x hx; simp only [List.mem_append, List.mem_singleton] at hx; rcases hx with hx | rfl
        · exact hinv x hx
        · exact decide_eq_false ‹_›
        all_goals (dsimp only; simp only [List.length_cons]; omega)
    · first
    | (first | omega | contradiction)
    | refine Ev.exit ?_
      refine hR0 _ _ ?_
      show Ev _ _ _ _
      refine Ev.sr fun K hK => S.o q.as (S.end (hK _ ?_))
      clear hK K
      refine Ev.ret ?_
      refine Ev.ret1 ?_
      refine ⟨?_, rfl⟩
      first | (congr 2; rw [← hp, idxP_append _ pre _ 0 hinv, idxP, if_pos (decide_eq_true ‹_›)]; omega) | (congr 2; rw [idxP_none _ pre 0 hinv])
  · simp only [List.length_cons] at hpl
    have hidx : (l)[pre.length]? = some s := by rw [← hp]; simp
    refine Ev.sr fun K hK => S.o q.lss (S.end (hK _ ?_))
    clear hK K
    refine Ev.ud (fun c3 => ?_) (fun c3 => ?_)
    · first
    | (first | omega | contradiction)
    | refine Ev.seq ?_
      refine Ev.block ?_
      refine Ev.sr fun K hK => S.o q.mv (S.o q.as (S.end (hK _ ?_)))
      clear hK K
      refine Ev.sr fun K hK => S.o q.mv (S.o q.mv (S.o q.mv (S.o (q.ix am_el70 am_cl3 (hl := (by first | exact ati hidx (by omega) | exact atig (by omega)))) (S.o (q.ls am_ag3) (S.o q.eql (S.end (hK _ ?_)))))))
      clear hK K
      refine Ev.cd (fun c4 => ?_) (fun c4 => ?_)
      · first
      | (first | omega | contradiction)
      | refine Ev.sr fun K hK => S.o q.mv (S.o q.as (S.end (hK _ ?_)))
        clear hK K
        refine Ev.ret ?_
        refine hR0 _ _ ?_
        refine Ev.ret1 ?_
        refine ⟨?_, rfl⟩
        first | (congr 2; rw [← hp, idxP_append _ pre _ 0 hinv, idxP, if_pos (decide_eq_true ‹_›)]; omega) | (congr 2; rw [idxP_none _ pre 0 hinv])
      · first
      | (first | omega | contradiction)
      | refine Ev.skip ?_
        show Ev _ _ _ _
        refine Ev.region_S fun K hK => S.o q.add (S.o q.mv (S.end (hK _ ?_)))
        clear hK K
        refine hR0 _ _ ?_
        refine roundU [] [0, 1, 7] ⟨(pre ++ [s], suf), by rw [← hp]; simp, ?_⟩ ?_ keep_n (slots_c (he := (by first | rfl | (simp; done) | (congr 2; omega))) (h := trivial)) (.c (.c (.c .n)))
        intro x hx; simp only [List.mem_append, List.mem_singleton] at hx; rcases hx with hx | rfl
        · exact hinv x hx
        · exact decide_eq_false ‹_›
        all_goals (dsimp only; simp only [List.length_cons]; omega)
    · first
    | (first | omega | contradiction)
    | refine Ev.exit ?_
      refine hR0 _ _ ?_
      show Ev _ _ _ _
      refine Ev.sr fun K hK => S.o q.as (S.end (hK _ ?_))
      clear hK K
      refine Ev.ret ?_
      refine Ev.ret1 ?_
      refine ⟨?_, rfl⟩
      first | (congr 2; rw [← hp, idxP_append _ pre _ 0 hinv, idxP, if_pos (decide_eq_true ‹_›)]; omega) | (congr 2; rw [idxP_none _ pre 0 hinv])
theorem contains_fun (l : List Int) (v : Int) (hlen : l.length ≤ 140737488355328) : Fun Tryz.prog 79 [.sh 1 (l.map intC), .lit (.int .i64 v)] (Ret (.lit (.bool (decide (v ∈ l)))) []) := by
  have hd : decide (v ∈ l) = decide (0 ≤ idxI l v) := by
    rw [decide_eq_decide, idxI, idxP_nonneg _ l 0 (Int.le_refl _)]
    constructor
    · intro h; exact ⟨v, h, by simp⟩
    · rintro ⟨x, hx, h⟩; rw [of_decide_eq_true h]; exact hx
  rw [hd]
  refine Fun.of (nt := 9) (rs := [.tmp 4]) Tryz.func79 rfl rfl rfl rfl rfl ?_
  refine Ev.sr fun K hK => S.o q.as (S.end (hK _ ?_))
  clear hK K
  refine Ev.sr fun K hK => S.o q.mv (S.o q.mv (S.c0 (hF := index_fun _ _ (by omega)) (h := S.o q.geq (S.o q.as (S.end (hK _ ?_))))))
  clear hK K
  refine Ev.ret ?_
  refine Ev.ret1 ?_
  refine ⟨?_, rfl⟩
  rfl
theorem sizes_fun : Fun Tryz.prog 80 [] (Ret (.sh 1 (sizes.map intC)) []) := by
  refine Fun.of (nt := 2) (rs := [.tmp 0]) Tryz.func80 rfl rfl rfl rfl rfl ?_
  refine Ev.sr fun K hK => S.o q.as (S.end (hK _ ?_))
  clear hK K
  refine Ev.sr fun K hK => S.nn (q.bs [[_], [_], [_], [_], [_], [_], [_], [_], [_]] true am_el70 am_ze3 am_cl3) (S.o q.as (S.end (hK _ ?_)))
  clear hK K
  refine Ev.weaken (Wk.frzl (f := intC) [_, _, _, _, _, _, _, _, _] 0 []) ?_
  refine Ev.ret ?_
  refine Ev.ret1 ?_
  refine ⟨?_, rfl⟩
  rfl
theorem size_fun (d : Int) : Fun Tryz.prog 57 [.lit (.int .i64 d)] (Ret (.lit (.bool (decide (d ∈ sizes)))) []) := by
  refine Fun.of (nt := 6) (rs := [.tmp 2]) Tryz.func57 rfl rfl rfl rfl rfl ?_
  refine Ev.sr fun K hK => S.o q.as (S.end (hK _ ?_))
  clear hK K
  refine Ev.sr fun K hK => S.c0 (hF := sizes_fun) (h := S.o q.mv (S.c0 (hF := contains_fun _ _ (by decide)) (h := S.o q.as (S.end (hK _ ?_)))))
  clear hK K
  refine Ev.ret ?_
  refine Ev.ret1 ?_
  refine ⟨?_, rfl⟩
  rfl

/-- What a function of a size returns, or an error. -/
def szV (d v : Int) : Int := if d ∈ sizes then v else 0
def szE (d : Int) : Int := if d ∈ sizes then 0 else 1
theorem sized1_fun (d : Int) (g : FuncId) (c0 : List AV) (v : Int) (hg : d ∈ sizes → Fun Tryz.prog g [.sadr c0 0] (Ret (.lit (.int .i64 v)) [])) :
    Fun Tryz.prog 61 [.lit (.int .i64 d), .fn (.func g) [] [.sadr c0 0]] (Ret (.tup [.lit (.int .i64 (szV d v)), .lit (.int .i64 (szE d))]) []) := by
  refine Fun.of (nt := 11) (rs := [.tmp 4, .tmp 5]) Tryz.func61 rfl rfl rfl rfl rfl ?_
  refine Ev.sr fun K hK => S.o q.as (S.o q.as (S.end (hK _ ?_)))
  clear hK K
  refine Ev.seq ?_
  refine Ev.sr fun K hK => S.o q.mv (S.c0 (hF := size_fun _) (h := S.o q.not (S.end (hK _ ?_))))
  clear hK K
  refine Ev.cn (fun c1 => ?_) (fun c1 => ?_)
  · first
  | (first | omega | contradiction)
  | refine Ev.sr fun K hK => S.o q.as (S.o q.as (S.end (hK _ ?_)))
    clear hK K
    refine Ev.ret ?_
    refine Ev.ret2 ?_
    refine ⟨?_, rfl⟩
    first | (rw [szV, szE, if_pos ‹_›, if_pos ‹_›]; done) | (rw [szV, szE, if_neg ‹_›, if_neg ‹_›]; done)
  · first
  | (first | omega | contradiction)
  | refine Ev.skip ?_
    show Ev _ _ _ _
    refine Ev.sr fun K hK => S.o q.mv (S.c0 (hF := hg ‹_›) (h := S.o q.as (S.o q.as (S.end (hK _ ?_)))))
    clear hK K
    refine Ev.ret ?_
    refine Ev.ret2 ?_
    refine ⟨?_, rfl⟩
    first | (rw [szV, szE, if_pos ‹_›, if_pos ‹_›]; done) | (rw [szV, szE, if_neg ‹_›, if_neg ‹_›]; done)
theorem sized2_fun (d : Int) (g : FuncId) (c0 : List AV) (c1 : List AV) (v : Int) (hg : d ∈ sizes → Fun Tryz.prog g [.sadr c0 0, .sadr c1 0] (Ret (.lit (.int .i64 v)) [])) :
    Fun Tryz.prog 61 [.lit (.int .i64 d), .fn (.func g) [] [.sadr c0 0, .sadr c1 0]] (Ret (.tup [.lit (.int .i64 (szV d v)), .lit (.int .i64 (szE d))]) []) := by
  refine Fun.of (nt := 11) (rs := [.tmp 4, .tmp 5]) Tryz.func61 rfl rfl rfl rfl rfl ?_
  refine Ev.sr fun K hK => S.o q.as (S.o q.as (S.end (hK _ ?_)))
  clear hK K
  refine Ev.seq ?_
  refine Ev.sr fun K hK => S.o q.mv (S.c0 (hF := size_fun _) (h := S.o q.not (S.end (hK _ ?_))))
  clear hK K
  refine Ev.cn (fun c1 => ?_) (fun c1 => ?_)
  · first
  | (first | omega | contradiction)
  | refine Ev.sr fun K hK => S.o q.as (S.o q.as (S.end (hK _ ?_)))
    clear hK K
    refine Ev.ret ?_
    refine Ev.ret2 ?_
    refine ⟨?_, rfl⟩
    first | (rw [szV, szE, if_pos ‹_›, if_pos ‹_›]; done) | (rw [szV, szE, if_neg ‹_›, if_neg ‹_›]; done)
  · first
  | (first | omega | contradiction)
  | refine Ev.skip ?_
    show Ev _ _ _ _
    refine Ev.sr fun K hK => S.o q.mv (S.c0 (hF := hg ‹_›) (h := S.o q.as (S.o q.as (S.end (hK _ ?_)))))
    clear hK K
    refine Ev.ret ?_
    refine Ev.ret2 ?_
    refine ⟨?_, rfl⟩
    first | (rw [szV, szE, if_pos ‹_›, if_pos ‹_›]; done) | (rw [szV, szE, if_neg ‹_›, if_neg ‹_›]; done)
end Go.Proofs.YtnbjmckhongidaaGreatDoor
namespace Go.Proofs.YtnbjmckhongidaaGreatDoor
open Go Go.AM
set_option linter.unusedSimpArgs false
set_option linter.unusedVariables false
set_option maxRecDepth 100000

/-- A line of a schedule. -/
structure Bar where
  mark : List UInt8
  size : Int
  count : Int
  code : Int
  dims : List Int
def Bar.c : Bar → List AV
  | ⟨m, s, n, k, d⟩ => [.lit (str m), .lit (.int .i64 s), .lit (.int .i64 n), .lit (.int .i64 k), .sh 1 (d.map intC)]
def legC : Int × Int → List AV
  | (a, b) => [.lit (.int .i64 a), .lit (.int .u8 b)]
/-- The legs of a code: their dimensions and ways. -/
def legsL (k : Int) : List (Int × Int) :=
  if k = 0 then [(0, 120)] else if k = 11 then [(0, 120), (1, 121)] else if k = 21 then [(0, 89), (1, 120), (2, 121)] else if k = 26 then [(0, 120), (1, 121), (2, 120)]
  else if k = 31 then [(0, 120), (1, 121), (2, 122)] else if k = 41 then [(0, 120), (1, 121), (2, 120), (3, 89), (4, 120)] else if k = 51 then [(2, 89), (0, 120), (1, 121), (0, 88), (1, 89), (2, 120)]
  else if k = 98 then [(0, 122), (1, 89), (2, 120), (1, 121), (0, 122)] else []
def dimsN (k : Int) : Int := if k = 0 then 1 else if k = 11 then 2 else if k = 21 then 3 else if k = 26 then 3 else if k = 31 then 3 else if k = 51 then 3 else if k = 98 then 3 else if k = 41 then 5 else 0
def dimsM (k : Int) : Int := (legsL k).foldl (fun m s => max m s.1) (-1)
theorem codes (k : Int) : k = 0 ∨ k = 11 ∨ k = 21 ∨ k = 26 ∨ k = 31 ∨ k = 41 ∨ k = 51 ∨ k = 98 ∨ (k ≠ 0 ∧ k ≠ 11 ∧ k ≠ 21 ∧ k ≠ 26 ∧ k ≠ 31 ∧ k ≠ 41 ∧ k ≠ 51 ∧ k ≠ 98) := by omega
theorem legsL_none {k : Int} (h : k ≠ 0 ∧ k ≠ 11 ∧ k ≠ 21 ∧ k ≠ 26 ∧ k ≠ 31 ∧ k ≠ 41 ∧ k ≠ 51 ∧ k ≠ 98) : legsL k = [] ∧ dimsN k = 0 := by
  obtain ⟨h1, h2, h3, h4, h5, h6, h7, h8⟩ := h
  constructor
  · rw [legsL, if_neg h1, if_neg h2, if_neg h3, if_neg h4, if_neg h5, if_neg h6, if_neg h7, if_neg h8]
  · rw [dimsN, if_neg h1, if_neg h2, if_neg h3, if_neg h4, if_neg h5, if_neg h7, if_neg h8, if_neg h6]
theorem dims_eq (k : Int) : dimsM k = dimsN k - 1 ∧ 0 ≤ dimsN k ∧ dimsN k ≤ 5 ∧ (legsL k).length ≤ 6 := by
  rcases codes k with rfl | rfl | rfl | rfl | rfl | rfl | rfl | rfl | h
  iterate 8 decide
  obtain ⟨h1, h2⟩ := legsL_none h
  rw [dimsM, h1, h2]
  decide
theorem leg_bd (k : Int) : ∀ s ∈ legsL k, 0 ≤ s.1 ∧ s.1 < dimsN k := by
  rcases codes k with rfl | rfl | rfl | rfl | rfl | rfl | rfl | rfl | h
  iterate 8 decide
  rw [(legsL_none h).1]
  intro s hs; cases hs
theorem legs_fun (k : Int) : Fun Tryz.prog 78 [.lit (.int .i64 k)] (Ret (.sh 2 ((legsL k).map legC)) []) := by
  refine Fun.of (nt := 56) (rs := [.tmp 2]) Tryz.func78 rfl rfl rfl rfl rfl ?_
  refine Ev.sr fun K hK => S.o q.as (S.end (hK _ ?_))
  clear hK K
  refine Ev.seq ?_
  refine Ev.sr fun K hK => S.o q.mv (S.end (hK _ ?_))
  clear hK K
  refine Ev.block ?_
  refine Ev.sr fun K hK => S.o q.eql (S.o q.as (S.end (hK _ ?_)))
  clear hK K
  refine Ev.cd (fun c1 => ?_) (fun c1 => ?_)
  · first
  | (first | omega | contradiction)
  | refine Ev.sr fun K hK => S.o (q.bd [_, _] am_ze120 am_pl120) (S.nn (q.bs [[_, _]] true am_el117 am_ze120 am_cl120) (S.o q.as (S.end (hK _ ?_))))
    clear hK K
    refine Ev.weaken (Wk.frzl (f := legC) [(⟨_, _⟩ : Int × Int)] 2 []) ?_
    refine Ev.ret ?_
    refine Ev.ret1 ?_
    refine ⟨?_, rfl⟩
    first
     | (obtain rfl : k = 0 := by assumption
        rfl)
     | (subst k; rfl)
     | (rw [(legsL_none ⟨‹_›, ‹_›, ‹_›, ‹_›, ‹_›, ‹_›, ‹_›, ‹_›⟩).1] <;> rfl)
  · first
  | (first | omega | contradiction)
  | refine Ev.sr fun K hK => S.o q.eql (S.o q.as (S.end (hK _ ?_)))
    clear hK K
    refine Ev.cd (fun c2 => ?_) (fun c2 => ?_)
    · first
    | (first | omega | contradiction)
    | refine Ev.sr fun K hK => S.o (q.bd [_, _] am_ze120 am_pl120) (S.o (q.bd [_, _] am_ze120 am_pl120) (S.nn (q.bs [[_, _], [_, _]] true am_el117 am_ze120 am_cl120) (S.o q.as (S.end (hK _ ?_)))))
      clear hK K
      refine Ev.weaken (Wk.frzl (f := legC) [(⟨_, _⟩ : Int × Int), (⟨_, _⟩ : Int × Int)] 2 []) ?_
      refine Ev.ret ?_
      refine Ev.ret1 ?_
      refine ⟨?_, rfl⟩
      first
       | (obtain rfl : k = 0 := by assumption
          rfl)
       | (subst k; rfl)
       | (rw [(legsL_none ⟨‹_›, ‹_›, ‹_›, ‹_›, ‹_›, ‹_›, ‹_›, ‹_›⟩).1] <;> rfl)
    · first
    | (first | omega | contradiction)
    | refine Ev.sr fun K hK => S.o q.eql (S.o q.as (S.end (hK _ ?_)))
      clear hK K
      refine Ev.cd (fun c3 => ?_) (fun c3 => ?_)
      · first
      | (first | omega | contradiction)
      | refine Ev.sr fun K hK => S.o (q.bd [_, _] am_ze120 am_pl120) (S.o (q.bd [_, _] am_ze120 am_pl120) (S.o (q.bd [_, _] am_ze120 am_pl120) (S.nn (q.bs [[_, _], [_, _], [_, _]] true am_el117 am_ze120 am_cl120) (S.o q.as (S.end (hK _ ?_))))))
        clear hK K
        refine Ev.weaken (Wk.frzl (f := legC) [(⟨_, _⟩ : Int × Int), (⟨_, _⟩ : Int × Int), (⟨_, _⟩ : Int × Int)] 2 []) ?_
        refine Ev.ret ?_
        refine Ev.ret1 ?_
        refine ⟨?_, rfl⟩
        first
         | (obtain rfl : k = 0 := by assumption
            rfl)
         | (subst k; rfl)
         | (rw [(legsL_none ⟨‹_›, ‹_›, ‹_›, ‹_›, ‹_›, ‹_›, ‹_›, ‹_›⟩).1] <;> rfl)
      · first
      | (first | omega | contradiction)
      | refine Ev.sr fun K hK => S.o q.eql (S.o q.as (S.end (hK _ ?_)))
        clear hK K
        refine Ev.cd (fun c4 => ?_) (fun c4 => ?_)
        · first
        | (first | omega | contradiction)
        | refine Ev.sr fun K hK => S.o (q.bd [_, _] am_ze120 am_pl120) (S.o (q.bd [_, _] am_ze120 am_pl120) (S.o (q.bd [_, _] am_ze120 am_pl120) (S.nn (q.bs [[_, _], [_, _], [_, _]] true am_el117 am_ze120 am_cl120) (S.o q.as (S.end (hK _ ?_))))))
          clear hK K
          refine Ev.weaken (Wk.frzl (f := legC) [(⟨_, _⟩ : Int × Int), (⟨_, _⟩ : Int × Int), (⟨_, _⟩ : Int × Int)] 2 []) ?_
          refine Ev.ret ?_
          refine Ev.ret1 ?_
          refine ⟨?_, rfl⟩
          first
           | (obtain rfl : k = 0 := by assumption
              rfl)
           | (subst k; rfl)
           | (rw [(legsL_none ⟨‹_›, ‹_›, ‹_›, ‹_›, ‹_›, ‹_›, ‹_›, ‹_›⟩).1] <;> rfl)
        · first
        | (first | omega | contradiction)
        | refine Ev.sr fun K hK => S.o q.eql (S.o q.as (S.end (hK _ ?_)))
          clear hK K
          refine Ev.cd (fun c5 => ?_) (fun c5 => ?_)
          · first
          | (first | omega | contradiction)
          | refine Ev.sr fun K hK => S.o (q.bd [_, _] am_ze120 am_pl120) (S.o (q.bd [_, _] am_ze120 am_pl120) (S.o (q.bd [_, _] am_ze120 am_pl120) (S.nn (q.bs [[_, _], [_, _], [_, _]] true am_el117 am_ze120 am_cl120) (S.o q.as (S.end (hK _ ?_))))))
            clear hK K
            refine Ev.weaken (Wk.frzl (f := legC) [(⟨_, _⟩ : Int × Int), (⟨_, _⟩ : Int × Int), (⟨_, _⟩ : Int × Int)] 2 []) ?_
            refine Ev.ret ?_
            refine Ev.ret1 ?_
            refine ⟨?_, rfl⟩
            first
             | (obtain rfl : k = 0 := by assumption
                rfl)
             | (subst k; rfl)
             | (rw [(legsL_none ⟨‹_›, ‹_›, ‹_›, ‹_›, ‹_›, ‹_›, ‹_›, ‹_›⟩).1] <;> rfl)
          · first
          | (first | omega | contradiction)
          | refine Ev.sr fun K hK => S.o q.eql (S.o q.as (S.end (hK _ ?_)))
            clear hK K
            refine Ev.cd (fun c6 => ?_) (fun c6 => ?_)
            · first
            | (first | omega | contradiction)
            | refine Ev.sr fun K hK => S.o (q.bd [_, _] am_ze120 am_pl120) (S.o (q.bd [_, _] am_ze120 am_pl120) (S.o (q.bd [_, _] am_ze120 am_pl120) (S.o (q.bd [_, _] am_ze120 am_pl120) (S.o (q.bd [_, _] am_ze120 am_pl120) (S.nn (q.bs [[_, _], [_, _], [_, _], [_, _], [_, _]] true am_el117 am_ze120 am_cl120) (S.o q.as (S.end (hK _ ?_))))))))
              clear hK K
              refine Ev.weaken (Wk.frzl (f := legC) [(⟨_, _⟩ : Int × Int), (⟨_, _⟩ : Int × Int), (⟨_, _⟩ : Int × Int), (⟨_, _⟩ : Int × Int), (⟨_, _⟩ : Int × Int)] 2 []) ?_
              refine Ev.ret ?_
              refine Ev.ret1 ?_
              refine ⟨?_, rfl⟩
              first
               | (obtain rfl : k = 0 := by assumption
                  rfl)
               | (subst k; rfl)
               | (rw [(legsL_none ⟨‹_›, ‹_›, ‹_›, ‹_›, ‹_›, ‹_›, ‹_›, ‹_›⟩).1] <;> rfl)
            · first
            | (first | omega | contradiction)
            | refine Ev.sr fun K hK => S.o q.eql (S.o q.as (S.end (hK _ ?_)))
              clear hK K
              refine Ev.cd (fun c7 => ?_) (fun c7 => ?_)
              · first
              | (first | omega | contradiction)
              | refine Ev.sr fun K hK => S.o (q.bd [_, _] am_ze120 am_pl120) (S.o (q.bd [_, _] am_ze120 am_pl120) (S.o (q.bd [_, _] am_ze120 am_pl120) (S.o (q.bd [_, _] am_ze120 am_pl120) (S.o (q.bd [_, _] am_ze120 am_pl120) (S.o (q.bd [_, _] am_ze120 am_pl120) (S.nn (q.bs [[_, _], [_, _], [_, _], [_, _], [_, _], [_, _]] true am_el117 am_ze120 am_cl120) (S.o q.as (S.end (hK _ ?_)))))))))
                clear hK K
                refine Ev.weaken (Wk.frzl (f := legC) [(⟨_, _⟩ : Int × Int), (⟨_, _⟩ : Int × Int), (⟨_, _⟩ : Int × Int), (⟨_, _⟩ : Int × Int), (⟨_, _⟩ : Int × Int), (⟨_, _⟩ : Int × Int)] 2 []) ?_
                refine Ev.ret ?_
                refine Ev.ret1 ?_
                refine ⟨?_, rfl⟩
                first
                 | (obtain rfl : k = 0 := by assumption
                    rfl)
                 | (subst k; rfl)
                 | (rw [(legsL_none ⟨‹_›, ‹_›, ‹_›, ‹_›, ‹_›, ‹_›, ‹_›, ‹_›⟩).1] <;> rfl)
              · first
              | (first | omega | contradiction)
              | refine Ev.sr fun K hK => S.o q.eql (S.o q.as (S.end (hK _ ?_)))
                clear hK K
                refine Ev.cd (fun c8 => ?_) (fun c8 => ?_)
                · first
                | (first | omega | contradiction)
                | refine Ev.sr fun K hK => S.o (q.bd [_, _] am_ze120 am_pl120) (S.o (q.bd [_, _] am_ze120 am_pl120) (S.o (q.bd [_, _] am_ze120 am_pl120) (S.o (q.bd [_, _] am_ze120 am_pl120) (S.o (q.bd [_, _] am_ze120 am_pl120) (S.nn (q.bs [[_, _], [_, _], [_, _], [_, _], [_, _]] true am_el117 am_ze120 am_cl120) (S.o q.as (S.end (hK _ ?_))))))))
                  clear hK K
                  refine Ev.weaken (Wk.frzl (f := legC) [(⟨_, _⟩ : Int × Int), (⟨_, _⟩ : Int × Int), (⟨_, _⟩ : Int × Int), (⟨_, _⟩ : Int × Int), (⟨_, _⟩ : Int × Int)] 2 []) ?_
                  refine Ev.ret ?_
                  refine Ev.ret1 ?_
                  refine ⟨?_, rfl⟩
                  first
                   | (obtain rfl : k = 0 := by assumption
                      rfl)
                   | (subst k; rfl)
                   | (rw [(legsL_none ⟨‹_›, ‹_›, ‹_›, ‹_›, ‹_›, ‹_›, ‹_›, ‹_›⟩).1] <;> rfl)
                · first
                | (first | omega | contradiction)
                | refine Ev.skip ?_
                  show Ev _ _ _ _
                  refine Ev.sr fun K hK => S.o q.as (S.end (hK _ ?_))
                  clear hK K
                  refine Ev.weaken (Wk.nsh legC 2 2) ?_
                  refine Ev.ret ?_
                  refine Ev.ret1 ?_
                  refine ⟨?_, rfl⟩
                  first
                   | (obtain rfl : k = 0 := by assumption
                      rfl)
                   | (subst k; rfl)
                   | (rw [(legsL_none ⟨‹_›, ‹_›, ‹_›, ‹_›, ‹_›, ‹_›, ‹_›, ‹_›⟩).1] <;> rfl)

def dimsV (k : Int) : Int := if dimsN k = 0 then 0 else dimsN k
def dimsE (k : Int) : Int := if dimsN k = 0 then 11 else 0
theorem dims_fun (k : Int) : Fun Tryz.prog 56 [.lit (.int .i64 k)] (Ret (.tup [.lit (.int .i64 (dimsV k)), .lit (.int .i64 (dimsE k))]) []) := by
  obtain ⟨d1, d2, d3, d4⟩ := dims_eq k
  refine Fun.of (nt := 23) (rs := [.tmp 2, .tmp 3]) Tryz.func56 rfl rfl rfl rfl rfl ?_
  refine Ev.sr fun K hK => S.o q.as (S.o q.as (S.end (hK _ ?_)))
  clear hK K
  refine Ev.sr fun K hK => S.o q.as (S.end (hK _ ?_))
  clear hK K
  refine Ev.seq ?_
  refine Ev.sr fun K hK => S.o q.mv (S.c0 (hF := legs_fun _) (h := S.o (q.lens am_el117) (S.o q.mv (S.end (hK _ ?_)))))
  clear hK K
  refine Ev.block ?_
  refine Ev.loopU (ι := {p : List (Int × Int) × List (Int × Int) // p.1 ++ p.2 = (legsL k) ∧ True}) [] [2, 3, 8, 9] (fun ⟨(pre, suf), _⟩ => [(10, .lit (.int .i64 ((pre.length : Int)))), (4, .lit (.int .i64 (pre.foldl (fun m s => max m s.1) (-1))))]) (fun ⟨(pre, suf), _⟩ => []) (fun ⟨(pre, suf), _⟩ => suf.length) ⟨([], (legsL k)), rfl, trivial⟩ (.c (.c (.c (.c .n)))) keep_n (slots_c (he := (by first | rfl | (congr 2; simp; done))) (h := (slots_c (he := (by first | rfl | (congr 2 <;> simp [List.foldl_append]; done))) (h := trivial)))) ?_
  rintro ⟨⟨pre, suf⟩, hp, hinv⟩ R0 hR0
  dsimp only [List.cons_append, List.nil_append, List.length_cons, List.length_nil]
  simp only at hp hinv
  have hpl : pre.length + suf.length = ((legsL k)).length := by rw [← hp, List.length_append]
  rcases suf with _ | ⟨s, suf⟩
  · rw [List.append_nil] at hp; simp only [List.length_nil] at hpl
    refine Ev.sr fun K hK => S.o q.lss (S.end (hK _ ?_))
    clear hK K
    refine Ev.ud (fun c1 => ?_) (fun c1 => ?_)
    · first
    | (first | omega | contradiction)
    | refine Ev.seq ?_
      refine Ev.block ?_
      refine Ev.sr fun K hK => S.o (q.ix am_el117 am_cl120 (hl := (by first | exact atig (by omega)))) (S.o (q.lsA [_, _] am_ag120 am_cl120) (S.nn (q.al am_ze120) (S.sv [_, _] true [] am_in120 am_cl120 (h := S.end (hK _ ?_)))))
      clear hK K
      refine Ev.region_S fun K hK => S.o q.mv (S.o (q.fa 0 am_fi120_0 am_cl3) (S.o (q.lv am_ag3) (S.o q.max (S.o q.as (S.end (hK _ ?_))))))
      clear hK K
      show Ev _ _ _ _
      refine Ev.region_S fun K hK => S.o q.add (S.o q.mv (S.end (hK _ ?_)))
      clear hK K
      refine hR0 _ _ ?_
      refine roundU [] [2, 3, 8, 9] ⟨(pre ++ [s], suf), by rw [← hp]; simp, ?_⟩ ?_ keep_n (slots_c (he := (by first | rfl | (congr 2; simp; done))) (h := (slots_c (he := (by first | rfl | (congr 2 <;> simp [List.foldl_append]; done))) (h := trivial)))) (.c (.c (.c (.c .n))))
      trivial
      all_goals (dsimp only; simp only [List.length_cons]; omega)
    · first
    | (first | omega | contradiction)
    | refine Ev.exit ?_
      refine hR0 _ _ ?_
      show Ev _ _ _ _
      refine Ev.seq ?_
      have hd : dimsM k = pre.foldl (fun m s => max m s.1) (-1) := by rw [dimsM, hp]
      rw [← hd]
      refine Ev.sr fun K hK => S.o q.mv (S.o q.lss (S.end (hK _ ?_)))
      clear hK K
      refine Ev.cd (fun c2 => ?_) (fun c2 => ?_)
      · first
      | (first | omega | contradiction)
      | refine Ev.sr fun K hK => S.o q.as (S.o q.as (S.end (hK _ ?_)))
        clear hK K
        refine Ev.ret ?_
        refine Ev.ret2 ?_
        refine ⟨?_, rfl⟩
        first
         | (rw [dimsV, dimsE, if_pos (by omega), if_pos (by omega)]; done)
         | (rw [dimsV, dimsE, if_neg (by omega), if_neg (by omega), show dimsM k + 1 = dimsN k by omega]; done)
      · first
      | (first | omega | contradiction)
      | refine Ev.skip ?_
        show Ev _ _ _ _
        refine Ev.sr fun K hK => S.o q.mv (S.o q.add (S.o q.as (S.o q.as (S.end (hK _ ?_)))))
        clear hK K
        refine Ev.ret ?_
        refine Ev.ret2 ?_
        refine ⟨?_, rfl⟩
        first
         | (rw [dimsV, dimsE, if_pos (by omega), if_pos (by omega)]; done)
         | (rw [dimsV, dimsE, if_neg (by omega), if_neg (by omega), show dimsM k + 1 = dimsN k by omega]; done)
  · simp only [List.length_cons] at hpl
    have hidx : (legsL k)[pre.length]? = some s := by rw [← hp]; simp
    refine Ev.sr fun K hK => S.o q.lss (S.end (hK _ ?_))
    clear hK K
    refine Ev.ud (fun c3 => ?_) (fun c3 => ?_)
    · first
    | (first | omega | contradiction)
    | refine Ev.seq ?_
      refine Ev.block ?_
      refine Ev.sr fun K hK => S.o (q.ix am_el117 am_cl120 (hl := (by first | exact ati hidx (by omega) | exact atig (by omega)))) (S.o (q.lsA [_, _] am_ag120 am_cl120) (S.nn (q.al am_ze120) (S.sv [_, _] true [] am_in120 am_cl120 (h := S.end (hK _ ?_)))))
      clear hK K
      refine Ev.region_S fun K hK => S.o q.mv (S.o (q.fa 0 am_fi120_0 am_cl3) (S.o (q.lv am_ag3) (S.o q.max (S.o q.as (S.end (hK _ ?_))))))
      clear hK K
      show Ev _ _ _ _
      refine Ev.region_S fun K hK => S.o q.add (S.o q.mv (S.end (hK _ ?_)))
      clear hK K
      refine hR0 _ _ ?_
      refine roundU [] [2, 3, 8, 9] ⟨(pre ++ [s], suf), by rw [← hp]; simp, ?_⟩ ?_ keep_n (slots_c (he := (by first | rfl | (congr 2; simp; done))) (h := (slots_c (he := (by first | rfl | (congr 2 <;> simp [List.foldl_append]; done))) (h := trivial)))) (.c (.c (.c (.c .n))))
      trivial
      all_goals (dsimp only; simp only [List.length_cons]; omega)
    · first
    | (first | omega | contradiction)
    | refine Ev.exit ?_
      refine hR0 _ _ ?_
      show Ev _ _ _ _
      refine Ev.seq ?_
      have hd : dimsM k = pre.foldl (fun m s => max m s.1) (-1) := by rw [dimsM, hp]
      rw [← hd]
      refine Ev.sr fun K hK => S.o q.mv (S.o q.lss (S.end (hK _ ?_)))
      clear hK K
      refine Ev.cd (fun c4 => ?_) (fun c4 => ?_)
      · first
      | (first | omega | contradiction)
      | refine Ev.sr fun K hK => S.o q.as (S.o q.as (S.end (hK _ ?_)))
        clear hK K
        refine Ev.ret ?_
        refine Ev.ret2 ?_
        refine ⟨?_, rfl⟩
        first
         | (rw [dimsV, dimsE, if_pos (by omega), if_pos (by omega)]; done)
         | (rw [dimsV, dimsE, if_neg (by omega), if_neg (by omega), show dimsM k + 1 = dimsN k by omega]; done)
      · first
      | (first | omega | contradiction)
      | refine Ev.skip ?_
        show Ev _ _ _ _
        refine Ev.sr fun K hK => S.o q.mv (S.o q.add (S.o q.as (S.o q.as (S.end (hK _ ?_)))))
        clear hK K
        refine Ev.ret ?_
        refine Ev.ret2 ?_
        refine ⟨?_, rfl⟩
        first
         | (rw [dimsV, dimsE, if_pos (by omega), if_pos (by omega)]; done)
         | (rw [dimsV, dimsE, if_neg (by omega), if_neg (by omega), show dimsM k + 1 = dimsN k by omega]; done)

def sumI (l : List Int) : Int := l.foldl (· + ·) 0
theorem sumI_go : ∀ (l : List Int) (a : Int), l.foldl (· + ·) a = a + sumI l
  | [], a => by simp [sumI]
  | x :: l, a => by
    rw [sumI, List.foldl_cons, List.foldl_cons, sumI_go l, sumI_go l (0 + x)]
    omega
theorem sumI_app (a b : List Int) : sumI (a ++ b) = sumI a + sumI b := by rw [sumI, List.foldl_append, sumI_go]; rfl
theorem sumI_cons (x : Int) (l : List Int) : sumI (x :: l) = x + sumI l := by rw [sumI, List.foldl_cons, sumI_go]; omega
theorem sumI_nn : ∀ l : List Int, (∀ n ∈ l, 1 ≤ n) → 0 ≤ sumI l
  | [], _ => Int.le_refl _
  | x :: l, h => by
    have := h x (by simp)
    have := sumI_nn l (fun n hn => h n (by simp [hn]))
    rw [sumI_cons]; omega
def dimsOK (l : List Int) : Prop := (∀ n ∈ l, 1 ≤ n) ∧ sumI l ≤ 262144
instance (l) : Decidable (dimsOK l) := by unfold dimsOK; infer_instance
theorem dims_cut {pre suf l : List Int} {s : Int} (hp : pre ++ s :: suf = l) (h : dimsOK l) : 1 ≤ s ∧ s ≤ 262144 - sumI pre ∧ sumI pre + s + sumI suf ≤ 262144 ∧ 0 ≤ sumI suf ∧ 0 ≤ sumI pre := by
  obtain ⟨h1, h2⟩ := h
  rw [← hp, sumI_app, sumI_cons] at h2
  have := sumI_nn suf (fun n hn => h1 n (by rw [← hp]; simp [hn]))
  have := sumI_nn pre (fun n hn => h1 n (by rw [← hp]; simp [hn]))
  have := h1 s (by rw [← hp]; simp)
  omega
theorem dims_in {l : List Int} (h : dimsOK l) {n : Int} (hn : n ∈ l) : 1 ≤ n ∧ n ≤ 262144 := by
  obtain ⟨a, b, rfl⟩ := List.append_of_mem hn
  have := dims_cut rfl h
  omega
def okBar (b : Bar) : Prop := IsName b.mark ∧ b.size ∈ sizes ∧ 1 ≤ b.count ∧ b.count ≤ 1000 ∧ dimsN b.code ≠ 0 ∧ (b.dims.length : Int) = dimsN b.code ∧ dimsOK b.dims
instance (b) : Decidable (okBar b) := by unfold okBar; infer_instance
/-- What the sizes of a line are at most in a machine's memory. -/
def Bar.w (b : Bar) : Prop := b.mark.length ≤ 140737488355328 ∧ b.dims.length ≤ 140737488355328
theorem dimsE_iff {k : Int} : dimsE k = 0 ↔ dimsN k ≠ 0 := by
  unfold dimsE
  split <;> simp [*]
theorem valid_fun (b : Bar) (hw : b.w) : Fun Tryz.prog 41 [.agg b.c] (Ret (.lit (.bool (decide (okBar b)))) []) := by
  obtain ⟨hw1, hw2⟩ := hw
  have he := @dimsE_iff b.code
  have hv : dimsE b.code = 0 → dimsV b.code = dimsN b.code := fun h => if_neg (he.1 h)
  have hok : okBar b ↔ IsName b.mark ∧ b.size ∈ sizes ∧ 1 ≤ b.count ∧ b.count ≤ 1000 ∧ dimsE b.code = 0 ∧ (b.dims.length : Int) = dimsV b.code ∧ dimsOK b.dims := by
    unfold okBar
    constructor
    · rintro ⟨h1, h2, h3, h4, h5, h6, h7⟩
      have h8 := he.2 h5
      exact ⟨h1, h2, h3, h4, h8, by rw [hv h8]; exact h6, h7⟩
    · rintro ⟨h1, h2, h3, h4, h5, h6, h7⟩
      exact ⟨h1, h2, h3, h4, he.1 h5, by rw [← hv h5]; exact h6, h7⟩
  refine Fun.of (nt := 63) (rs := [.tmp 2]) Tryz.func41 rfl rfl rfl rfl rfl ?_
  refine Ev.sr fun K hK => S.nn (q.bx [_, _, _, _, _] true) (S.o q.as (S.end (hK _ ?_)))
  clear hK K
  refine Ev.sr fun K hK => S.o (q.fa 3 am_fi72_3 am_cl3) (S.o (q.lv am_ag3) (S.c0 (hF := dims_fun _) (h := S.o q.mv (S.o q.ex (S.o q.ex (S.o q.as (S.o q.as (S.end (hK _ ?_)))))))))
  clear hK K
  refine Ev.seq ?_
  refine Ev.sr fun K hK => S.o q.mv (S.o q.neq (S.bn q.mv (fun c1 => ?_) (fun c1 => ?_)))
  · first
  | (first | omega | contradiction)
  | refine S.sk (S.sk (S.sk (S.sk (S.o q.pt (S.o q.mv (S.sk (S.sk (S.sk (S.sk (S.o q.pt (S.o q.mv (S.sk (S.sk (S.sk (S.o q.pt (S.o q.mv (S.sk (S.sk (S.sk (S.o q.pt (S.o q.mv (S.sk (S.sk (S.sk (S.sk (S.sk (S.o q.pt (S.end (hK _ ?_)))))))))))))))))))))))))))))
    clear hK K
    refine Ev.ct ?_
    refine Ev.sr fun K hK => S.o q.as (S.end (hK _ ?_))
    clear hK K
    refine Ev.ret ?_
    refine Ev.ret1 ?_
    refine ⟨?_, rfl⟩
    first
     | exact bT (hok.2 ⟨‹_›, ‹_›, by omega, by omega, by omega, by omega, by rw [← hp]; exact hinv⟩)
     | exact bF (fun h => absurd (hok.1 h).1 ‹_›)
     | exact bF (fun h => absurd (hok.1 h).2.1 ‹_›)
     | exact bF (fun h => by have h1 := (hok.1 h).2.2.1; have h2 := (hok.1 h).2.2.2.1; have h3 := (hok.1 h).2.2.2.2.1; have h4 := (hok.1 h).2.2.2.2.2.1; omega)
     | exact bF (fun h => by have h1 := dims_cut hp (hok.1 h).2.2.2.2.2.2; omega)
  · first
  | (first | omega | contradiction)
  | refine S.o (q.fa 0 am_fi72_0 am_cl9) (S.o (q.lv am_ag9) (S.c0 (hF := isName_fun _ (by omega)) (h := S.o q.not (S.o q.pf (S.bn q.mv (fun c2 => ?_) (fun c2 => ?_))))))
    · first
    | (first | omega | contradiction)
    | refine S.sk (S.sk (S.sk (S.sk (S.o q.pt (S.o q.mv (S.sk (S.sk (S.sk (S.o q.pt (S.o q.mv (S.sk (S.sk (S.sk (S.o q.pt (S.o q.mv (S.sk (S.sk (S.sk (S.sk (S.sk (S.o q.pt (S.end (hK _ ?_)))))))))))))))))))))))
      clear hK K
      refine Ev.ct ?_
      refine Ev.sr fun K hK => S.o q.as (S.end (hK _ ?_))
      clear hK K
      refine Ev.ret ?_
      refine Ev.ret1 ?_
      refine ⟨?_, rfl⟩
      first
       | exact bT (hok.2 ⟨‹_›, ‹_›, by omega, by omega, by omega, by omega, by rw [← hp]; exact hinv⟩)
       | exact bF (fun h => absurd (hok.1 h).1 ‹_›)
       | exact bF (fun h => absurd (hok.1 h).2.1 ‹_›)
       | exact bF (fun h => by have h1 := (hok.1 h).2.2.1; have h2 := (hok.1 h).2.2.2.1; have h3 := (hok.1 h).2.2.2.2.1; have h4 := (hok.1 h).2.2.2.2.2.1; omega)
       | exact bF (fun h => by have h1 := dims_cut hp (hok.1 h).2.2.2.2.2.2; omega)
    · first
    | (first | omega | contradiction)
    | refine S.o (q.fa 1 am_fi72_1 am_cl3) (S.o (q.lv am_ag3) (S.c0 (hF := size_fun _) (h := S.o q.not (S.o q.pf (S.bn q.mv (fun c3 => ?_) (fun c3 => ?_))))))
      · first
      | (first | omega | contradiction)
      | refine S.sk (S.sk (S.sk (S.o q.pt (S.o q.mv (S.sk (S.sk (S.sk (S.o q.pt (S.o q.mv (S.sk (S.sk (S.sk (S.sk (S.sk (S.o q.pt (S.end (hK _ ?_)))))))))))))))))
        clear hK K
        refine Ev.ct ?_
        refine Ev.sr fun K hK => S.o q.as (S.end (hK _ ?_))
        clear hK K
        refine Ev.ret ?_
        refine Ev.ret1 ?_
        refine ⟨?_, rfl⟩
        first
         | exact bT (hok.2 ⟨‹_›, ‹_›, by omega, by omega, by omega, by omega, by rw [← hp]; exact hinv⟩)
         | exact bF (fun h => absurd (hok.1 h).1 ‹_›)
         | exact bF (fun h => absurd (hok.1 h).2.1 ‹_›)
         | exact bF (fun h => by have h1 := (hok.1 h).2.2.1; have h2 := (hok.1 h).2.2.2.1; have h3 := (hok.1 h).2.2.2.2.1; have h4 := (hok.1 h).2.2.2.2.2.1; omega)
         | exact bF (fun h => by have h1 := dims_cut hp (hok.1 h).2.2.2.2.2.2; omega)
      · first
      | (first | omega | contradiction)
      | refine S.o (q.fa 2 am_fi72_2 am_cl3) (S.o (q.lv am_ag3) (S.o q.lss (S.o q.pf (S.bd q.mv (fun c4 => ?_) (fun c4 => ?_)))))
        · first
        | (first | omega | contradiction)
        | refine S.sk (S.sk (S.sk (S.o q.pt (S.o q.mv (S.sk (S.sk (S.sk (S.sk (S.sk (S.o q.pt (S.end (hK _ ?_))))))))))))
          clear hK K
          refine Ev.ct ?_
          refine Ev.sr fun K hK => S.o q.as (S.end (hK _ ?_))
          clear hK K
          refine Ev.ret ?_
          refine Ev.ret1 ?_
          refine ⟨?_, rfl⟩
          first
           | exact bT (hok.2 ⟨‹_›, ‹_›, by omega, by omega, by omega, by omega, by rw [← hp]; exact hinv⟩)
           | exact bF (fun h => absurd (hok.1 h).1 ‹_›)
           | exact bF (fun h => absurd (hok.1 h).2.1 ‹_›)
           | exact bF (fun h => by have h1 := (hok.1 h).2.2.1; have h2 := (hok.1 h).2.2.2.1; have h3 := (hok.1 h).2.2.2.2.1; have h4 := (hok.1 h).2.2.2.2.2.1; omega)
           | exact bF (fun h => by have h1 := dims_cut hp (hok.1 h).2.2.2.2.2.2; omega)
        · first
        | (first | omega | contradiction)
        | refine S.o (q.fa 2 am_fi72_2 am_cl3) (S.o (q.lv am_ag3) (S.o q.gtr (S.o q.pf (S.bd q.mv (fun c5 => ?_) (fun c5 => ?_)))))
          · first
          | (first | omega | contradiction)
          | refine S.sk (S.sk (S.sk (S.sk (S.sk (S.o q.pt (S.end (hK _ ?_)))))))
            clear hK K
            refine Ev.ct ?_
            refine Ev.sr fun K hK => S.o q.as (S.end (hK _ ?_))
            clear hK K
            refine Ev.ret ?_
            refine Ev.ret1 ?_
            refine ⟨?_, rfl⟩
            first
             | exact bT (hok.2 ⟨‹_›, ‹_›, by omega, by omega, by omega, by omega, by rw [← hp]; exact hinv⟩)
             | exact bF (fun h => absurd (hok.1 h).1 ‹_›)
             | exact bF (fun h => absurd (hok.1 h).2.1 ‹_›)
             | exact bF (fun h => by have h1 := (hok.1 h).2.2.1; have h2 := (hok.1 h).2.2.2.1; have h3 := (hok.1 h).2.2.2.2.1; have h4 := (hok.1 h).2.2.2.2.2.1; omega)
             | exact bF (fun h => by have h1 := dims_cut hp (hok.1 h).2.2.2.2.2.2; omega)
          · first
          | (first | omega | contradiction)
          | refine S.o (q.fa 4 am_fi72_4 am_cl70) (S.o (q.lv am_ag70) (S.o (q.lens am_el70) (S.o q.mv (S.o q.neq (S.o q.pf (S.end (hK _ ?_)))))))
            clear hK K
            refine Ev.cn (fun c6 => ?_) (fun c6 => ?_)
            · first
            | (first | omega | contradiction)
            | refine Ev.sr fun K hK => S.o q.as (S.end (hK _ ?_))
              clear hK K
              refine Ev.ret ?_
              refine Ev.ret1 ?_
              refine ⟨?_, rfl⟩
              first
               | exact bT (hok.2 ⟨‹_›, ‹_›, by omega, by omega, by omega, by omega, by rw [← hp]; exact hinv⟩)
               | exact bF (fun h => absurd (hok.1 h).1 ‹_›)
               | exact bF (fun h => absurd (hok.1 h).2.1 ‹_›)
               | exact bF (fun h => by have h1 := (hok.1 h).2.2.1; have h2 := (hok.1 h).2.2.2.1; have h3 := (hok.1 h).2.2.2.2.1; have h4 := (hok.1 h).2.2.2.2.2.1; omega)
               | exact bF (fun h => by have h1 := dims_cut hp (hok.1 h).2.2.2.2.2.2; omega)
            · first
            | (first | omega | contradiction)
            | refine Ev.skip ?_
              show Ev _ _ _ _
              refine Ev.sr fun K hK => S.o q.as (S.end (hK _ ?_))
              clear hK K
              refine Ev.seq ?_
              refine Ev.sr fun K hK => S.o (q.fa 4 am_fi72_4 am_cl70) (S.o (q.lv am_ag70) (S.o (q.lens am_el70) (S.o q.mv (S.end (hK _ ?_)))))
              clear hK K
              refine Ev.block ?_
              refine Ev.loopU (ι := {q : List Int × List Int // q.1 ++ q.2 = b.dims ∧ dimsOK q.1}) [] [46, 47] (fun ⟨(pre, suf), _⟩ => [(48, .lit (.int .i64 ((pre.length : Int)))), (5, .lit (.int .i64 (262144 - sumI pre)))]) (fun ⟨(pre, suf), _⟩ => []) (fun ⟨(pre, suf), _⟩ => suf.length) ⟨([], b.dims), rfl, (show dimsOK [] by decide)⟩ (.c (.c .n)) keep_n (slots_c (he := (by first | rfl | (congr 2; simp; done))) (h := (slots_c (he := (by first | rfl | (congr 2; rw [sumI_app, show sumI [s] = s by simp [sumI]]; omega))) (h := trivial)))) ?_
              rintro ⟨⟨pre, suf⟩, hp, hinv⟩ R0 hR0
              dsimp only [List.cons_append, List.nil_append, List.length_cons, List.length_nil]
              simp only at hp hinv
              have hpl : pre.length + suf.length = (b.dims).length := by rw [← hp, List.length_append]
              rcases suf with _ | ⟨s, suf⟩
              · rw [List.append_nil] at hp; simp only [List.length_nil] at hpl
                refine Ev.sr fun K hK => S.o q.lss (S.end (hK _ ?_))
                clear hK K
                refine Ev.ud (fun c7 => ?_) (fun c7 => ?_)
                · first
                | (first | omega | contradiction)
                | refine Ev.seq ?_
                  refine Ev.block ?_
                  refine Ev.sr fun K hK => S.o (q.ix am_el70 am_cl3 (hl := (by first | exact atig (by omega)))) (S.o (q.ls am_ag3) (S.o q.as (S.end (hK _ ?_))))
                  clear hK K
                  refine Ev.seq ?_
                  refine Ev.sr fun K hK => S.o q.mv (S.o q.lss (S.bd q.mv (fun c8 => ?_) (fun c8 => ?_)))
                  · first
                  | (first | omega | contradiction)
                  | refine S.sk (S.sk (S.sk (S.o q.pt (S.end (hK _ ?_)))))
                    clear hK K
                    refine Ev.ct ?_
                    refine Ev.sr fun K hK => S.o q.as (S.end (hK _ ?_))
                    clear hK K
                    refine Ev.ret ?_
                    refine hR0 _ _ ?_
                    refine Ev.ret1 ?_
                    refine ⟨?_, rfl⟩
                    first
                     | exact bT (hok.2 ⟨‹_›, ‹_›, by omega, by omega, by omega, by omega, by rw [← hp]; exact hinv⟩)
                     | exact bF (fun h => absurd (hok.1 h).1 ‹_›)
                     | exact bF (fun h => absurd (hok.1 h).2.1 ‹_›)
                     | exact bF (fun h => by have h1 := (hok.1 h).2.2.1; have h2 := (hok.1 h).2.2.2.1; have h3 := (hok.1 h).2.2.2.2.1; have h4 := (hok.1 h).2.2.2.2.2.1; omega)
                     | exact bF (fun h => by have h1 := dims_cut hp (hok.1 h).2.2.2.2.2.2; omega)
                  · first
                  | (first | omega | contradiction)
                  | refine S.o q.mv (S.o q.mv (S.o q.gtr (S.o q.pf (S.end (hK _ ?_)))))
                    clear hK K
                    refine Ev.cd (fun c9 => ?_) (fun c9 => ?_)
                    · first
                    | (first | omega | contradiction)
                    | refine Ev.sr fun K hK => S.o q.as (S.end (hK _ ?_))
                      clear hK K
                      refine Ev.ret ?_
                      refine hR0 _ _ ?_
                      refine Ev.ret1 ?_
                      refine ⟨?_, rfl⟩
                      first
                       | exact bT (hok.2 ⟨‹_›, ‹_›, by omega, by omega, by omega, by omega, by rw [← hp]; exact hinv⟩)
                       | exact bF (fun h => absurd (hok.1 h).1 ‹_›)
                       | exact bF (fun h => absurd (hok.1 h).2.1 ‹_›)
                       | exact bF (fun h => by have h1 := (hok.1 h).2.2.1; have h2 := (hok.1 h).2.2.2.1; have h3 := (hok.1 h).2.2.2.2.1; have h4 := (hok.1 h).2.2.2.2.2.1; omega)
                       | exact bF (fun h => by have h1 := dims_cut hp (hok.1 h).2.2.2.2.2.2; omega)
                    · first
                    | (first | omega | contradiction)
                    | refine Ev.skip ?_
                      show Ev _ _ _ _
                      refine Ev.region_S fun K hK => S.o q.mv (S.o q.mv (S.o q.sub (S.o q.as (S.end (hK _ ?_)))))
                      clear hK K
                      show Ev _ _ _ _
                      refine Ev.region_S fun K hK => S.o q.add (S.o q.mv (S.end (hK _ ?_)))
                      clear hK K
                      refine hR0 _ _ ?_
                      refine roundU [] [46, 47] ⟨(pre ++ [s], suf), by rw [← hp]; simp, ?_⟩ ?_ keep_n (slots_c (he := (by first | rfl | (congr 2; simp; done))) (h := (slots_c (he := (by first | rfl | (congr 2; rw [sumI_app, show sumI [s] = s by simp [sumI]]; omega))) (h := trivial)))) (.c (.c .n))
                      refine ⟨fun n hn => ?_, by rw [sumI_app, show sumI [s] = s by simp [sumI]]; omega⟩
                      simp only [List.mem_append, List.mem_singleton] at hn
                      rcases hn with hn | rfl
                      · exact hinv.1 n hn
                      · omega
                      all_goals (dsimp only; simp only [List.length_cons]; omega)
                · first
                | (first | omega | contradiction)
                | refine Ev.exit ?_
                  refine hR0 _ _ ?_
                  show Ev _ _ _ _
                  refine Ev.sr fun K hK => S.o q.as (S.end (hK _ ?_))
                  clear hK K
                  refine Ev.ret ?_
                  refine Ev.ret1 ?_
                  refine ⟨?_, rfl⟩
                  first
                   | exact bT (hok.2 ⟨‹_›, ‹_›, by omega, by omega, by omega, by omega, by rw [← hp]; exact hinv⟩)
                   | exact bF (fun h => absurd (hok.1 h).1 ‹_›)
                   | exact bF (fun h => absurd (hok.1 h).2.1 ‹_›)
                   | exact bF (fun h => by have h1 := (hok.1 h).2.2.1; have h2 := (hok.1 h).2.2.2.1; have h3 := (hok.1 h).2.2.2.2.1; have h4 := (hok.1 h).2.2.2.2.2.1; omega)
                   | exact bF (fun h => by have h1 := dims_cut hp (hok.1 h).2.2.2.2.2.2; omega)
              · simp only [List.length_cons] at hpl
                have hidx : b.dims[pre.length]? = some s := by rw [← hp]; simp
                have hnn := sumI_nn pre hinv.1
                have hle := hinv.2
                refine Ev.sr fun K hK => S.o q.lss (S.end (hK _ ?_))
                clear hK K
                refine Ev.ud (fun c10 => ?_) (fun c10 => ?_)
                · first
                | (first | omega | contradiction)
                | refine Ev.seq ?_
                  refine Ev.block ?_
                  refine Ev.sr fun K hK => S.o (q.ix am_el70 am_cl3 (hl := (by first | exact ati hidx (by omega) | exact atig (by omega)))) (S.o (q.ls am_ag3) (S.o q.as (S.end (hK _ ?_))))
                  clear hK K
                  refine Ev.seq ?_
                  refine Ev.sr fun K hK => S.o q.mv (S.o q.lss (S.bd q.mv (fun c11 => ?_) (fun c11 => ?_)))
                  · first
                  | (first | omega | contradiction)
                  | refine S.sk (S.sk (S.sk (S.o q.pt (S.end (hK _ ?_)))))
                    clear hK K
                    refine Ev.ct ?_
                    refine Ev.sr fun K hK => S.o q.as (S.end (hK _ ?_))
                    clear hK K
                    refine Ev.ret ?_
                    refine hR0 _ _ ?_
                    refine Ev.ret1 ?_
                    refine ⟨?_, rfl⟩
                    first
                     | exact bT (hok.2 ⟨‹_›, ‹_›, by omega, by omega, by omega, by omega, by rw [← hp]; exact hinv⟩)
                     | exact bF (fun h => absurd (hok.1 h).1 ‹_›)
                     | exact bF (fun h => absurd (hok.1 h).2.1 ‹_›)
                     | exact bF (fun h => by have h1 := (hok.1 h).2.2.1; have h2 := (hok.1 h).2.2.2.1; have h3 := (hok.1 h).2.2.2.2.1; have h4 := (hok.1 h).2.2.2.2.2.1; omega)
                     | exact bF (fun h => by have h1 := dims_cut hp (hok.1 h).2.2.2.2.2.2; omega)
                  · first
                  | (first | omega | contradiction)
                  | refine S.o q.mv (S.o q.mv (S.o q.gtr (S.o q.pf (S.end (hK _ ?_)))))
                    clear hK K
                    refine Ev.cd (fun c12 => ?_) (fun c12 => ?_)
                    · first
                    | (first | omega | contradiction)
                    | refine Ev.sr fun K hK => S.o q.as (S.end (hK _ ?_))
                      clear hK K
                      refine Ev.ret ?_
                      refine hR0 _ _ ?_
                      refine Ev.ret1 ?_
                      refine ⟨?_, rfl⟩
                      first
                       | exact bT (hok.2 ⟨‹_›, ‹_›, by omega, by omega, by omega, by omega, by rw [← hp]; exact hinv⟩)
                       | exact bF (fun h => absurd (hok.1 h).1 ‹_›)
                       | exact bF (fun h => absurd (hok.1 h).2.1 ‹_›)
                       | exact bF (fun h => by have h1 := (hok.1 h).2.2.1; have h2 := (hok.1 h).2.2.2.1; have h3 := (hok.1 h).2.2.2.2.1; have h4 := (hok.1 h).2.2.2.2.2.1; omega)
                       | exact bF (fun h => by have h1 := dims_cut hp (hok.1 h).2.2.2.2.2.2; omega)
                    · first
                    | (first | omega | contradiction)
                    | refine Ev.skip ?_
                      show Ev _ _ _ _
                      refine Ev.region_S fun K hK => S.o q.mv (S.o q.mv (S.o q.sub (S.o q.as (S.end (hK _ ?_)))))
                      clear hK K
                      show Ev _ _ _ _
                      refine Ev.region_S fun K hK => S.o q.add (S.o q.mv (S.end (hK _ ?_)))
                      clear hK K
                      refine hR0 _ _ ?_
                      refine roundU [] [46, 47] ⟨(pre ++ [s], suf), by rw [← hp]; simp, ?_⟩ ?_ keep_n (slots_c (he := (by first | rfl | (congr 2; simp; done))) (h := (slots_c (he := (by first | rfl | (congr 2; rw [sumI_app, show sumI [s] = s by simp [sumI]]; omega))) (h := trivial)))) (.c (.c .n))
                      refine ⟨fun n hn => ?_, by rw [sumI_app, show sumI [s] = s by simp [sumI]]; omega⟩
                      simp only [List.mem_append, List.mem_singleton] at hn
                      rcases hn with hn | rfl
                      · exact hinv.1 n hn
                      · omega
                      all_goals (dsimp only; simp only [List.length_cons]; omega)
                · first
                | (first | omega | contradiction)
                | refine Ev.exit ?_
                  refine hR0 _ _ ?_
                  show Ev _ _ _ _
                  refine Ev.sr fun K hK => S.o q.as (S.end (hK _ ?_))
                  clear hK K
                  refine Ev.ret ?_
                  refine Ev.ret1 ?_
                  refine ⟨?_, rfl⟩
                  first
                   | exact bT (hok.2 ⟨‹_›, ‹_›, by omega, by omega, by omega, by omega, by rw [← hp]; exact hinv⟩)
                   | exact bF (fun h => absurd (hok.1 h).1 ‹_›)
                   | exact bF (fun h => absurd (hok.1 h).2.1 ‹_›)
                   | exact bF (fun h => by have h1 := (hok.1 h).2.2.1; have h2 := (hok.1 h).2.2.2.1; have h3 := (hok.1 h).2.2.2.2.1; have h4 := (hok.1 h).2.2.2.2.2.1; omega)
                   | exact bF (fun h => by have h1 := dims_cut hp (hok.1 h).2.2.2.2.2.2; omega)
end Go.Proofs.YtnbjmckhongidaaGreatDoor
namespace Go.Proofs.YtnbjmckhongidaaGreatDoor
open Go Go.AM
set_option linter.unusedSimpArgs false
set_option linter.unusedVariables false
set_option maxRecDepth 100000
theorem indexFuncBar1 (g : FuncId) (c0 : List AV) (p : Bar → Bool) (hg : ∀ s, Fun Tryz.prog g [.agg (Bar.c s), .sadr c0 0] (Ret (.lit (.bool (p s))) [])) (l : List (Bar)) (hlen : l.length ≤ 140737488355328) :
    Fun Tryz.prog 43 [.sh 5 (l.map Bar.c), .fn (.func g) [] [.sadr c0 0]] (Ret (.lit (.int .i64 (idxP p l 0))) []) := by
  refine Fun.of (nt := 19) (rs := [.tmp 4]) Tryz.func43 rfl rfl rfl rfl rfl ?_
  refine Ev.sr fun K hK => S.o q.as (S.end (hK _ ?_))
  clear hK K
  refine Ev.seq ?_
  refine Ev.sr fun K hK => S.o q.mv (S.o (q.lens am_el40) (S.o q.mv (S.end (hK _ ?_))))
  clear hK K
  refine Ev.block ?_
  refine Ev.loopU (ι := {q : List (Bar) × List (Bar) // q.1 ++ q.2 = l ∧ ∀ x ∈ q.1, p x = false}) [] [0, 1, 7] (fun ⟨(pre, suf), _⟩ => [(8, .lit (.int .i64 ((pre.length : Int))))]) (fun ⟨(pre, suf), _⟩ => []) (fun ⟨(pre, suf), _⟩ => suf.length) ⟨([], l), rfl, fun x hx => by simp at hx⟩ (.c (.c (.c .n))) keep_n (slots_c (he := (by first | rfl | (simp; done) | (congr 2; omega))) (h := trivial)) ?_
  rintro ⟨⟨pre, suf⟩, hp, hinv⟩ R0 hR0
  dsimp only [List.cons_append, List.nil_append, List.length_cons, List.length_nil]
  simp only at hp hinv
  have hpl : pre.length + suf.length = (l).length := by rw [← hp, List.length_append]
  rcases suf with _ | ⟨s, suf⟩
  · rw [List.append_nil] at hp; subst hp; simp only [List.length_nil] at hpl
    refine Ev.sr fun K hK => S.o q.lss (S.end (hK _ ?_))
    clear hK K
    refine Ev.ud (fun c1 => ?_) (fun c1 => ?_)
    · first
    | (first | omega | contradiction)
    | refine Ev.seq ?_
      refine Ev.block ?_
      refine Ev.sr fun K hK => S.o q.mv (S.o q.as (S.end (hK _ ?_)))
      clear hK K
      refine Ev.sr fun K hK => S.o q.mv (S.o q.mv (S.o q.mv (S.o (q.ix am_el40 am_cl72 (hl := (by first | exact atig (by omega)))) (S.o (q.lsA [_, _, _, _, _] am_ag72 am_cl72) (S.c0 (hF := hg s) (h := S.end (hK _ ?_)))))))
      clear hK K
      refine Ev.c (fun c2 => ?_) (fun c2 => ?_)
      · first
      | (first | omega | contradiction)
      | refine Ev.sr fun K hK => S.o q.mv (S.o q.as (S.end (hK _ ?_)))
        clear hK K
        refine Ev.ret ?_
        refine hR0 _ _ ?_
        refine Ev.ret1 ?_
        refine ⟨?_, rfl⟩
        first | (congr 2; rw [← hp, idxP_append p pre _ 0 hinv, idxP, if_pos ‹_›]; omega) | (congr 2; rw [idxP_none p pre 0 hinv])
      · first
      | (first | omega | contradiction)
      | refine Ev.skip ?_
        show Ev _ _ _ _
        refine Ev.region_S fun K hK => S.o q.add (S.o q.mv (S.end (hK _ ?_)))
        clear hK K
        refine hR0 _ _ ?_
        refine roundU [] [0, 1, 7] ⟨(pre ++ [s], suf), by rw [← hp]; simp, ?_⟩ ?_ keep_n (slots_c (he := (by first | rfl | (simp; done) | (congr 2; omega))) (h := trivial)) (.c (.c (.c .n)))
        intro x hx; simp only [List.mem_append, List.mem_singleton] at hx; rcases hx with hx | rfl
        · exact hinv x hx
        · assumption
        all_goals (dsimp only; simp only [List.length_cons]; omega)
    · first
    | (first | omega | contradiction)
    | refine Ev.exit ?_
      refine hR0 _ _ ?_
      show Ev _ _ _ _
      refine Ev.sr fun K hK => S.o q.as (S.end (hK _ ?_))
      clear hK K
      refine Ev.ret ?_
      refine Ev.ret1 ?_
      refine ⟨?_, rfl⟩
      first | (congr 2; rw [← hp, idxP_append p pre _ 0 hinv, idxP, if_pos ‹_›]; omega) | (congr 2; rw [idxP_none p pre 0 hinv])
  · simp only [List.length_cons] at hpl
    have hidx : (l)[pre.length]? = some s := by rw [← hp]; simp
    refine Ev.sr fun K hK => S.o q.lss (S.end (hK _ ?_))
    clear hK K
    refine Ev.ud (fun c3 => ?_) (fun c3 => ?_)
    · first
    | (first | omega | contradiction)
    | refine Ev.seq ?_
      refine Ev.block ?_
      refine Ev.sr fun K hK => S.o q.mv (S.o q.as (S.end (hK _ ?_)))
      clear hK K
      refine Ev.sr fun K hK => S.o q.mv (S.o q.mv (S.o q.mv (S.o (q.ix am_el40 am_cl72 (hl := (by first | exact ati hidx (by omega) | exact atig (by omega)))) (S.o (q.lsA [_, _, _, _, _] am_ag72 am_cl72) (S.c0 (hF := hg s) (h := S.end (hK _ ?_)))))))
      clear hK K
      refine Ev.c (fun c4 => ?_) (fun c4 => ?_)
      · first
      | (first | omega | contradiction)
      | refine Ev.sr fun K hK => S.o q.mv (S.o q.as (S.end (hK _ ?_)))
        clear hK K
        refine Ev.ret ?_
        refine hR0 _ _ ?_
        refine Ev.ret1 ?_
        refine ⟨?_, rfl⟩
        first | (congr 2; rw [← hp, idxP_append p pre _ 0 hinv, idxP, if_pos ‹_›]; omega) | (congr 2; rw [idxP_none p pre 0 hinv])
      · first
      | (first | omega | contradiction)
      | refine Ev.skip ?_
        show Ev _ _ _ _
        refine Ev.region_S fun K hK => S.o q.add (S.o q.mv (S.end (hK _ ?_)))
        clear hK K
        refine hR0 _ _ ?_
        refine roundU [] [0, 1, 7] ⟨(pre ++ [s], suf), by rw [← hp]; simp, ?_⟩ ?_ keep_n (slots_c (he := (by first | rfl | (simp; done) | (congr 2; omega))) (h := trivial)) (.c (.c (.c .n)))
        intro x hx; simp only [List.mem_append, List.mem_singleton] at hx; rcases hx with hx | rfl
        · exact hinv x hx
        · assumption
        all_goals (dsimp only; simp only [List.length_cons]; omega)
    · first
    | (first | omega | contradiction)
    | refine Ev.exit ?_
      refine hR0 _ _ ?_
      show Ev _ _ _ _
      refine Ev.sr fun K hK => S.o q.as (S.end (hK _ ?_))
      clear hK K
      refine Ev.ret ?_
      refine Ev.ret1 ?_
      refine ⟨?_, rfl⟩
      first | (congr 2; rw [← hp, idxP_append p pre _ 0 hinv, idxP, if_pos ‹_›]; omega) | (congr 2; rw [idxP_none p pre 0 hinv])
theorem index1_fun (mk : List UInt8) (b : Bar) : Fun Tryz.prog 58 [.agg b.c, .sadr [.lit (str mk)] 0] (Ret (.lit (.bool (decide (b.mark = mk)))) []) := by
  refine Fun.of (nt := 8) (rs := [.tmp 3]) Tryz.func58 rfl rfl rfl rfl rfl ?_
  refine Ev.sr fun K hK => S.nn (q.bx [_, _, _, _, _] true) (S.o q.as (S.end (hK _ ?_)))
  clear hK K
  refine Ev.sr fun K hK => S.o (q.fa 0 am_fi72_0 am_cl9) (S.o (q.lv am_ag9) (S.o (q.ls am_ag9) (S.o q.seqs (S.o q.as (S.end (hK _ ?_))))))
  clear hK K
  refine Ev.ret ?_
  refine Ev.ret1 ?_
  refine ⟨?_, rfl⟩
  rfl

def markI (l : List Bar) (mk : List UInt8) : Int := idxP (fun b => decide (b.mark = mk)) l 0
theorem schedIndex_fun (l : List Bar) (mk : List UInt8) (hlen : l.length ≤ 140737488355328) : Fun Tryz.prog 42 [.sh 5 (l.map Bar.c), .lit (str mk)] (Ret (.lit (.int .i64 (markI l mk))) []) := by
  refine Fun.of (nt := 8) (rs := [.tmp 4]) Tryz.func42 rfl rfl rfl rfl rfl ?_
  refine Ev.sr fun K hK => S.nn (q.bx [_] true) (S.o q.as (S.end (hK _ ?_)))
  clear hK K
  refine Ev.sr fun K hK => S.o q.mv (S.o q.mf (S.c0 (hF := indexFuncBar1 _ _ _ (index1_fun mk) l (by omega)) (h := S.o q.as (S.end (hK _ ?_)))))
  clear hK K
  refine Ev.ret ?_
  refine Ev.ret1 ?_
  refine ⟨?_, rfl⟩
  rfl

def okSched (l : List Bar) : Prop := l.length ≤ 60 ∧ (∀ b ∈ l, okBar b) ∧ l.Pairwise (fun a b => a.mark ≠ b.mark)
instance (l) : Decidable (okSched l) := by unfold okSched; infer_instance
def schedW (l : List Bar) : Prop := ∀ b ∈ l, b.w
theorem markI_at {pre suf l : List Bar} {s : Bar} (hp : pre ++ s :: suf = l) : markI l s.mark = pre.length ↔ ∀ a ∈ pre, a.mark ≠ s.mark := by
  constructor
  · intro h a ha hm
    obtain ⟨p1, p2, rfl⟩ := List.append_of_mem ha
    have hle : markI l s.mark ≤ p1.length := by
      rw [← hp, markI, List.append_assoc]
      have : ∀ (q : List Bar) (k : Int) (r : List Bar), a.mark = s.mark → idxP (fun b : Bar => decide (b.mark = s.mark)) (q ++ a :: r) k ≤ k + q.length := by
        intro q
        induction q with
        | nil => intro k r hm; rw [List.nil_append, idxP, if_pos (by simp [hm])]; simp
        | cons x q ih =>
          intro k r hm
          rw [List.cons_append, idxP]
          split
          · simp only [List.length_cons]; omega
          · have := ih (k + 1) r hm
            simp only [List.length_cons]; omega
      have := this p1 0 (p2 ++ s :: suf) hm
      simpa using this
    rw [h] at hle
    simp only [List.length_append, List.length_cons] at hle
    omega
  · intro h
    rw [markI, ← hp, idxP_append _ pre _ 0 (fun a ha => by simp [h a ha]), idxP, if_pos (by simp)]
    omega
theorem sched_cut {pre suf l : List Bar} {s : Bar} (hp : pre ++ s :: suf = l) (h : okSched l) : okBar s ∧ markI l s.mark = pre.length := by
  obtain ⟨h1, h2, h3⟩ := h
  refine ⟨h2 s (by rw [← hp]; simp), (markI_at hp).2 fun a ha => ?_⟩
  rw [← hp, List.pairwise_append] at h3
  exact h3.2.2 a ha s (by simp)
theorem sched_snoc {pre suf l : List Bar} {s : Bar} (hp : pre ++ s :: suf = l) (h : (∀ b ∈ pre, okBar b) ∧ pre.Pairwise (fun a b => a.mark ≠ b.mark)) (h1 : okBar s) (h2 : markI l s.mark = pre.length) :
    (∀ b ∈ pre ++ [s], okBar b) ∧ (pre ++ [s]).Pairwise (fun a b => a.mark ≠ b.mark) := by
  refine ⟨fun b hb => ?_, List.pairwise_append.2 ⟨h.2, by simp, fun a ha b hb => ?_⟩⟩
  · rcases List.mem_append.1 hb with hb | hb
    · exact h.1 b hb
    · simp at hb; subst hb; exact h1
  · simp at hb; subst hb
    exact (markI_at hp).1 h2 a ha
theorem schedValid_fun (l : List Bar) (hlen : l.length ≤ 140737488355328) (hw : schedW l) : Fun Tryz.prog 27 [.sh 5 (l.map Bar.c)] (Ret (.lit (.bool (decide (okSched l)))) []) := by
  refine Fun.of (nt := 27) (rs := [.tmp 2]) Tryz.func27 rfl rfl rfl rfl rfl ?_
  refine Ev.sr fun K hK => S.o q.as (S.end (hK _ ?_))
  clear hK K
  refine Ev.seq ?_
  refine Ev.sr fun K hK => S.o q.mv (S.o (q.lens am_el40) (S.o q.gtr (S.end (hK _ ?_))))
  clear hK K
  refine Ev.cd (fun c1 => ?_) (fun c1 => ?_)
  · first
  | (first | omega | contradiction)
  | refine Ev.sr fun K hK => S.o q.as (S.end (hK _ ?_))
    clear hK K
    refine Ev.ret ?_
    refine Ev.ret1 ?_
    refine ⟨?_, rfl⟩
    first
     | exact bF (fun h => by have h1 := h.1; omega)
     | exact bF (fun h => absurd (sched_cut hp h).1 ‹_›)
     | exact bF (fun h => by have h1 := (sched_cut hp h).2; omega)
     | exact bT ⟨by omega, by rw [← hp]; exact hinv⟩
  · first
  | (first | omega | contradiction)
  | refine Ev.skip ?_
    show Ev _ _ _ _
    refine Ev.seq ?_
    refine Ev.sr fun K hK => S.o q.mv (S.o (q.lens am_el40) (S.o q.mv (S.end (hK _ ?_))))
    clear hK K
    refine Ev.block ?_
    refine Ev.loopU (ι := {q : List Bar × List Bar // q.1 ++ q.2 = l ∧ (∀ b ∈ q.1, okBar b) ∧ q.1.Pairwise (fun a b => a.mark ≠ b.mark)}) [] [0, 8, 9] (fun ⟨(pre, suf), _⟩ => [(10, .lit (.int .i64 ((pre.length : Int))))]) (fun ⟨(pre, suf), _⟩ => []) (fun ⟨(pre, suf), _⟩ => suf.length) ⟨([], l), rfl, ⟨fun b hb => by simp at hb, by simp⟩⟩ (.c (.c (.c .n))) keep_n (slots_c (he := (by first | rfl | (simp; done) | (congr 2; omega))) (h := trivial)) ?_
    rintro ⟨⟨pre, suf⟩, hp, hinv⟩ R0 hR0
    dsimp only [List.cons_append, List.nil_append, List.length_cons, List.length_nil]
    simp only at hp hinv
    have hpl : pre.length + suf.length = (l).length := by rw [← hp, List.length_append]
    rcases suf with _ | ⟨s, suf⟩
    · rw [List.append_nil] at hp; simp only [List.length_nil] at hpl
      refine Ev.sr fun K hK => S.o q.lss (S.end (hK _ ?_))
      clear hK K
      refine Ev.ud (fun c2 => ?_) (fun c2 => ?_)
      · first
      | (first | omega | contradiction)
      | refine Ev.seq ?_
        refine Ev.block ?_
        refine Ev.sr fun K hK => S.o q.mv (S.o (q.ix am_el40 am_cl72 (hl := (by first | exact atig (by omega)))) (S.o (q.lsA [_, _, _, _, _] am_ag72 am_cl72) (S.nn (q.al am_ze72) (S.o q.as (S.sv [_, _, _, _, _] true [] am_in72 am_cl72 (h := S.end (hK _ ?_)))))))
        clear hK K
        refine Ev.sr fun K hK => S.o (q.lvA [_, _, _, _, _] am_ag72 am_cl72) (S.c0 (hF := valid_fun _ (by assumption)) (h := S.o q.not (S.bn q.mv (fun c3 => ?_) (fun c3 => ?_))))
        · first
        | (first | omega | contradiction)
        | refine S.sk (S.sk (S.sk (S.sk (S.sk (S.sk (S.o q.pt (S.end (hK _ ?_))))))))
          clear hK K
          refine Ev.ct ?_
          refine Ev.sr fun K hK => S.o q.as (S.end (hK _ ?_))
          clear hK K
          refine Ev.ret ?_
          refine hR0 _ _ ?_
          refine Ev.ret1 ?_
          refine ⟨?_, rfl⟩
          first
           | exact bF (fun h => by have h1 := h.1; omega)
           | exact bF (fun h => absurd (sched_cut hp h).1 ‹_›)
           | exact bF (fun h => by have h1 := (sched_cut hp h).2; omega)
           | exact bT ⟨by omega, by rw [← hp]; exact hinv⟩
        · first
        | (first | omega | contradiction)
        | refine S.o q.mv (S.o (q.fa 0 am_fi72_0 am_cl9) (S.o (q.lv am_ag9) (S.c0 (hF := schedIndex_fun _ _ (by omega)) (h := S.o q.mv (S.o q.neq (S.o q.pf (S.end (hK _ ?_))))))))
          clear hK K
          refine Ev.cn (fun c4 => ?_) (fun c4 => ?_)
          · first
          | (first | omega | contradiction)
          | refine Ev.sr fun K hK => S.o q.as (S.end (hK _ ?_))
            clear hK K
            refine Ev.ret ?_
            refine hR0 _ _ ?_
            refine Ev.ret1 ?_
            refine ⟨?_, rfl⟩
            first
             | exact bF (fun h => by have h1 := h.1; omega)
             | exact bF (fun h => absurd (sched_cut hp h).1 ‹_›)
             | exact bF (fun h => by have h1 := (sched_cut hp h).2; omega)
             | exact bT ⟨by omega, by rw [← hp]; exact hinv⟩
          · first
          | (first | omega | contradiction)
          | refine Ev.skip ?_
            show Ev _ _ _ _
            refine Ev.region_S fun K hK => S.o q.add (S.o q.mv (S.end (hK _ ?_)))
            clear hK K
            refine hR0 _ _ ?_
            refine roundU [] [0, 8, 9] ⟨(pre ++ [s], suf), by rw [← hp]; simp, ?_⟩ ?_ keep_n (slots_c (he := (by first | rfl | (simp; done) | (congr 2; omega))) (h := trivial)) (.c (.c (.c .n)))
            exact sched_snoc hp hinv ‹_› (by omega)
            all_goals (dsimp only; simp only [List.length_cons]; omega)
      · first
      | (first | omega | contradiction)
      | refine Ev.exit ?_
        refine hR0 _ _ ?_
        show Ev _ _ _ _
        refine Ev.sr fun K hK => S.o q.as (S.end (hK _ ?_))
        clear hK K
        refine Ev.ret ?_
        refine Ev.ret1 ?_
        refine ⟨?_, rfl⟩
        first
         | exact bF (fun h => by have h1 := h.1; omega)
         | exact bF (fun h => absurd (sched_cut hp h).1 ‹_›)
         | exact bF (fun h => by have h1 := (sched_cut hp h).2; omega)
         | exact bT ⟨by omega, by rw [← hp]; exact hinv⟩
    · simp only [List.length_cons] at hpl
      have hidx : l[pre.length]? = some s := by rw [← hp]; simp
      have hsw : s.w := hw s (by rw [← hp]; simp)
      refine Ev.sr fun K hK => S.o q.lss (S.end (hK _ ?_))
      clear hK K
      refine Ev.ud (fun c5 => ?_) (fun c5 => ?_)
      · first
      | (first | omega | contradiction)
      | refine Ev.seq ?_
        refine Ev.block ?_
        refine Ev.sr fun K hK => S.o q.mv (S.o (q.ix am_el40 am_cl72 (hl := (by first | exact ati hidx (by omega) | exact atig (by omega)))) (S.o (q.lsA [_, _, _, _, _] am_ag72 am_cl72) (S.nn (q.al am_ze72) (S.o q.as (S.sv [_, _, _, _, _] true [] am_in72 am_cl72 (h := S.end (hK _ ?_)))))))
        clear hK K
        refine Ev.sr fun K hK => S.o (q.lvA [_, _, _, _, _] am_ag72 am_cl72) (S.c0 (hF := valid_fun _ (by assumption)) (h := S.o q.not (S.bn q.mv (fun c6 => ?_) (fun c6 => ?_))))
        · first
        | (first | omega | contradiction)
        | refine S.sk (S.sk (S.sk (S.sk (S.sk (S.sk (S.o q.pt (S.end (hK _ ?_))))))))
          clear hK K
          refine Ev.ct ?_
          refine Ev.sr fun K hK => S.o q.as (S.end (hK _ ?_))
          clear hK K
          refine Ev.ret ?_
          refine hR0 _ _ ?_
          refine Ev.ret1 ?_
          refine ⟨?_, rfl⟩
          first
           | exact bF (fun h => by have h1 := h.1; omega)
           | exact bF (fun h => absurd (sched_cut hp h).1 ‹_›)
           | exact bF (fun h => by have h1 := (sched_cut hp h).2; omega)
           | exact bT ⟨by omega, by rw [← hp]; exact hinv⟩
        · first
        | (first | omega | contradiction)
        | refine S.o q.mv (S.o (q.fa 0 am_fi72_0 am_cl9) (S.o (q.lv am_ag9) (S.c0 (hF := schedIndex_fun _ _ (by omega)) (h := S.o q.mv (S.o q.neq (S.o q.pf (S.end (hK _ ?_))))))))
          clear hK K
          refine Ev.cn (fun c7 => ?_) (fun c7 => ?_)
          · first
          | (first | omega | contradiction)
          | refine Ev.sr fun K hK => S.o q.as (S.end (hK _ ?_))
            clear hK K
            refine Ev.ret ?_
            refine hR0 _ _ ?_
            refine Ev.ret1 ?_
            refine ⟨?_, rfl⟩
            first
             | exact bF (fun h => by have h1 := h.1; omega)
             | exact bF (fun h => absurd (sched_cut hp h).1 ‹_›)
             | exact bF (fun h => by have h1 := (sched_cut hp h).2; omega)
             | exact bT ⟨by omega, by rw [← hp]; exact hinv⟩
          · first
          | (first | omega | contradiction)
          | refine Ev.skip ?_
            show Ev _ _ _ _
            refine Ev.region_S fun K hK => S.o q.add (S.o q.mv (S.end (hK _ ?_)))
            clear hK K
            refine hR0 _ _ ?_
            refine roundU [] [0, 8, 9] ⟨(pre ++ [s], suf), by rw [← hp]; simp, ?_⟩ ?_ keep_n (slots_c (he := (by first | rfl | (simp; done) | (congr 2; omega))) (h := trivial)) (.c (.c (.c .n)))
            exact sched_snoc hp hinv ‹_› (by omega)
            all_goals (dsimp only; simp only [List.length_cons]; omega)
      · first
      | (first | omega | contradiction)
      | refine Ev.exit ?_
        refine hR0 _ _ ?_
        show Ev _ _ _ _
        refine Ev.sr fun K hK => S.o q.as (S.end (hK _ ?_))
        clear hK K
        refine Ev.ret ?_
        refine Ev.ret1 ?_
        refine ⟨?_, rfl⟩
        first
         | exact bF (fun h => by have h1 := h.1; omega)
         | exact bF (fun h => absurd (sched_cut hp h).1 ‹_›)
         | exact bF (fun h => by have h1 := (sched_cut hp h).2; omega)
         | exact bT ⟨by omega, by rw [← hp]; exact hinv⟩
end Go.Proofs.YtnbjmckhongidaaGreatDoor
namespace Go.Proofs.YtnbjmckhongidaaGreatDoor
open Go Go.AM
set_option linter.unusedSimpArgs false
set_option linter.unusedVariables false
set_option maxRecDepth 100000

theorem szE_zero {d : Int} (h : szE d = 0) : d ∈ sizes := by
  by_cases hd : d ∈ sizes
  · exact hd
  · rw [szE, if_neg hd] at h; cases h
theorem szV_in {d v : Int} (h : d ∈ sizes) : szV d v = v := if_pos h
theorem szE_in {d : Int} (h : d ∈ sizes) : szE d = 0 := if_pos h
theorem szV_out {d v : Int} (h : ¬ szE d = 0) : szV d v = 0 := if_neg (fun h' => h (szE_in h'))
theorem szE_out {d : Int} (h : ¬ szE d = 0) : szE d = 1 := if_neg (fun h' => h (szE_in h'))
def massOf (d n : Int) : Int := (6165 * d * d * n + 500000) / 1000000
theorem mass_pre {d n : Int} (h : d ∈ sizes) (h0 : 0 ≤ n) (h1 : n ≤ 1048576) : 0 ≤ 6165 * d ∧ 6165 * d ≤ 246600 ∧ 0 ≤ 6165 * d * d ∧ 6165 * d * d ≤ 9864000 ∧ 0 ≤ 6165 * d * d * n ∧ 6165 * d * d * n ≤ 9864000 * 1048576 := by
  simp only [sizes, List.mem_cons, List.not_mem_nil, or_false] at h
  rcases h with h | h | h | h | h | h | h | h | h <;> subst h <;> omega
theorem massOf_bd {d n : Int} (h : d ∈ sizes) (h0 : 0 ≤ n) (h1 : n ≤ 1048576) : 0 ≤ massOf d n ∧ massOf d n ≤ 10343154 := by
  have := mass_pre h h0 h1
  unfold massOf
  omega


theorem mass1_fun (d n : Int) (h : d ∈ sizes) (h0 : 0 ≤ n) (h1 : n ≤ 1048576) : Fun Tryz.prog 62 [.sadr [.lit (.int .i64 d)] 0, .sadr [.lit (.int .i64 n)] 0] (Ret (.lit (.int .i64 (massOf d n))) []) := by
  obtain ⟨m1, m2, m3, m4, m5, m6⟩ := mass_pre h h0 h1
  refine Fun.of (nt := 11) (rs := [.tmp 2]) Tryz.func62 rfl rfl rfl rfl rfl ?_
  refine Ev.sr fun K hK => S.o q.as (S.end (hK _ ?_))
  clear hK K
  refine Ev.sr fun K hK => S.o (q.ls am_ag3) (S.o q.mul (S.o (q.ls am_ag3) (S.o q.mul (S.o (q.ls am_ag3) (S.o q.mul (S.o q.add (S.o q.quo (S.o q.as (S.end (hK _ ?_))))))))))
  clear hK K
  refine Ev.ret ?_
  refine Ev.ret1 ?_
  refine ⟨?_, rfl⟩
  rfl
theorem Mass_fun (d n : Int) (h0 : 0 ≤ n) (h1 : n ≤ 1048576) : Fun Tryz.prog 45 [.lit (.int .i64 d), .lit (.int .i64 n)] (Ret (.tup [.lit (.int .i64 (szV d (massOf d n))), .lit (.int .i64 (szE d))]) []) := by
  refine Fun.of (nt := 21) (rs := [.tmp 4, .tmp 5]) Tryz.func45 rfl rfl rfl rfl rfl ?_
  refine Ev.sr fun K hK => S.nn (q.bx [_] true) (S.nn (q.bx [_] true) (S.o q.as (S.o q.as (S.end (hK _ ?_)))))
  clear hK K
  refine Ev.seq ?_
  refine Ev.sr fun K hK => S.o (q.lv am_ag3) (S.c0 (hF := size_fun _) (h := S.bd q.mv (fun c1 => ?_) (fun c1 => ?_)))
  · first
  | (first | omega | contradiction)
  | refine S.o (q.lv am_ag3) (S.o q.lss (S.bd q.mv (fun c2 => ?_) (fun c2 => ?_)))
    · first
    | (first | omega | contradiction)
    | refine S.sk (S.sk (S.o q.pt (S.o q.pt (S.end (hK _ ?_)))))
      clear hK K
      refine Ev.ct ?_
      refine Ev.sr fun K hK => S.o q.as (S.o q.as (S.end (hK _ ?_)))
      clear hK K
      refine Ev.ret ?_
      refine Ev.ret2 ?_
      refine ⟨?_, rfl⟩
      rfl
    · first
    | (first | omega | contradiction)
    | refine S.o (q.lv am_ag3) (S.o q.gtr (S.o q.pf (S.o q.pt (S.end (hK _ ?_)))))
      clear hK K
      refine Ev.cd (fun c3 => ?_) (fun c3 => ?_)
      · first
      | (first | omega | contradiction)
      | refine Ev.sr fun K hK => S.o q.as (S.o q.as (S.end (hK _ ?_)))
        clear hK K
        refine Ev.ret ?_
        refine Ev.ret2 ?_
        refine ⟨?_, rfl⟩
        rfl
      · first
      | (first | omega | contradiction)
      | refine Ev.skip ?_
        show Ev _ _ _ _
        refine Ev.sr fun K hK => S.o (q.lv am_ag3) (S.o q.mf (S.c0 (hF := sized2_fun _ _ _ _ _ (fun h => mass1_fun _ _ h (by omega) (by omega))) (h := S.o q.ex (S.o q.ex (S.o q.as (S.o q.as (S.end (hK _ ?_))))))))
        clear hK K
        refine Ev.ret ?_
        refine Ev.ret2 ?_
        refine ⟨?_, rfl⟩
        rfl
  · first
  | (first | omega | contradiction)
  | refine S.sk (S.sk (S.sk (S.sk (S.sk (S.sk (S.o q.pf (S.end (hK _ ?_))))))))
    clear hK K
    refine Ev.cf ?_
    refine Ev.skip ?_
    show Ev _ _ _ _
    refine Ev.sr fun K hK => S.o (q.lv am_ag3) (S.o q.mf (S.c0 (hF := sized2_fun _ _ _ _ _ (fun h => mass1_fun _ _ h (by omega) (by omega))) (h := S.o q.ex (S.o q.ex (S.o q.as (S.o q.as (S.end (hK _ ?_))))))))
    clear hK K
    refine Ev.ret ?_
    refine Ev.ret2 ?_
    refine ⟨?_, rfl⟩
    rfl

def bendR (d : Int) : Int := if d ≤ 16 then 5 * d / 2 else 4 * d
def arcLo (d : Int) : Int := 500 * bendR d * 333 / 106
def arcHi (d : Int) : Int := (500 * bendR d * 355 + 113 - 1) / 113
def allLo (d : Int) : Int := 2000 * bendR d - arcHi d
def allHi (d : Int) : Int := 2000 * bendR d - arcLo d
theorem bend_bd {d : Int} (h : d ∈ sizes) : 15 ≤ bendR d ∧ bendR d ≤ 160 ∧ 0 ≤ arcLo d ∧ arcLo d ≤ 300000 ∧ 0 ≤ arcHi d ∧ arcHi d ≤ 300000 ∧ 0 ≤ allLo d ∧ allLo d ≤ 70000 ∧ 0 ≤ allHi d ∧ allHi d ≤ 70000 := by
  simp only [sizes, List.mem_cons, List.not_mem_nil, or_false] at h
  rcases h with h | h | h | h | h | h | h | h | h <;> subst h <;> decide
theorem bend1_fun (d : Int) (h : d ∈ sizes) : Fun Tryz.prog 107 [.sadr [.lit (.int .i64 d)] 0] (Ret (.lit (.int .i64 (bendR d))) []) := by
  obtain ⟨h0, h1⟩ := size_bd h
  refine Fun.of (nt := 9) (rs := [.tmp 1]) Tryz.func107 rfl rfl rfl rfl rfl ?_
  refine Ev.sr fun K hK => S.o q.as (S.end (hK _ ?_))
  clear hK K
  refine Ev.seq ?_
  refine Ev.sr fun K hK => S.o (q.ls am_ag3) (S.o q.leq (S.end (hK _ ?_)))
  clear hK K
  refine Ev.cd (fun c1 => ?_) (fun c1 => ?_)
  · first
  | (first | omega | contradiction)
  | refine Ev.sr fun K hK => S.o (q.ls am_ag3) (S.o q.mul (S.o q.quo (S.o q.as (S.end (hK _ ?_)))))
    clear hK K
    refine Ev.ret ?_
    refine Ev.ret1 ?_
    refine ⟨?_, rfl⟩
    first | (rw [bendR, if_pos ‹_›]; done) | (rw [bendR, if_neg ‹_›]; done)
  · first
  | (first | omega | contradiction)
  | refine Ev.skip ?_
    show Ev _ _ _ _
    refine Ev.sr fun K hK => S.o (q.ls am_ag3) (S.o q.mul (S.o q.as (S.end (hK _ ?_))))
    clear hK K
    refine Ev.ret ?_
    refine Ev.ret1 ?_
    refine ⟨?_, rfl⟩
    first | (rw [bendR, if_pos ‹_›]; done) | (rw [bendR, if_neg ‹_›]; done)
theorem Bend_fun (d : Int) : Fun Tryz.prog 100 [.lit (.int .i64 d)] (Ret (.tup [.lit (.int .i64 (szV d (bendR d))), .lit (.int .i64 (szE d))]) []) := by
  refine Fun.of (nt := 9) (rs := [.tmp 2, .tmp 3]) Tryz.func100 rfl rfl rfl rfl rfl ?_
  refine Ev.sr fun K hK => S.nn (q.bx [_] true) (S.o q.as (S.o q.as (S.end (hK _ ?_))))
  clear hK K
  refine Ev.sr fun K hK => S.o (q.lv am_ag3) (S.o q.mf (S.c0 (hF := sized1_fun _ _ _ _ (bend1_fun _)) (h := S.o q.ex (S.o q.ex (S.o q.as (S.o q.as (S.end (hK _ ?_))))))))
  clear hK K
  refine Ev.ret ?_
  refine Ev.ret2 ?_
  refine ⟨?_, rfl⟩
  rfl
theorem up_fun (n d : Int) (h0 : 0 ≤ n) (h1 : n ≤ 1000000000000) (h2 : 1 ≤ d) (h3 : d ≤ 1000000) : Fun Tryz.prog 60 [.lit (.int .i64 n), .lit (.int .i64 d)] (Ret (.lit (.int .i64 ((n + d - 1) / d))) []) := by
  refine Fun.of (nt := 11) (rs := [.tmp 4]) Tryz.func60 rfl rfl rfl rfl rfl ?_
  refine Ev.sr fun K hK => S.o q.as (S.end (hK _ ?_))
  clear hK K
  refine Ev.sr fun K hK => S.o q.mv (S.o q.mv (S.o q.add (S.o q.sub (S.o q.mv (S.o q.quo (S.o q.as (S.end (hK _ ?_))))))))
  clear hK K
  refine Ev.ret ?_
  refine Ev.ret1 ?_
  refine ⟨?_, rfl⟩
  rfl
theorem arc_fun (d : Int) : Fun Tryz.prog 99 [.lit (.int .i64 d)] (Ret (.tup [.agg [.lit (.int .i64 (szV d (arcLo d))), .lit (.int .i64 (szV d (arcHi d)))], .lit (.int .i64 (szE d))]) []) := by
  refine Fun.of (nt := 23) (rs := [.cell 2 99, .tmp 3]) Tryz.func99 rfl rfl rfl rfl rfl ?_
  refine Ev.sr fun K hK => S.nn (q.al am_ze99) (S.o q.as (S.end (hK _ ?_)))
  clear hK K
  refine Ev.sr fun K hK => S.o q.mv (S.c0 (hF := Bend_fun _) (h := S.o q.mv (S.o q.ex (S.o q.ex (S.o q.as (S.o q.as (S.end (hK _ ?_))))))))
  clear hK K
  refine Ev.seq ?_
  refine Ev.sr fun K hK => S.o q.mv (S.o q.neq (S.end (hK _ ?_)))
  clear hK K
  refine Ev.cn (fun c1 => ?_) (fun c1 => ?_)
  · first
  | (first | omega | contradiction)
  | refine Ev.sr fun K hK => S.o (q.bd [_, _] am_ze99 am_pl99) (S.sv [_, _] true [] am_in99 am_cl99 (h := S.o q.as (S.end (hK _ ?_))))
    clear hK K
    refine Ev.ret ?_
    refine Ev.retv2 (res_c [_, _] am_ag99 am_cl99 (res_t res_n)) ?_
    refine ⟨?_, rfl⟩
    first | (rw [szV_out ‹_›, szV_out ‹_›, szE_out ‹_›]; done) | (rw [szV_in hz, szV_in hz, szE_in hz]; rfl) | (rw [szE_in hz]; rfl) | (rw [szE_in hz]; done)
  · first
  | (first | omega | contradiction)
  | refine Ev.skip ?_
    show Ev _ _ _ _
    have hz := szE_zero ‹szE d = 0›
    obtain ⟨b1, b2, b3, b4, b5, b6, b7, b8, b9, b10⟩ := bend_bd hz
    have e1 := szV_in (v := bendR d) hz
    have e2 := szV_in (v := arcLo d) hz
    have e3 := szV_in (v := arcHi d) hz
    have a1 : arcLo d = 500 * bendR d * 333 / 106 := rfl
    have a2 : arcHi d = (500 * bendR d * 355 + 113 - 1) / 113 := rfl
    simp only [e1, e2, e3]
    refine Ev.sr fun K hK => S.o q.mv (S.o q.mul (S.o q.mul (S.o q.quo (S.o q.mv (S.o q.mul (S.o q.mul (S.c0 (hF := up_fun _ _ (by omega) (by omega) (by omega) (by omega)) (h := S.o (q.bd [_, _] am_ze99 am_pl99) (S.sv [_, _] true [] am_in99 am_cl99 (h := S.o q.as (S.end (hK _ ?_))))))))))))
    clear hK K
    refine Ev.ret ?_
    refine Ev.retv2 (res_c [_, _] am_ag99 am_cl99 (res_t res_n)) ?_
    refine ⟨?_, rfl⟩
    first | (rw [szV_out ‹_›, szV_out ‹_›, szE_out ‹_›]; done) | (rw [szV_in hz, szV_in hz, szE_in hz]; rfl) | (rw [szE_in hz]; rfl) | (rw [szE_in hz]; done)
theorem allowance_fun (d : Int) : Fun Tryz.prog 82 [.lit (.int .i64 d)] (Ret (.tup [.agg [.lit (.int .i64 (szV d (allLo d))), .lit (.int .i64 (szV d (allHi d)))], .lit (.int .i64 (szE d))]) []) := by
  refine Fun.of (nt := 35) (rs := [.cell 2 99, .tmp 3]) Tryz.func82 rfl rfl rfl rfl rfl ?_
  refine Ev.sr fun K hK => S.nn (q.al am_ze99) (S.o q.as (S.end (hK _ ?_)))
  clear hK K
  refine Ev.sr fun K hK => S.o q.mv (S.c0 (hF := arc_fun _) (h := S.o q.mv (S.o q.ex (S.o q.ex (S.nn (q.al am_ze99) (S.sv [_, _] true [_] am_in99 am_cl99 (h := S.o q.as (S.end (hK _ ?_)))))))))
  clear hK K
  refine Ev.seq ?_
  refine Ev.sr fun K hK => S.o q.mv (S.o q.neq (S.end (hK _ ?_)))
  clear hK K
  refine Ev.cn (fun c1 => ?_) (fun c1 => ?_)
  · first
  | (first | omega | contradiction)
  | refine Ev.sr fun K hK => S.o (q.bd [_, _] am_ze99 am_pl99) (S.o q.mv (S.sv [_, _] true [_] am_in99 am_cl99 (h := S.o q.as (S.end (hK _ ?_)))))
    clear hK K
    refine Ev.ret ?_
    refine Ev.retv2 (res_c [_, _] am_ag99 am_cl99 (res_t res_n)) ?_
    refine ⟨?_, rfl⟩
    first | (rw [szV_out ‹_›, szV_out ‹_›, szE_out ‹_›]; done) | (rw [szV_in hz, szV_in hz, szE_in hz]; rfl) | (rw [szE_in hz]; rfl) | (rw [szE_in hz]; done)
  · first
  | (first | omega | contradiction)
  | refine Ev.skip ?_
    show Ev _ _ _ _
    refine Ev.sr fun K hK => S.o q.mv (S.c0 (hF := Bend_fun _) (h := S.o q.mv (S.o q.ex (S.o q.ex (S.o q.as (S.o q.as (S.end (hK _ ?_))))))))
    clear hK K
    refine Ev.seq ?_
    refine Ev.sr fun K hK => S.o q.mv (S.o q.neq (S.end (hK _ ?_)))
    clear hK K
    refine Ev.cn (fun c2 => ?_) (fun c2 => ?_)
    · first
    | (first | omega | contradiction)
    | refine Ev.sr fun K hK => S.o (q.bd [_, _] am_ze99 am_pl99) (S.sv [_, _] true [_] am_in99 am_cl99 (h := S.o q.as (S.end (hK _ ?_))))
      clear hK K
      refine Ev.ret ?_
      refine Ev.retv2 (res_c [_, _] am_ag99 am_cl99 (res_t res_n)) ?_
      refine ⟨?_, rfl⟩
      first | (rw [szV_out ‹_›, szV_out ‹_›, szE_out ‹_›]; done) | (rw [szV_in hz, szV_in hz, szE_in hz]; rfl) | (rw [szE_in hz]; rfl) | (rw [szE_in hz]; done)
    · first
    | (first | omega | contradiction)
    | refine Ev.skip ?_
      show Ev _ _ _ _
      have hz := szE_zero ‹szE d = 0›
      obtain ⟨b1, b2, b3, b4, b5, b6, b7, b8, b9, b10⟩ := bend_bd hz
      have e1 := szV_in (v := bendR d) hz
      have e2 := szV_in (v := arcLo d) hz
      have e3 := szV_in (v := arcHi d) hz
      have a1 : arcLo d = 500 * bendR d * 333 / 106 := rfl
      have a2 : arcHi d = (500 * bendR d * 355 + 113 - 1) / 113 := rfl
      simp only [e1, e2, e3]
      refine Ev.sr fun K hK => S.o q.mv (S.o q.mul (S.o (q.fa 1 am_fi99_1 am_cl3) (S.o (q.lv am_ag3) (S.o q.sub (S.o q.mv (S.o q.mul (S.o (q.fa 0 am_fi99_0 am_cl3) (S.o (q.lv am_ag3) (S.o q.sub (S.o (q.bd [_, _] am_ze99 am_pl99) (S.sv [_, _] true [_] am_in99 am_cl99 (h := S.o q.as (S.end (hK _ ?_))))))))))))))
      clear hK K
      refine Ev.ret ?_
      refine Ev.retv2 (res_c [_, _] am_ag99 am_cl99 (res_t res_n)) ?_
      refine ⟨?_, rfl⟩
      first | (rw [szV_out ‹_›, szV_out ‹_›, szE_out ‹_›]; done) | (rw [szV_in hz, szV_in hz, szE_in hz]; rfl) | (rw [szE_in hz]; rfl) | (rw [szE_in hz]; done)

def dimAt (b : Bar) (i : Nat) : Int := (b.dims[i]?).getD 0
/-- The lengths of the legs. -/
def legsOf (b : Bar) : List Int := (legsL b.code).map (fun s => dimAt b s.1.toNat)
def okV (b : Bar) (v : Int) : Int := if okBar b then v else 0
def okE (b : Bar) : Int := if okBar b then 0 else 1
def legsV (b : Bar) : List Int := if okBar b then legsOf b else []
theorem okE_zero {b : Bar} (h : okE b = 0) : okBar b := by
  by_cases hd : okBar b
  · exact hd
  · rw [okE, if_neg hd] at h; cases h
theorem okV_in {b : Bar} {v : Int} (h : okBar b) : okV b v = v := if_pos h
theorem okE_in {b : Bar} (h : okBar b) : okE b = 0 := if_pos h
theorem okV_out {b : Bar} {v : Int} (h : ¬ okE b = 0) : okV b v = 0 := if_neg (fun h' => h (okE_in h'))
theorem okE_out {b : Bar} (h : ¬ okE b = 0) : okE b = 1 := if_neg (fun h' => h (okE_in h'))
theorem legsOf_len (b : Bar) : (legsOf b).length ≤ 6 := by
  rw [legsOf, List.length_map]
  exact (dims_eq b.code).2.2.2
theorem dim_in {b : Bar} (h : okBar b) {i : Nat} (hi : (i : Int) < dimsN b.code) : b.dims[i]? = some (dimAt b i) ∧ 1 ≤ dimAt b i ∧ dimAt b i ≤ 262144 := by
  have hl := h.2.2.2.2.2.1
  have e : b.dims[i]? = some (b.dims[i]'(by omega)) := List.getElem?_eq_getElem _
  have e2 : dimAt b i = b.dims[i]'(by omega) := by rw [dimAt, e]; rfl
  refine ⟨by rw [e, e2], ?_⟩
  rw [e2]
  exact dims_in h.2.2.2.2.2.2 (List.getElem_mem _)
theorem legs_in {b : Bar} (h : okBar b) : ∀ n ∈ legsOf b, 1 ≤ n ∧ n ≤ 262144 := by
  intro n hn
  rw [legsOf, List.mem_map] at hn
  obtain ⟨s, hs, rfl⟩ := hn
  have := leg_bd b.code s hs
  exact (dim_in h (i := s.1.toNat) (by omega)).2
theorem legs_pos {b : Bar} (h : okBar b) : 1 ≤ (legsOf b).length := by
  rw [legsOf, List.length_map]
  have h1 := h.2.2.2.2.1
  rcases codes b.code with e | e | e | e | e | e | e | e | e
  iterate 8 (rw [e]; decide)
  exact absurd (legsL_none e).2 h1
theorem legs_fun2 (b : Bar) (hw : b.w) : Fun Tryz.prog 81 [.agg b.c] (Ret (.tup [.sh 1 ((legsV b).map intC), .lit (.int .i64 (okE b))]) []) := by
  obtain ⟨hw1, hw2⟩ := id hw
  obtain ⟨d1, d2, d3, d4⟩ := dims_eq b.code
  refine Fun.of (nt := 29) (rs := [.tmp 2, .tmp 3]) Tryz.func81 rfl rfl rfl rfl rfl ?_
  refine Ev.sr fun K hK => S.nn (q.bx [_, _, _, _, _] true) (S.o q.as (S.o q.as (S.end (hK _ ?_))))
  clear hK K
  refine Ev.seq ?_
  refine Ev.sr fun K hK => S.o (q.lvA [_, _, _, _, _] am_ag72 am_cl72) (S.c0 (hF := valid_fun _ (by assumption)) (h := S.o q.not (S.end (hK _ ?_))))
  clear hK K
  refine Ev.cn (fun c1 => ?_) (fun c1 => ?_)
  · first
  | (first | omega | contradiction)
  | refine Ev.sr fun K hK => S.o q.as (S.o q.as (S.end (hK _ ?_)))
    clear hK K
    refine Ev.weaken (Wk.nsh intC 2 1) ?_
    refine Ev.ret ?_
    refine Ev.ret2 ?_
    refine ⟨?_, rfl⟩
    first
     | (rw [legsV, okE, if_neg ‹_›, if_neg ‹_›]; done)
     | (rw [legsV, okE, if_pos ‹_›, if_pos ‹_›, legsOf, ← hp]; done)
     | (rw [legsV, okE, if_pos ‹_›, if_pos ‹_›, legsOf, ← hp, List.append_nil]; done)
  · first
  | (first | omega | contradiction)
  | refine Ev.skip ?_
    show Ev _ _ _ _
    refine Ev.sr fun K hK => S.o q.as (S.end (hK _ ?_))
    clear hK K
    refine Ev.seq ?_
    refine Ev.sr fun K hK => S.o (q.fa 3 am_fi72_3 am_cl3) (S.o (q.lv am_ag3) (S.c0 (hF := legs_fun _) (h := S.o (q.lens am_el117) (S.o q.mv (S.end (hK _ ?_))))))
    clear hK K
    refine Ev.block ?_
    refine Ev.weaken (Wk.nown intC 4 3 1) ?_
    refine Ev.loopU (ι := {p : List (Int × Int) × List (Int × Int) // p.1 ++ p.2 = (legsL b.code) ∧ True}) [0, 1] [1, 2, 3, 12, 13] (fun ⟨(pre, suf), _⟩ => [(14, .lit (.int .i64 ((pre.length : Int)))), (4, .als 1 0 (pre.map (fun s => dimAt b s.1.toNat)).length)]) (fun ⟨(pre, suf), _⟩ => [(0, ⟨false, 72, 5, [[.lit (str (b.mark)), .lit (.int .i64 (b.size)), .lit (.int .i64 (b.count)), .lit (.int .i64 (b.code)), .sh 1 ((b.dims).map intC)]], true⟩), (1, ⟨true, 3, 1, (pre.map (fun s => dimAt b s.1.toNat)).map intC, true⟩)]) (fun ⟨(pre, suf), _⟩ => suf.length) ⟨([], (legsL b.code)), rfl, trivial⟩ (.c (.c (.c (.c (.c .n))))) (keep_c (he := rfl) (h := (keep_c (he := (by first | rfl | (simp; done))) (h := keep_n)))) (slots_c (he := (by first | rfl | (congr 2; simp; done))) (h := (slots_c (he := (by first | rfl | (congr 1; simp; done))) (h := trivial)))) ?_
    rintro ⟨⟨pre, suf⟩, hp, hinv⟩ R0 hR0
    dsimp only [List.cons_append, List.nil_append, List.length_cons, List.length_nil]
    simp only at hp hinv
    have hpl : pre.length + suf.length = ((legsL b.code)).length := by rw [← hp, List.length_append]
    rcases suf with _ | ⟨s, suf⟩
    · rw [List.append_nil] at hp; simp only [List.length_nil] at hpl
      refine Ev.sr fun K hK => S.o q.lss (S.end (hK _ ?_))
      clear hK K
      refine Ev.ud (fun c2 => ?_) (fun c2 => ?_)
      · first
      | (first | omega | contradiction)
      | refine Ev.seq ?_
        refine Ev.block ?_
        refine Ev.sr fun K hK => S.o (q.ix am_el117 am_cl120 (hl := (by first | exact atig (by omega)))) (S.o (q.lsA [_, _] am_ag120 am_cl120) (S.nn (q.al am_ze120) (S.sv [_, _] true [_, _] am_in120 am_cl120 (h := S.end (hK _ ?_)))))
        clear hK K
        refine Ev.region_S fun K hK => S.o q.mv (S.o (q.fa 4 am_fi72_4 am_cl70) (S.o (q.lv am_ag70) (S.o (q.fa 0 am_fi120_0 am_cl3) (S.o (q.lv am_ag3) (S.o (q.ix am_el70 am_cl3 (hl := (by first | exact atig (by omega)))) (S.o (q.ls am_ag3) (S.nn (q.bs [[_]] true am_el70 am_ze3 am_cl3) (S.ap' [_, _, _] am_el70 am_ze3 am_cl3 am_by3 (hh := head_own') (hr := (rows_lit [_])) (h := S.o q.as (S.end (hK _ ?_)))))))))))
        clear hK K
        show Ev _ _ _ _
        refine Ev.region_S fun K hK => S.o q.add (S.o q.mv (S.end (hK _ ?_)))
        clear hK K
        refine hR0 _ _ ?_
        refine roundU [0, 4] [1, 2, 3, 12, 13] ⟨(pre ++ [s], suf), by rw [← hp]; simp, ?_⟩ ?_ (keep_c (he := rfl) (h := (keep_c (he := (by first | rfl | (simp; done))) (h := keep_n)))) (slots_c (he := (by first | rfl | (congr 2; simp; done))) (h := (slots_c (he := (by first | rfl | (congr 1; simp; done))) (h := trivial)))) (.c (.c (.c (.c (.c .n)))))
        trivial
        all_goals (dsimp only; simp only [List.length_cons]; omega)
      · first
      | (first | omega | contradiction)
      | refine Ev.exit ?_
        refine hR0 _ _ ?_
        show Ev _ _ _ _
        refine Ev.sr fun K hK => S.o q.mv (S.o q.as (S.o q.as (S.end (hK _ ?_))))
        clear hK K
        refine Ev.weaken (Wk.frz 2 [_]) ?_
        refine Ev.ret ?_
        refine Ev.ret2 ?_
        refine ⟨?_, rfl⟩
        first
         | (rw [legsV, okE, if_neg ‹_›, if_neg ‹_›]; done)
         | (rw [legsV, okE, if_pos ‹_›, if_pos ‹_›, legsOf, ← hp]; done)
         | (rw [legsV, okE, if_pos ‹_›, if_pos ‹_›, legsOf, ← hp, List.append_nil]; done)
    · simp only [List.length_cons] at hpl
      have hidx : (legsL b.code)[pre.length]? = some s := by rw [← hp]; simp
      have hlb := leg_bd b.code s (by rw [← hp]; simp)
      obtain ⟨hdi, hd1, hd2⟩ := dim_in ‹okBar b› (i := s.1.toNat) (by omega)
      have hml : (pre.map (fun s : Int × Int => dimAt b s.1.toNat)).length = pre.length := List.length_map _
      refine Ev.sr fun K hK => S.o q.lss (S.end (hK _ ?_))
      clear hK K
      refine Ev.ud (fun c3 => ?_) (fun c3 => ?_)
      · first
      | (first | omega | contradiction)
      | refine Ev.seq ?_
        refine Ev.block ?_
        refine Ev.sr fun K hK => S.o (q.ix am_el117 am_cl120 (hl := (by first | exact ati hidx (by omega) | exact ati hdi (by omega) | exact atig (by omega)))) (S.o (q.lsA [_, _] am_ag120 am_cl120) (S.nn (q.al am_ze120) (S.sv [_, _] true [_, _] am_in120 am_cl120 (h := S.end (hK _ ?_)))))
        clear hK K
        refine Ev.region_S fun K hK => S.o q.mv (S.o (q.fa 4 am_fi72_4 am_cl70) (S.o (q.lv am_ag70) (S.o (q.fa 0 am_fi120_0 am_cl3) (S.o (q.lv am_ag3) (S.o (q.ix am_el70 am_cl3 (hl := (by first | exact ati hidx (by omega) | exact ati hdi (by omega) | exact atig (by omega)))) (S.o (q.ls am_ag3) (S.nn (q.bs [[_]] true am_el70 am_ze3 am_cl3) (S.ap' [_, _, _] am_el70 am_ze3 am_cl3 am_by3 (hh := head_own') (hr := (rows_lit [_])) (h := S.o q.as (S.end (hK _ ?_)))))))))))
        clear hK K
        show Ev _ _ _ _
        refine Ev.region_S fun K hK => S.o q.add (S.o q.mv (S.end (hK _ ?_)))
        clear hK K
        refine hR0 _ _ ?_
        refine roundU [0, 4] [1, 2, 3, 12, 13] ⟨(pre ++ [s], suf), by rw [← hp]; simp, ?_⟩ ?_ (keep_c (he := rfl) (h := (keep_c (he := (by first | rfl | (simp; done))) (h := keep_n)))) (slots_c (he := (by first | rfl | (congr 2; simp; done))) (h := (slots_c (he := (by first | rfl | (congr 1; simp; done))) (h := trivial)))) (.c (.c (.c (.c (.c .n)))))
        trivial
        all_goals (dsimp only; simp only [List.length_cons]; omega)
      · first
      | (first | omega | contradiction)
      | refine Ev.exit ?_
        refine hR0 _ _ ?_
        show Ev _ _ _ _
        refine Ev.sr fun K hK => S.o q.mv (S.o q.as (S.o q.as (S.end (hK _ ?_))))
        clear hK K
        refine Ev.weaken (Wk.frz 2 [_]) ?_
        refine Ev.ret ?_
        refine Ev.ret2 ?_
        refine ⟨?_, rfl⟩
        first
         | (rw [legsV, okE, if_neg ‹_›, if_neg ‹_›]; done)
         | (rw [legsV, okE, if_pos ‹_›, if_pos ‹_›, legsOf, ← hp]; done)
         | (rw [legsV, okE, if_pos ‹_›, if_pos ‹_›, legsOf, ← hp, List.append_nil]; done)

def devLo (b : Bar) : Int := 1000 * sumI (legsOf b) - ((legsOf b).length - 1) * allHi b.size
def devHi (b : Bar) : Int := 1000 * sumI (legsOf b) - ((legsOf b).length - 1) * allLo b.size
theorem sumI_bd : ∀ (l : List Int), (∀ n ∈ l, 1 ≤ n ∧ n ≤ 262144) → 0 ≤ sumI l ∧ sumI l ≤ 262144 * l.length
  | [], _ => by decide
  | x :: l, h => by
    have := h x (by simp)
    have := sumI_bd l (fun n hn => h n (by simp [hn]))
    rw [sumI_cons, List.length_cons]
    omega
theorem legs_sum {b : Bar} (h : okBar b) : 0 ≤ sumI (legsOf b) ∧ sumI (legsOf b) ≤ 524288 := by
  refine ⟨(sumI_bd _ (legs_in h)).1, ?_⟩
  obtain ⟨_, _, _, _, h1, h2, h3, h4⟩ := h
  have hl : b.dims.length = (dimsN b.code).toNat := by omega
  obtain ⟨mk, sz, cn, cd, ds⟩ := b
  simp only at hl h1 h3 h4
  unfold legsOf dimAt
  simp only
  rcases codes cd with e | e | e | e | e | e | e | e | e
  · subst e
    match ds, hl with
    | [x0], _ =>
      have k0 := h3 x0 (by simp)
      simp only [sumI, List.foldl_cons, List.foldl_nil] at h4
      simp [sumI, legsL]
      omega
  · subst e
    match ds, hl with
    | [x0, x1], _ =>
      have k0 := h3 x0 (by simp)
      have k1 := h3 x1 (by simp)
      simp only [sumI, List.foldl_cons, List.foldl_nil] at h4
      simp [sumI, legsL]
      omega
  · subst e
    match ds, hl with
    | [x0, x1, x2], _ =>
      have k0 := h3 x0 (by simp)
      have k1 := h3 x1 (by simp)
      have k2 := h3 x2 (by simp)
      simp only [sumI, List.foldl_cons, List.foldl_nil] at h4
      simp [sumI, legsL]
      omega
  · subst e
    match ds, hl with
    | [x0, x1, x2], _ =>
      have k0 := h3 x0 (by simp)
      have k1 := h3 x1 (by simp)
      have k2 := h3 x2 (by simp)
      simp only [sumI, List.foldl_cons, List.foldl_nil] at h4
      simp [sumI, legsL]
      omega
  · subst e
    match ds, hl with
    | [x0, x1, x2], _ =>
      have k0 := h3 x0 (by simp)
      have k1 := h3 x1 (by simp)
      have k2 := h3 x2 (by simp)
      simp only [sumI, List.foldl_cons, List.foldl_nil] at h4
      simp [sumI, legsL]
      omega
  · subst e
    match ds, hl with
    | [x0, x1, x2, x3, x4], _ =>
      have k0 := h3 x0 (by simp)
      have k1 := h3 x1 (by simp)
      have k2 := h3 x2 (by simp)
      have k3 := h3 x3 (by simp)
      have k4 := h3 x4 (by simp)
      simp only [sumI, List.foldl_cons, List.foldl_nil] at h4
      simp [sumI, legsL]
      omega
  · subst e
    match ds, hl with
    | [x0, x1, x2], _ =>
      have k0 := h3 x0 (by simp)
      have k1 := h3 x1 (by simp)
      have k2 := h3 x2 (by simp)
      simp only [sumI, List.foldl_cons, List.foldl_nil] at h4
      simp [sumI, legsL]
      omega
  · subst e
    match ds, hl with
    | [x0, x1, x2], _ =>
      have k0 := h3 x0 (by simp)
      have k1 := h3 x1 (by simp)
      have k2 := h3 x2 (by simp)
      simp only [sumI, List.foldl_cons, List.foldl_nil] at h4
      simp [sumI, legsL]
      omega
  · exact absurd (legsL_none e).2 h1
theorem dev_bd {b : Bar} (h : okBar b) : 0 ≤ ((legsOf b).length - 1) * allHi b.size ∧ ((legsOf b).length - 1) * allHi b.size ≤ 5 * 70000 ∧ 0 ≤ ((legsOf b).length - 1) * allLo b.size ∧ ((legsOf b).length - 1) * allLo b.size ≤ 5 * 70000 ∧ -350000 ≤ devHi b ∧ devHi b ≤ 524288000 := by
  have h1 := legs_pos h
  have h2 := legsOf_len b
  obtain ⟨b1, b2, b3, b4, b5, b6, b7, b8, b9, b10⟩ := bend_bd h.2.1
  obtain ⟨p1, p2⟩ := mul_bd (k := ((legsOf b).length : Int) - 1) (K := 5) (a := allHi b.size) (A := 70000) (by omega) (by omega) b9 b10
  obtain ⟨p3, p4⟩ := mul_bd (k := ((legsOf b).length : Int) - 1) (K := 5) (a := allLo b.size) (A := 70000) (by omega) (by omega) b7 b8
  obtain ⟨s1, s2⟩ := legs_sum h
  refine ⟨p1, p2, p3, p4, ?_⟩
  unfold devHi
  omega
theorem developed_fun (b : Bar) (hw : b.w) : Fun Tryz.prog 59 [.agg b.c] (Ret (.tup [.agg [.lit (.int .i64 (okV b (devLo b))), .lit (.int .i64 (okV b (devHi b)))], .lit (.int .i64 (okE b))]) []) := by
  have hl := legsOf_len b
  refine Fun.of (nt := 57) (rs := [.cell 2 99, .tmp 3]) Tryz.func59 rfl rfl rfl rfl rfl ?_
  refine Ev.sr fun K hK => S.nn (q.bx [_, _, _, _, _] true) (S.nn (q.al am_ze99) (S.o q.as (S.end (hK _ ?_))))
  clear hK K
  refine Ev.sr fun K hK => S.o (q.lvA [_, _, _, _, _] am_ag72 am_cl72) (S.c0 (hF := legs_fun2 _ (by assumption)) (h := S.o q.mv (S.o q.ex (S.o q.ex (S.o q.as (S.o q.as (S.end (hK _ ?_))))))))
  clear hK K
  refine Ev.seq ?_
  refine Ev.sr fun K hK => S.o q.mv (S.o q.neq (S.end (hK _ ?_)))
  clear hK K
  refine Ev.cn (fun c1 => ?_) (fun c1 => ?_)
  · first
  | (first | omega | contradiction)
  | refine Ev.sr fun K hK => S.o (q.bd [_, _] am_ze99 am_pl99) (S.o q.mv (S.sv [_, _] true [_] am_in99 am_cl99 (h := S.o q.as (S.end (hK _ ?_)))))
    clear hK K
    refine Ev.ret ?_
    refine Ev.retv2 (res_c [_, _] am_ag99 am_cl99 (res_t res_n)) ?_
    refine ⟨?_, rfl⟩
    first
     | (rw [okV_out ‹_›, okV_out ‹_›, okE_out ‹_›]; done)
     | (rw [okV_in hok, okV_in hok, okE_in hok]; rfl)
  · first
  | (first | omega | contradiction)
  | refine Ev.skip ?_
    show Ev _ _ _ _
    have hok := okE_zero ‹okE b = 0›
    have hlv : legsV b = legsOf b := if_pos hok
    have hz := hok.2.1
    obtain ⟨b1, b2, b3, b4, b5, b6, b7, b8, b9, b10⟩ := bend_bd hz
    have e1 := szV_in (v := allLo b.size) hz
    have e2 := szV_in (v := allHi b.size) hz
    have e3 := szE_in hz
    obtain ⟨p1, p2, p3, p4, p5, p6⟩ := dev_bd hok
    obtain ⟨s1, s2⟩ := legs_sum hok
    rw [hlv]
    refine Ev.sr fun K hK => S.o q.as (S.end (hK _ ?_))
    clear hK K
    refine Ev.seq ?_
    refine Ev.sr fun K hK => S.o q.mv (S.o (q.lens am_el70) (S.o q.mv (S.end (hK _ ?_))))
    clear hK K
    refine Ev.block ?_
    refine Ev.loopU (ι := {p : List (Int) × List (Int) // p.1 ++ p.2 = (legsOf b) ∧ True}) [0, 1] [1, 2, 3, 4, 5, 20, 21] (fun ⟨(pre, suf), _⟩ => [(22, .lit (.int .i64 ((pre.length : Int)))), (6, .lit (.int .i64 (1000 * sumI pre)))]) (fun ⟨(pre, suf), _⟩ => [(0, ⟨false, 72, 5, [[.lit (str (b.mark)), .lit (.int .i64 (b.size)), .lit (.int .i64 (b.count)), .lit (.int .i64 (b.code)), .sh 1 ((b.dims).map intC)]], true⟩), (1, ⟨false, 99, 2, [[.lit (.int .i64 (0)), .lit (.int .i64 (0))]], true⟩)]) (fun ⟨(pre, suf), _⟩ => suf.length) ⟨([], (legsOf b)), rfl, trivial⟩ (.c (.c (.c (.c (.c (.c (.c .n))))))) (keep_c (he := rfl) (h := (keep_c (he := rfl) (h := keep_n)))) (slots_c (he := (by first | rfl | (congr 2; simp; done))) (h := (slots_c (he := (by first | rfl | (congr 2; rw [sumI_app, show sumI [s] = s by simp [sumI]]; omega))) (h := trivial)))) ?_
    rintro ⟨⟨pre, suf⟩, hp, hinv⟩ R0 hR0
    dsimp only [List.cons_append, List.nil_append, List.length_cons, List.length_nil]
    simp only at hp hinv
    have hpl : pre.length + suf.length = ((legsOf b)).length := by rw [← hp, List.length_append]
    rcases suf with _ | ⟨s, suf⟩
    · rw [List.append_nil] at hp; simp only [List.length_nil] at hpl
      refine Ev.sr fun K hK => S.o q.lss (S.end (hK _ ?_))
      clear hK K
      refine Ev.ud (fun c2 => ?_) (fun c2 => ?_)
      · first
      | (first | omega | contradiction)
      | refine Ev.seq ?_
        refine Ev.block ?_
        refine Ev.sr fun K hK => S.o (q.ix am_el70 am_cl3 (hl := (by first | exact atig (by omega)))) (S.o (q.ls am_ag3) (S.o q.as (S.end (hK _ ?_))))
        clear hK K
        refine Ev.region_S fun K hK => S.o q.mv (S.o q.mv (S.o q.mul (S.o q.add (S.o q.as (S.end (hK _ ?_))))))
        clear hK K
        show Ev _ _ _ _
        refine Ev.region_S fun K hK => S.o q.add (S.o q.mv (S.end (hK _ ?_)))
        clear hK K
        refine hR0 _ _ ?_
        refine roundU [0, 1] [1, 2, 3, 4, 5, 20, 21] ⟨(pre ++ [s], suf), by rw [← hp]; simp, ?_⟩ ?_ (keep_c (he := rfl) (h := (keep_c (he := rfl) (h := keep_n)))) (slots_c (he := (by first | rfl | (congr 2; simp; done))) (h := (slots_c (he := (by first | rfl | (congr 2; rw [sumI_app, show sumI [s] = s by simp [sumI]]; omega))) (h := trivial)))) (.c (.c (.c (.c (.c (.c (.c .n)))))))
        trivial
        all_goals (dsimp only; simp only [List.length_cons]; omega)
      · first
      | (first | omega | contradiction)
      | refine Ev.exit ?_
        refine hR0 _ _ ?_
        show Ev _ _ _ _
        refine Ev.sr fun K hK => S.o (q.fa 1 am_fi72_1 am_cl3) (S.o (q.lv am_ag3) (S.c0 (hF := allowance_fun _) (h := S.o q.mv (S.o q.ex (S.o q.ex (S.nn (q.al am_ze99) (S.sv [_, _] true [_, _] am_in99 am_cl99 (h := S.o q.as (S.end (hK _ ?_))))))))))
        clear hK K
        refine Ev.seq ?_
        rw [e3]
        refine Ev.sr fun K hK => S.o q.mv (S.o q.neq (S.end (hK _ ?_)))
        clear hK K
        refine Ev.cn (fun c3 => ?_) (fun c3 => ?_)
        · first
        | (first | omega | contradiction)
        | refine Ev.sr fun K hK => S.o (q.bd [_, _] am_ze99 am_pl99) (S.o q.mv (S.sv [_, _] true [_, _] am_in99 am_cl99 (h := S.o q.as (S.end (hK _ ?_)))))
          clear hK K
          refine Ev.ret ?_
          refine Ev.retv2 (res_c [_, _] am_ag99 am_cl99 (res_t res_n)) ?_
          refine ⟨?_, rfl⟩
          first
           | (rw [okV_out ‹_›, okV_out ‹_›, okE_out ‹_›]; done)
           | (rw [okV_in hok, okV_in hok, okE_in hok]; rfl)
        · first
        | (first | omega | contradiction)
        | refine Ev.skip ?_
          show Ev _ _ _ _
          simp only [e1, e2]
          rw [hp]
          refine Ev.sr fun K hK => S.o q.mv (S.o (q.lens am_el70) (S.o q.sub (S.o q.as (S.end (hK _ ?_)))))
          clear hK K
          refine Ev.sr fun K hK => S.o q.mv (S.o q.mv (S.o (q.fa 1 am_fi99_1 am_cl3) (S.o (q.lv am_ag3) (S.o q.mul (S.o q.sub (S.o q.mv (S.o q.mv (S.o (q.fa 0 am_fi99_0 am_cl3) (S.o (q.lv am_ag3) (S.o q.mul (S.o q.sub (S.o (q.bd [_, _] am_ze99 am_pl99) (S.sv [_, _] true [_, _] am_in99 am_cl99 (h := S.o q.as (S.end (hK _ ?_))))))))))))))))
          clear hK K
          refine Ev.ret ?_
          refine Ev.retv2 (res_c [_, _] am_ag99 am_cl99 (res_t res_n)) ?_
          refine ⟨?_, rfl⟩
          first
           | (rw [okV_out ‹_›, okV_out ‹_›, okE_out ‹_›]; done)
           | (rw [okV_in hok, okV_in hok, okE_in hok]; rfl)
    · simp only [List.length_cons] at hpl
      have hidx : (legsOf b)[pre.length]? = some s := by rw [← hp]; simp
      have hsb := legs_in hok s (by rw [← hp]; simp)
      obtain ⟨hs1, hs2⟩ := sumI_bd pre (fun n hn => legs_in hok n (by rw [← hp]; simp [hn]))
      refine Ev.sr fun K hK => S.o q.lss (S.end (hK _ ?_))
      clear hK K
      refine Ev.ud (fun c4 => ?_) (fun c4 => ?_)
      · first
      | (first | omega | contradiction)
      | refine Ev.seq ?_
        refine Ev.block ?_
        refine Ev.sr fun K hK => S.o (q.ix am_el70 am_cl3 (hl := (by first | exact ati hidx (by omega) | exact atig (by omega)))) (S.o (q.ls am_ag3) (S.o q.as (S.end (hK _ ?_))))
        clear hK K
        refine Ev.region_S fun K hK => S.o q.mv (S.o q.mv (S.o q.mul (S.o q.add (S.o q.as (S.end (hK _ ?_))))))
        clear hK K
        show Ev _ _ _ _
        refine Ev.region_S fun K hK => S.o q.add (S.o q.mv (S.end (hK _ ?_)))
        clear hK K
        refine hR0 _ _ ?_
        refine roundU [0, 1] [1, 2, 3, 4, 5, 20, 21] ⟨(pre ++ [s], suf), by rw [← hp]; simp, ?_⟩ ?_ (keep_c (he := rfl) (h := (keep_c (he := rfl) (h := keep_n)))) (slots_c (he := (by first | rfl | (congr 2; simp; done))) (h := (slots_c (he := (by first | rfl | (congr 2; rw [sumI_app, show sumI [s] = s by simp [sumI]]; omega))) (h := trivial)))) (.c (.c (.c (.c (.c (.c (.c .n)))))))
        trivial
        all_goals (dsimp only; simp only [List.length_cons]; omega)
      · first
      | (first | omega | contradiction)
      | refine Ev.exit ?_
        refine hR0 _ _ ?_
        show Ev _ _ _ _
        refine Ev.sr fun K hK => S.o (q.fa 1 am_fi72_1 am_cl3) (S.o (q.lv am_ag3) (S.c0 (hF := allowance_fun _) (h := S.o q.mv (S.o q.ex (S.o q.ex (S.nn (q.al am_ze99) (S.sv [_, _] true [_, _] am_in99 am_cl99 (h := S.o q.as (S.end (hK _ ?_))))))))))
        clear hK K
        refine Ev.seq ?_
        rw [e3]
        refine Ev.sr fun K hK => S.o q.mv (S.o q.neq (S.end (hK _ ?_)))
        clear hK K
        refine Ev.cn (fun c5 => ?_) (fun c5 => ?_)
        · first
        | (first | omega | contradiction)
        | refine Ev.sr fun K hK => S.o (q.bd [_, _] am_ze99 am_pl99) (S.o q.mv (S.sv [_, _] true [_, _] am_in99 am_cl99 (h := S.o q.as (S.end (hK _ ?_)))))
          clear hK K
          refine Ev.ret ?_
          refine Ev.retv2 (res_c [_, _] am_ag99 am_cl99 (res_t res_n)) ?_
          refine ⟨?_, rfl⟩
          first
           | (rw [okV_out ‹_›, okV_out ‹_›, okE_out ‹_›]; done)
           | (rw [okV_in hok, okV_in hok, okE_in hok]; rfl)
        · first
        | (first | omega | contradiction)
        | refine Ev.skip ?_
          show Ev _ _ _ _
          simp only [e1, e2]
          rw [hp]
          refine Ev.sr fun K hK => S.o q.mv (S.o (q.lens am_el70) (S.o q.sub (S.o q.as (S.end (hK _ ?_)))))
          clear hK K
          refine Ev.sr fun K hK => S.o q.mv (S.o q.mv (S.o (q.fa 1 am_fi99_1 am_cl3) (S.o (q.lv am_ag3) (S.o q.mul (S.o q.sub (S.o q.mv (S.o q.mv (S.o (q.fa 0 am_fi99_0 am_cl3) (S.o (q.lv am_ag3) (S.o q.mul (S.o q.sub (S.o (q.bd [_, _] am_ze99 am_pl99) (S.sv [_, _] true [_, _] am_in99 am_cl99 (h := S.o q.as (S.end (hK _ ?_))))))))))))))))
          clear hK K
          refine Ev.ret ?_
          refine Ev.retv2 (res_c [_, _] am_ag99 am_cl99 (res_t res_n)) ?_
          refine ⟨?_, rfl⟩
          first
           | (rw [okV_out ‹_›, okV_out ‹_›, okE_out ‹_›]; done)
           | (rw [okV_in hok, okV_in hok, okE_in hok]; rfl)

def cutOf (b : Bar) : Int := max 5 (5 * ((max 0 (devHi b) + 5000 - 1) / 5000))
theorem cutOf_bd {b : Bar} (h : okBar b) : 5 ≤ cutOf b ∧ cutOf b ≤ 1048576 := by
  obtain ⟨_, _, _, _, h1, h2⟩ := dev_bd h
  unfold cutOf
  omega
theorem cut_fun (b : Bar) (hw : b.w) : Fun Tryz.prog 44 [.agg b.c] (Ret (.tup [.lit (.int .i64 (okV b (cutOf b))), .lit (.int .i64 (okE b))]) []) := by
  refine Fun.of (nt := 20) (rs := [.tmp 2, .tmp 3]) Tryz.func44 rfl rfl rfl rfl rfl ?_
  refine Ev.sr fun K hK => S.nn (q.bx [_, _, _, _, _] true) (S.o q.as (S.o q.as (S.end (hK _ ?_))))
  clear hK K
  refine Ev.sr fun K hK => S.o (q.lvA [_, _, _, _, _] am_ag72 am_cl72) (S.c0 (hF := developed_fun _ (by assumption)) (h := S.o q.mv (S.o q.ex (S.o q.ex (S.nn (q.al am_ze99) (S.sv [_, _] true [_] am_in99 am_cl99 (h := S.o q.as (S.end (hK _ ?_)))))))))
  clear hK K
  refine Ev.seq ?_
  refine Ev.sr fun K hK => S.o q.mv (S.o q.neq (S.end (hK _ ?_)))
  clear hK K
  refine Ev.cn (fun c1 => ?_) (fun c1 => ?_)
  · first
  | (first | omega | contradiction)
  | refine Ev.sr fun K hK => S.o q.mv (S.o q.as (S.o q.as (S.end (hK _ ?_))))
    clear hK K
    refine Ev.ret ?_
    refine Ev.ret2 ?_
    refine ⟨?_, rfl⟩
    first
     | (rw [okV_out ‹_›, okE_out ‹_›]; done)
     | (rw [okV_in hok, okE_in hok]; rfl)
  · first
  | (first | omega | contradiction)
  | refine Ev.skip ?_
    show Ev _ _ _ _
    have hok := okE_zero ‹okE b = 0›
    obtain ⟨_, _, _, _, h1, h2⟩ := dev_bd hok
    rw [okV_in hok, okV_in hok]
    refine Ev.sr fun K hK => S.o (q.fa 1 am_fi99_1 am_cl3) (S.o (q.lv am_ag3) (S.o q.max (S.c0 (hF := up_fun _ _ (by omega) (by omega) (by omega) (by omega)) (h := S.o q.mul (S.o q.max (S.o q.as (S.o q.as (S.end (hK _ ?_)))))))))
    clear hK K
    refine Ev.ret ?_
    refine Ev.ret2 ?_
    refine ⟨?_, rfl⟩
    first
     | (rw [okV_out ‹_›, okE_out ‹_›]; done)
     | (rw [okV_in hok, okE_in hok]; rfl)

def oneOf (b : Bar) : Int := massOf b.size (cutOf b)
def barMass (b : Bar) : Int := b.count * oneOf b
theorem barMass_bd {b : Bar} (h : okBar b) : 0 ≤ oneOf b ∧ oneOf b ≤ 10343154 ∧ 0 ≤ barMass b ∧ barMass b ≤ 1000 * 10343154 := by
  obtain ⟨h1, h2⟩ := cutOf_bd h
  obtain ⟨h3, h4⟩ := massOf_bd h.2.1 (by omega : 0 ≤ cutOf b) h2
  have h5 := h.2.2.1
  have h6 := h.2.2.2.1
  exact ⟨h3, h4, mul_bd (by omega) h6 h3 h4⟩

end Go.Proofs.YtnbjmckhongidaaGreatDoor
