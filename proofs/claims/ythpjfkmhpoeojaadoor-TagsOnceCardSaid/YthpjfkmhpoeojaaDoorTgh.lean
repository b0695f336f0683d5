/-
  Tags: the book and its methods, what they answer.
  Conditions: none.
-/
import Derived.Test.YthpjfkmhpoeojaaDoorTga
import Derived.Test.YthpjfkmhpoeojaaDoorMk4
import Derived.Test.YthpjfkmhpoeojaaDoorAmTwo
import Derived.Test.YthpjfkmhpoeojaaDoorTg7

namespace Go.Proofs.YthpjfkmhpoeojaaDoor
open Go Go.AM
set_option linter.unusedSimpArgs false
set_option linter.unusedVariables false
set_option maxRecDepth 100000
set_option maxHeartbeats 1000000

structure Act where
  kind : Int
  most : Int
  tag : List UInt8
  l : List Bundle
  a : List Bar
  b : List Bar
def Act.c : Act → List AV
  | ⟨k, m, t, l, a, b⟩ => [.lit (.int .i64 k), .lit (.int .i64 m), .lit (str t), .sh 4 (l.map Bundle.c), .sh 5 (a.map Bar.c), .sh 5 (b.map Bar.c)]
def Act.w (x : Act) : Prop := x.tag.length ≤ 140737488355328 ∧ x.l.length ≤ 140737488355328 ∧ x.a.length ≤ 140737488355328 ∧ x.b.length ≤ 140737488355328
def fewX (x : Act) : Prop := (shortB x.l 20 ∨ x.l.length > 900 ∧ shortB x.l 1005) ∧ x.tag.length ≤ 60 ∧ smallL x.a 10 ∧ smallL x.b 10
instance (x) : Decidable (fewX x) := by unfold fewX; infer_instance
def fewP (l : List Act) : Prop := l.length ≤ 10 ∧ ∀ x ∈ l, fewX x
instance (l) : Decidable (fewP l) := by unfold fewP; infer_instance
theorem fewT {x : Act} (h : ¬ fewX x) : AV.lit (.bool true) = .lit (.bool (!decide (fewX x))) := by rw [decide_eq_false h]; rfl
theorem fewF {x : Act} (h : fewX x) : AV.lit (.bool false) = .lit (.bool (!decide (fewX x))) := by rw [decide_eq_true h]; rfl
theorem fewD {x : Act} (h : (shortB x.l 20 ∨ x.l.length > 900 ∧ shortB x.l 1005) ∧ x.tag.length ≤ 60 ∧ smallL x.a 10) : AV.lit (.bool (!decide (smallL x.b 10))) = .lit (.bool (!decide (fewX x))) := by
  have : smallL x.b 10 ↔ fewX x := ⟨fun h2 => ⟨h.1, h.2.1, h.2.2, h2⟩, fun h2 => h2.2.2.2⟩
  rw [decide_eq_decide.2 this]
theorem few1_fun (x : Act) (hx : x.w) : Fun Tryd.prog 32 [.agg x.c] (Ret (.lit (.bool (!decide (fewX x)))) []) := by
  obtain ⟨hx1, hx2, hx3, hx4⟩ := hx
  refine Fun.of (nt := 37) (rs := [.tmp 2]) Tryd.func32 rfl rfl rfl rfl rfl ?_
  refine Ev.sr fun K hK => S.nn (q.bx [_, _, _, _, _, _] true) (S.o q.as (S.end (hK _ ?_)))
  clear hK K
  refine Ev.sr fun K hK => S.o (q.fa 3 am_fi71_3 am_cl31) (S.o (q.lv am_ag31) (S.c0 (hF := short_fun x.l 20 (by omega)) (h := S.o q.not (S.bn q.mv (fun c1 => ?_) (fun c1 => ?_)))))
  · first
  | (first | omega | contradiction)
  | refine S.o (q.fa 3 am_fi71_3 am_cl31) (S.o (q.lv am_ag31) (S.o (q.lens am_el31) (S.o q.gtr (S.bd q.mv (fun c2 => ?_) (fun c2 => ?_)))))
    · first
    | (first | omega | contradiction)
    | refine S.o (q.fa 3 am_fi71_3 am_cl31) (S.o (q.lv am_ag31) (S.c0 (hF := short_fun x.l 1005 (by omega)) (h := S.o q.pt (S.o q.not (S.o q.pt (S.bn q.mv (fun c3 => ?_) (fun c3 => ?_)))))))
      · first
      | (first | omega | contradiction)
      | refine S.sk (S.sk (S.sk (S.sk (S.o q.pt (S.o q.mv (S.sk (S.sk (S.sk (S.sk (S.o q.pt (S.o q.mv (S.sk (S.sk (S.sk (S.sk (S.o q.pt (S.o q.as (S.end (hK _ ?_)))))))))))))))))))
        clear hK K
        refine Ev.ret ?_
        refine Ev.ret1 ?_
        refine ⟨?_, rfl⟩
        first
         | rfl
         | exact fewT (x := x) (fun h => by (obtain ⟨h1 | h1, h2, h3, h4⟩ := h <;> first | contradiction | omega | exact absurd h1 ‹_› | exact absurd h1.2 ‹_› | (have := h1.1; omega)))
         | exact fewD (x := x) ⟨by first | exact .inl ‹_› | exact .inr ⟨by omega, ‹_›⟩, by omega, by assumption⟩
         | exact fewF (x := x) ⟨by first | exact .inl ‹_› | exact .inr ⟨by omega, ‹_›⟩, by omega, by assumption, by assumption⟩
      · first
      | (first | omega | contradiction)
      | refine S.o (q.fa 2 am_fi71_2 am_cl9) (S.o (q.lv am_ag9) (S.o (q.slen am_el9 am_un9) (S.o q.gtr (S.o q.pf (S.bd q.mv (fun c4 => ?_) (fun c4 => ?_))))))
        · first
        | (first | omega | contradiction)
        | refine S.sk (S.sk (S.sk (S.sk (S.o q.pt (S.o q.mv (S.sk (S.sk (S.sk (S.sk (S.o q.pt (S.o q.as (S.end (hK _ ?_)))))))))))))
          clear hK K
          refine Ev.ret ?_
          refine Ev.ret1 ?_
          refine ⟨?_, rfl⟩
          first
           | rfl
           | exact fewT (x := x) (fun h => by (obtain ⟨h1 | h1, h2, h3, h4⟩ := h <;> first | contradiction | omega | exact absurd h1 ‹_› | exact absurd h1.2 ‹_› | (have := h1.1; omega)))
           | exact fewD (x := x) ⟨by first | exact .inl ‹_› | exact .inr ⟨by omega, ‹_›⟩, by omega, by assumption⟩
           | exact fewF (x := x) ⟨by first | exact .inl ‹_› | exact .inr ⟨by omega, ‹_›⟩, by omega, by assumption, by assumption⟩
        · first
        | (first | omega | contradiction)
        | refine S.o (q.fa 4 am_fi71_4 am_cl23) (S.o (q.lv am_ag23) (S.c0 (hF := small_fun x.a 10 (by omega)) (h := S.o q.not (S.o q.pf (S.bn q.mv (fun c5 => ?_) (fun c5 => ?_))))))
          · first
          | (first | omega | contradiction)
          | refine S.sk (S.sk (S.sk (S.sk (S.o q.pt (S.o q.as (S.end (hK _ ?_)))))))
            clear hK K
            refine Ev.ret ?_
            refine Ev.ret1 ?_
            refine ⟨?_, rfl⟩
            first
             | rfl
             | exact fewT (x := x) (fun h => by (obtain ⟨h1 | h1, h2, h3, h4⟩ := h <;> first | contradiction | omega | exact absurd h1 ‹_› | exact absurd h1.2 ‹_› | (have := h1.1; omega)))
             | exact fewD (x := x) ⟨by first | exact .inl ‹_› | exact .inr ⟨by omega, ‹_›⟩, by omega, by assumption⟩
             | exact fewF (x := x) ⟨by first | exact .inl ‹_› | exact .inr ⟨by omega, ‹_›⟩, by omega, by assumption, by assumption⟩
          · first
          | (first | omega | contradiction)
          | refine S.o (q.fa 5 am_fi71_5 am_cl23) (S.o (q.lv am_ag23) (S.c0 (hF := small_fun x.b 10 (by omega)) (h := S.o q.not (S.o q.pf (S.o q.as (S.end (hK _ ?_)))))))
            clear hK K
            refine Ev.ret ?_
            refine Ev.ret1 ?_
            refine ⟨?_, rfl⟩
            first
             | rfl
             | exact fewT (x := x) (fun h => by (obtain ⟨h1 | h1, h2, h3, h4⟩ := h <;> first | contradiction | omega | exact absurd h1 ‹_› | exact absurd h1.2 ‹_› | (have := h1.1; omega)))
             | exact fewD (x := x) ⟨by first | exact .inl ‹_› | exact .inr ⟨by omega, ‹_›⟩, by omega, by assumption⟩
             | exact fewF (x := x) ⟨by first | exact .inl ‹_› | exact .inr ⟨by omega, ‹_›⟩, by omega, by assumption, by assumption⟩
    · first
    | (first | omega | contradiction)
    | refine S.sk (S.sk (S.sk (S.o q.pf (S.o q.notf (S.o q.pt (S.o q.mv (S.sk (S.sk (S.sk (S.sk (S.o q.pt (S.o q.mv (S.sk (S.sk (S.sk (S.sk (S.o q.pt (S.o q.mv (S.sk (S.sk (S.sk (S.sk (S.o q.pt (S.o q.as (S.end (hK _ ?_))))))))))))))))))))))))))
      clear hK K
      refine Ev.ret ?_
      refine Ev.ret1 ?_
      refine ⟨?_, rfl⟩
      first
       | rfl
       | exact fewT (x := x) (fun h => by (obtain ⟨h1 | h1, h2, h3, h4⟩ := h <;> first | contradiction | omega | exact absurd h1 ‹_› | exact absurd h1.2 ‹_› | (have := h1.1; omega)))
       | exact fewD (x := x) ⟨by first | exact .inl ‹_› | exact .inr ⟨by omega, ‹_›⟩, by omega, by assumption⟩
       | exact fewF (x := x) ⟨by first | exact .inl ‹_› | exact .inr ⟨by omega, ‹_›⟩, by omega, by assumption, by assumption⟩
  · first
  | (first | omega | contradiction)
  | refine S.sk (S.sk (S.sk (S.sk (S.sk (S.sk (S.sk (S.sk (S.sk (S.sk (S.o q.pf (S.o q.mv (S.o (q.fa 2 am_fi71_2 am_cl9) (S.o (q.lv am_ag9) (S.o (q.slen am_el9 am_un9) (S.o q.gtr (S.o q.pf (S.bd q.mv (fun c6 => ?_) (fun c6 => ?_))))))))))))))))))
    · first
    | (first | omega | contradiction)
    | refine S.sk (S.sk (S.sk (S.sk (S.o q.pt (S.o q.mv (S.sk (S.sk (S.sk (S.sk (S.o q.pt (S.o q.as (S.end (hK _ ?_)))))))))))))
      clear hK K
      refine Ev.ret ?_
      refine Ev.ret1 ?_
      refine ⟨?_, rfl⟩
      first
       | rfl
       | exact fewT (x := x) (fun h => by (obtain ⟨h1 | h1, h2, h3, h4⟩ := h <;> first | contradiction | omega | exact absurd h1 ‹_› | exact absurd h1.2 ‹_› | (have := h1.1; omega)))
       | exact fewD (x := x) ⟨by first | exact .inl ‹_› | exact .inr ⟨by omega, ‹_›⟩, by omega, by assumption⟩
       | exact fewF (x := x) ⟨by first | exact .inl ‹_› | exact .inr ⟨by omega, ‹_›⟩, by omega, by assumption, by assumption⟩
    · first
    | (first | omega | contradiction)
    | refine S.o (q.fa 4 am_fi71_4 am_cl23) (S.o (q.lv am_ag23) (S.c0 (hF := small_fun x.a 10 (by omega)) (h := S.o q.not (S.o q.pf (S.bn q.mv (fun c7 => ?_) (fun c7 => ?_))))))
      · first
      | (first | omega | contradiction)
      | refine S.sk (S.sk (S.sk (S.sk (S.o q.pt (S.o q.as (S.end (hK _ ?_)))))))
        clear hK K
        refine Ev.ret ?_
        refine Ev.ret1 ?_
        refine ⟨?_, rfl⟩
        first
         | rfl
         | exact fewT (x := x) (fun h => by (obtain ⟨h1 | h1, h2, h3, h4⟩ := h <;> first | contradiction | omega | exact absurd h1 ‹_› | exact absurd h1.2 ‹_› | (have := h1.1; omega)))
         | exact fewD (x := x) ⟨by first | exact .inl ‹_› | exact .inr ⟨by omega, ‹_›⟩, by omega, by assumption⟩
         | exact fewF (x := x) ⟨by first | exact .inl ‹_› | exact .inr ⟨by omega, ‹_›⟩, by omega, by assumption, by assumption⟩
      · first
      | (first | omega | contradiction)
      | refine S.o (q.fa 5 am_fi71_5 am_cl23) (S.o (q.lv am_ag23) (S.c0 (hF := small_fun x.b 10 (by omega)) (h := S.o q.not (S.o q.pf (S.o q.as (S.end (hK _ ?_)))))))
        clear hK K
        refine Ev.ret ?_
        refine Ev.ret1 ?_
        refine ⟨?_, rfl⟩
        first
         | rfl
         | exact fewT (x := x) (fun h => by (obtain ⟨h1 | h1, h2, h3, h4⟩ := h <;> first | contradiction | omega | exact absurd h1 ‹_› | exact absurd h1.2 ‹_› | (have := h1.1; omega)))
         | exact fewD (x := x) ⟨by first | exact .inl ‹_› | exact .inr ⟨by omega, ‹_›⟩, by omega, by assumption⟩
         | exact fewF (x := x) ⟨by first | exact .inl ‹_› | exact .inr ⟨by omega, ‹_›⟩, by omega, by assumption, by assumption⟩
theorem indexFuncInAct (g : FuncId) (p : Act → Bool) (l : List Act) (hg : ∀ s ∈ l, Fun Tryd.prog g [.agg s.c] (Ret (.lit (.bool (p s))) [])) (hlen : l.length ≤ 140737488355328) :
    Fun Tryd.prog 51 [.sh 6 (l.map Act.c), .fn (.func g) [] []] (Ret (.lit (.int .i64 (idxP p l 0))) []) := by
  refine Fun.of (nt := 19) (rs := [.tmp 4]) Tryd.func51 rfl rfl rfl rfl rfl ?_
  refine Ev.sr fun K hK => S.o q.as (S.end (hK _ ?_))
  clear hK K
  refine Ev.seq ?_
  refine Ev.sr fun K hK => S.o q.mv (S.o (q.lens am_el22) (S.o q.mv (S.end (hK _ ?_))))
  clear hK K
  refine Ev.block ?_
  refine Ev.loopU (ι := {q : List Act × List Act // q.1 ++ q.2 = l ∧ ∀ x ∈ q.1, p x = false}) [] [0, 1, 7] (fun ⟨(pre, suf), _⟩ => [(8, .lit (.int .i64 ((pre.length : Int))))]) (fun ⟨(pre, suf), _⟩ => []) (fun ⟨(pre, suf), _⟩ => suf.length) ⟨([], l), rfl, fun x hx => by simp at hx⟩ (.c (.c (.c .n))) keep_n (slots_c (he := (by first | rfl | (simp; done) | (congr 2; omega))) (h := trivial)) ?_
  rintro ⟨⟨pre, suf⟩, hp, hinv⟩ R0 hR0
  dsimp only [List.cons_append, List.nil_append, List.length_cons, List.length_nil]
  simp only at hp hinv
  have hpl : pre.length + suf.length = (l).length := by rw [← hp, List.length_append]
  rcases suf with _ | ⟨s, suf⟩
  · rw [List.append_nil] at hp; subst hp; simp only [List.length_nil] at hpl
    refine Ev.sr fun K hK => S.o q.lss (S.end (hK _ ?_))
    clear hK K
    refine Ev.ud (fun c1 => ?_) (fun c1 => ?_)
    · first
    | (first | omega | contradiction)
    | refine Ev.seq ?_
      refine Ev.block ?_
      refine Ev.sr fun K hK => S.o q.mv (S.o q.as (S.end (hK _ ?_)))
      clear hK K
      refine Ev.sr fun K hK => S.o q.mv (S.o q.mv (S.o q.mv (S.o (q.ix am_el22 am_cl71 (hl := (by first | exact atig (by omega)))) (S.o (q.lsA [_, _, _, _, _, _] am_ag71 am_cl71) (S.c0 (hF := hg s (by rw [← hp]; simp)) (h := S.end (hK _ ?_)))))))
      clear hK K
      refine Ev.c (fun c2 => ?_) (fun c2 => ?_)
      · first
      | (first | omega | contradiction)
      | refine Ev.sr fun K hK => S.o q.mv (S.o q.as (S.end (hK _ ?_)))
        clear hK K
        refine Ev.ret ?_
        refine hR0 _ _ ?_
        refine Ev.ret1 ?_
        refine ⟨?_, rfl⟩
        first | (congr 2; rw [← hp, idxP_append p pre _ 0 hinv, idxP, if_pos ‹_›]; omega) | (congr 2; rw [idxP_none p pre 0 hinv])
      · first
      | (first | omega | contradiction)
      | refine Ev.skip ?_
        show Ev _ _ _ _
        refine Ev.region_S fun K hK => S.o q.add (S.o q.mv (S.end (hK _ ?_)))
        clear hK K
        refine hR0 _ _ ?_
        refine roundU [] [0, 1, 7] ⟨(pre ++ [s], suf), by rw [← hp]; simp, ?_⟩ ?_ keep_n (slots_c (he := (by first | rfl | (simp; done) | (congr 2; omega))) (h := trivial)) (.c (.c (.c .n)))
        intro x hx; simp only [List.mem_append, List.mem_singleton] at hx; rcases hx with hx | rfl
        · exact hinv x hx
        · assumption
        all_goals (dsimp only; simp only [List.length_cons]; omega)
    · first
    | (first | omega | contradiction)
    | refine Ev.exit ?_
      refine hR0 _ _ ?_
      show Ev _ _ _ _
      refine Ev.sr fun K hK => S.o q.as (S.end (hK _ ?_))
      clear hK K
      refine Ev.ret ?_
      refine Ev.ret1 ?_
      refine ⟨?_, rfl⟩
      first | (congr 2; rw [← hp, idxP_append p pre _ 0 hinv, idxP, if_pos ‹_›]; omega) | (congr 2; rw [idxP_none p pre 0 hinv])
  · simp only [List.length_cons] at hpl
    have hidx : (l)[pre.length]? = some s := by rw [← hp]; simp
    refine Ev.sr fun K hK => S.o q.lss (S.end (hK _ ?_))
    clear hK K
    refine Ev.ud (fun c3 => ?_) (fun c3 => ?_)
    · first
    | (first | omega | contradiction)
    | refine Ev.seq ?_
      refine Ev.block ?_
      refine Ev.sr fun K hK => S.o q.mv (S.o q.as (S.end (hK _ ?_)))
      clear hK K
      refine Ev.sr fun K hK => S.o q.mv (S.o q.mv (S.o q.mv (S.o (q.ix am_el22 am_cl71 (hl := (by first | exact ati hidx (by omega) | exact atig (by omega)))) (S.o (q.lsA [_, _, _, _, _, _] am_ag71 am_cl71) (S.c0 (hF := hg s (by rw [← hp]; simp)) (h := S.end (hK _ ?_)))))))
      clear hK K
      refine Ev.c (fun c4 => ?_) (fun c4 => ?_)
      · first
      | (first | omega | contradiction)
      | refine Ev.sr fun K hK => S.o q.mv (S.o q.as (S.end (hK _ ?_)))
        clear hK K
        refine Ev.ret ?_
        refine hR0 _ _ ?_
        refine Ev.ret1 ?_
        refine ⟨?_, rfl⟩
        first | (congr 2; rw [← hp, idxP_append p pre _ 0 hinv, idxP, if_pos ‹_›]; omega) | (congr 2; rw [idxP_none p pre 0 hinv])
      · first
      | (first | omega | contradiction)
      | refine Ev.skip ?_
        show Ev _ _ _ _
        refine Ev.region_S fun K hK => S.o q.add (S.o q.mv (S.end (hK _ ?_)))
        clear hK K
        refine hR0 _ _ ?_
        refine roundU [] [0, 1, 7] ⟨(pre ++ [s], suf), by rw [← hp]; simp, ?_⟩ ?_ keep_n (slots_c (he := (by first | rfl | (simp; done) | (congr 2; omega))) (h := trivial)) (.c (.c (.c .n)))
        intro x hx; simp only [List.mem_append, List.mem_singleton] at hx; rcases hx with hx | rfl
        · exact hinv x hx
        · assumption
        all_goals (dsimp only; simp only [List.length_cons]; omega)
    · first
    | (first | omega | contradiction)
    | refine Ev.exit ?_
      refine hR0 _ _ ?_
      show Ev _ _ _ _
      refine Ev.sr fun K hK => S.o q.as (S.end (hK _ ?_))
      clear hK K
      refine Ev.ret ?_
      refine Ev.ret1 ?_
      refine ⟨?_, rfl⟩
      first | (congr 2; rw [← hp, idxP_append p pre _ 0 hinv, idxP, if_pos ‹_›]; omega) | (congr 2; rw [idxP_none p pre 0 hinv])
theorem containsFuncInAct (g : FuncId) (p : Act → Bool) (l : List Act) (hg : ∀ s ∈ l, Fun Tryd.prog g [.agg s.c] (Ret (.lit (.bool (p s))) [])) (hlen : l.length ≤ 140737488355328) :
    Fun Tryd.prog 31 [.sh 6 (l.map Act.c), .fn (.func g) [] []] (Ret (.lit (.bool (decide (∃ x ∈ l, p x = true)))) []) := by
  have hd : (decide (∃ x ∈ l, p x = true)) = decide (0 ≤ idxP p l 0) := by simp only [idxP_nonneg p l 0 (Int.le_refl _)]
  rw [hd]
  refine Fun.of (nt := 9) (rs := [.tmp 4]) Tryd.func31 rfl rfl rfl rfl rfl ?_
  refine Ev.sr fun K hK => S.o q.as (S.end (hK _ ?_))
  clear hK K
  refine Ev.sr fun K hK => S.o q.mv (S.o q.mv (S.c0 (hF := indexFuncInAct g p l hg hlen) (h := S.o q.geq (S.o q.as (S.end (hK _ ?_))))))
  clear hK K
  refine Ev.ret ?_
  refine Ev.ret1 ?_
  refine ⟨?_, rfl⟩
  rfl
theorem few_eq (l : List Act) : (!decide (∃ x ∈ l, (!decide (fewX x)) = true)) = decide (∀ x ∈ l, fewX x) := by
  by_cases h : ∀ x ∈ l, fewX x
  · rw [decide_eq_true h, decide_eq_false]
    · rfl
    · rintro ⟨x, hx, e⟩
      simp [h x hx] at e
  · rw [decide_eq_false h, decide_eq_true]
    · rfl
    · exact Classical.byContradiction fun h' => h fun x hx => Classical.byContradiction fun h2 => h' ⟨x, hx, by simp [h2]⟩
theorem fewG {l : List Act} (h : l.length ≤ 10) : AV.lit (.bool (!decide (∃ x ∈ l, (!decide (fewX x)) = true))) = .lit (.bool (decide (fewP l))) := by
  rw [few_eq]
  have : (∀ x ∈ l, fewX x) ↔ fewP l := ⟨fun h2 => ⟨h, h2⟩, fun h2 => h2.2⟩
  rw [decide_eq_decide.2 this]
theorem few_fun (l : List Act) (hlen : l.length ≤ 140737488355328) (hw : ∀ x ∈ l, x.w) : Fun Tryd.prog 7 [.sh 6 (l.map Act.c)] (Ret (.lit (.bool (decide (fewP l)))) []) := by
  refine Fun.of (nt := 11) (rs := [.tmp 2]) Tryd.func7 rfl rfl rfl rfl rfl ?_
  refine Ev.sr fun K hK => S.o q.as (S.end (hK _ ?_))
  clear hK K
  refine Ev.sr fun K hK => S.o q.mv (S.o (q.lens am_el22) (S.o q.leq (S.bd q.mv (fun c1 => ?_) (fun c1 => ?_))))
  · first
  | (first | omega | contradiction)
  | refine S.o q.mv (S.c0 (hF := containsFuncInAct _ (fun x => !decide (fewX x)) l (fun s hs => few1_fun s (hw s hs)) (by omega)) (h := S.o q.not (S.o q.pt (S.o q.as (S.end (hK _ ?_))))))
    clear hK K
    refine Ev.ret ?_
    refine Ev.ret1 ?_
    refine ⟨?_, rfl⟩
    first | rfl | exact bF (fun h => by have := h.1; omega) | exact fewG (by omega)
  · first
  | (first | omega | contradiction)
  | refine S.sk (S.sk (S.sk (S.o q.pf (S.o q.as (S.end (hK _ ?_))))))
    clear hK K
    refine Ev.ret ?_
    refine Ev.ret1 ?_
    refine ⟨?_, rfl⟩
    first | rfl | exact bF (fun h => by have := h.1; omega) | exact fewG (by omega)
end Go.Proofs.YthpjfkmhpoeojaaDoor

namespace Go.Proofs.YthpjfkmhpoeojaaDoor
open Go Go.AM
set_option linter.unusedSimpArgs false
set_option linter.unusedVariables false
set_option maxRecDepth 100000
set_option maxHeartbeats 1000000

def actE (es : List Ent) (x : Act) : List Ent := if x.kind = 0 then isuV es x.l else if x.kind = 1 then canV es x.tag else revV es x.a x.b x.most
def actT (es : List Ent) (x : Act) : List (List UInt8) := if x.kind = 0 then (if isuE es x.l = 0 then x.l.map (·.tag) else []) else if x.kind = 1 then [] else revN es x.a x.b x.most
def madeE (l : List Act) : List Ent := l.foldl actE []
def madeT : List Act → List (List UInt8) := fun l => (l.foldl (fun (q : List Ent × List (List UInt8)) x => (actE q.1 x, q.2 ++ actT q.1 x)) ([], [])).2
theorem made_fst (l : List Act) : ∀ q : List Ent × List (List UInt8), (l.foldl (fun (q : List Ent × List (List UInt8)) x => (actE q.1 x, q.2 ++ actT q.1 x)) q).1 = l.foldl actE q.1 := by
  induction l with
  | nil => intro q; rfl
  | cons x l ih => intro q; rw [List.foldl_cons, ih]; rfl
theorem madeE_snoc (l : List Act) (x : Act) : madeE (l ++ [x]) = actE (madeE l) x := by simp [madeE, List.foldl_append]
theorem madeT_snoc (l : List Act) (x : Act) : madeT (l ++ [x]) = madeT l ++ actT (madeE l) x := by
  unfold madeT
  rw [List.foldl_append]
  show (_ : List (List UInt8)) ++ actT _ x = _
  rw [made_fst]
  rfl
theorem isuV_len {es : List Ent} (l : List Bundle) (h : es.length ≤ 1000) : (isuV es l).length ≤ 1000 := by
  by_cases h0 : isuE es l = 0
  · rw [isuV, if_pos h0, List.length_append, List.length_map]
    unfold isuE at h0
    split at h0
    · split at h0
      · cases h0
      · split at h0
        · cases h0
        · omega
    · cases h0
  · rw [isuV, if_neg h0]; exact h
theorem canV_len (es : List Ent) (t : List UInt8) : (canV es t).length = es.length := by
  unfold canV
  split
  · rw [List.length_set]
  · rfl
theorem revV_len {es : List Ent} (a b : List Bar) (most : Int) (h : es.length ≤ 1000) : (revV es a b most).length ≤ 1000 := by
  by_cases h0 : revE es.length a b most = 0
  · rw [revV, if_pos h0, addB_len, List.length_map]
    unfold revE at h0
    split at h0
    · split at h0
      · split at h0
        · cases h0
        · omega
      · contradiction
    · cases h0
  · rw [revV, if_neg h0]; exact h
theorem madeE_len (l : List Act) : (madeE l).length ≤ 1000 := by
  refine snoc_ind (P := fun l => (madeE l).length ≤ 1000) (by simp [madeE]) (fun l x ih => ?_) l
  rw [madeE_snoc, actE]
  split
  · exact isuV_len _ ih
  · split
    · rw [canV_len]; exact ih
    · exact revV_len _ _ _ ih
theorem actT_len (es : List Ent) (x : Act) : (actT es x).length ≤ 1000 := by
  unfold actT
  split
  · split
    · rename_i h
      rw [List.length_map]
      unfold isuE at h
      split at h
      · rename_i h1; exact h1.1
      · cases h
    · exact Nat.zero_le _
  · split
    · exact Nat.zero_le _
    · unfold revN
      split
      · rw [onT_len]; exact makeV_le _ _
      · exact Nat.zero_le _
theorem madeT_len (l : List Act) : (madeT l).length ≤ 1000 * l.length := by
  refine snoc_ind (P := fun l => (madeT l).length ≤ 1000 * l.length) (by simp [madeT]) (fun l x ih => ?_) l
  have := actT_len (madeE l) x
  rw [madeT_snoc, List.length_append, List.length_append, List.length_singleton]
  omega
structure Mk0 (l : List Act) (x : Act) (es : List Ent) (ts : List (List UInt8)) : Prop where
  e : madeE (l ++ [x]) = es
  t : madeT (l ++ [x]) = ts
theorem mk_ok {l : List Act} {x : Act} (h : x.kind = 0) (h2 : isuE (madeE l) x.l = 0) : Mk0 l x (isuV (madeE l) x.l) (madeT l ++ x.l.map (·.tag)) :=
  ⟨by rw [madeE_snoc, actE, if_pos h], by rw [madeT_snoc, actT, if_pos h, if_pos h2]⟩
theorem mk_no {l : List Act} {x : Act} (h : x.kind = 0) (h2 : ¬ isuE (madeE l) x.l = 0) : Mk0 l x (isuV (madeE l) x.l) (madeT l) :=
  ⟨by rw [madeE_snoc, actE, if_pos h], by rw [madeT_snoc, actT, if_pos h, if_neg h2, List.append_nil]⟩
theorem mk_can {l : List Act} {x : Act} (h : ¬ x.kind = 0) (h1 : x.kind = 1) : Mk0 l x (canV (madeE l) x.tag) (madeT l) :=
  ⟨by rw [madeE_snoc, actE, if_neg h, if_pos h1], by rw [madeT_snoc, actT, if_neg h, if_pos h1, List.append_nil]⟩
theorem mk_rev {l : List Act} {x : Act} (h : ¬ x.kind = 0) (h1 : ¬ x.kind = 1) : Mk0 l x (revV (madeE l) x.a x.b x.most) (madeT l ++ revN (madeE l) x.a x.b x.most) :=
  ⟨by rw [madeE_snoc, actE, if_neg h, if_neg h1], by rw [madeT_snoc, actT, if_neg h, if_neg h1]⟩

end Go.Proofs.YthpjfkmhpoeojaaDoor

namespace Go.Proofs.YthpjfkmhpoeojaaDoor
open Go Go.AM
set_option linter.unusedSimpArgs false
set_option linter.unusedVariables false
set_option maxRecDepth 100000
set_option maxHeartbeats 4000000
theorem revN_len (es : List Ent) (a b : List Bar) (most : Int) : (revN es a b most).length ≤ 1000 := by
  unfold revN
  split
  · rw [onT_len]; exact makeV_le _ _
  · exact Nat.zero_le _
theorem made_fun (l : List Act) (hf : fewP l) (hlen : l.length ≤ 140737488355328) : Fun Tryd.prog 9 [.sh 6 (l.map Act.c)] (Ret (.tup [.adr 0 0 0, .sh 1 ((madeT l).map strC)]) [(0, ⟨false, 76, 1, [[.als 1 0 (madeE l).length]], false⟩), (1, ⟨true, 78, 5, (madeE l).map Ent.c, true⟩)]) := by
  have hl10 := hf.1
  refine Fun.of (nt := 68) (rs := [.tmp 2, .tmp 3]) Tryd.func9 rfl rfl rfl rfl rfl ?_
  refine Ev.sr fun K hK => S.o q.as (S.o q.as (S.end (hK _ ?_)))
  clear hK K
  refine Ev.sr fun K hK => S.c1g (hF := new_fun) (h := S.o q.as (S.end (hK _ ?_)))
  clear hK K
  refine Ev.seq ?_
  refine Ev.sr fun K hK => S.o q.mv (S.peqa (by kernel_rfl : Tryd.prog.underlying 27 = some (.pointer 76)) (h := S.end (hK _ ?_)))
  clear hK K
  refine Ev.cf ?_
  refine Ev.skip ?_
  show Ev _ _ _ _
  refine Ev.weaken (Wk.nilv (f := Ent.c) 0 0 78 5 []) ?_
  refine Ev.sr fun K hK => S.o q.as (S.end (hK _ ?_))
  clear hK K
  refine Ev.seq ?_
  refine Ev.sr fun K hK => S.o q.mv (S.o (q.lens am_el22) (S.o q.mv (S.end (hK _ ?_))))
  clear hK K
  refine Ev.block ?_
  refine Ev.weaken (Wk.nown strC 5 9 1) ?_
  refine Ev.loopU (ι := {p : List (Act) × List (Act) // p.1 ++ p.2 = l ∧ True}) [0, 1, 2] [2, 3, 4, 16, 17] (fun ⟨(pre, suf), _⟩ => [(18, .lit (.int .i64 ((pre.length : Int)))), (5, .als 2 0 (madeT pre).length)]) (fun ⟨(pre, suf), _⟩ => [(0, ⟨false, 76, 1, [[.als 1 0 (madeE pre).length]], false⟩), (1, ⟨true, 78, 5, (madeE pre).map Ent.c, true⟩), (2, ⟨true, 9, 1, (madeT pre).map strC, true⟩)]) (fun ⟨(pre, suf), _⟩ => suf.length) ⟨([], l), rfl, trivial⟩ (.c (.c (.c (.c (.c .n))))) (keep_d (he := (by first | rfl | (simp [madeE]; done) | (rw [hK.e]; done))) (h := (keep_c (he := (by first | rfl | (simp [madeE]; done) | (rw [hK.e]; done))) (h := (keep_c (he := (by first | rfl | (simp [madeT]; done) | (rw [hK.t]; done) | (rw [List.append_nil]; rw [hK.t]; done))) (h := keep_n)))))) (slots_c (he := (by first | rfl | (congr 2; simp; done))) (h := (slots_c (he := (by first | rfl | (simp [madeT]; done) | (rw [hK.t]; done) | (rw [List.append_nil]; rw [hK.t]; done))) (h := trivial)))) ?_
  rintro ⟨⟨pre, suf⟩, hp, hinv⟩ R0 hR0
  dsimp only [List.cons_append, List.nil_append, List.length_cons, List.length_nil]
  simp only at hp hinv
  have hpl : pre.length + suf.length = (l).length := by rw [← hp, List.length_append]
  rcases suf with _ | ⟨s, suf⟩
  · rw [List.append_nil] at hp; subst pre; simp only [List.length_nil] at hpl
    refine Ev.sr fun K hK => S.o q.lss (S.end (hK _ ?_))
    clear hK K
    refine Ev.ud (fun c1 => ?_) (fun c1 => ?_)
    · first | omega | contradiction | (exfalso; simp at *; done)
    · first
    | (first | omega | contradiction)
    | refine Ev.exit ?_
      refine hR0 _ _ ?_
      show Ev _ _ _ _
      refine Ev.sr fun K hK => S.o q.mv (S.o q.mv (S.o q.as (S.o q.as (S.end (hK _ ?_)))))
      clear hK K
      refine Ev.weaken (Wk.frz 3 [_, _]) ?_
      refine Ev.ret ?_
      refine Ev.retg [0, 1] (res_t (res_t res_n)) ?_
      refine ⟨?_, ?_⟩
      all_goals first | rfl | (simp; done)
  · simp only [List.length_cons] at hpl
    have hidx : (l)[pre.length]? = some s := by rw [← hp]; simp
    obtain ⟨hsh, htl, hsa, hsb⟩ := hf.2 s (by rw [← hp]; simp)
    have hbl : s.l.length ≤ 1003 ∧ bunW s.l := hsh.elim (fun h => ⟨(short_w h).2, (short_w h).1⟩) (fun h => ⟨(short_w h.2).2, (short_w h.2).1⟩)
    have hbl1 := hbl.1
    have hbw := hbl.2
    have hwa := small_w hsa
    have hwb := small_w hsb
    have hsa1 := hsa.1
    have hsb1 := hsb.1
    have hml := madeE_len pre
    have hmt := madeT_len pre
    refine Ev.sr fun K hK => S.o q.lss (S.end (hK _ ?_))
    clear hK K
    refine Ev.ud (fun c2 => ?_) (fun c2 => ?_)
    · first
    | (first | omega | contradiction)
    | refine Ev.seq ?_
      refine Ev.block ?_
      refine Ev.sr fun K hK => S.o (q.ix am_el22 am_cl71 (hl := (by first | exact ati hidx (by omega) | exact atig (by omega)))) (S.o (q.lsA [_, _, _, _, _, _] am_ag71 am_cl71) (S.nn (q.al am_ze71) (S.sv [_, _, _, _, _, _] true [_, _, _] am_in71 am_cl71 (h := S.end (hK _ ?_)))))
      clear hK K
      refine Ev.sr fun K hK => S.o (q.fa 0 am_fi71_0 am_cl3) (S.o (q.lv am_ag3) (S.end (hK _ ?_)))
      clear hK K
      refine Ev.block ?_
      refine Ev.sr fun K hK => S.o q.eql (S.o q.as (S.end (hK _ ?_)))
      clear hK K
      refine Ev.cd (fun c3 => ?_) (fun c3 => ?_)
      · first
      | (first | omega | contradiction)
      | refine Ev.sr fun K hK => S.o q.mv (S.o (q.fa 3 am_fi71_3 am_cl31) (S.o (q.lv am_ag31) (S.cR [0, 1] 5 [_, _, _, _] (hob := (keep_d (he := rfl) (h := (keep_c (he := rfl) (h := keep_n))))) (hF := issueR (madeE pre) s.l (by omega) (by omega) hbw) (hn' := belowL rfl rfl) (h := S.o q.eql (S.end (hK _ ?_))))))
        clear hK K
        refine Ev.cd (fun c4 => ?_) (fun c4 => ?_)
        · first
        | (first | omega | contradiction)
        | refine Ev.sr fun K hK => S.o (q.fa 3 am_fi71_3 am_cl31) (S.o (q.lv am_ag31) (S.o (q.lens am_el31) (S.o q.mv (S.end (hK _ ?_)))))
          clear hK K
          refine Ev.block ?_
          refine Ev.loopU (ι := {q : List Bundle × List Bundle // q.1 ++ q.2 = s.l}) [0, 4, 2, 3] [2, 3, 4, 7, 16, 17, 18, 19, 20, 21, 22, 23, 39, 40, 41, 42, 43, 44, 45, 46, 47, 48] (fun ⟨(prey, sufy), _⟩ => [(49, .lit (.int .i64 ((prey.length : Int)))), (5, .als 2 0 (madeT pre ++ prey.map (·.tag)).length)]) (fun ⟨(prey, sufy), _⟩ => [(0, ⟨false, 76, 1, [[.als 1 0 (isuV (madeE pre) s.l).length]], false⟩), (1, ⟨true, 78, 5, (isuV (madeE pre) s.l).map Ent.c, true⟩), (2, ⟨true, 9, 1, (madeT pre ++ prey.map (·.tag)).map strC, true⟩), (3, ⟨false, 71, 6, [[.lit (.int .i64 (s.kind)), .lit (.int .i64 (s.most)), .lit (str (s.tag)), .sh 4 ((s.l).map Bundle.c), .sh 5 ((s.a).map Bar.c), .sh 5 ((s.b).map Bar.c)]], true⟩)]) (fun ⟨(prey, sufy), _⟩ => sufy.length) ⟨([], s.l), rfl⟩ (.c (.c (.c (.c (.c (.c (.c (.c (.c (.c (.c (.c (.c (.c (.c (.c (.c (.c (.c (.c (.c (.c .n)))))))))))))))))))))) (keep_d (he := (by first | rfl | (simp; done))) (h := (keep_c (he := (by first | rfl | (simp; done))) (h := (keep_c (he := (by first | rfl | (simp; done))) (h := (keep_c (he := (by first | rfl | (simp; done))) (h := keep_n)))))))) (slots_c (he := (by first | rfl | (congr 2; simp; done))) (h := (slots_c (he := (by first | rfl | (simp; done) | (congr 2; omega))) (h := trivial)))) ?_
          rintro ⟨⟨prey, sufy⟩, hpy⟩ R3 hR3
          dsimp only [List.cons_append, List.nil_append, List.length_cons, List.length_nil]
          simp only at hpy
          have hply : prey.length + sufy.length = s.l.length := by rw [← hpy, List.length_append]
          have hmy : (madeT pre ++ prey.map (·.tag)).length = (madeT pre).length + prey.length := by simp
          rcases sufy with _ | ⟨y, sufy⟩
          · rw [List.append_nil] at hpy; simp only [List.length_nil] at hply
            subst hpy
            refine Ev.sr fun K hK => S.o q.lss (S.end (hK _ ?_))
            clear hK K
            refine Ev.ud (fun c5 => ?_) (fun c5 => ?_)
            · first | omega | contradiction | (exfalso; simp at *; done)
            · first
            | (first | omega | contradiction)
            | refine Ev.exit ?_
              refine hR3 _ _ ?_
              show Ev _ _ _ _
              first | have hK := mk_ok (l := pre) (x := s) (by assumption) (by assumption) | have hK := mk_no (l := pre) (x := s) (by assumption) (by assumption) | have hK := mk_can (l := pre) (x := s) (by assumption) (by assumption) | have hK := mk_rev (l := pre) (x := s) (by assumption) (by assumption)
              refine Ev.region_S fun K hK => S.o q.add (S.o q.mv (S.end (hK _ ?_)))
              clear hK K
              refine hR0 _ _ ?_
              refine roundU [0, 1, 2] [2, 3, 4, 16, 17] ⟨(pre ++ [s], suf), by rw [← hp]; simp, ?_⟩ ?_ (keep_d (he := (by first | rfl | (simp [madeE]; done) | (rw [hK.e]; done))) (h := (keep_c (he := (by first | rfl | (simp [madeE]; done) | (rw [hK.e]; done))) (h := (keep_c (he := (by first | rfl | (simp [madeT]; done) | (rw [hK.t]; done) | (rw [List.append_nil]; rw [hK.t]; done))) (h := keep_n)))))) (slots_c (he := (by first | rfl | (congr 2; simp; done))) (h := (slots_c (he := (by first | rfl | (simp [madeT]; done) | (rw [hK.t]; done) | (rw [List.append_nil]; rw [hK.t]; done))) (h := trivial)))) (.c (.c (.c (.c (.c .n)))))
              trivial
              all_goals (dsimp only; simp only [List.length_cons]; omega)
          · simp only [List.length_cons] at hply
            have hidy : s.l[prey.length]? = some y := by rw [← hpy]; simp
            refine Ev.sr fun K hK => S.o q.lss (S.end (hK _ ?_))
            clear hK K
            refine Ev.ud (fun c6 => ?_) (fun c6 => ?_)
            · first
            | (first | omega | contradiction)
            | refine Ev.seq ?_
              refine Ev.block ?_
              refine Ev.sr fun K hK => S.o (q.ix am_el31 am_cl38 (hl := (by first | exact ati hidx (by omega) | exact ati hidy (by omega) | exact atig (by omega)))) (S.o (q.lsA [_, _, _, _] am_ag38 am_cl38) (S.nn (q.al am_ze38) (S.sv [_, _, _, _] true [_, _, _, _] am_in38 am_cl38 (h := S.end (hK _ ?_)))))
              clear hK K
              refine Ev.region_S fun K hK => S.o q.mv (S.o (q.fa 0 am_fi38_0 am_cl9) (S.o (q.lv am_ag9) (S.nn (q.bs [[_]] true am_el28 am_ze9 am_cl9) (S.ap' [_, _, _, _, _] am_el28 am_ze9 am_cl9 am_by9 (hh := head_own') (hr := (rows_lit [y.tag])) (h := S.o q.as (S.end (hK _ ?_)))))))
              clear hK K
              show Ev _ _ _ _
              refine Ev.region_S fun K hK => S.o q.add (S.o q.mv (S.end (hK _ ?_)))
              clear hK K
              refine hR3 _ _ ?_
              refine roundU [0, 1, 6, 3] [2, 3, 4, 7, 16, 17, 18, 19, 20, 21, 22, 23, 39, 40, 41, 42, 43, 44, 45, 46, 47, 48] ⟨(prey ++ [y], sufy), by rw [← hpy]; simp⟩ ?_ (keep_d (he := (by first | rfl | (simp; done))) (h := (keep_c (he := (by first | rfl | (simp; done))) (h := (keep_c (he := (by first | rfl | (simp; done))) (h := (keep_c (he := (by first | rfl | (simp; done))) (h := keep_n)))))))) (slots_c (he := (by first | rfl | (congr 2; simp; done))) (h := (slots_c (he := (by first | rfl | (simp; done) | (congr 2; omega))) (h := trivial)))) (.c (.c (.c (.c (.c (.c (.c (.c (.c (.c (.c (.c (.c (.c (.c (.c (.c (.c (.c (.c (.c (.c .n))))))))))))))))))))))
              skip
              all_goals (dsimp only; simp only [List.length_cons]; omega)
            · first | omega | contradiction | (exfalso; simp at *; done)
        · first
        | (first | omega | contradiction)
        | refine Ev.skip ?_
          show Ev _ _ _ _
          first | have hK := mk_ok (l := pre) (x := s) (by assumption) (by assumption) | have hK := mk_no (l := pre) (x := s) (by assumption) (by assumption) | have hK := mk_can (l := pre) (x := s) (by assumption) (by assumption) | have hK := mk_rev (l := pre) (x := s) (by assumption) (by assumption)
          refine Ev.region_S fun K hK => S.o q.add (S.o q.mv (S.end (hK _ ?_)))
          clear hK K
          refine hR0 _ _ ?_
          refine roundU [0, 4, 2] [2, 3, 4, 16, 17] ⟨(pre ++ [s], suf), by rw [← hp]; simp, ?_⟩ ?_ (keep_d (he := (by first | rfl | (simp [madeE]; done) | (rw [hK.e]; done))) (h := (keep_c (he := (by first | rfl | (simp [madeE]; done) | (rw [hK.e]; done))) (h := (keep_c (he := (by first | rfl | (simp [madeT]; done) | (rw [hK.t]; done) | (rw [List.append_nil]; rw [hK.t]; done))) (h := keep_n)))))) (slots_c (he := (by first | rfl | (congr 2; simp; done))) (h := (slots_c (he := (by first | rfl | (simp [madeT]; done) | (rw [hK.t]; done) | (rw [List.append_nil]; rw [hK.t]; done))) (h := trivial)))) (.c (.c (.c (.c (.c .n)))))
          trivial
          all_goals (dsimp only; simp only [List.length_cons]; omega)
      · first
      | (first | omega | contradiction)
      | refine Ev.sr fun K hK => S.o q.eql (S.o q.as (S.end (hK _ ?_)))
        clear hK K
        refine Ev.cd (fun c7 => ?_) (fun c7 => ?_)
        · first
        | (first | omega | contradiction)
        | refine Ev.region_S fun K hK => S.o q.mv (S.o (q.fa 2 am_fi71_2 am_cl9) (S.o (q.lv am_ag9) (S.cR [0, 1] 4 [_, _, _, _] (hob := (keep_d (he := rfl) (h := (keep_c (he := rfl) (h := keep_n))))) (hF := cancelR (madeE pre) s.tag (by omega)) (hn' := belowL rfl rfl) (h := S.end (hK _ ?_)))))
          clear hK K
          show Ev _ _ _ _
          first | have hK := mk_ok (l := pre) (x := s) (by assumption) (by assumption) | have hK := mk_no (l := pre) (x := s) (by assumption) (by assumption) | have hK := mk_can (l := pre) (x := s) (by assumption) (by assumption) | have hK := mk_rev (l := pre) (x := s) (by assumption) (by assumption)
          refine Ev.region_S fun K hK => S.o q.add (S.o q.mv (S.end (hK _ ?_)))
          clear hK K
          refine hR0 _ _ ?_
          refine roundU [0, 1, 2] [2, 3, 4, 16, 17] ⟨(pre ++ [s], suf), by rw [← hp]; simp, ?_⟩ ?_ (keep_d (he := (by first | rfl | (simp [madeE]; done) | (rw [hK.e]; done))) (h := (keep_c (he := (by first | rfl | (simp [madeE]; done) | (rw [hK.e]; done))) (h := (keep_c (he := (by first | rfl | (simp [madeT]; done) | (rw [hK.t]; done) | (rw [List.append_nil]; rw [hK.t]; done))) (h := keep_n)))))) (slots_c (he := (by first | rfl | (congr 2; simp; done))) (h := (slots_c (he := (by first | rfl | (simp [madeT]; done) | (rw [hK.t]; done) | (rw [List.append_nil]; rw [hK.t]; done))) (h := trivial)))) (.c (.c (.c (.c (.c .n)))))
          trivial
          all_goals (dsimp only; simp only [List.length_cons]; omega)
        · first
        | (first | omega | contradiction)
        | refine Ev.sr fun K hK => S.o q.mv (S.o (q.fa 4 am_fi71_4 am_cl23) (S.o (q.lv am_ag23) (S.o (q.fa 5 am_fi71_5 am_cl23) (S.o (q.lv am_ag23) (S.o (q.fa 1 am_fi71_1 am_cl3) (S.o (q.lv am_ag3) (S.cR [0, 1] 5 [_, _, _, _] (hob := (keep_d (he := rfl) (h := (keep_c (he := rfl) (h := keep_n))))) (hF := reviseR (madeE pre) s.a s.b s.most (by omega) (by omega) (by omega) hwa hwb) (hn' := belowL rfl rfl) (h := S.o q.mv (S.o q.ex (S.o q.ex (S.o q.ex (S.o q.as (S.o q.as (S.o q.as (S.end (hK _ ?_))))))))))))))))
          clear hK K
          have hrn := revN_len (madeE pre) s.a s.b s.most
          refine Ev.region_S fun K hK => S.o q.mv (S.o q.mv (S.ap' [_, _, _] am_el28 am_ze9 am_cl9 am_by9 (hh := head_own') (hr := rows_sh) (h := S.o q.as (S.end (hK _ ?_)))))
          clear hK K
          show Ev _ _ _ _
          first | have hK := mk_ok (l := pre) (x := s) (by assumption) (by assumption) | have hK := mk_no (l := pre) (x := s) (by assumption) (by assumption) | have hK := mk_can (l := pre) (x := s) (by assumption) (by assumption) | have hK := mk_rev (l := pre) (x := s) (by assumption) (by assumption)
          refine Ev.region_S fun K hK => S.o q.add (S.o q.mv (S.end (hK _ ?_)))
          clear hK K
          refine hR0 _ _ ?_
          refine roundU [0, 4, 5] [2, 3, 4, 16, 17] ⟨(pre ++ [s], suf), by rw [← hp]; simp, ?_⟩ ?_ (keep_d (he := (by first | rfl | (simp [madeE]; done) | (rw [hK.e]; done))) (h := (keep_c (he := (by first | rfl | (simp [madeE]; done) | (rw [hK.e]; done))) (h := (keep_c (he := (by first | rfl | (simp [madeT]; done) | (rw [hK.t]; done) | (rw [List.append_nil]; rw [hK.t]; done))) (h := keep_n)))))) (slots_c (he := (by first | rfl | (congr 2; simp; done))) (h := (slots_c (he := (by first | rfl | (simp [madeT]; done) | (rw [hK.t]; done) | (rw [List.append_nil]; rw [hK.t]; done))) (h := trivial)))) (.c (.c (.c (.c (.c .n)))))
          trivial
          all_goals (dsimp only; simp only [List.length_cons]; omega)
    · first | omega | contradiction | (exfalso; simp at *; done)
end Go.Proofs.YthpjfkmhpoeojaaDoor

namespace Go.Proofs.YthpjfkmhpoeojaaDoor
open Go Go.AM
set_option linter.unusedSimpArgs false
set_option linter.unusedVariables false
set_option maxRecDepth 100000
set_option maxHeartbeats 1000000

theorem Good.of_map {es es' : List Ent} (h : es'.map (·.b) = es.map (·.b)) (g : Good es) : Good es' := by
  refine ⟨?_, fun e he => ?_, ?_⟩
  · have := congrArg List.length h
    rw [List.length_map, List.length_map] at this
    rw [this]; exact g.len
  · have h1 : e.b ∈ es.map (·.b) := by rw [← h]; exact List.mem_map.2 ⟨e, he, rfl⟩
    obtain ⟨x, hx, h2⟩ := List.mem_map.1 h1
    rw [← h2]; exact g.ok x hx
  · have h1 : (es.map (·.b)).Pairwise fun a b => a.tag ≠ b.tag := List.pairwise_map.2 g.tags
    rw [← h] at h1
    exact (List.pairwise_map (f := fun e : Ent => e.b) (R := fun a b : Bundle => a.tag ≠ b.tag)).1 h1
def tgs (es : List Ent) : List (List UInt8) := es.map (·.b.tag)
theorem tgs_of {es es' : List Ent} (h : es'.map (·.b) = es.map (·.b)) : tgs es' = tgs es := by
  have := congrArg (List.map (·.tag)) h
  rw [List.map_map, List.map_map] at this
  exact this
theorem tgI_of {es es' : List Ent} (h : es'.map (·.b) = es.map (·.b)) (t : List UInt8) : tgI es' t = tgI es t := by
  have key : ∀ (l : List Ent) (k : Int), idxP (fun e : Ent => decide (e.b.tag = t)) l k = idxP (fun b : Bundle => decide (b.tag = t)) (l.map (·.b)) k := by
    intro l
    induction l with
    | nil => intro k; rfl
    | cons x l ih => intro k; rw [List.map_cons, idxP, idxP, ih]
  unfold tgI
  rw [key, key, h]
theorem set_b {es : List Ent} {i : Nat} {x : Ent} (h : es[i]? = some x) : (es.set i (offE x)).map (·.b) = es.map (·.b) := by
  refine List.ext_getElem? fun j => ?_
  rw [List.getElem?_map, List.getElem?_map, List.getElem?_set]
  split
  · rename_i e
    subst e
    rw [if_pos (List.getElem?_eq_some_iff.1 h).1, h]
    rfl
  · rfl
theorem can_b (es : List Ent) (t : List UInt8) : (canV es t).map (·.b) = es.map (·.b) := by
  by_cases h : canE es t = 0
  · have hn : ¬ tgI es t < 0 := fun h2 => by rw [(at_none h2).2.1] at h; cases h
    obtain ⟨x, hx, _, _, _⟩ := tgI_at hn
    unfold canV
    rw [if_pos h, hx]
    exact set_b hx
  · unfold canV
    rw [if_neg h]
theorem addB_take (l : List Bundle) : ∀ es : List Ent, (addB es l).take es.length = es := by
  induction l with
  | nil => intro es; exact List.take_length
  | cons b l ih =>
    intro es
    have h := congrArg (List.take es.length) (ih (es ++ [newE (retag es b)]))
    rw [List.take_take, Nat.min_eq_left (by simp), List.take_left' rfl] at h
    exact h
theorem addB_tags (es : List Ent) (l : List Bundle) : tgs (addB es l) = tgs es ++ onT es l := by
  have h : tgs (addB es l) = tgs ((addB es l).take es.length ++ (addB es l).drop es.length) := by rw [List.take_append_drop]
  rw [h, addB_take, tgs, List.map_append]
  rfl
theorem revE_ok {n : Nat} {a b : List Bar} {most : Int} (h : revE n a b most = 0) : (okSched a ∧ okSched b) ∧ makeE (revK a b) most = 0 ∧ ¬ (n : Int) + (makeV (revK a b) most).length > 1000 := by
  unfold revE at h
  split at h
  · rename_i h1
    split at h
    · rename_i h2
      split at h
      · cases h
      · rename_i h3; exact ⟨h1, h2, h3⟩
    · contradiction
  · cases h
theorem isuE_ok {es : List Ent} {l : List Bundle} (h : isuE es l = 0) : okBuns l ∧ ¬ hasT es l ∧ ¬ (es.length : Int) + l.length > 1000 := by
  unfold isuE at h
  split at h
  · rename_i h1
    split at h
    · cases h
    · rename_i h2
      split at h
      · cases h
      · rename_i h3; exact ⟨h1, h2, h3⟩
  · cases h
theorem rv_tgs (M : List (List UInt8)) (es : List Ent) : tgs (es.map (rvE M)) = tgs es := by
  unfold tgs
  rw [List.map_map]
  exact List.map_congr_left fun e _ => by show (rvE M e).b.tag = _; rw [rvE_b]
theorem rev_good {es : List Ent} {a b : List Bar} {most : Int} (hG : Good es) : Good (revV es a b most) ∧ tgs (revV es a b most) = tgs es ++ revN es a b most := by
  by_cases h : revE es.length a b most = 0
  · obtain ⟨hS, hm, hl⟩ := revE_ok h
    have M := made_of hm
    have hR := rev_ok hS hm hl
    rw [hR.v, hR.n]
    exact ⟨(hG.rv _).add _ (by rw [List.length_map]; omega) M.ok.2.1, by rw [addB_tags, rv_tgs]⟩
  · rw [revV, if_neg h, revN, if_neg h, List.append_nil]; exact ⟨hG, rfl⟩
theorem isu_good {es : List Ent} {l : List Bundle} (hG : Good es) : Good (isuV es l) ∧ tgs (isuV es l) = tgs es ++ (if isuE es l = 0 then l.map (·.tag) else []) := by
  by_cases h : isuE es l = 0
  · obtain ⟨h1, h2, h3⟩ := isuE_ok h
    rw [isuV, if_pos h, if_pos h]
    refine ⟨⟨by simp; omega, fun e he => ?_, ?_⟩, by rw [tgs, List.map_append, List.map_map]; rfl⟩
    · rcases List.mem_append.1 he with he | he
      · exact hG.ok e he
      · obtain ⟨b, hb, rfl⟩ := List.mem_map.1 he; exact h1.2.1 b hb
    · rw [List.pairwise_append]
      refine ⟨hG.tags, List.pairwise_map.2 h1.2.2, fun x hx y hy e => h2 ?_⟩
      obtain ⟨b, hb, rfl⟩ := List.mem_map.1 hy
      refine ⟨b, hb, decide_eq_true ?_⟩
      by_cases hq : tgI es b.tag < 0
      · exact absurd e ((tgI_lt es b.tag).1 hq x hx)
      · omega
  · rw [isuV, if_neg h, if_neg h, List.append_nil]; exact ⟨hG, rfl⟩
theorem made_good (l : List Act) : Good (madeE l) ∧ madeT l = tgs (madeE l) := by
  refine snoc_ind (P := fun l => Good (madeE l) ∧ madeT l = tgs (madeE l)) ⟨⟨by simp [madeE], by simp [madeE], by simp [madeE]⟩, by simp [madeE, madeT, tgs]⟩ (fun l x ih => ?_) l
  obtain ⟨h1, h2⟩ := ih
  rw [madeE_snoc, madeT_snoc, h2, actE, actT]
  split
  · obtain ⟨g1, g2⟩ := isu_good (l := x.l) h1
    exact ⟨g1, g2.symm⟩
  · split
    · exact ⟨h1.of_map (can_b _ _), by rw [List.append_nil, tgs_of (can_b _ _)]⟩
    · obtain ⟨g1, g2⟩ := rev_good (a := x.a) (b := x.b) (most := x.most) h1
      exact ⟨g1, g2.symm⟩
theorem ent_one {l : List Ent} (h : l.Pairwise fun a b => a.b.tag ≠ b.b.tag) {x y : Ent} (hx : x ∈ l) (hy : y ∈ l) (e : x.b.tag = y.b.tag) : x = y := by
  induction l with
  | nil => simp at hx
  | cons z l ih =>
    rw [List.pairwise_cons] at h
    rcases List.mem_cons.1 hx with h1 | h1
    · rcases List.mem_cons.1 hy with h2 | h2
      · rw [h1, h2]
      · exact absurd (h1 ▸ e) (h.1 y h2)
    · rcases List.mem_cons.1 hy with h2 | h2
      · exact absurd (h2 ▸ e.symm) (h.1 x h1)
      · exact ih h.2 h1 h2
theorem has_tg {es : List Ent} {t : List UInt8} (ht : t ∈ tgs es) : ∃ x, es[(tgI es t).toNat]? = some x ∧ x.b.tag = t ∧ ¬ tgI es t < 0 ∧ x ∈ es := by
  obtain ⟨e, he, h1⟩ := List.mem_map.1 ht
  have hn : ¬ tgI es t < 0 := fun h2 => (tgI_lt es t).1 h2 e he h1
  obtain ⟨x, hx, hxt, _, _⟩ := tgI_at hn
  exact ⟨x, hx, hxt, hn, List.mem_of_getElem? hx⟩
def hasB (l : List Bundle) (t : List UInt8) : Prop := ∃ b ∈ l, (fun b : Bundle => decide (b.tag = t)) b = true
instance (l t) : Decidable (hasB l t) := inferInstanceAs (Decidable (∃ b ∈ l, (fun b : Bundle => decide (b.tag = t)) b = true))
theorem once_at {es : List Ent} (hG : Good es) {t : List UInt8} (ht : t ∈ tgs es) : staE es t = 0 ∧ (staV es t = 1 ∧ hasB (openL es) t ∨ staV es t = 2 ∧ ¬ hasB (openL es) t) := by
  obtain ⟨x, hx, hxt, hn, hxm⟩ := has_tg ht
  cases ho : x.off with
  | true =>
    obtain ⟨_, _, h3, h4⟩ := at_off hn hx ho
    refine ⟨h4, .inr ⟨h3, ?_⟩⟩
    rintro ⟨b, hb, h5⟩
    unfold openL at hb
    obtain ⟨y, hy, rfl⟩ := List.mem_map.1 hb
    obtain ⟨hy1, hy2⟩ := List.mem_filter.1 hy
    have e := ent_one hG.tags hy1 hxm ((of_decide_eq_true h5).trans hxt.symm)
    subst e
    rw [ho] at hy2
    cases hy2
  | false =>
    obtain ⟨_, _, h3, h4⟩ := at_on hn hx ho
    exact ⟨h4, .inl ⟨h3, x.b, List.mem_map.2 ⟨x, List.mem_filter.2 ⟨hxm, by rw [ho]; rfl⟩, rfl⟩, decide_eq_true hxt⟩⟩
structure OnceR (es : List Ent) (t : List UInt8) : Prop where
  c : staV es t = 1 ∧ canE es t = 0 ∨ staV es t = 2 ∧ canE es t = 13
  e : staE (canV es t) t = 0
  v : staV (canV es t) t = 2
  ie : isuE (canV es t) [⟨t, [97], 1, 0⟩] = 15
  iv : isuV (canV es t) [⟨t, [97], 1, 0⟩] = canV es t
  k : canE (canV es t) t = 13
  w : bunW [⟨t, [97], 1, 0⟩]
theorem once_end {es : List Ent} (hG : Good es) {t : List UInt8} (ht : t ∈ tgs es) : OnceR es t := by
  obtain ⟨x, hx, hxt, hn, hxm⟩ := has_tg ht
  have hI := tgI_of (can_b es t) t
  have h1 : canV es t = es.set (tgI es t).toNat (offE x) ∨ canV es t = es ∧ x.off = true := by
    cases ho : x.off with
    | true => exact .inr ⟨(at_off hn hx ho).1, rfl⟩
    | false => exact .inl (at_on hn hx ho).1
  have h2 : ∃ y, (canV es t)[(tgI (canV es t) t).toNat]? = some y ∧ y.off = true := by
    rw [hI]
    rcases h1 with h1 | ⟨h1, h2⟩
    · rw [h1]
      exact ⟨offE x, by rw [List.getElem?_set, if_pos rfl, if_pos (List.getElem?_eq_some_iff.1 hx).1], rfl⟩
    · rw [h1]; exact ⟨x, hx, h2⟩
  obtain ⟨y, hy, hyo⟩ := h2
  obtain ⟨g1, g2, g3, g4⟩ := at_off (by rw [hI]; exact hn) hy hyo
  have hok : okBuns [⟨t, [97], 1, 0⟩] := by
    refine ⟨by show (1 : Nat) ≤ 1000; decide, fun b hb => ?_, by simp⟩
    obtain rfl := List.mem_singleton.1 hb
    exact ⟨hxt ▸ (hG.ok x hxm).1, (by decide +kernel : IsName [97]), (by decide : (1 : Int) ≤ 1), (by decide : (1 : Int) ≤ 1000), (by decide : (0 : Int) ≤ 0), (by decide : (0 : Int) ≤ 1099511627776)⟩
  have hhas : hasT (canV es t) [⟨t, [97], 1, 0⟩] := ⟨(⟨t, [97], 1, 0⟩ : Bundle), by simp, decide_eq_true (by
    show tgI (canV es t) t ≥ 0
    rw [hI]
    omega)⟩
  obtain ⟨i1, i2⟩ := isu_has hok hhas
  refine ⟨?_, g4, g3, i2, i1, g2, fun b hb => okBun_w (hok.2.1 b hb)⟩
  cases ho : x.off with
  | true => obtain ⟨_, k2, k3, _⟩ := at_off hn hx ho; exact .inr ⟨k3, k2⟩
  | false => obtain ⟨_, k2, k3, _⟩ := at_on hn hx ho; exact .inl ⟨k3, k2⟩
theorem tgs_nodup {es : List Ent} (hG : Good es) : (tgs es).Nodup := List.pairwise_map.2 hG.tags
theorem tgs_len (es : List Ent) : (tgs es).length = es.length := List.length_map _

end Go.Proofs.YthpjfkmhpoeojaaDoor

namespace Go.Proofs.YthpjfkmhpoeojaaDoor
open Go Go.AM
set_option linter.unusedSimpArgs false
set_option linter.unusedVariables false
set_option maxRecDepth 100000
set_option maxHeartbeats 1000000

def rKept (a b : List Bar) (mk : List UInt8) : Bool := match barAt a mk, barAt b mk with
  | some x, some y => decide (sameD x y) && decide (x.count = y.count)
  | _, _ => false
theorem rKept_a {a b : List Bar} {mk : List UInt8} (h : ¬ 0 ≤ markI a mk) : rKept a b mk = false := by
  unfold rKept
  rw [barAt_none (by omega)]
theorem rKept_b {a b : List Bar} {mk : List UInt8} (h : ¬ 0 ≤ markI b mk) : rKept a b mk = false := by
  unfold rKept
  rw [barAt_none (l := b) (by omega)]
  cases barAt a mk <;> rfl
theorem rKept_ab {a b : List Bar} {mk : List UInt8} {x y : Bar} (ha : barAt a mk = some x) (hb : barAt b mk = some y) : rKept a b mk = (decide (sameD x y) && decide (x.count = y.count)) := by
  unfold rKept
  rw [ha, hb]
theorem rKept_n {a b : List Bar} {mk : List UInt8} {x y : Bar} (ha : barAt a mk = some x) (hb : barAt b mk = some y) (h : ¬ sameD x y) : rKept a b mk = false := by
  rw [rKept_ab ha hb, decide_eq_false h]; rfl
theorem rKept_y {a b : List Bar} {mk : List UInt8} {x y : Bar} (ha : barAt a mk = some x) (hb : barAt b mk = some y) (h : sameD x y) : rKept a b mk = decide (x.count = y.count) := by
  rw [rKept_ab ha hb, decide_eq_true h]; rfl
theorem barAt_in {a : List Bar} (h : okSched a) {x : Bar} (hx : x ∈ a) : barAt a x.mark = some x ∧ 0 ≤ markI a x.mark := by
  have h0 : 0 ≤ markI a x.mark := (idxP_nonneg _ _ _ (Int.le_refl _)).2 ⟨x, hx, by simp⟩
  obtain ⟨y, h1, _, h2, h3⟩ := barAt_some h0
  have e := mark_one h.2.2 h2 hx h3
  subst e
  exact ⟨h1, h0⟩
theorem rKept_iff {a b : List Bar} (hA : okSched a) (hB : okSched b) {x : Bar} (hx : x ∈ a) : rKept a b x.mark = true ↔ keptP x b := by
  constructor
  · intro h
    by_cases hb : 0 ≤ markI b x.mark
    · obtain ⟨y, h1, _, h2, h3⟩ := barAt_some hb
      rw [rKept_ab (barAt_in hA hx).1 h1, Bool.and_eq_true, decide_eq_true_iff, decide_eq_true_iff] at h
      exact ⟨y, h2, decide_eq_true ⟨h3, h.2.symm, hA.2.1 x hx, hB.2.1 y h2, h.1⟩⟩
    · rw [rKept_b hb] at h; cases h
  · rintro ⟨c, hc, h⟩
    obtain ⟨h1, h2, _, _, h3⟩ := of_decide_eq_true h
    have h4 := (barAt_in hB hc).1
    rw [h1] at h4
    rw [rKept_y (barAt_in hA hx).1 h4 h3]
    exact decide_eq_true h2.symm
theorem rKept_sw {a b : List Bar} (hA : okSched a) (hB : okSched b) {y : Bar} (hy : y ∈ b) (h : rKept a b y.mark = true) : keptP y a := by
  by_cases ha : 0 ≤ markI a y.mark
  · obtain ⟨x, h1, _, h2, h3⟩ := barAt_some ha
    exact kept_swap hy h2 hB.2.2 h3 ((rKept_iff hA hB h2).1 (by rw [h3]; exact h))
  · rw [rKept_a ha] at h; cases h
theorem gone_iff {a b : List Bar} (hA : okSched a) (hB : okSched b) (k : List UInt8) : k ∈ goneM a b ↔ 0 ≤ markI a k ∧ rKept a b k = false := by
  rw [goneM_mem]
  constructor
  · rintro ⟨x, hx, h1, rfl⟩
    refine ⟨(barAt_in hA hx).2, ?_⟩
    cases h : rKept a b x.mark with
    | false => rfl
    | true => exact absurd ((rKept_iff hA hB hx).1 h) h1
  · rintro ⟨h1, h2⟩
    obtain ⟨x, _, _, h3, h4⟩ := barAt_some h1
    refine ⟨x, h3, fun h => ?_, h4⟩
    have := (rKept_iff hA hB h3).2 h
    rw [h4, h2] at this
    cases this
def kpG (a b : List Bar) (l : List Bundle) : List (List UInt8) := (l.filter fun v => decide (v.mark ∈ goneM a b)).map (·.tag)
def kpR (a b : List Bar) (l : List Bundle) : List Bundle := l.filter fun v => !decide (v.mark ∈ goneM a b)
structure Kp (a b : List Bar) (pre : List Bundle) (s : Bundle) (x : List (List UInt8)) (y : List Bundle) : Prop where
  g : kpG a b (pre ++ [s]) = x
  r : kpR a b (pre ++ [s]) = y
theorem kp_out {a b : List Bar} (hA : okSched a) (hB : okSched b) {pre : List Bundle} {s : Bundle} (h1 : 0 ≤ markI a s.mark) (h2 : rKept a b s.mark = false) : Kp a b pre s (kpG a b pre ++ [s.tag]) (kpR a b pre) := by
  have h := (gone_iff hA hB s.mark).2 ⟨h1, h2⟩
  exact ⟨by simp [kpG, List.filter_append, h], by simp [kpR, List.filter_append, h]⟩
theorem kp_in {a b : List Bar} (hA : okSched a) (hB : okSched b) {pre : List Bundle} {s : Bundle} (h1 : 0 ≤ markI a s.mark → rKept a b s.mark = true) : Kp a b pre s (kpG a b pre) (kpR a b pre ++ [s]) := by
  have h : ¬ s.mark ∈ goneM a b := fun h => by
    obtain ⟨h2, h3⟩ := (gone_iff hA hB s.mark).1 h
    rw [h1 h2] at h3
    cases h3
  exact ⟨by simp [kpG, List.filter_append, h], by simp [kpR, List.filter_append, h]⟩
theorem kpR_len (a b : List Bar) (l : List Bundle) : (kpR a b l).length ≤ l.length := List.length_filter_le _ _
theorem kpG_len (a b : List Bar) (l : List Bundle) : (kpG a b l).length ≤ l.length := by
  unfold kpG
  rw [List.length_map]
  exact List.length_filter_le _ _
theorem addB_ex (l : List Bundle) : ∀ es : List Ent, ∃ r : List Bundle, addB es l = es ++ r.map newE ∧ ∀ v ∈ r, ∃ u ∈ l, u.mark = v.mark := by
  induction l with
  | nil => intro es; exact ⟨[], by simp [addB], by simp⟩
  | cons b l ih =>
    intro es
    obtain ⟨r, h1, h2⟩ := ih (es ++ [newE (retag es b)])
    refine ⟨retag es b :: r, ?_, fun v hv => ?_⟩
    · show addB (es ++ [newE (retag es b)]) l = _
      rw [h1, List.append_assoc]
      rfl
    · rcases List.mem_cons.1 hv with rfl | hv
      · exact ⟨b, by simp, rfl⟩
      · obtain ⟨u, hu, h3⟩ := h2 v hv
        exact ⟨u, by simp [hu], h3⟩
theorem openL_new (es : List Ent) (r : List Bundle) : openL (es ++ r.map newE) = openL es ++ r := by
  have h : (r.map newE).filter (fun e => !e.off) = r.map newE := List.filter_eq_self.2 fun e he => by
    obtain ⟨b, _, rfl⟩ := List.mem_map.1 he
    rfl
  unfold openL
  rw [List.filter_append, List.map_append, h, List.map_map]
  congr 1
  exact List.map_id _
theorem offT_open (M : List (List UInt8)) (es : List Ent) : offT M es = ((openL es).filter fun v => decide (v.mark ∈ M)).map (·.tag) := by
  unfold offT openL
  rw [List.filter_map, List.map_map, List.filter_filter]
  rfl
structure KpE (es : List Ent) (a b : List Bar) (most : Int) (nb : List Bundle) : Prop where
  op : openL (revV es a b most) = kpR a b (openL es) ++ nb
  on : revN es a b most = nb.map (·.tag)
  off : revF es a b most = kpG a b (openL es)
  new : ∀ v ∈ nb, ¬ v.tag ∈ tgs es ∧ 0 ≤ markI b v.mark ∧ rKept a b v.mark = false
  hA : okSched a
  hB : okSched b
  rng : 1 ≤ most ∧ most ≤ 1099511627776
theorem kept_ex {es : List Ent} {a b : List Bar} {most : Int} (hG : Good es) (h : revE es.length a b most = 0) : ∃ nb, KpE es a b most nb := by
  obtain ⟨hS, hm, hl⟩ := revE_ok h
  have M := made_of hm
  have hR := rev_ok hS hm hl
  obtain ⟨g1, g2⟩ := rev_good (a := a) (b := b) (most := most) hG
  obtain ⟨nb, h1, h2⟩ := addB_ex (makeV (revK a b) most) (es.map (rvE (goneM a b)))
  have hn : revN es a b most = nb.map (·.tag) := by
    rw [hR.n, onT, h1, List.drop_left' rfl, List.map_map]
    rfl
  refine ⟨nb, ⟨?_, hn, ?_, fun v hv => ?_, hS.1, hS.2, M.rng⟩⟩
  · rw [hR.v, h1, openL_new, openL_rv]
    rfl
  · rw [hR.f, offT_open]
    rfl
  · obtain ⟨u, hu, hum⟩ := h2 v hv
    obtain ⟨x, hx, _, h4, _, _, _, _⟩ := M.bun hu
    have hx1 := List.mem_filter.1 hx
    have hxa : ¬ keptP x a := by simpa using hx1.2
    have e : v.mark = x.mark := hum.symm.trans h4.symm
    refine ⟨fun ht => ?_, ?_, ?_⟩
    · have hnd := tgs_nodup g1
      rw [g2, hn] at hnd
      exact (List.nodup_append.1 hnd).2.2 _ ht _ (List.mem_map.2 ⟨v, hv, rfl⟩) rfl
    · rw [e]; exact (barAt_in hS.2 hx1.1).2
    · rw [e]
      cases hk : rKept a b x.mark with
      | false => rfl
      | true => exact absurd (rKept_sw hS.1 hS.2 hx1.1 hk) hxa
theorem kept_at (a : List Bar) (mk : List UInt8) (hw : schedW a) : ∃ x, (0 ≤ markI a mk → a[(markI a mk).toNat]? = some x) ∧ (0 ≤ markI a mk → barAt a mk = some x) ∧ x.w := by
  by_cases h : 0 ≤ markI a mk
  · obtain ⟨y, h1, h2, h3, _⟩ := barAt_some h
    exact ⟨y, fun _ => h2, fun _ => h1, hw y h3⟩
  · exact ⟨⟨[], 0, 0, 0, []⟩, fun h' => absurd h' h, fun h' => absurd h' h, by decide, by decide⟩
structure Again (es : List Ent) (b : List Bar) (most : Int) : Prop where
  e : revE es.length b b most = 0
  v : revV es b b most = es
  f : revF es b b most = []
  n : revN es b b most = []
theorem kept_again {es : List Ent} {b : List Bar} {most : Int} (hG : Good es) (hB : okSched b) (hm : 1 ≤ most ∧ most ≤ 1099511627776) : Again es b most := by
  have hself : ∀ x ∈ b, keptP x b := fun x hx => ⟨x, hx, decide_eq_true ⟨rfl, rfl, hB.2.1 x hx, hB.2.1 x hx, rfl, rfl, rfl⟩⟩
  have hK : revK b b = [] := List.filter_eq_nil_iff.2 fun x hx => by simp [hself x hx]
  have hM : goneM b b = [] := List.eq_nil_iff_forall_not_mem.2 fun k hk => by
    obtain ⟨x, hx, h1, _⟩ := (goneM_mem b b k).1 hk
    exact h1 (hself x hx)
  obtain ⟨h1, h2⟩ := mk0 (l := []) (most := most) (by decide) hm (by rintro ⟨x, hx, _⟩; cases hx) (by rw [units_nil]; decide)
  have h1' : makeV (revK b b) most = [] := by rw [hK, h1, units_nil]; rfl
  have hR := rev_ok (es := es) (most := most) ⟨hB, hB⟩ (by rw [hK]; exact h2) (by rw [h1']; have := hG.len; simp only [List.length_nil]; omega)
  refine ⟨hR.e, ?_, ?_, ?_⟩
  · rw [hR.v, h1', hM]
    show es.map (rvE []) = es
    rw [show rvE [] = id from funext fun e => rvE_no (by simp)]
    exact List.map_id _
  · rw [hR.f, hM]
    simp [offT]
  · rw [hR.n, h1', onT_nil]
theorem kept_err {es : List Ent} {a b : List Bar} {most : Int} (h : ¬ revE es.length a b most = 0) : revV es a b most = es ∧ revF es a b most = [] ∧ revN es a b most = [] := ⟨if_neg h, if_neg h, if_neg h⟩

end Go.Proofs.YthpjfkmhpoeojaaDoor
