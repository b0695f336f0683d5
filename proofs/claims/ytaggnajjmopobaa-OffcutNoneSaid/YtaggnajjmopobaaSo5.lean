/-
  Tags: the book and its methods, what they answer.
  Conditions: none.
-/
import Derived.Test.YtaggnajjmopobaaSk1
import Derived.Test.YtaggnajjmopobaaBase
import Derived.Test.YtaggnajjmopobaaAmDel
import Derived.Test.YtaggnajjmopobaaAmBld
import Derived.Test.YtaggnajjmopobaaAmFactl

namespace Go.Proofs.Ytaggnajjmopobaa
open Go Go.AM
set_option linter.unusedSimpArgs false
set_option linter.unusedVariables false
set_option maxRecDepth 100000
set_option maxHeartbeats 1000000

theorem length_fun (n : Int) : Fun Try.prog 54 [.lit (.int .i64 n)] (Ret (.lit (.bool (decide (1 ≤ n ∧ n ≤ 1048576)))) []) := by
  refine Fun.of (nt := 9) (rs := [.tmp 2]) Try.func54 rfl rfl rfl rfl rfl ?_
  refine Ev.sr fun K hK => S.o q.as (S.end (hK _ ?_))
  clear hK K
  refine Ev.sr fun K hK => S.o q.mv (S.o q.geq (S.bd q.mv (fun c1 => ?_) (fun c1 => ?_)))
  · first
  | (first | omega | contradiction)
  | refine S.o q.mv (S.o q.leq (S.o q.pt (S.o q.as (S.end (hK _ ?_)))))
    clear hK K
    refine Ev.ret ?_
    refine Ev.ret1 ?_
    refine ⟨?_, rfl⟩
    first | exact bF (by omega) | exact bT (by omega) | exact dI (by omega)
  · first
  | (first | omega | contradiction)
  | refine S.sk (S.sk (S.o q.pf (S.o q.as (S.end (hK _ ?_)))))
    clear hK K
    refine Ev.ret ?_
    refine Ev.ret1 ?_
    refine ⟨?_, rfl⟩
    first | exact bF (by omega) | exact bT (by omega) | exact dI (by omega)

theorem between_fun (n lo hi : Int) : Fun Try.prog 62 [.lit (.int .i64 n), .lit (.int .i64 lo), .lit (.int .i64 hi)] (Ret (.lit (.bool (decide (lo ≤ n ∧ n ≤ hi)))) []) := by
  refine Fun.of (nt := 15) (rs := [.tmp 6]) Try.func62 rfl rfl rfl rfl rfl ?_
  refine Ev.sr fun K hK => S.o q.as (S.end (hK _ ?_))
  clear hK K
  refine Ev.sr fun K hK => S.o q.mv (S.o q.mv (S.o q.geq (S.bd q.mv (fun c1 => ?_) (fun c1 => ?_))))
  · first
  | (first | omega | contradiction)
  | refine S.o q.mv (S.o q.mv (S.o q.leq (S.o q.pt (S.o q.as (S.end (hK _ ?_))))))
    clear hK K
    refine Ev.ret ?_
    refine Ev.ret1 ?_
    refine ⟨?_, rfl⟩
    first | exact bF (by omega) | exact bT (by omega) | exact dI (by omega)
  · first
  | (first | omega | contradiction)
  | refine S.sk (S.sk (S.sk (S.o q.pf (S.o q.as (S.end (hK _ ?_))))))
    clear hK K
    refine Ev.ret ?_
    refine Ev.ret1 ?_
    refine ⟨?_, rfl⟩
    first | exact bF (by omega) | exact bT (by omega) | exact dI (by omega)
theorem indexFuncPc0 (g : FuncId)  (p : Int × Int → Bool) (hg : ∀ s, Fun Try.prog g [.agg (pairC s)] (Ret (.lit (.bool (p s))) [])) (l : List (Int × Int)) (hlen : l.length ≤ 140737488355328) :
    Fun Try.prog 43 [.sh 2 (l.map pairC), .fn (.func g) [] []] (Ret (.lit (.int .i64 (idxP p l 0))) []) := by
  refine Fun.of (nt := 19) (rs := [.tmp 4]) Try.func43 rfl rfl rfl rfl rfl ?_
  refine Ev.sr fun K hK => S.o q.as (S.end (hK _ ?_))
  clear hK K
  refine Ev.seq ?_
  refine Ev.sr fun K hK => S.o q.mv (S.o (q.lens am_el28) (S.o q.mv (S.end (hK _ ?_))))
  clear hK K
  refine Ev.block ?_
  refine Ev.loopU (ι := {q : List (Int × Int) × List (Int × Int) // q.1 ++ q.2 = l ∧ ∀ x ∈ q.1, p x = false}) [] [0, 1, 7] (fun ⟨(pre, suf), _⟩ => [(8, .lit (.int .i64 ((pre.length : Int))))]) (fun ⟨(pre, suf), _⟩ => []) (fun ⟨(pre, suf), _⟩ => suf.length) ⟨([], l), rfl, fun x hx => by simp at hx⟩ (.c (.c (.c .n))) keep_n (slots_c (he := (by first | rfl | (simp; done) | (congr 2; omega))) (h := trivial)) ?_
  rintro ⟨⟨pre, suf⟩, hp, hinv⟩ R0 hR0
  dsimp only [List.cons_append, List.nil_append, List.length_cons, List.length_nil]
  simp only at hp hinv
  have hpl : pre.length + suf.length = (l).length := by rw [← hp, List.length_append]
  rcases suf with _ | ⟨s, suf⟩
  · rw [List.append_nil] at hp; subst hp; simp only [List.length_nil] at hpl
    refine Ev.sr fun K hK => S.o q.lss (S.end (hK _ ?_))
    clear hK K
    refine Ev.ud (fun c1 => ?_) (fun c1 => ?_)
    · first
    | (first | omega | contradiction)
    | refine Ev.seq ?_
      refine Ev.block ?_
      refine Ev.sr fun K hK => S.o q.mv (S.o q.as (S.end (hK _ ?_)))
      clear hK K
      refine Ev.sr fun K hK => S.o q.mv (S.o q.mv (S.o q.mv (S.o (q.ix am_el28 am_cl52 (hl := (by first | exact atig (by omega)))) (S.o (q.lsA [_, _] am_ag52 am_cl52) (S.c0 (hF := hg s) (h := S.end (hK _ ?_)))))))
      clear hK K
      refine Ev.c (fun c2 => ?_) (fun c2 => ?_)
      · first
      | (first | omega | contradiction)
      | refine Ev.sr fun K hK => S.o q.mv (S.o q.as (S.end (hK _ ?_)))
        clear hK K
        refine Ev.ret ?_
        refine hR0 _ _ ?_
        refine Ev.ret1 ?_
        refine ⟨?_, rfl⟩
        first | (congr 2; rw [← hp, idxP_append p pre _ 0 hinv, idxP, if_pos ‹_›]; omega) | (congr 2; rw [idxP_none p pre 0 hinv])
      · first
      | (first | omega | contradiction)
      | refine Ev.skip ?_
        show Ev _ _ _ _
        refine Ev.region_S fun K hK => S.o q.add (S.o q.mv (S.end (hK _ ?_)))
        clear hK K
        refine hR0 _ _ ?_
        refine roundU [] [0, 1, 7] ⟨(pre ++ [s], suf), by rw [← hp]; simp, ?_⟩ ?_ keep_n (slots_c (he := (by first | rfl | (simp; done) | (congr 2; omega))) (h := trivial)) (.c (.c (.c .n)))
        intro x hx; simp only [List.mem_append, List.mem_singleton] at hx; rcases hx with hx | rfl
        · exact hinv x hx
        · assumption
        all_goals (dsimp only; simp only [List.length_cons]; omega)
    · first
    | (first | omega | contradiction)
    | refine Ev.exit ?_
      refine hR0 _ _ ?_
      show Ev _ _ _ _
      refine Ev.sr fun K hK => S.o q.as (S.end (hK _ ?_))
      clear hK K
      refine Ev.ret ?_
      refine Ev.ret1 ?_
      refine ⟨?_, rfl⟩
      first | (congr 2; rw [← hp, idxP_append p pre _ 0 hinv, idxP, if_pos ‹_›]; omega) | (congr 2; rw [idxP_none p pre 0 hinv])
  · simp only [List.length_cons] at hpl
    have hidx : (l)[pre.length]? = some s := by rw [← hp]; simp
    refine Ev.sr fun K hK => S.o q.lss (S.end (hK _ ?_))
    clear hK K
    refine Ev.ud (fun c3 => ?_) (fun c3 => ?_)
    · first
    | (first | omega | contradiction)
    | refine Ev.seq ?_
      refine Ev.block ?_
      refine Ev.sr fun K hK => S.o q.mv (S.o q.as (S.end (hK _ ?_)))
      clear hK K
      refine Ev.sr fun K hK => S.o q.mv (S.o q.mv (S.o q.mv (S.o (q.ix am_el28 am_cl52 (hl := (by first | exact ati hidx (by omega) | exact atig (by omega)))) (S.o (q.lsA [_, _] am_ag52 am_cl52) (S.c0 (hF := hg s) (h := S.end (hK _ ?_)))))))
      clear hK K
      refine Ev.c (fun c4 => ?_) (fun c4 => ?_)
      · first
      | (first | omega | contradiction)
      | refine Ev.sr fun K hK => S.o q.mv (S.o q.as (S.end (hK _ ?_)))
        clear hK K
        refine Ev.ret ?_
        refine hR0 _ _ ?_
        refine Ev.ret1 ?_
        refine ⟨?_, rfl⟩
        first | (congr 2; rw [← hp, idxP_append p pre _ 0 hinv, idxP, if_pos ‹_›]; omega) | (congr 2; rw [idxP_none p pre 0 hinv])
      · first
      | (first | omega | contradiction)
      | refine Ev.skip ?_
        show Ev _ _ _ _
        refine Ev.region_S fun K hK => S.o q.add (S.o q.mv (S.end (hK _ ?_)))
        clear hK K
        refine hR0 _ _ ?_
        refine roundU [] [0, 1, 7] ⟨(pre ++ [s], suf), by rw [← hp]; simp, ?_⟩ ?_ keep_n (slots_c (he := (by first | rfl | (simp; done) | (congr 2; omega))) (h := trivial)) (.c (.c (.c .n)))
        intro x hx; simp only [List.mem_append, List.mem_singleton] at hx; rcases hx with hx | rfl
        · exact hinv x hx
        · assumption
        all_goals (dsimp only; simp only [List.length_cons]; omega)
    · first
    | (first | omega | contradiction)
    | refine Ev.exit ?_
      refine hR0 _ _ ?_
      show Ev _ _ _ _
      refine Ev.sr fun K hK => S.o q.as (S.end (hK _ ?_))
      clear hK K
      refine Ev.ret ?_
      refine Ev.ret1 ?_
      refine ⟨?_, rfl⟩
      first | (congr 2; rw [← hp, idxP_append p pre _ 0 hinv, idxP, if_pos ‹_›]; omega) | (congr 2; rw [idxP_none p pre 0 hinv])
theorem containsFuncPc0 (g : FuncId)  (p : Int × Int → Bool) (hg : ∀ s, Fun Try.prog g [.agg (pairC s)] (Ret (.lit (.bool (p s))) [])) (l : List (Int × Int)) (hlen : l.length ≤ 140737488355328) :
    Fun Try.prog 20 [.sh 2 (l.map pairC), .fn (.func g) [] []] (Ret (.lit (.bool (decide (∃ x ∈ l, p x = true)))) []) := by
  have hd : (decide (∃ x ∈ l, p x = true)) = decide (0 ≤ idxP p l 0) := by simp only [idxP_nonneg p l 0 (Int.le_refl _)]
  rw [hd]
  refine Fun.of (nt := 9) (rs := [.tmp 4]) Try.func20 rfl rfl rfl rfl rfl ?_
  refine Ev.sr fun K hK => S.o q.as (S.end (hK _ ?_))
  clear hK K
  refine Ev.sr fun K hK => S.o q.mv (S.o q.mv (S.c0 (hF := indexFuncPc0 g  p hg l hlen) (h := S.o q.geq (S.o q.as (S.end (hK _ ?_))))))
  clear hK K
  refine Ev.ret ?_
  refine Ev.ret1 ?_
  refine ⟨?_, rfl⟩
  rfl
theorem order1_fun (s : Int × Int) : Fun Try.prog 53 [.agg (pairC s)] (Ret (.lit (.bool (decide (¬ okPc s)))) []) := by
  obtain ⟨sx, sy⟩ := s
  refine Fun.of (nt := 17) (rs := [.tmp 2]) Try.func53 rfl rfl rfl rfl rfl ?_
  refine Ev.sr fun K hK => S.nn (q.bx [_, _] true) (S.o q.as (S.end (hK _ ?_)))
  clear hK K
  refine Ev.sr fun K hK => S.o (q.fa 0 am_fi52_0 am_cl3) (S.o (q.lv am_ag3) (S.c0 (hF := length_fun _) (h := S.o q.not (S.bn q.mv (fun c1 => ?_) (fun c1 => ?_)))))
  · first
  | (first | omega | contradiction)
  | refine S.sk (S.sk (S.sk (S.o q.pt (S.o q.mv (S.sk (S.sk (S.sk (S.o q.pt (S.o q.as (S.end (hK _ ?_)))))))))))
    clear hK K
    refine Ev.ret ?_
    refine Ev.ret1 ?_
    refine ⟨?_, rfl⟩
    first | exact bT (by unfold okPc; simp only; omega) | exact bF (by unfold okPc; simp only; omega) | exact dI (by unfold okPc; simp only; omega)
  · first
  | (first | omega | contradiction)
  | refine S.o (q.fa 1 am_fi52_1 am_cl3) (S.o (q.lv am_ag3) (S.o q.lss (S.o q.pf (S.bd q.mv (fun c2 => ?_) (fun c2 => ?_)))))
    · first
    | (first | omega | contradiction)
    | refine S.sk (S.sk (S.sk (S.o q.pt (S.o q.as (S.end (hK _ ?_))))))
      clear hK K
      refine Ev.ret ?_
      refine Ev.ret1 ?_
      refine ⟨?_, rfl⟩
      first | exact bT (by unfold okPc; simp only; omega) | exact bF (by unfold okPc; simp only; omega) | exact dI (by unfold okPc; simp only; omega)
    · first
    | (first | omega | contradiction)
    | refine S.o (q.fa 1 am_fi52_1 am_cl3) (S.o (q.lv am_ag3) (S.o q.gtr (S.o q.pf (S.o q.as (S.end (hK _ ?_))))))
      clear hK K
      refine Ev.ret ?_
      refine Ev.ret1 ?_
      refine ⟨?_, rfl⟩
      first | exact bT (by unfold okPc; simp only; omega) | exact bF (by unfold okPc; simp only; omega) | exact dI (by unfold okPc; simp only; omega)

def okOrd (l : List (Int × Int)) : Prop := l.length ≤ 200 ∧ ∀ p ∈ l, okPc p
instance (l) : Decidable (okOrd l) := by unfold okOrd; infer_instance
theorem ordE {l : List (Int × Int)} (h : l.length ≤ 200) : AV.lit (.bool (!decide (∃ x ∈ l, decide (¬ okPc x) = true))) = .lit (.bool (decide (okOrd l))) := by
  by_cases h2 : ∃ x ∈ l, decide (¬ okPc x) = true
  · rw [decide_eq_true h2, decide_eq_false]
    · rfl
    · rintro ⟨_, h3⟩
      obtain ⟨x, hx, e⟩ := h2
      exact of_decide_eq_true e (h3 x hx)
  · rw [decide_eq_false h2, decide_eq_true]
    · rfl
    · exact ⟨h, fun p hp => Classical.byContradiction fun hn => h2 ⟨p, hp, decide_eq_true hn⟩⟩
theorem order_fun (l : List (Int × Int)) (hlen : l.length ≤ 140737488355328) : Fun Try.prog 36 [.sh 2 (l.map pairC)] (Ret (.lit (.bool (decide (okOrd l)))) []) := by
  refine Fun.of (nt := 11) (rs := [.tmp 2]) Try.func36 rfl rfl rfl rfl rfl ?_
  refine Ev.sr fun K hK => S.o q.as (S.end (hK _ ?_))
  clear hK K
  refine Ev.sr fun K hK => S.o q.mv (S.o (q.lens am_el28) (S.o q.leq (S.bd q.mv (fun c1 => ?_) (fun c1 => ?_))))
  · first
  | (first | omega | contradiction)
  | refine S.o q.mv (S.c0 (hF := containsFuncPc0 _ _ order1_fun l (by omega)) (h := S.o q.not (S.o q.pt (S.o q.as (S.end (hK _ ?_))))))
    clear hK K
    refine Ev.ret ?_
    refine Ev.ret1 ?_
    refine ⟨?_, rfl⟩
    first | exact bF (fun h => by have := h.1; omega) | exact ordE (by omega)
  · first
  | (first | omega | contradiction)
  | refine S.sk (S.sk (S.sk (S.o q.pf (S.o q.as (S.end (hK _ ?_))))))
    clear hK K
    refine Ev.ret ?_
    refine Ev.ret1 ?_
    refine ⟨?_, rfl⟩
    first | exact bF (fun h => by have := h.1; omega) | exact ordE (by omega)

theorem rorder_fun (l : List (Int × Int)) (hlen : l.length ≤ 140737488355328) : Fun Try.prog 49 [.sh 2 (l.map pairC)] (Ret (.lit (.bool (decide (okOrd l)))) []) := by
  refine Fun.of (nt := 29) (rs := [.tmp 2]) Try.func49 rfl rfl rfl rfl rfl ?_
  refine Ev.sr fun K hK => S.o q.as (S.end (hK _ ?_))
  clear hK K
  refine Ev.seq ?_
  refine Ev.sr fun K hK => S.o q.mv (S.o (q.lens am_el28) (S.o q.gtr (S.end (hK _ ?_))))
  clear hK K
  refine Ev.cd (fun c1 => ?_) (fun c1 => ?_)
  · first
  | (first | omega | contradiction)
  | refine Ev.sr fun K hK => S.o q.as (S.end (hK _ ?_))
    clear hK K
    refine Ev.ret ?_
    refine Ev.ret1 ?_
    refine ⟨?_, rfl⟩
    first
     | exact bF (fun h => by have := h.1; omega)
     | exact bF (fun h => by have := h.2 (sx, sy) (by rw [← hp]; simp); unfold okPc at this; simp only at this; omega)
     | exact bT ⟨by omega, by rw [← hp]; exact hinv⟩
  · first
  | (first | omega | contradiction)
  | refine Ev.skip ?_
    show Ev _ _ _ _
    refine Ev.seq ?_
    refine Ev.sr fun K hK => S.o q.as (S.end (hK _ ?_))
    clear hK K
    refine Ev.block ?_
    refine Ev.loopU (ι := {q : List (Int × Int) × List (Int × Int) // q.1 ++ q.2 = l ∧ ∀ b ∈ q.1, okPc b}) [] [0] (fun ⟨(pre, suf), _⟩ => [(3, .lit (.int .i64 ((pre.length : Int))))]) (fun ⟨(pre, suf), _⟩ => []) (fun ⟨(pre, suf), _⟩ => suf.length) ⟨([], l), rfl, fun x hx => by simp at hx⟩ (.c .n) keep_n (slots_c (he := (by first | rfl | (simp; done) | (congr 2; omega))) (h := trivial)) ?_
    rintro ⟨⟨pre, suf⟩, hp, hinv⟩ R0 hR0
    dsimp only [List.cons_append, List.nil_append, List.length_cons, List.length_nil]
    simp only at hp hinv
    have hpl : pre.length + suf.length = (l).length := by rw [← hp, List.length_append]
    rcases suf with _ | ⟨s, suf⟩
    · rw [List.append_nil] at hp; simp only [List.length_nil] at hpl
      refine Ev.seq ?_
      refine Ev.sr fun K hK => S.o q.mv (S.o q.mv (S.o (q.lens am_el28) (S.o q.lss (S.end (hK _ ?_)))))
      clear hK K
      refine Ev.cd (fun c2 => ?_) (fun c2 => ?_)
      · first
      | (first | omega | contradiction)
      | refine Ev.skip ?_
        show Ev _ _ _ _
        refine Ev.seq ?_
        refine Ev.block ?_
        refine Ev.sr fun K hK => S.o q.mv (S.o q.mv (S.o (q.ix am_el28 am_cl52 (hl := (by first | exact atig (by omega)))) (S.o (q.fs 0 am_fi52_0 am_cl3) (S.o (q.ls am_ag3) (S.c0 (hF := between_fun _ _ _) (h := S.o q.not (S.bn q.mv (fun c3 => ?_) (fun c3 => ?_))))))))
        · first
        | (first | omega | contradiction)
        | refine S.sk (S.sk (S.sk (S.sk (S.sk (S.sk (S.sk (S.o q.pt (S.end (hK _ ?_)))))))))
          clear hK K
          refine Ev.ct ?_
          refine Ev.sr fun K hK => S.o q.as (S.end (hK _ ?_))
          clear hK K
          refine Ev.ret ?_
          refine hR0 _ _ ?_
          refine Ev.ret1 ?_
          refine ⟨?_, rfl⟩
          first
           | exact bF (fun h => by have := h.1; omega)
           | exact bF (fun h => by have := h.2 (sx, sy) (by rw [← hp]; simp); unfold okPc at this; simp only at this; omega)
           | exact bT ⟨by omega, by rw [← hp]; exact hinv⟩
        · first
        | (first | omega | contradiction)
        | refine S.o q.mv (S.o q.mv (S.o (q.ix am_el28 am_cl52 (hl := (by first | exact atig (by omega)))) (S.o (q.fs 1 am_fi52_1 am_cl3) (S.o (q.ls am_ag3) (S.c0 (hF := between_fun _ _ _) (h := S.o q.not (S.o q.pf (S.end (hK _ ?_)))))))))
          clear hK K
          refine Ev.cn (fun c4 => ?_) (fun c4 => ?_)
          · first
          | (first | omega | contradiction)
          | refine Ev.sr fun K hK => S.o q.as (S.end (hK _ ?_))
            clear hK K
            refine Ev.ret ?_
            refine hR0 _ _ ?_
            refine Ev.ret1 ?_
            refine ⟨?_, rfl⟩
            first
             | exact bF (fun h => by have := h.1; omega)
             | exact bF (fun h => by have := h.2 (sx, sy) (by rw [← hp]; simp); unfold okPc at this; simp only at this; omega)
             | exact bT ⟨by omega, by rw [← hp]; exact hinv⟩
          · first
          | (first | omega | contradiction)
          | refine Ev.skip ?_
            show Ev _ _ _ _
            refine Ev.region_S fun K hK => S.o q.mv (S.o q.add (S.o q.as (S.end (hK _ ?_))))
            clear hK K
            refine hR0 _ _ ?_
            refine roundU [] [0] ⟨(pre ++ [(sx, sy)], suf), by rw [← hp]; simp, ?_⟩ ?_ keep_n (slots_c (he := (by first | rfl | (simp; done) | (congr 2; omega))) (h := trivial)) (.c .n)
            intro x hx; simp only [List.mem_append, List.mem_singleton] at hx; rcases hx with hx | rfl
            · exact hinv x hx
            · unfold okPc; simp only; omega
            all_goals (dsimp only; simp only [List.length_cons]; omega)
      · first
      | (first | omega | contradiction)
      | refine Ev.exit ?_
        refine hR0 _ _ ?_
        show Ev _ _ _ _
        refine Ev.sr fun K hK => S.o q.as (S.end (hK _ ?_))
        clear hK K
        refine Ev.ret ?_
        refine Ev.ret1 ?_
        refine ⟨?_, rfl⟩
        first
         | exact bF (fun h => by have := h.1; omega)
         | exact bF (fun h => by have := h.2 (sx, sy) (by rw [← hp]; simp); unfold okPc at this; simp only at this; omega)
         | exact bT ⟨by omega, by rw [← hp]; exact hinv⟩
    · simp only [List.length_cons] at hpl
      have hidx : l[pre.length]? = some s := by rw [← hp]; simp
      obtain ⟨sx, sy⟩ := s
      refine Ev.seq ?_
      refine Ev.sr fun K hK => S.o q.mv (S.o q.mv (S.o (q.lens am_el28) (S.o q.lss (S.end (hK _ ?_)))))
      clear hK K
      refine Ev.cd (fun c5 => ?_) (fun c5 => ?_)
      · first
      | (first | omega | contradiction)
      | refine Ev.skip ?_
        show Ev _ _ _ _
        refine Ev.seq ?_
        refine Ev.block ?_
        refine Ev.sr fun K hK => S.o q.mv (S.o q.mv (S.o (q.ix am_el28 am_cl52 (hl := (by first | exact ati hidx (by omega) | exact atig (by omega)))) (S.o (q.fs 0 am_fi52_0 am_cl3) (S.o (q.ls am_ag3) (S.c0 (hF := between_fun _ _ _) (h := S.o q.not (S.bn q.mv (fun c6 => ?_) (fun c6 => ?_))))))))
        · first
        | (first | omega | contradiction)
        | refine S.sk (S.sk (S.sk (S.sk (S.sk (S.sk (S.sk (S.o q.pt (S.end (hK _ ?_)))))))))
          clear hK K
          refine Ev.ct ?_
          refine Ev.sr fun K hK => S.o q.as (S.end (hK _ ?_))
          clear hK K
          refine Ev.ret ?_
          refine hR0 _ _ ?_
          refine Ev.ret1 ?_
          refine ⟨?_, rfl⟩
          first
           | exact bF (fun h => by have := h.1; omega)
           | exact bF (fun h => by have := h.2 (sx, sy) (by rw [← hp]; simp); unfold okPc at this; simp only at this; omega)
           | exact bT ⟨by omega, by rw [← hp]; exact hinv⟩
        · first
        | (first | omega | contradiction)
        | refine S.o q.mv (S.o q.mv (S.o (q.ix am_el28 am_cl52 (hl := (by first | exact ati hidx (by omega) | exact atig (by omega)))) (S.o (q.fs 1 am_fi52_1 am_cl3) (S.o (q.ls am_ag3) (S.c0 (hF := between_fun _ _ _) (h := S.o q.not (S.o q.pf (S.end (hK _ ?_)))))))))
          clear hK K
          refine Ev.cn (fun c7 => ?_) (fun c7 => ?_)
          · first
          | (first | omega | contradiction)
          | refine Ev.sr fun K hK => S.o q.as (S.end (hK _ ?_))
            clear hK K
            refine Ev.ret ?_
            refine hR0 _ _ ?_
            refine Ev.ret1 ?_
            refine ⟨?_, rfl⟩
            first
             | exact bF (fun h => by have := h.1; omega)
             | exact bF (fun h => by have := h.2 (sx, sy) (by rw [← hp]; simp); unfold okPc at this; simp only at this; omega)
             | exact bT ⟨by omega, by rw [← hp]; exact hinv⟩
          · first
          | (first | omega | contradiction)
          | refine Ev.skip ?_
            show Ev _ _ _ _
            refine Ev.region_S fun K hK => S.o q.mv (S.o q.add (S.o q.as (S.end (hK _ ?_))))
            clear hK K
            refine hR0 _ _ ?_
            refine roundU [] [0] ⟨(pre ++ [(sx, sy)], suf), by rw [← hp]; simp, ?_⟩ ?_ keep_n (slots_c (he := (by first | rfl | (simp; done) | (congr 2; omega))) (h := trivial)) (.c .n)
            intro x hx; simp only [List.mem_append, List.mem_singleton] at hx; rcases hx with hx | rfl
            · exact hinv x hx
            · unfold okPc; simp only; omega
            all_goals (dsimp only; simp only [List.length_cons]; omega)
      · first
      | (first | omega | contradiction)
      | refine Ev.exit ?_
        refine hR0 _ _ ?_
        show Ev _ _ _ _
        refine Ev.sr fun K hK => S.o q.as (S.end (hK _ ?_))
        clear hK K
        refine Ev.ret ?_
        refine Ev.ret1 ?_
        refine ⟨?_, rfl⟩
        first
         | exact bF (fun h => by have := h.1; omega)
         | exact bF (fun h => by have := h.2 (sx, sy) (by rw [← hp]; simp); unfold okPc at this; simp only at this; omega)
         | exact bT ⟨by omega, by rw [← hp]; exact hinv⟩
end Go.Proofs.Ytaggnajjmopobaa

namespace Go.Proofs.Ytaggnajjmopobaa
open Go Go.AM
set_option linter.unusedSimpArgs false
set_option linter.unusedVariables false
set_option maxRecDepth 100000
set_option maxHeartbeats 1000000

theorem wf_of {a : Int} (h1 : 1 ≤ a) (h2 : a ≤ 1048576) : (Go.Lit.int .i64 a).wf = true := by
  have e1 : Go.IntKind.i64.min = -9223372036854775808 := by decide
  have e2 : Go.IntKind.i64.max = 9223372036854775807 := by decide
  simp only [Go.Lit.wf, e1, e2, Bool.and_eq_true, decide_eq_true_eq]
  omega
theorem skM_wf {l : List (Int × Int)} (hok : ∀ b ∈ l, okPc b) : ∀ a ∈ (skM l).map Prod.fst, (Go.Lit.int .i64 a).wf = true := fun a ha => by
  obtain ⟨p, hp, rfl⟩ := List.mem_map.1 ha
  obtain ⟨⟨b, hb, e⟩, _⟩ := (skM_mem l p).1 hp
  obtain ⟨h1, h2, _⟩ := hok b hb
  exact wf_of (by omega) (by omega)
theorem shV_bad {l : List (Int × Int)} {p : Int × Int} (h : p ∈ skP l) (h2 : 1000000 < p.2) : shV l = [] ∧ shE l = 5 := by
  have : ¬ shG l := fun hg => by have := hg p h; omega
  exact ⟨if_neg this, if_neg this⟩
theorem shV_good {l : List (Int × Int)} (h : ∀ p ∈ skP l, p.2 ≤ 1000000) : shV l = skP l ∧ shE l = 0 := ⟨if_pos h, if_pos h⟩
theorem short_fun (l : List (Int × Int)) (hok : ∀ b ∈ l, okPc b) (hn : l.length ≤ 400) : Fun Try.prog 44 [.sh 2 (l.map pairC)] (Ret (.tup [.sh 2 ((shV l).map pairC), .lit (.int .i64 (shE l))]) []) := by
  have hkl : (dkeys (skM l)).length = (skP l).length := by rw [skM_keys hok, List.length_map]
  have hml := (skM_spec l).2.1
  have hpl2 := skP_len hok
  refine Fun.of (nt := 47) (rs := [.tmp 2, .tmp 3]) Try.func44 rfl rfl rfl rfl rfl ?_
  refine Ev.sr fun K hK => S.o q.as (S.o q.as (S.end (hK _ ?_)))
  clear hK K
  refine Ev.sr fun K hK => S.nn (v := .hd 0) (o := ⟨true, 45, 3, ([] : List (Int × Int)).map (rowK (Value.int .i64) (Value.int .i64)), true⟩) (q.mm am_mt45) (S.o q.as (S.end (hK _ ?_)))
  clear hK K
  refine Ev.seq ?_
  refine Ev.sr fun K hK => S.o q.mv (S.o (q.lens am_el28) (S.o q.mv (S.end (hK _ ?_))))
  clear hK K
  refine Ev.block ?_
  refine Ev.loopU (ι := {p : List (Int × Int) × List (Int × Int) // p.1 ++ p.2 = l ∧ True}) [0] [2, 3, 4, 11, 12] (fun ⟨(pre, suf), _⟩ => [(13, .lit (.int .i64 ((pre.length : Int))))]) (fun ⟨(pre, suf), _⟩ => [(0, ⟨true, 45, 3, (skM pre).map (rowK (Value.int .i64) (Value.int .i64)), true⟩)]) (fun ⟨(pre, suf), _⟩ => suf.length) ⟨([], l), rfl, trivial⟩ (.c (.c (.c (.c (.c .n))))) (keep_c (he := (by first | rfl | (rw [skM_snoc]; done))) (h := keep_n)) (slots_c (he := (by first | rfl | (congr 2; simp; done))) (h := trivial)) ?_
  rintro ⟨⟨pre, suf⟩, hp, hinv⟩ R0 hR0
  dsimp only [List.cons_append, List.nil_append, List.length_cons, List.length_nil]
  simp only at hp hinv
  have hpl : pre.length + suf.length = (l).length := by rw [← hp, List.length_append]
  rcases suf with _ | ⟨s, suf⟩
  · rw [List.append_nil] at hp; subst pre; simp only [List.length_nil] at hpl
    refine Ev.sr fun K hK => S.o q.lss (S.end (hK _ ?_))
    clear hK K
    refine Ev.ud (fun c1 => ?_) (fun c1 => ?_)
    · first
    | (first | omega | contradiction)
    | refine Ev.seq ?_
      refine Ev.block ?_
      refine Ev.sr fun K hK => S.o (q.ix am_el28 am_cl52 (hl := (by first | exact atig (by omega)))) (S.o (q.lsA [_, _] am_ag52 am_cl52) (S.nn (q.al am_ze52) (S.sv [_, _] true [_] am_in52 am_cl52 (h := S.end (hK _ ?_)))))
      clear hK K
      refine Ev.region_S fun K hK => S.o q.mv (S.o (q.fa 0 am_fi52_0 am_cl3) (S.o (q.lv am_ag3) (S.o (q.lk (vv := (Value.int .i64)) klI am_mt45) (S.o (q.fa 1 am_fi52_1 am_cl3) (S.o (q.lv am_ag3) (S.o q.add (S.mu (vv := (Value.int .i64)) [_] klI am_mt45 (fun _ => rfl) (hn := S.end (hK _ ?_)))))))))
      clear hK K
      show Ev _ _ _ _
      refine Ev.region_S fun K hK => S.o q.add (S.o q.mv (S.end (hK _ ?_)))
      clear hK K
      refine hR0 _ _ ?_
      refine roundU [0] [2, 3, 4, 11, 12] ⟨(pre ++ [(sx, sy)], suf), by rw [← hp]; simp, ?_⟩ ?_ (keep_c (he := (by first | rfl | (rw [skM_snoc]; done))) (h := keep_n)) (slots_c (he := (by first | rfl | (congr 2; simp; done))) (h := trivial)) (.c (.c (.c (.c (.c .n)))))
      trivial
      all_goals (dsimp only; simp only [List.length_cons]; omega)
    · first
    | (first | omega | contradiction)
    | refine Ev.exit ?_
      refine hR0 _ _ ?_
      show Ev _ _ _ _
      refine Ev.sr fun K hK => S.o q.as (S.end (hK _ ?_))
      clear hK K
      refine Ev.seq ?_
      refine Ev.sr fun K hK => S.o q.mv ?_
      refine SeqL.weaken (Wk.frzm [4, 25] [] (by intro d hd; simp only [List.mem_cons, List.not_mem_nil, or_false] at hd; rcases hd with rfl | rfl <;> rfl) (hex := ⟨4, rfl⟩)) ?_
      refine S.c1f (hF := keysM_fun _) (h := S.cR [1] 3 [_, _] (hob := (keep_c (he := rfl) (h := keep_n))) (hF := sortedF_fun (skM l) (by omega) (skM_wf hok)) (hn' := belowL rfl rfl) (h := ?_))
      refine SeqL.weaken (Wk.frz 27 [_]) ?_
      refine S.o (q.lens am_el70) (S.o q.mv (S.end (hK _ ?_)))
      clear hK K
      refine Ev.block ?_
      refine Ev.weaken (Wk.nown pairC 7 52 2) ?_
      refine Ev.loopU (ι := {q : List (Int × Int) × List (Int × Int) // q.1 ++ q.2 = skP l ∧ ∀ p ∈ q.1, p.2 ≤ 1000000}) [3] [4, 11, 12, 13, 14, 25, 27, 28] (fun ⟨(pre, suf), _⟩ => [(29, .lit (.int .i64 ((pre.length : Int)))), (7, .als 0 0 (pre).length)]) (fun ⟨(pre, suf), _⟩ => [(0, ⟨true, 52, 2, (pre).map pairC, true⟩)]) (fun ⟨(pre, suf), _⟩ => suf.length) ⟨([], (skP l)), rfl, fun p hp => by simp at hp⟩ (.c (.c (.c (.c (.c (.c (.c (.c .n)))))))) (keep_c (he := (by first | rfl | (simp [hgs, pairC]; done))) (h := keep_n)) (slots_c (he := (by first | rfl | (congr 2; simp; done))) (h := (slots_c (he := (by first | rfl | (simp; done) | (congr 2; omega))) (h := trivial)))) ?_
      rintro ⟨⟨pre, suf⟩, hp, hinv⟩ R2 hR2
      dsimp only [List.cons_append, List.nil_append, List.length_cons, List.length_nil]
      simp only at hp hinv
      have hpl : pre.length + suf.length = ((skP l)).length := by rw [← hp, List.length_append]
      rcases suf with _ | ⟨s, suf⟩
      · rw [List.append_nil] at hp; simp only [List.length_nil] at hpl
        refine Ev.sr fun K hK => S.o q.lss (S.end (hK _ ?_))
        clear hK K
        refine Ev.ud (fun c2 => ?_) (fun c2 => ?_)
        · first
        | (first | omega | contradiction)
        | refine Ev.seq ?_
          refine Ev.block ?_
          refine Ev.sr fun K hK => S.o (q.ix am_el70 am_cl3 (hl := (by first | exact atig (by omega)))) (S.o (q.ls am_ag3) (S.o q.as (S.end (hK _ ?_))))
          clear hK K
          refine Ev.seq ?_
          refine Ev.sr fun K hK => S.o q.mv (S.o q.mv (S.o (q.lks (vv := (Value.int .i64)) klI am_mt45) (S.o q.gtr (S.end (hK _ ?_)))))
          clear hK K
          refine Ev.cd (fun c3 => ?_) (fun c3 => ?_)
          · first
          | (first | omega | contradiction)
          | refine Ev.sr fun K hK => S.o q.as (S.o q.as (S.end (hK _ ?_)))
            clear hK K
            refine Ev.weaken (Wk.nsh pairC 2 2) ?_
            refine Ev.ret ?_
            refine hR2 _ _ ?_
            refine Ev.ret2 ?_
            refine ⟨?_, rfl⟩
            first
             | (rw [(shV_bad hsm (by simp only; omega)).1, (shV_bad hsm (by simp only; omega)).2]; done)
             | (have hg := shV_good (hp ▸ hinv); rw [hg.1, hg.2, hp]; done)
          · first
          | (first | omega | contradiction)
          | refine Ev.skip ?_
            show Ev _ _ _ _
            refine Ev.region_S fun K hK => S.o q.mv (S.o q.mv (S.o q.mv (S.o q.mv (S.o (q.lks (vv := (Value.int .i64)) klI am_mt45) (S.o (q.bd [_, _] am_ze52 am_pl52) (S.nn (q.bs [[_, _]] true am_el28 am_ze52 am_cl52) (S.ap' [_] am_el28 am_ze52 am_cl52 am_by52 (hh := head_own') (hr := (rows_lit [(⟨_, _⟩ : Int × Int)])) (h := S.o q.as (S.end (hK _ ?_))))))))))
            clear hK K
            show Ev _ _ _ _
            refine Ev.region_S fun K hK => S.o q.add (S.o q.mv (S.end (hK _ ?_)))
            clear hK K
            refine hR2 _ _ ?_
            refine roundU [2] [4, 11, 12, 13, 14, 25, 27, 28] ⟨(pre ++ [(sx, sy)], suf), by rw [← hp]; simp, ?_⟩ ?_ (keep_c (he := (by first | rfl | (simp [hgs, pairC]; done))) (h := keep_n)) (slots_c (he := (by first | rfl | (congr 2; simp; done))) (h := (slots_c (he := (by first | rfl | (simp; done) | (congr 2; omega))) (h := trivial)))) (.c (.c (.c (.c (.c (.c (.c (.c .n))))))))
            intro p hp; simp only [List.mem_append, List.mem_singleton] at hp; rcases hp with hp | rfl
            · exact hinv p hp
            · simp only; omega
            all_goals (dsimp only; simp only [List.length_cons]; omega)
        · first
        | (first | omega | contradiction)
        | refine Ev.exit ?_
          refine hR2 _ _ ?_
          show Ev _ _ _ _
          refine Ev.sr fun K hK => S.o q.mv (S.o q.as (S.o q.as (S.end (hK _ ?_))))
          clear hK K
          refine Ev.weaken (Wk.frz 2 []) ?_
          refine Ev.ret ?_
          refine Ev.ret2 ?_
          refine ⟨?_, rfl⟩
          first
           | (rw [(shV_bad hsm (by simp only; omega)).1, (shV_bad hsm (by simp only; omega)).2]; done)
           | (have hg := shV_good (hp ▸ hinv); rw [hg.1, hg.2, hp]; done)
      · simp only [List.length_cons] at hpl
        obtain ⟨sx, sy⟩ := s
        have hidx : (skP l)[pre.length]? = some (sx, sy) := by rw [← hp]; simp
        have hidk : (dkeys (skM l))[pre.length]? = some sx := by rw [skM_keys hok, List.getElem?_map, hidx]; rfl
        have hsm : (sx, sy) ∈ skP l := by rw [← hp]; simp
        have hgs : (mget (skM l) sx).getD 0 = sy := by rw [skM_get]; exact ((skP_mem hok _).1 hsm).2.symm
        refine Ev.sr fun K hK => S.o q.lss (S.end (hK _ ?_))
        clear hK K
        refine Ev.ud (fun c4 => ?_) (fun c4 => ?_)
        · first
        | (first | omega | contradiction)
        | refine Ev.seq ?_
          refine Ev.block ?_
          refine Ev.sr fun K hK => S.o (q.ix am_el70 am_cl3 (hl := (by first | exact ati hidk (by omega) | exact atig (by omega)))) (S.o (q.ls am_ag3) (S.o q.as (S.end (hK _ ?_))))
          clear hK K
          refine Ev.seq ?_
          refine Ev.sr fun K hK => S.o q.mv (S.o q.mv (S.o (q.lks (vv := (Value.int .i64)) klI am_mt45) (S.o q.gtr (S.end (hK _ ?_)))))
          clear hK K
          refine Ev.cd (fun c5 => ?_) (fun c5 => ?_)
          · first
          | (first | omega | contradiction)
          | refine Ev.sr fun K hK => S.o q.as (S.o q.as (S.end (hK _ ?_)))
            clear hK K
            refine Ev.weaken (Wk.nsh pairC 2 2) ?_
            refine Ev.ret ?_
            refine hR2 _ _ ?_
            refine Ev.ret2 ?_
            refine ⟨?_, rfl⟩
            first
             | (rw [(shV_bad hsm (by simp only; omega)).1, (shV_bad hsm (by simp only; omega)).2]; done)
             | (have hg := shV_good (hp ▸ hinv); rw [hg.1, hg.2, hp]; done)
          · first
          | (first | omega | contradiction)
          | refine Ev.skip ?_
            show Ev _ _ _ _
            refine Ev.region_S fun K hK => S.o q.mv (S.o q.mv (S.o q.mv (S.o q.mv (S.o (q.lks (vv := (Value.int .i64)) klI am_mt45) (S.o (q.bd [_, _] am_ze52 am_pl52) (S.nn (q.bs [[_, _]] true am_el28 am_ze52 am_cl52) (S.ap' [_] am_el28 am_ze52 am_cl52 am_by52 (hh := head_own') (hr := (rows_lit [(⟨_, _⟩ : Int × Int)])) (h := S.o q.as (S.end (hK _ ?_))))))))))
            clear hK K
            show Ev _ _ _ _
            refine Ev.region_S fun K hK => S.o q.add (S.o q.mv (S.end (hK _ ?_)))
            clear hK K
            refine hR2 _ _ ?_
            refine roundU [2] [4, 11, 12, 13, 14, 25, 27, 28] ⟨(pre ++ [(sx, sy)], suf), by rw [← hp]; simp, ?_⟩ ?_ (keep_c (he := (by first | rfl | (simp [hgs, pairC]; done))) (h := keep_n)) (slots_c (he := (by first | rfl | (congr 2; simp; done))) (h := (slots_c (he := (by first | rfl | (simp; done) | (congr 2; omega))) (h := trivial)))) (.c (.c (.c (.c (.c (.c (.c (.c .n))))))))
            intro p hp; simp only [List.mem_append, List.mem_singleton] at hp; rcases hp with hp | rfl
            · exact hinv p hp
            · simp only; omega
            all_goals (dsimp only; simp only [List.length_cons]; omega)
        · first
        | (first | omega | contradiction)
        | refine Ev.exit ?_
          refine hR2 _ _ ?_
          show Ev _ _ _ _
          refine Ev.sr fun K hK => S.o q.mv (S.o q.as (S.o q.as (S.end (hK _ ?_))))
          clear hK K
          refine Ev.weaken (Wk.frz 2 []) ?_
          refine Ev.ret ?_
          refine Ev.ret2 ?_
          refine ⟨?_, rfl⟩
          first
           | (rw [(shV_bad hsm (by simp only; omega)).1, (shV_bad hsm (by simp only; omega)).2]; done)
           | (have hg := shV_good (hp ▸ hinv); rw [hg.1, hg.2, hp]; done)
  · simp only [List.length_cons] at hpl
    have hidx : (l)[pre.length]? = some s := by rw [← hp]; simp
    have hps := hp
    obtain ⟨sx, sy⟩ := s
    have hsok : okPc (sx, sy) := hok _ (by rw [← hp]; simp)
    obtain ⟨g1, g2, g3, g4⟩ := hsok
    simp only at g1 g2 g3 g4
    have hpb := skCnt_bd sx pre (fun b hb => hok b (by rw [← hp]; simp [hb]))
    have hgt := skM_get pre sx
    refine Ev.sr fun K hK => S.o q.lss (S.end (hK _ ?_))
    clear hK K
    refine Ev.ud (fun c6 => ?_) (fun c6 => ?_)
    · first
    | (first | omega | contradiction)
    | refine Ev.seq ?_
      refine Ev.block ?_
      refine Ev.sr fun K hK => S.o (q.ix am_el28 am_cl52 (hl := (by first | exact ati hidx (by omega) | exact atig (by omega)))) (S.o (q.lsA [_, _] am_ag52 am_cl52) (S.nn (q.al am_ze52) (S.sv [_, _] true [_] am_in52 am_cl52 (h := S.end (hK _ ?_)))))
      clear hK K
      refine Ev.region_S fun K hK => S.o q.mv (S.o (q.fa 0 am_fi52_0 am_cl3) (S.o (q.lv am_ag3) (S.o (q.lk (vv := (Value.int .i64)) klI am_mt45) (S.o (q.fa 1 am_fi52_1 am_cl3) (S.o (q.lv am_ag3) (S.o q.add (S.mu (vv := (Value.int .i64)) [_] klI am_mt45 (fun _ => rfl) (hn := S.end (hK _ ?_)))))))))
      clear hK K
      show Ev _ _ _ _
      refine Ev.region_S fun K hK => S.o q.add (S.o q.mv (S.end (hK _ ?_)))
      clear hK K
      refine hR0 _ _ ?_
      refine roundU [0] [2, 3, 4, 11, 12] ⟨(pre ++ [(sx, sy)], suf), by rw [← hp]; simp, ?_⟩ ?_ (keep_c (he := (by first | rfl | (rw [skM_snoc]; done))) (h := keep_n)) (slots_c (he := (by first | rfl | (congr 2; simp; done))) (h := trivial)) (.c (.c (.c (.c (.c .n)))))
      trivial
      all_goals (dsimp only; simp only [List.length_cons]; omega)
    · first
    | (first | omega | contradiction)
    | refine Ev.exit ?_
      refine hR0 _ _ ?_
      show Ev _ _ _ _
      refine Ev.sr fun K hK => S.o q.as (S.end (hK _ ?_))
      clear hK K
      refine Ev.seq ?_
      refine Ev.sr fun K hK => S.o q.mv ?_
      refine SeqL.weaken (Wk.frzm [4, 25] [] (by intro d hd; simp only [List.mem_cons, List.not_mem_nil, or_false] at hd; rcases hd with rfl | rfl <;> rfl) (hex := ⟨4, rfl⟩)) ?_
      refine S.c1f (hF := keysM_fun _) (h := S.cR [1] 3 [_, _] (hob := (keep_c (he := rfl) (h := keep_n))) (hF := sortedF_fun (skM l) (by omega) (skM_wf hok)) (hn' := belowL rfl rfl) (h := ?_))
      refine SeqL.weaken (Wk.frz 27 [_]) ?_
      refine S.o (q.lens am_el70) (S.o q.mv (S.end (hK _ ?_)))
      clear hK K
      refine Ev.block ?_
      refine Ev.weaken (Wk.nown pairC 7 52 2) ?_
      refine Ev.loopU (ι := {q : List (Int × Int) × List (Int × Int) // q.1 ++ q.2 = skP l ∧ ∀ p ∈ q.1, p.2 ≤ 1000000}) [3] [4, 11, 12, 13, 14, 25, 27, 28] (fun ⟨(pre, suf), _⟩ => [(29, .lit (.int .i64 ((pre.length : Int)))), (7, .als 0 0 (pre).length)]) (fun ⟨(pre, suf), _⟩ => [(0, ⟨true, 52, 2, (pre).map pairC, true⟩)]) (fun ⟨(pre, suf), _⟩ => suf.length) ⟨([], (skP l)), rfl, fun p hp => by simp at hp⟩ (.c (.c (.c (.c (.c (.c (.c (.c .n)))))))) (keep_c (he := (by first | rfl | (simp [hgs, pairC]; done))) (h := keep_n)) (slots_c (he := (by first | rfl | (congr 2; simp; done))) (h := (slots_c (he := (by first | rfl | (simp; done) | (congr 2; omega))) (h := trivial)))) ?_
      rintro ⟨⟨pre, suf⟩, hp, hinv⟩ R2 hR2
      dsimp only [List.cons_append, List.nil_append, List.length_cons, List.length_nil]
      simp only at hp hinv
      have hpl : pre.length + suf.length = ((skP l)).length := by rw [← hp, List.length_append]
      rcases suf with _ | ⟨s, suf⟩
      · rw [List.append_nil] at hp; simp only [List.length_nil] at hpl
        refine Ev.sr fun K hK => S.o q.lss (S.end (hK _ ?_))
        clear hK K
        refine Ev.ud (fun c7 => ?_) (fun c7 => ?_)
        · first
        | (first | omega | contradiction)
        | refine Ev.seq ?_
          refine Ev.block ?_
          refine Ev.sr fun K hK => S.o (q.ix am_el70 am_cl3 (hl := (by first | exact ati hidx (by omega) | exact atig (by omega)))) (S.o (q.ls am_ag3) (S.o q.as (S.end (hK _ ?_))))
          clear hK K
          refine Ev.seq ?_
          refine Ev.sr fun K hK => S.o q.mv (S.o q.mv (S.o (q.lks (vv := (Value.int .i64)) klI am_mt45) (S.o q.gtr (S.end (hK _ ?_)))))
          clear hK K
          refine Ev.cd (fun c8 => ?_) (fun c8 => ?_)
          · first
          | (first | omega | contradiction)
          | refine Ev.sr fun K hK => S.o q.as (S.o q.as (S.end (hK _ ?_)))
            clear hK K
            refine Ev.weaken (Wk.nsh pairC 2 2) ?_
            refine Ev.ret ?_
            refine hR2 _ _ ?_
            refine Ev.ret2 ?_
            refine ⟨?_, rfl⟩
            first
             | (rw [(shV_bad hsm (by simp only; omega)).1, (shV_bad hsm (by simp only; omega)).2]; done)
             | (have hg := shV_good (hp ▸ hinv); rw [hg.1, hg.2, hp]; done)
          · first
          | (first | omega | contradiction)
          | refine Ev.skip ?_
            show Ev _ _ _ _
            refine Ev.region_S fun K hK => S.o q.mv (S.o q.mv (S.o q.mv (S.o q.mv (S.o (q.lks (vv := (Value.int .i64)) klI am_mt45) (S.o (q.bd [_, _] am_ze52 am_pl52) (S.nn (q.bs [[_, _]] true am_el28 am_ze52 am_cl52) (S.ap' [_] am_el28 am_ze52 am_cl52 am_by52 (hh := head_own') (hr := (rows_lit [(⟨_, _⟩ : Int × Int)])) (h := S.o q.as (S.end (hK _ ?_))))))))))
            clear hK K
            show Ev _ _ _ _
            refine Ev.region_S fun K hK => S.o q.add (S.o q.mv (S.end (hK _ ?_)))
            clear hK K
            refine hR2 _ _ ?_
            refine roundU [2] [4, 11, 12, 13, 14, 25, 27, 28] ⟨(pre ++ [(sx, sy)], suf), by rw [← hp]; simp, ?_⟩ ?_ (keep_c (he := (by first | rfl | (simp [hgs, pairC]; done))) (h := keep_n)) (slots_c (he := (by first | rfl | (congr 2; simp; done))) (h := (slots_c (he := (by first | rfl | (simp; done) | (congr 2; omega))) (h := trivial)))) (.c (.c (.c (.c (.c (.c (.c (.c .n))))))))
            intro p hp; simp only [List.mem_append, List.mem_singleton] at hp; rcases hp with hp | rfl
            · exact hinv p hp
            · simp only; omega
            all_goals (dsimp only; simp only [List.length_cons]; omega)
        · first
        | (first | omega | contradiction)
        | refine Ev.exit ?_
          refine hR2 _ _ ?_
          show Ev _ _ _ _
          refine Ev.sr fun K hK => S.o q.mv (S.o q.as (S.o q.as (S.end (hK _ ?_))))
          clear hK K
          refine Ev.weaken (Wk.frz 2 []) ?_
          refine Ev.ret ?_
          refine Ev.ret2 ?_
          refine ⟨?_, rfl⟩
          first
           | (rw [(shV_bad hsm (by simp only; omega)).1, (shV_bad hsm (by simp only; omega)).2]; done)
           | (have hg := shV_good (hp ▸ hinv); rw [hg.1, hg.2, hp]; done)
      · simp only [List.length_cons] at hpl
        obtain ⟨sx, sy⟩ := s
        have hidx : (skP l)[pre.length]? = some (sx, sy) := by rw [← hp]; simp
        have hidk : (dkeys (skM l))[pre.length]? = some sx := by rw [skM_keys hok, List.getElem?_map, hidx]; rfl
        have hsm : (sx, sy) ∈ skP l := by rw [← hp]; simp
        have hgs : (mget (skM l) sx).getD 0 = sy := by rw [skM_get]; exact ((skP_mem hok _).1 hsm).2.symm
        refine Ev.sr fun K hK => S.o q.lss (S.end (hK _ ?_))
        clear hK K
        refine Ev.ud (fun c9 => ?_) (fun c9 => ?_)
        · first
        | (first | omega | contradiction)
        | refine Ev.seq ?_
          refine Ev.block ?_
          refine Ev.sr fun K hK => S.o (q.ix am_el70 am_cl3 (hl := (by first | exact ati hidx (by omega) | exact ati hidk (by omega) | exact atig (by omega)))) (S.o (q.ls am_ag3) (S.o q.as (S.end (hK _ ?_))))
          clear hK K
          refine Ev.seq ?_
          refine Ev.sr fun K hK => S.o q.mv (S.o q.mv (S.o (q.lks (vv := (Value.int .i64)) klI am_mt45) (S.o q.gtr (S.end (hK _ ?_)))))
          clear hK K
          refine Ev.cd (fun c10 => ?_) (fun c10 => ?_)
          · first
          | (first | omega | contradiction)
          | refine Ev.sr fun K hK => S.o q.as (S.o q.as (S.end (hK _ ?_)))
            clear hK K
            refine Ev.weaken (Wk.nsh pairC 2 2) ?_
            refine Ev.ret ?_
            refine hR2 _ _ ?_
            refine Ev.ret2 ?_
            refine ⟨?_, rfl⟩
            first
             | (rw [(shV_bad hsm (by simp only; omega)).1, (shV_bad hsm (by simp only; omega)).2]; done)
             | (have hg := shV_good (hp ▸ hinv); rw [hg.1, hg.2, hp]; done)
          · first
          | (first | omega | contradiction)
          | refine Ev.skip ?_
            show Ev _ _ _ _
            refine Ev.region_S fun K hK => S.o q.mv (S.o q.mv (S.o q.mv (S.o q.mv (S.o (q.lks (vv := (Value.int .i64)) klI am_mt45) (S.o (q.bd [_, _] am_ze52 am_pl52) (S.nn (q.bs [[_, _]] true am_el28 am_ze52 am_cl52) (S.ap' [_] am_el28 am_ze52 am_cl52 am_by52 (hh := head_own') (hr := (rows_lit [(⟨_, _⟩ : Int × Int)])) (h := S.o q.as (S.end (hK _ ?_))))))))))
            clear hK K
            show Ev _ _ _ _
            refine Ev.region_S fun K hK => S.o q.add (S.o q.mv (S.end (hK _ ?_)))
            clear hK K
            refine hR2 _ _ ?_
            refine roundU [2] [4, 11, 12, 13, 14, 25, 27, 28] ⟨(pre ++ [(sx, sy)], suf), by rw [← hp]; simp, ?_⟩ ?_ (keep_c (he := (by first | rfl | (simp [hgs, pairC]; done))) (h := keep_n)) (slots_c (he := (by first | rfl | (congr 2; simp; done))) (h := (slots_c (he := (by first | rfl | (simp; done) | (congr 2; omega))) (h := trivial)))) (.c (.c (.c (.c (.c (.c (.c (.c .n))))))))
            intro p hp; simp only [List.mem_append, List.mem_singleton] at hp; rcases hp with hp | rfl
            · exact hinv p hp
            · simp only; omega
            all_goals (dsimp only; simp only [List.length_cons]; omega)
        · first
        | (first | omega | contradiction)
        | refine Ev.exit ?_
          refine hR2 _ _ ?_
          show Ev _ _ _ _
          refine Ev.sr fun K hK => S.o q.mv (S.o q.as (S.o q.as (S.end (hK _ ?_))))
          clear hK K
          refine Ev.weaken (Wk.frz 2 []) ?_
          refine Ev.ret ?_
          refine Ev.ret2 ?_
          refine ⟨?_, rfl⟩
          first
           | (rw [(shV_bad hsm (by simp only; omega)).1, (shV_bad hsm (by simp only; omega)).2]; done)
           | (have hg := shV_good (hp ▸ hinv); rw [hg.1, hg.2, hp]; done)
end Go.Proofs.Ytaggnajjmopobaa

namespace Go.Proofs.Ytaggnajjmopobaa
open Go Go.AM
set_option linter.unusedSimpArgs false
set_option linter.unusedVariables false
set_option maxRecDepth 100000
set_option maxHeartbeats 1000000

def pcsC (l : List (Int × Int)) : List AV := [.sh 2 (l.map pairC)]

end Go.Proofs.Ytaggnajjmopobaa

namespace Go.Proofs.Ytaggnajjmopobaa
open Go Go.AM
set_option linter.unusedSimpArgs false
set_option linter.unusedVariables false
set_option maxRecDepth 100000
set_option maxHeartbeats 1000000

def totP (l : List (Int × Int)) : Int := (l.map fun p => p.1 * p.2).sum
theorem totP_snoc (l : List (Int × Int)) (s : Int × Int) : totP (l ++ [s]) = totP l + s.1 * s.2 := by simp [totP]
theorem totP_bd : ∀ l : List (Int × Int), (∀ b ∈ l, okPc b) → 0 ≤ totP l ∧ totP l ≤ 1048576000000 * l.length := by
  refine snoc_ind (fun _ => by simp [totP]) ?_
  intro l s ih h
  obtain ⟨i1, i2⟩ := ih fun b hb => h b (by simp [hb])
  obtain ⟨h1, h2, h3, h4⟩ := h s (by simp)
  obtain ⟨j1, j2⟩ := mul_bd (k := s.1) (K := 1048576) (a := s.2) (A := 1000000) (by omega) (by omega) (by omega) (by omega)
  rw [totP_snoc, List.length_append, List.length_singleton]
  omega
def tlV (l : List (Int × Int)) : Int := if okOrd l then totP l else 0
def tlE (l : List (Int × Int)) : Int := if okOrd l then 0 else 1
theorem rTotal_fun (l : List (Int × Int)) (hok : okOrd l) : Fun Try.prog 30 [.sh 2 (l.map pairC)] (Ret (.lit (.int .i64 (totP l))) []) := by
  have hll := hok.1
  refine Fun.of (nt := 25) (rs := [.tmp 2]) Try.func30 rfl rfl rfl rfl rfl ?_
  refine Ev.sr fun K hK => S.o q.as (S.end (hK _ ?_))
  clear hK K
  refine Ev.sr fun K hK => S.o q.as (S.end (hK _ ?_))
  clear hK K
  refine Ev.seq ?_
  refine Ev.sr fun K hK => S.o q.as (S.end (hK _ ?_))
  clear hK K
  refine Ev.block ?_
  refine Ev.loopU (ι := {p : List (Int × Int) × List (Int × Int) // p.1 ++ p.2 = l ∧ True}) [] [0, 2] (fun ⟨(pre, suf), _⟩ => [(4, .lit (.int .i64 ((pre.length : Int)))), (3, .lit (.int .i64 (totP pre)))]) (fun ⟨(pre, suf), _⟩ => []) (fun ⟨(pre, suf), _⟩ => suf.length) ⟨([], l), rfl, trivial⟩ (.c (.c .n)) keep_n (slots_c (he := (by first | rfl | (congr 2; simp; done))) (h := (slots_c (he := (by first | rfl | exact iE (by rw [totP_snoc]))) (h := trivial)))) ?_
  rintro ⟨⟨pre, suf⟩, hp, hinv⟩ R0 hR0
  dsimp only [List.cons_append, List.nil_append, List.length_cons, List.length_nil]
  simp only at hp hinv
  have hpl : pre.length + suf.length = (l).length := by rw [← hp, List.length_append]
  rcases suf with _ | ⟨s, suf⟩
  · rw [List.append_nil] at hp; simp only [List.length_nil] at hpl
    refine Ev.seq ?_
    refine Ev.sr fun K hK => S.o q.mv (S.o q.mv (S.o (q.lens am_el28) (S.o q.lss (S.end (hK _ ?_)))))
    clear hK K
    refine Ev.cd (fun c1 => ?_) (fun c1 => ?_)
    · first
    | (first | omega | contradiction)
    | refine Ev.skip ?_
      show Ev _ _ _ _
      refine Ev.seq ?_
      refine Ev.block ?_
      refine Ev.region_M (tbs [(0, 0), (0, 0), (0, 0), (3, 6), (4, 14), (5, 30), (0, 0), (0, 0), (8, 192), (9, 448), (10, 960), (11, 2046), (12, 4095), (13, 8191)]) 13 fun K hK => M.o q.mv (M.o q.mv (M.o q.mv (M.o (q.ix am_el28 am_cl52 (hl := (by first | exact atig (by omega)))) (M.o (q.fs 0 am_fi52_0 am_cl3) (M.o (q.ls am_ag3) (M.o q.mv (M.o q.mv (M.o (q.ix am_el28 am_cl52 (hl := (by first | exact atig (by omega)))) (M.o (q.fs 1 am_fi52_1 am_cl3) (M.o (q.ls am_ag3) (M.o q.mul (M.o q.add (M.end [] (h := S.o q.as (S.end (hK _ ?_))))))))))))))))
      clear hK K
      show Ev _ _ _ _
      refine Ev.region_S fun K hK => S.o q.mv (S.o q.add (S.o q.as (S.end (hK _ ?_))))
      clear hK K
      refine hR0 _ _ ?_
      refine roundU [] [0, 2] ⟨(pre ++ [(sx, sy)], suf), by rw [← hp]; simp, ?_⟩ ?_ keep_n (slots_c (he := (by first | rfl | (congr 2; simp; done))) (h := (slots_c (he := (by first | rfl | exact iE (by rw [totP_snoc]))) (h := trivial)))) (.c (.c .n))
      trivial
      all_goals (dsimp only; simp only [List.length_cons]; omega)
    · first
    | (first | omega | contradiction)
    | refine Ev.exit ?_
      refine hR0 _ _ ?_
      show Ev _ _ _ _
      refine Ev.sr fun K hK => S.o q.mv (S.o q.as (S.end (hK _ ?_)))
      clear hK K
      refine Ev.ret ?_
      refine Ev.ret1 ?_
      refine ⟨?_, rfl⟩
      (rw [← hp]; done)
  · simp only [List.length_cons] at hpl
    have hidx : l[pre.length]? = some s := by rw [← hp]; simp
    obtain ⟨sx, sy⟩ := s
    obtain ⟨g1, g2, g3, g4⟩ := hok.2 (sx, sy) (by rw [← hp]; simp)
    simp only at g1 g2 g3 g4
    obtain ⟨t1, t2⟩ := totP_bd pre (fun x hx => hok.2 x (by rw [← hp]; simp [hx]))
    obtain ⟨j1, j2⟩ := mul_bd (k := sx) (K := 1048576) (a := sy) (A := 1000000) (by omega) (by omega) (by omega) (by omega)
    refine Ev.seq ?_
    refine Ev.sr fun K hK => S.o q.mv (S.o q.mv (S.o (q.lens am_el28) (S.o q.lss (S.end (hK _ ?_)))))
    clear hK K
    refine Ev.cd (fun c2 => ?_) (fun c2 => ?_)
    · first
    | (first | omega | contradiction)
    | refine Ev.skip ?_
      show Ev _ _ _ _
      refine Ev.seq ?_
      refine Ev.block ?_
      refine Ev.region_M (tbs [(0, 0), (0, 0), (0, 0), (3, 6), (4, 14), (5, 30), (0, 0), (0, 0), (8, 192), (9, 448), (10, 960), (11, 2046), (12, 4095), (13, 8191)]) 13 fun K hK => M.o q.mv (M.o q.mv (M.o q.mv (M.o (q.ix am_el28 am_cl52 (hl := (by first | exact ati hidx (by omega) | exact atig (by omega)))) (M.o (q.fs 0 am_fi52_0 am_cl3) (M.o (q.ls am_ag3) (M.o q.mv (M.o q.mv (M.o (q.ix am_el28 am_cl52 (hl := (by first | exact ati hidx (by omega) | exact atig (by omega)))) (M.o (q.fs 1 am_fi52_1 am_cl3) (M.o (q.ls am_ag3) (M.o q.mul (M.o q.add (M.end [] (h := S.o q.as (S.end (hK _ ?_))))))))))))))))
      clear hK K
      show Ev _ _ _ _
      refine Ev.region_S fun K hK => S.o q.mv (S.o q.add (S.o q.as (S.end (hK _ ?_))))
      clear hK K
      refine hR0 _ _ ?_
      refine roundU [] [0, 2] ⟨(pre ++ [(sx, sy)], suf), by rw [← hp]; simp, ?_⟩ ?_ keep_n (slots_c (he := (by first | rfl | (congr 2; simp; done))) (h := (slots_c (he := (by first | rfl | exact iE (by rw [totP_snoc]))) (h := trivial)))) (.c (.c .n))
      trivial
      all_goals (dsimp only; simp only [List.length_cons]; omega)
    · first
    | (first | omega | contradiction)
    | refine Ev.exit ?_
      refine hR0 _ _ ?_
      show Ev _ _ _ _
      refine Ev.sr fun K hK => S.o q.mv (S.o q.as (S.end (hK _ ?_)))
      clear hK K
      refine Ev.ret ?_
      refine Ev.ret1 ?_
      refine ⟨?_, rfl⟩
      (rw [← hp]; done)

theorem stShort_fun (l : List (Int × Int)) (hlen : l.length ≤ 140737488355328) : Fun Try.prog 25 [.sh 2 (l.map pairC)] (Ret (.tup [.sh 2 ((if okOrd l then shV l else []).map pairC), .lit (.int .i64 (if okOrd l then shE l else 1))]) []) := by
  refine Fun.of (nt := 11) (rs := [.tmp 2, .tmp 3]) Try.func25 rfl rfl rfl rfl rfl ?_
  refine Ev.sr fun K hK => S.o q.as (S.o q.as (S.end (hK _ ?_)))
  clear hK K
  refine Ev.seq ?_
  refine Ev.sr fun K hK => S.o q.mv (S.c0 (hF := order_fun _ (by omega)) (h := S.o q.not (S.end (hK _ ?_))))
  clear hK K
  refine Ev.cn (fun c1 => ?_) (fun c1 => ?_)
  · first
  | (first | omega | contradiction)
  | refine Ev.sr fun K hK => S.o q.as (S.o q.as (S.end (hK _ ?_)))
    clear hK K
    refine Ev.weaken (Wk.nsh pairC 2 2) ?_
    refine Ev.ret ?_
    refine Ev.ret2 ?_
    refine ⟨?_, rfl⟩
    first | (rw [if_neg ‹_›, if_neg ‹_›]; done) | (rw [if_pos hok, if_pos hok]; done)
  · first
  | (first | omega | contradiction)
  | refine Ev.skip ?_
    show Ev _ _ _ _
    have hok : okOrd l := ‹_›
    have hll := hok.1
    have hlo := hok.2
    refine Ev.sr fun K hK => S.o q.mv (S.c0 (hF := short_fun _ (by assumption) (by omega)) (h := S.o q.ex (S.o q.ex (S.o q.as (S.o q.as (S.end (hK _ ?_)))))))
    clear hK K
    refine Ev.ret ?_
    refine Ev.ret2 ?_
    refine ⟨?_, rfl⟩
    first | (rw [if_neg ‹_›, if_neg ‹_›]; done) | (rw [if_pos hok, if_pos hok]; done)

def mgV1 (c : List (Int × Int)) : List (Int × Int) := if shG c then (if (skP c).length ≤ 200 then skP c else []) else []
def mgE1 (c : List (Int × Int)) : Int := if shG c then (if (skP c).length ≤ 200 then 0 else 4) else 5
def mgV (a b : List (Int × Int)) : List (Int × Int) := if okOrd a ∧ okOrd b then mgV1 (a ++ b) else []
def mgE (a b : List (Int × Int)) : Int := if okOrd a ∧ okOrd b then mgE1 (a ++ b) else 1
end Go.Proofs.Ytaggnajjmopobaa

namespace Go.Proofs.Ytaggnajjmopobaa
open Go Go.AM
set_option linter.unusedSimpArgs false
set_option linter.unusedVariables false
set_option maxRecDepth 100000
set_option maxHeartbeats 1000000

theorem rNumber_fun (l : List (Int × Int)) (n : Int) (hok : ∀ b ∈ l, okPc b) (hn : l.length ≤ 2000) : Fun Try.prog 46 [.sh 2 (l.map pairC), .lit (.int .i64 n)] (Ret (.lit (.int .i64 (skCnt l n))) []) := by
  refine Fun.of (nt := 28) (rs := [.tmp 4]) Try.func46 rfl rfl rfl rfl rfl ?_
  refine Ev.sr fun K hK => S.o q.as (S.end (hK _ ?_))
  clear hK K
  refine Ev.sr fun K hK => S.o q.as (S.end (hK _ ?_))
  clear hK K
  refine Ev.seq ?_
  refine Ev.sr fun K hK => S.o q.as (S.end (hK _ ?_))
  clear hK K
  refine Ev.block ?_
  refine Ev.loopU (ι := {p : List (Int × Int) × List (Int × Int) // p.1 ++ p.2 = l ∧ True}) [] [0, 1, 4] (fun ⟨(pre, suf), _⟩ => [(6, .lit (.int .i64 ((pre.length : Int)))), (5, .lit (.int .i64 (skCnt pre n)))]) (fun ⟨(pre, suf), _⟩ => []) (fun ⟨(pre, suf), _⟩ => suf.length) ⟨([], l), rfl, trivial⟩ (.c (.c (.c .n))) keep_n (slots_c (he := (by first | rfl | (congr 2; simp; done))) (h := (slots_c (he := (by first | rfl | exact iE (by rw [skCnt_snoc, if_pos (by first | assumption | omega)]) | exact iE (by rw [skCnt_snoc, if_neg (by first | assumption | omega), Int.add_zero]))) (h := trivial)))) ?_
  rintro ⟨⟨pre, suf⟩, hp, hinv⟩ R0 hR0
  dsimp only [List.cons_append, List.nil_append, List.length_cons, List.length_nil]
  simp only at hp hinv
  have hpl : pre.length + suf.length = (l).length := by rw [← hp, List.length_append]
  rcases suf with _ | ⟨s, suf⟩
  · rw [List.append_nil] at hp; simp only [List.length_nil] at hpl
    refine Ev.seq ?_
    refine Ev.sr fun K hK => S.o q.mv (S.o q.mv (S.o (q.lens am_el28) (S.o q.lss (S.end (hK _ ?_)))))
    clear hK K
    refine Ev.cd (fun c1 => ?_) (fun c1 => ?_)
    · first
    | (first | omega | contradiction)
    | refine Ev.skip ?_
      show Ev _ _ _ _
      refine Ev.seq ?_
      refine Ev.block ?_
      refine Ev.sr fun K hK => S.o q.mv (S.o q.mv (S.o (q.ix am_el28 am_cl52 (hl := (by first | exact atig (by omega)))) (S.o (q.fs 0 am_fi52_0 am_cl3) (S.o (q.ls am_ag3) (S.o q.mv (S.o q.eql (S.end (hK _ ?_))))))))
      clear hK K
      refine Ev.cd (fun c2 => ?_) (fun c2 => ?_)
      · first
      | (first | omega | contradiction)
      | refine Ev.region_S fun K hK => S.o q.mv (S.o q.mv (S.o q.mv (S.o (q.ix am_el28 am_cl52 (hl := (by first | exact atig (by omega)))) (S.o (q.fs 1 am_fi52_1 am_cl3) (S.o (q.ls am_ag3) (S.o q.add (S.o q.as (S.end (hK _ ?_)))))))))
        clear hK K
        show Ev _ _ _ _
        refine Ev.region_S fun K hK => S.o q.mv (S.o q.add (S.o q.as (S.end (hK _ ?_))))
        clear hK K
        refine hR0 _ _ ?_
        refine roundU [] [0, 1, 4] ⟨(pre ++ [(sx, sy)], suf), by rw [← hp]; simp, ?_⟩ ?_ keep_n (slots_c (he := (by first | rfl | (congr 2; simp; done))) (h := (slots_c (he := (by first | rfl | exact iE (by rw [skCnt_snoc, if_pos (by first | assumption | omega)]) | exact iE (by rw [skCnt_snoc, if_neg (by first | assumption | omega), Int.add_zero]))) (h := trivial)))) (.c (.c (.c .n)))
        trivial
        all_goals (dsimp only; simp only [List.length_cons]; omega)
      · first
      | (first | omega | contradiction)
      | refine Ev.skip ?_
        show Ev _ _ _ _
        refine Ev.region_S fun K hK => S.o q.mv (S.o q.add (S.o q.as (S.end (hK _ ?_))))
        clear hK K
        refine hR0 _ _ ?_
        refine roundU [] [0, 1, 4] ⟨(pre ++ [(sx, sy)], suf), by rw [← hp]; simp, ?_⟩ ?_ keep_n (slots_c (he := (by first | rfl | (congr 2; simp; done))) (h := (slots_c (he := (by first | rfl | exact iE (by rw [skCnt_snoc, if_pos (by first | assumption | omega)]) | exact iE (by rw [skCnt_snoc, if_neg (by first | assumption | omega), Int.add_zero]))) (h := trivial)))) (.c (.c (.c .n)))
        trivial
        all_goals (dsimp only; simp only [List.length_cons]; omega)
    · first
    | (first | omega | contradiction)
    | refine Ev.exit ?_
      refine hR0 _ _ ?_
      show Ev _ _ _ _
      refine Ev.sr fun K hK => S.o q.mv (S.o q.as (S.end (hK _ ?_)))
      clear hK K
      refine Ev.ret ?_
      refine Ev.ret1 ?_
      refine ⟨?_, rfl⟩
      (rw [← hp]; done)
  · simp only [List.length_cons] at hpl
    have hidx : l[pre.length]? = some s := by rw [← hp]; simp
    obtain ⟨sx, sy⟩ := s
    obtain ⟨g1, g2, g3, g4⟩ := hok (sx, sy) (by rw [← hp]; simp)
    simp only at g1 g2 g3 g4
    have hpb := skCnt_bd n pre (fun b hb => hok b (by rw [← hp]; simp [hb]))
    refine Ev.seq ?_
    refine Ev.sr fun K hK => S.o q.mv (S.o q.mv (S.o (q.lens am_el28) (S.o q.lss (S.end (hK _ ?_)))))
    clear hK K
    refine Ev.cd (fun c3 => ?_) (fun c3 => ?_)
    · first
    | (first | omega | contradiction)
    | refine Ev.skip ?_
      show Ev _ _ _ _
      refine Ev.seq ?_
      refine Ev.block ?_
      refine Ev.sr fun K hK => S.o q.mv (S.o q.mv (S.o (q.ix am_el28 am_cl52 (hl := (by first | exact ati hidx (by omega) | exact atig (by omega)))) (S.o (q.fs 0 am_fi52_0 am_cl3) (S.o (q.ls am_ag3) (S.o q.mv (S.o q.eql (S.end (hK _ ?_))))))))
      clear hK K
      refine Ev.cd (fun c4 => ?_) (fun c4 => ?_)
      · first
      | (first | omega | contradiction)
      | refine Ev.region_S fun K hK => S.o q.mv (S.o q.mv (S.o q.mv (S.o (q.ix am_el28 am_cl52 (hl := (by first | exact ati hidx (by omega) | exact atig (by omega)))) (S.o (q.fs 1 am_fi52_1 am_cl3) (S.o (q.ls am_ag3) (S.o q.add (S.o q.as (S.end (hK _ ?_)))))))))
        clear hK K
        show Ev _ _ _ _
        refine Ev.region_S fun K hK => S.o q.mv (S.o q.add (S.o q.as (S.end (hK _ ?_))))
        clear hK K
        refine hR0 _ _ ?_
        refine roundU [] [0, 1, 4] ⟨(pre ++ [(sx, sy)], suf), by rw [← hp]; simp, ?_⟩ ?_ keep_n (slots_c (he := (by first | rfl | (congr 2; simp; done))) (h := (slots_c (he := (by first | rfl | exact iE (by rw [skCnt_snoc, if_pos (by first | assumption | omega)]) | exact iE (by rw [skCnt_snoc, if_neg (by first | assumption | omega), Int.add_zero]))) (h := trivial)))) (.c (.c (.c .n)))
        trivial
        all_goals (dsimp only; simp only [List.length_cons]; omega)
      · first
      | (first | omega | contradiction)
      | refine Ev.skip ?_
        show Ev _ _ _ _
        refine Ev.region_S fun K hK => S.o q.mv (S.o q.add (S.o q.as (S.end (hK _ ?_))))
        clear hK K
        refine hR0 _ _ ?_
        refine roundU [] [0, 1, 4] ⟨(pre ++ [(sx, sy)], suf), by rw [← hp]; simp, ?_⟩ ?_ keep_n (slots_c (he := (by first | rfl | (congr 2; simp; done))) (h := (slots_c (he := (by first | rfl | exact iE (by rw [skCnt_snoc, if_pos (by first | assumption | omega)]) | exact iE (by rw [skCnt_snoc, if_neg (by first | assumption | omega), Int.add_zero]))) (h := trivial)))) (.c (.c (.c .n)))
        trivial
        all_goals (dsimp only; simp only [List.length_cons]; omega)
    · first
    | (first | omega | contradiction)
    | refine Ev.exit ?_
      refine hR0 _ _ ?_
      show Ev _ _ _ _
      refine Ev.sr fun K hK => S.o q.mv (S.o q.as (S.end (hK _ ?_)))
      clear hK K
      refine Ev.ret ?_
      refine Ev.ret1 ?_
      refine ⟨?_, rfl⟩
      (rw [← hp]; done)
theorem rnext_fun (l : List (Int × Int)) (below : Int) (hlen : l.length ≤ 140737488355328) : Fun Try.prog 61 [.sh 2 (l.map pairC), .lit (.int .i64 below)] (Ret (.lit (.int .i64 (skMax l below))) []) := by
  refine Fun.of (nt := 35) (rs := [.tmp 4]) Try.func61 rfl rfl rfl rfl rfl ?_
  refine Ev.sr fun K hK => S.o q.as (S.end (hK _ ?_))
  clear hK K
  refine Ev.sr fun K hK => S.o q.as (S.end (hK _ ?_))
  clear hK K
  refine Ev.seq ?_
  refine Ev.sr fun K hK => S.o q.as (S.end (hK _ ?_))
  clear hK K
  refine Ev.block ?_
  refine Ev.loopU (ι := {p : List (Int × Int) × List (Int × Int) // p.1 ++ p.2 = l ∧ True}) [] [0, 1, 4] (fun ⟨(pre, suf), _⟩ => [(6, .lit (.int .i64 ((pre.length : Int)))), (5, .lit (.int .i64 (skMax pre below)))]) (fun ⟨(pre, suf), _⟩ => []) (fun ⟨(pre, suf), _⟩ => suf.length) ⟨([], l), rfl, trivial⟩ (.c (.c (.c .n))) keep_n (slots_c (he := (by first | rfl | (congr 2; simp; done))) (h := (slots_c (he := (by first | rfl | exact iE (by rw [skMax_snoc, if_pos (by simp only; omega)]) | exact iE (by rw [skMax_snoc, if_neg (by simp only; omega)]))) (h := trivial)))) ?_
  rintro ⟨⟨pre, suf⟩, hp, hinv⟩ R0 hR0
  dsimp only [List.cons_append, List.nil_append, List.length_cons, List.length_nil]
  simp only at hp hinv
  have hpl : pre.length + suf.length = (l).length := by rw [← hp, List.length_append]
  rcases suf with _ | ⟨s, suf⟩
  · rw [List.append_nil] at hp; simp only [List.length_nil] at hpl
    refine Ev.seq ?_
    refine Ev.sr fun K hK => S.o q.mv (S.o q.mv (S.o (q.lens am_el28) (S.o q.lss (S.end (hK _ ?_)))))
    clear hK K
    refine Ev.cd (fun c1 => ?_) (fun c1 => ?_)
    · first
    | (first | omega | contradiction)
    | refine Ev.skip ?_
      show Ev _ _ _ _
      refine Ev.seq ?_
      refine Ev.block ?_
      refine Ev.sr fun K hK => S.o q.mv (S.o q.mv (S.o (q.ix am_el28 am_cl52 (hl := (by first | exact atig (by omega)))) (S.o (q.fs 0 am_fi52_0 am_cl3) (S.o (q.ls am_ag3) (S.o q.mv (S.o q.lss (S.bd q.mv (fun c2 => ?_) (fun c2 => ?_))))))))
      · first
      | (first | omega | contradiction)
      | refine S.o q.mv (S.o q.mv (S.o (q.ix am_el28 am_cl52 (hl := (by first | exact atig (by omega)))) (S.o (q.fs 0 am_fi52_0 am_cl3) (S.o (q.ls am_ag3) (S.o q.mv (S.o q.gtr (S.o q.pt (S.end (hK _ ?_)))))))))
        clear hK K
        refine Ev.cd (fun c3 => ?_) (fun c3 => ?_)
        · first
        | (first | omega | contradiction)
        | refine Ev.region_S fun K hK => S.o q.mv (S.o q.mv (S.o (q.ix am_el28 am_cl52 (hl := (by first | exact atig (by omega)))) (S.o (q.fs 0 am_fi52_0 am_cl3) (S.o (q.ls am_ag3) (S.o q.as (S.end (hK _ ?_)))))))
          clear hK K
          show Ev _ _ _ _
          refine Ev.region_S fun K hK => S.o q.mv (S.o q.add (S.o q.as (S.end (hK _ ?_))))
          clear hK K
          refine hR0 _ _ ?_
          refine roundU [] [0, 1, 4] ⟨(pre ++ [(sx, sy)], suf), by rw [← hp]; simp, ?_⟩ ?_ keep_n (slots_c (he := (by first | rfl | (congr 2; simp; done))) (h := (slots_c (he := (by first | rfl | exact iE (by rw [skMax_snoc, if_pos (by simp only; omega)]) | exact iE (by rw [skMax_snoc, if_neg (by simp only; omega)]))) (h := trivial)))) (.c (.c (.c .n)))
          trivial
          all_goals (dsimp only; simp only [List.length_cons]; omega)
        · first
        | (first | omega | contradiction)
        | refine Ev.skip ?_
          show Ev _ _ _ _
          refine Ev.region_S fun K hK => S.o q.mv (S.o q.add (S.o q.as (S.end (hK _ ?_))))
          clear hK K
          refine hR0 _ _ ?_
          refine roundU [] [0, 1, 4] ⟨(pre ++ [(sx, sy)], suf), by rw [← hp]; simp, ?_⟩ ?_ keep_n (slots_c (he := (by first | rfl | (congr 2; simp; done))) (h := (slots_c (he := (by first | rfl | exact iE (by rw [skMax_snoc, if_pos (by simp only; omega)]) | exact iE (by rw [skMax_snoc, if_neg (by simp only; omega)]))) (h := trivial)))) (.c (.c (.c .n)))
          trivial
          all_goals (dsimp only; simp only [List.length_cons]; omega)
      · first
      | (first | omega | contradiction)
      | refine S.sk (S.sk (S.sk (S.sk (S.sk (S.sk (S.sk (S.o q.pf (S.end (hK _ ?_)))))))))
        clear hK K
        refine Ev.cf ?_
        refine Ev.skip ?_
        show Ev _ _ _ _
        refine Ev.region_S fun K hK => S.o q.mv (S.o q.add (S.o q.as (S.end (hK _ ?_))))
        clear hK K
        refine hR0 _ _ ?_
        refine roundU [] [0, 1, 4] ⟨(pre ++ [(sx, sy)], suf), by rw [← hp]; simp, ?_⟩ ?_ keep_n (slots_c (he := (by first | rfl | (congr 2; simp; done))) (h := (slots_c (he := (by first | rfl | exact iE (by rw [skMax_snoc, if_pos (by simp only; omega)]) | exact iE (by rw [skMax_snoc, if_neg (by simp only; omega)]))) (h := trivial)))) (.c (.c (.c .n)))
        trivial
        all_goals (dsimp only; simp only [List.length_cons]; omega)
    · first
    | (first | omega | contradiction)
    | refine Ev.exit ?_
      refine hR0 _ _ ?_
      show Ev _ _ _ _
      refine Ev.sr fun K hK => S.o q.mv (S.o q.as (S.end (hK _ ?_)))
      clear hK K
      refine Ev.ret ?_
      refine Ev.ret1 ?_
      refine ⟨?_, rfl⟩
      (rw [← hp]; done)
  · simp only [List.length_cons] at hpl
    have hidx : l[pre.length]? = some s := by rw [← hp]; simp
    obtain ⟨sx, sy⟩ := s
    refine Ev.seq ?_
    refine Ev.sr fun K hK => S.o q.mv (S.o q.mv (S.o (q.lens am_el28) (S.o q.lss (S.end (hK _ ?_)))))
    clear hK K
    refine Ev.cd (fun c4 => ?_) (fun c4 => ?_)
    · first
    | (first | omega | contradiction)
    | refine Ev.skip ?_
      show Ev _ _ _ _
      refine Ev.seq ?_
      refine Ev.block ?_
      refine Ev.sr fun K hK => S.o q.mv (S.o q.mv (S.o (q.ix am_el28 am_cl52 (hl := (by first | exact ati hidx (by omega) | exact atig (by omega)))) (S.o (q.fs 0 am_fi52_0 am_cl3) (S.o (q.ls am_ag3) (S.o q.mv (S.o q.lss (S.bd q.mv (fun c5 => ?_) (fun c5 => ?_))))))))
      · first
      | (first | omega | contradiction)
      | refine S.o q.mv (S.o q.mv (S.o (q.ix am_el28 am_cl52 (hl := (by first | exact ati hidx (by omega) | exact atig (by omega)))) (S.o (q.fs 0 am_fi52_0 am_cl3) (S.o (q.ls am_ag3) (S.o q.mv (S.o q.gtr (S.o q.pt (S.end (hK _ ?_)))))))))
        clear hK K
        refine Ev.cd (fun c6 => ?_) (fun c6 => ?_)
        · first
        | (first | omega | contradiction)
        | refine Ev.region_S fun K hK => S.o q.mv (S.o q.mv (S.o (q.ix am_el28 am_cl52 (hl := (by first | exact ati hidx (by omega) | exact atig (by omega)))) (S.o (q.fs 0 am_fi52_0 am_cl3) (S.o (q.ls am_ag3) (S.o q.as (S.end (hK _ ?_)))))))
          clear hK K
          show Ev _ _ _ _
          refine Ev.region_S fun K hK => S.o q.mv (S.o q.add (S.o q.as (S.end (hK _ ?_))))
          clear hK K
          refine hR0 _ _ ?_
          refine roundU [] [0, 1, 4] ⟨(pre ++ [(sx, sy)], suf), by rw [← hp]; simp, ?_⟩ ?_ keep_n (slots_c (he := (by first | rfl | (congr 2; simp; done))) (h := (slots_c (he := (by first | rfl | exact iE (by rw [skMax_snoc, if_pos (by simp only; omega)]) | exact iE (by rw [skMax_snoc, if_neg (by simp only; omega)]))) (h := trivial)))) (.c (.c (.c .n)))
          trivial
          all_goals (dsimp only; simp only [List.length_cons]; omega)
        · first
        | (first | omega | contradiction)
        | refine Ev.skip ?_
          show Ev _ _ _ _
          refine Ev.region_S fun K hK => S.o q.mv (S.o q.add (S.o q.as (S.end (hK _ ?_))))
          clear hK K
          refine hR0 _ _ ?_
          refine roundU [] [0, 1, 4] ⟨(pre ++ [(sx, sy)], suf), by rw [← hp]; simp, ?_⟩ ?_ keep_n (slots_c (he := (by first | rfl | (congr 2; simp; done))) (h := (slots_c (he := (by first | rfl | exact iE (by rw [skMax_snoc, if_pos (by simp only; omega)]) | exact iE (by rw [skMax_snoc, if_neg (by simp only; omega)]))) (h := trivial)))) (.c (.c (.c .n)))
          trivial
          all_goals (dsimp only; simp only [List.length_cons]; omega)
      · first
      | (first | omega | contradiction)
      | refine S.sk (S.sk (S.sk (S.sk (S.sk (S.sk (S.sk (S.o q.pf (S.end (hK _ ?_)))))))))
        clear hK K
        refine Ev.cf ?_
        refine Ev.skip ?_
        show Ev _ _ _ _
        refine Ev.region_S fun K hK => S.o q.mv (S.o q.add (S.o q.as (S.end (hK _ ?_))))
        clear hK K
        refine hR0 _ _ ?_
        refine roundU [] [0, 1, 4] ⟨(pre ++ [(sx, sy)], suf), by rw [← hp]; simp, ?_⟩ ?_ keep_n (slots_c (he := (by first | rfl | (congr 2; simp; done))) (h := (slots_c (he := (by first | rfl | exact iE (by rw [skMax_snoc, if_pos (by simp only; omega)]) | exact iE (by rw [skMax_snoc, if_neg (by simp only; omega)]))) (h := trivial)))) (.c (.c (.c .n)))
        trivial
        all_goals (dsimp only; simp only [List.length_cons]; omega)
    · first
    | (first | omega | contradiction)
    | refine Ev.exit ?_
      refine hR0 _ _ ?_
      show Ev _ _ _ _
      refine Ev.sr fun K hK => S.o q.mv (S.o q.as (S.end (hK _ ?_)))
      clear hK K
      refine Ev.ret ?_
      refine Ev.ret1 ?_
      refine ⟨?_, rfl⟩
      (rw [← hp]; done)

theorem skAt_next {l : List (Int × Int)} {below : Int} {dn : List (Int × Int)} (hz : ¬ skMax l below = 0) (h : dn ++ skAt l below = skP l) : (dn ++ [(skMax l below, skCnt l (skMax l below))] ++ skAt l (skMax l below) = skP l) ∧ (skMax l below, skCnt l (skMax l below)) ∈ skP l := by
  rw [skAt_cons hz] at h
  exact ⟨by simpa using h, by rw [← h]; simp⟩
theorem skAt_s1 (l : List (Int × Int)) : ([] : List (Int × Int)) ++ skAt l 1048577 = skP l := by rw [List.nil_append, skP]
theorem skAt_s2 : (0 : Int) ≤ 1048577 := by omega
theorem skAt_start (l : List (Int × Int)) : (([] : List (Int × Int)), (1048577 : Int)).1 ++ skAt l (([] : List (Int × Int)), (1048577 : Int)).2 = skP l ∧ 0 ≤ (([] : List (Int × Int)), (1048577 : Int)).2 ∧ (([] : List (Int × Int)), (1048577 : Int)).2 ≤ 1048577 ∧ ∀ p ∈ (([] : List (Int × Int)), (1048577 : Int)).1, p.2 ≤ 1000000 := ⟨skAt_s1 l, skAt_s2, Int.le_refl _, fun p hp => by simp at hp⟩
theorem rShort_fun (l : List (Int × Int)) (hok : ∀ b ∈ l, okPc b) (hn : l.length ≤ 2000) : Fun Try.prog 47 [.sh 2 (l.map pairC)] (Ret (.tup [.sh 2 ((shV l).map pairC), .lit (.int .i64 (shE l))]) []) := by
  have hpl2 := skP_len hok
  refine Fun.of (nt := 26) (rs := [.tmp 2, .tmp 3]) Try.func47 rfl rfl rfl rfl rfl ?_
  refine Ev.sr fun K hK => S.o q.as (S.o q.as (S.end (hK _ ?_)))
  clear hK K
  refine Ev.sr fun K hK => S.o q.as (S.end (hK _ ?_))
  clear hK K
  refine Ev.seq ?_
  refine Ev.sr fun K hK => S.o q.mv (S.c0 (hF := rnext_fun _ _ (by omega)) (h := S.o q.as (S.end (hK _ ?_))))
  clear hK K
  refine Ev.block ?_
  refine Ev.weaken (Wk.nown pairC 4 52 2) ?_
  refine Ev.loopU (ι := {q : List (Int × Int) × Int // q.1 ++ skAt l q.2 = skP l ∧ 0 ≤ q.2 ∧ q.2 ≤ 1048577 ∧ ∀ p ∈ q.1, p.2 ≤ 1000000}) [0] [0] (fun ⟨(dn, below), _⟩ => [(5, .lit (.int .i64 (skMax l below))), (4, .als 0 0 (dn).length)]) (fun ⟨(dn, below), _⟩ => [(0, ⟨true, 52, 2, (dn).map pairC, true⟩)]) (fun ⟨(dn, below), _⟩ => (skMax l below).toNat) ⟨([], 1048577), skAt_start l⟩ (.c .n) (keep_c (he := (by first | rfl | (simp [pairC]; done))) (h := keep_n)) (slots_c (he := (by first | rfl | (congr 2; simp; done))) (h := (slots_c (he := (by first | rfl | (simp; done) | (congr 2; omega))) (h := trivial)))) ?_
  rintro ⟨⟨dn, below⟩, hdn, hb0, hb1, hdg⟩ R0 hR0
  dsimp only [List.cons_append, List.nil_append, List.length_cons, List.length_nil]
  simp only at hdn hb0 hb1 hdg
  obtain ⟨hm0, hm1, hm2⟩ := skMax_spec below l
  obtain ⟨hm3, hm4, hm5⟩ := skMax_spec (skMax l below) l
  have hdl : dn.length ≤ 2000 := by have := congrArg List.length hdn; rw [List.length_append] at this; omega
  refine Ev.seq ?_
  refine Ev.sr fun K hK => S.o q.mv (S.o q.gtr (S.end (hK _ ?_)))
  clear hK K
  refine Ev.cd (fun c1 => ?_) (fun c1 => ?_)
  · first
  | (first | omega | contradiction)
  | refine Ev.skip ?_
    show Ev _ _ _ _
    refine Ev.seq ?_
    refine Ev.block ?_
    have hnx := skAt_next (show ¬ skMax l below = 0 by omega) hdn
    have hcb := skCnt_bd (skMax l below) l hok
    refine Ev.sr fun K hK => S.o q.mv (S.o q.mv (S.c0 (hF := rNumber_fun _ _ hok (by omega)) (h := S.o q.as (S.end (hK _ ?_)))))
    clear hK K
    refine Ev.seq ?_
    refine Ev.sr fun K hK => S.o q.mv (S.o q.gtr (S.end (hK _ ?_)))
    clear hK K
    refine Ev.cd (fun c2 => ?_) (fun c2 => ?_)
    · first
    | (first | omega | contradiction)
    | refine Ev.sr fun K hK => S.o q.as (S.o q.as (S.end (hK _ ?_)))
      clear hK K
      refine Ev.weaken (Wk.nsh pairC 2 2) ?_
      refine Ev.ret ?_
      refine hR0 _ _ ?_
      refine Ev.ret2 ?_
      refine ⟨?_, rfl⟩
      first
       | (rw [(shV_bad hnx.2 (by simp only; omega)).1, (shV_bad hnx.2 (by simp only; omega)).2]; done)
       | (have he : dn = skP l := by rw [skAt_nil (by omega), List.append_nil] at hdn; exact hdn
          have hg := shV_good (he ▸ hdg); rw [hg.1, hg.2, he]; done)
    · first
    | (first | omega | contradiction)
    | refine Ev.skip ?_
      show Ev _ _ _ _
      refine Ev.region_S fun K hK => S.o q.mv (S.o q.mv (S.o q.mv (S.o (q.bd [_, _] am_ze52 am_pl52) (S.nn (q.bs [[_, _]] true am_el28 am_ze52 am_cl52) (S.ap' [_] am_el28 am_ze52 am_cl52 am_by52 (hh := head_own') (hr := (rows_lit [(⟨_, _⟩ : Int × Int)])) (h := S.o q.as (S.end (hK _ ?_))))))))
      clear hK K
      show Ev _ _ _ _
      refine Ev.region_S fun K hK => S.o q.mv (S.o q.mv (S.c0 (hF := rnext_fun _ _ (by omega)) (h := S.o q.as (S.end (hK _ ?_)))))
      clear hK K
      refine hR0 _ _ ?_
      refine roundU [2] [0] ⟨(dn ++ [(skMax l below, skCnt l (skMax l below))], skMax l below), hnx.1, hm0, (by have := (hm1 (by omega)).2; omega), ?_⟩ ?_ (keep_c (he := (by first | rfl | (simp [pairC]; done))) (h := keep_n)) (slots_c (he := (by first | rfl | (congr 2; simp; done))) (h := (slots_c (he := (by first | rfl | (simp; done) | (congr 2; omega))) (h := trivial)))) (.c .n)
      intro p hp; simp only [List.mem_append, List.mem_singleton] at hp; rcases hp with hp | rfl
      · exact hdg p hp
      · simp only; omega
      all_goals (dsimp only; by_cases hz : skMax l (skMax l below) = 0 <;> first | omega | (have := (hm4 hz).2; omega))
  · first
  | (first | omega | contradiction)
  | refine Ev.exit ?_
    refine hR0 _ _ ?_
    show Ev _ _ _ _
    refine Ev.sr fun K hK => S.o q.mv (S.o q.as (S.o q.as (S.end (hK _ ?_))))
    clear hK K
    refine Ev.weaken (Wk.frz 2 []) ?_
    refine Ev.ret ?_
    refine Ev.ret2 ?_
    refine ⟨?_, rfl⟩
    first
     | (rw [(shV_bad hnx.2 (by simp only; omega)).1, (shV_bad hnx.2 (by simp only; omega)).2]; done)
     | (have he : dn = skP l := by rw [skAt_nil (by omega), List.append_nil] at hdn; exact hdn
        have hg := shV_good (he ▸ hdg); rw [hg.1, hg.2, he]; done)
end Go.Proofs.Ytaggnajjmopobaa
