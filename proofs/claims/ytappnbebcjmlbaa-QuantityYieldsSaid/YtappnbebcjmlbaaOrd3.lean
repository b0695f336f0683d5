/-
  Layer 48: what the laws on patterns ask ahead.
  Conditions: none.
-/
import Derived.Test.YtappnbebcjmlbaaYl1
import Derived.Test.YtappnbebcjmlbaaSched
namespace Go.Proofs.Ytappnbebcjmlbaa
open Go Go.AM
set_option linter.unusedSimpArgs false
set_option linter.unusedVariables false
set_option maxRecDepth 100000
set_option maxHeartbeats 1000000
theorem indexMemPat (g : FuncId) (p : Pat → Bool) (l : List (Pat)) (hg : ∀ s ∈ l, Fun Try.prog g [.agg (patC s)] (Ret (.lit (.bool (p s))) [])) (hlen : l.length ≤ 140737488355328) :
    Fun Try.prog 44 [.sh 3 (l.map patC), .fn (.func g) [] []] (Ret (.lit (.int .i64 (idxP p l 0))) []) := by
  refine Fun.of (nt := 19) (rs := [.tmp 4]) Try.func44 rfl rfl rfl rfl rfl ?_
  refine Ev.sr fun K hK => S.o q.as (S.end (hK _ ?_))
  clear hK K
  refine Ev.seq ?_
  refine Ev.sr fun K hK => S.o q.mv (S.o (q.lens am_el47) (S.o q.mv (S.end (hK _ ?_))))
  clear hK K
  refine Ev.block ?_
  refine Ev.loopU (ι := {q : List (Pat) × List (Pat) // q.1 ++ q.2 = l ∧ ∀ x ∈ q.1, p x = false}) [] [0, 1, 7] (fun ⟨(pre, suf), _⟩ => [(8, .lit (.int .i64 ((pre.length : Int))))]) (fun ⟨(pre, suf), _⟩ => []) (fun ⟨(pre, suf), _⟩ => suf.length) ⟨([], l), rfl, fun x hx => by simp at hx⟩ (.c (.c (.c .n))) keep_n (slots_c (he := (by first | rfl | (simp; done) | (congr 2; omega))) (h := trivial)) ?_
  rintro ⟨⟨pre, suf⟩, hp, hinv⟩ R0 hR0
  dsimp only [List.cons_append, List.nil_append, List.length_cons, List.length_nil]
  simp only at hp hinv
  have hpl : pre.length + suf.length = (l).length := by rw [← hp, List.length_append]
  rcases suf with _ | ⟨s, suf⟩
  · rw [List.append_nil] at hp; subst pre; simp only [List.length_nil] at hpl
    refine Ev.sr fun K hK => S.o q.lss (S.end (hK _ ?_))
    clear hK K
    refine Ev.ud (fun c1 => ?_) (fun c1 => ?_)
    · first
    | (first | omega | contradiction)
    | refine Ev.seq ?_
      refine Ev.block ?_
      refine Ev.sr fun K hK => S.o q.mv (S.o q.as (S.end (hK _ ?_)))
      clear hK K
      refine Ev.sr fun K hK => S.o q.mv (S.o q.mv (S.o q.mv (S.o (q.ix am_el47 am_cl50 (hl := (by first | exact atig (by omega)))) (S.o (q.lsA [_, _, _] am_ag50 am_cl50) (S.c0 (hF := hg s (by rw [← hp]; simp)) (h := S.end (hK _ ?_)))))))
      clear hK K
      refine Ev.c (fun c2 => ?_) (fun c2 => ?_)
      · first
      | (first | omega | contradiction)
      | refine Ev.sr fun K hK => S.o q.mv (S.o q.as (S.end (hK _ ?_)))
        clear hK K
        refine Ev.ret ?_
        refine hR0 _ _ ?_
        refine Ev.ret1 ?_
        refine ⟨?_, rfl⟩
        first | (congr 2; rw [← hp, idxP_append p pre _ 0 hinv, idxP, if_pos ‹_›]; omega) | (congr 2; rw [idxP_none p l 0 hinv])
      · first
      | (first | omega | contradiction)
      | refine Ev.skip ?_
        show Ev _ _ _ _
        refine Ev.region_S fun K hK => S.o q.add (S.o q.mv (S.end (hK _ ?_)))
        clear hK K
        refine hR0 _ _ ?_
        refine roundU [] [0, 1, 7] ⟨(pre ++ [s], suf), by rw [← hp]; simp, ?_⟩ ?_ keep_n (slots_c (he := (by first | rfl | (simp; done) | (congr 2; omega))) (h := trivial)) (.c (.c (.c .n)))
        intro x hx; simp only [List.mem_append, List.mem_singleton] at hx; rcases hx with hx | rfl
        · exact hinv x hx
        · assumption
        all_goals (dsimp only; simp only [List.length_cons]; omega)
    · first
    | (first | omega | contradiction)
    | refine Ev.exit ?_
      refine hR0 _ _ ?_
      show Ev _ _ _ _
      refine Ev.sr fun K hK => S.o q.as (S.end (hK _ ?_))
      clear hK K
      refine Ev.ret ?_
      refine Ev.ret1 ?_
      refine ⟨?_, rfl⟩
      first | (congr 2; rw [← hp, idxP_append p pre _ 0 hinv, idxP, if_pos ‹_›]; omega) | (congr 2; rw [idxP_none p l 0 hinv])
  · simp only [List.length_cons] at hpl
    have hidx : (l)[pre.length]? = some s := by rw [← hp]; simp
    refine Ev.sr fun K hK => S.o q.lss (S.end (hK _ ?_))
    clear hK K
    refine Ev.ud (fun c3 => ?_) (fun c3 => ?_)
    · first
    | (first | omega | contradiction)
    | refine Ev.seq ?_
      refine Ev.block ?_
      refine Ev.sr fun K hK => S.o q.mv (S.o q.as (S.end (hK _ ?_)))
      clear hK K
      refine Ev.sr fun K hK => S.o q.mv (S.o q.mv (S.o q.mv (S.o (q.ix am_el47 am_cl50 (hl := (by first | exact ati hidx (by omega) | exact atig (by omega)))) (S.o (q.lsA [_, _, _] am_ag50 am_cl50) (S.c0 (hF := hg s (by rw [← hp]; simp)) (h := S.end (hK _ ?_)))))))
      clear hK K
      refine Ev.c (fun c4 => ?_) (fun c4 => ?_)
      · first
      | (first | omega | contradiction)
      | refine Ev.sr fun K hK => S.o q.mv (S.o q.as (S.end (hK _ ?_)))
        clear hK K
        refine Ev.ret ?_
        refine hR0 _ _ ?_
        refine Ev.ret1 ?_
        refine ⟨?_, rfl⟩
        first | (congr 2; rw [← hp, idxP_append p pre _ 0 hinv, idxP, if_pos ‹_›]; omega) | (congr 2; rw [idxP_none p l 0 hinv])
      · first
      | (first | omega | contradiction)
      | refine Ev.skip ?_
        show Ev _ _ _ _
        refine Ev.region_S fun K hK => S.o q.add (S.o q.mv (S.end (hK _ ?_)))
        clear hK K
        refine hR0 _ _ ?_
        refine roundU [] [0, 1, 7] ⟨(pre ++ [s], suf), by rw [← hp]; simp, ?_⟩ ?_ keep_n (slots_c (he := (by first | rfl | (simp; done) | (congr 2; omega))) (h := trivial)) (.c (.c (.c .n)))
        intro x hx; simp only [List.mem_append, List.mem_singleton] at hx; rcases hx with hx | rfl
        · exact hinv x hx
        · assumption
        all_goals (dsimp only; simp only [List.length_cons]; omega)
    · first
    | (first | omega | contradiction)
    | refine Ev.exit ?_
      refine hR0 _ _ ?_
      show Ev _ _ _ _
      refine Ev.sr fun K hK => S.o q.as (S.end (hK _ ?_))
      clear hK K
      refine Ev.ret ?_
      refine Ev.ret1 ?_
      refine ⟨?_, rfl⟩
      first | (congr 2; rw [← hp, idxP_append p pre _ 0 hinv, idxP, if_pos ‹_›]; omega) | (congr 2; rw [idxP_none p l 0 hinv])
theorem containsMemPat (g : FuncId) (p : Pat → Bool) (l : List (Pat)) (hg : ∀ s ∈ l, Fun Try.prog g [.agg (patC s)] (Ret (.lit (.bool (p s))) [])) (hlen : l.length ≤ 140737488355328) :
    Fun Try.prog 22 [.sh 3 (l.map patC), .fn (.func g) [] []] (Ret (.lit (.bool (decide (∃ x ∈ l, p x = true)))) []) := by
  have hd : (decide (∃ x ∈ l, p x = true)) = decide (0 ≤ idxP p l 0) := by simp only [idxP_nonneg p l 0 (Int.le_refl _)]
  rw [hd]
  refine Fun.of (nt := 9) (rs := [.tmp 4]) Try.func22 rfl rfl rfl rfl rfl ?_
  refine Ev.sr fun K hK => S.o q.as (S.end (hK _ ?_))
  clear hK K
  refine Ev.sr fun K hK => S.o q.mv (S.o q.mv (S.c0 (hF := indexMemPat g p l hg hlen) (h := S.o q.geq (S.o q.as (S.end (hK _ ?_))))))
  clear hK K
  refine Ev.ret ?_
  refine Ev.ret1 ?_
  refine ⟨?_, rfl⟩
  rfl
theorem bigOrders_fun (x : Pat) : Fun Try.prog 23 [.agg (patC x)] (Ret (.lit (.bool (decide (30 < (x.2.1.length : Int))))) []) := by
  obtain ⟨xa, xl, xt⟩ := x
  refine Fun.of (nt := 7) (rs := [.tmp 2]) Try.func23 rfl rfl rfl rfl rfl ?_
  refine Ev.sr fun K hK => S.nn (q.bx [_, _, _] true) (S.o q.as (S.end (hK _ ?_)))
  clear hK K
  refine Ev.sr fun K hK => S.o (q.fa 1 am_fi50_1 am_cl38) (S.o (q.lv am_ag38) (S.o (q.lens am_el38) (S.o q.gtr (S.o q.as (S.end (hK _ ?_))))))
  clear hK K
  refine Ev.ret ?_
  refine Ev.ret1 ?_
  refine ⟨?_, rfl⟩
  rfl
theorem bigYields_fun (x : Pat) : Fun Try.prog 26 [.agg (patC x)] (Ret (.lit (.bool (decide (30 < (x.2.1.length : Int))))) []) := by
  obtain ⟨xa, xl, xt⟩ := x
  refine Fun.of (nt := 7) (rs := [.tmp 2]) Try.func26 rfl rfl rfl rfl rfl ?_
  refine Ev.sr fun K hK => S.nn (q.bx [_, _, _] true) (S.o q.as (S.end (hK _ ?_)))
  clear hK K
  refine Ev.sr fun K hK => S.o (q.fa 1 am_fi50_1 am_cl38) (S.o (q.lv am_ag38) (S.o (q.lens am_el38) (S.o q.gtr (S.o q.as (S.end (hK _ ?_))))))
  clear hK K
  refine Ev.ret ?_
  refine Ev.ret1 ?_
  refine ⟨?_, rfl⟩
  rfl

def bigP (p : List Pat) : Prop := ∃ x ∈ p, decide (30 < (x.2.1.length : Int)) = true
theorem pats_w {p : List Pat} (h : ¬ bigP p) : ∀ x ∈ p, x.2.1.length ≤ 30 := by
  intro x hx
  rcases Nat.lt_or_ge 30 x.2.1.length with h1 | h1
  · exact absurd ⟨x, hx, decide_eq_true (by omega)⟩ h
  · exact h1
end Go.Proofs.Ytappnbebcjmlbaa
