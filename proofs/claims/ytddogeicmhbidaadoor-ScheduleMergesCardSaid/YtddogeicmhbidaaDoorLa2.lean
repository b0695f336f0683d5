/-
  The law ScheduleMerges, walked.
  Conditions: none.
-/
import Derived.Test.YtddogeicmhbidaaDoorAw1
namespace Go.Proofs.YtddogeicmhbidaaDoor
open Go Go.AM
set_option linter.unusedSimpArgs false
set_option linter.unusedVariables false
set_option maxRecDepth 100000
set_option maxHeartbeats 1000000

theorem mergeV_in (a b : List Bar) : (mergeV a b).length ≤ 60 ∧ ∀ x ∈ mergeV a b, x.dims.length ≤ 140737488355328 := by
  by_cases h : mergeE a b = 0
  · have hv : mergeV a b = mergeL a b := if_pos h
    unfold mergeE at h
    by_cases h1 : okSched a ∧ okSched b
    · rw [if_pos h1] at h
      have hg := mg_of h1.1 b h1.2.2.1 h1.2.2.2
      refine ⟨?_, fun x hx => ?_⟩
      · rw [hv]
        split at h
        · cases h
        · split at h
          · cases h
          · split at h
            · assumption
            · cases h
      · rw [hv] at hx
        have h2 := (hg.ok x hx).2.2.2.2.2.1
        have h3 := (dims_eq x.code).2.2.1
        omega
    · rw [if_neg h1] at h; cases h
  · have hv : mergeV a b = [] := if_neg h
    rw [hv]
    exact ⟨by decide, fun x hx => by cases hx⟩
theorem merges_law (a b : List Bar) (hal : a.length ≤ 140737488355328) (hbl : b.length ≤ 140737488355328) : Fun Tryd.prog 3 [.sh 5 (a.map Bar.c), .sh 5 (b.map Bar.c)] (Ret (.lit (.bool true)) []) := by
  obtain ⟨hml, hmd⟩ := mergeV_in a b
  refine Fun.of (nt := 51) (rs := [.tmp 4]) Tryd.func3 rfl rfl rfl rfl rfl ?_
  refine Ev.sr fun K hK => S.o q.as (S.end (hK _ ?_))
  clear hK K
  refine Ev.seq ?_
  refine Ev.sr fun K hK => S.c0 (hF := awake_fun) (h := S.o q.nott (S.end (hK _ ?_)))
  clear hK K
  refine Ev.cf ?_
  refine Ev.skip ?_
  show Ev _ _ _ _
  refine Ev.seq ?_
  refine Ev.sr fun K hK => S.o q.mv (S.o q.mv (S.nn (q.bs [[_], [_]] true am_el55 am_ze22 am_cl22) (S.c0 (hF := few_fun [a, b] (by simp) (fun x hx => by simp only [List.mem_cons, List.not_mem_nil, or_false] at hx; rcases hx with rfl | rfl <;> assumption)) (h := S.o q.not (S.end (hK _ ?_))))))
  clear hK K
  refine Ev.cn (fun c1 => ?_) (fun c1 => ?_)
  · first
  | (first | omega | contradiction)
  | refine Ev.sr fun K hK => S.o q.as (S.end (hK _ ?_))
    clear hK K
    refine Ev.ret ?_
    refine Ev.ret1 ?_
    refine ⟨?_, rfl⟩
    first | rfl | exact lawT rfl | exact lawT (by omega) | (exfalso; omega) | contradiction | (exfalso; simp at *; done)
  · first
  | (first | omega | contradiction)
  | refine Ev.skip ?_
    show Ev _ _ _ _
    have hsm : ∀ x ∈ [a, b], smallL x 70 := ‹_›
    have hsa := hsm a (by simp)
    have hsb := hsm b (by simp)
    have hwa := small_w hsa
    have hwb := small_w hsb
    have ha8 := hsa.1
    have hb8 := hsb.1
    refine Ev.sr fun K hK => S.o q.mv (S.o q.mv (S.c0 (hF := merge_fun a b hal hbl hwa hwb) (h := S.o q.mv (S.o q.ex (S.o q.ex (S.o q.as (S.o q.as (S.end (hK _ ?_)))))))))
    clear hK K
    refine Ev.seq ?_
    refine Ev.sr fun K hK => S.o q.mv (S.c0 (hF := rschedValid_fun _ (by omega) (by assumption)) (h := S.o q.not (S.bn q.mv (fun c2 => ?_) (fun c2 => ?_))))
    · first
    | (first | omega | contradiction)
    | refine S.sk (S.sk (S.sk (S.o q.pt (S.end (hK _ ?_)))))
      clear hK K
      refine Ev.ct ?_
      have hn : ¬ (okSched a ∧ okSched b) := fun h => by first | exact absurd h.1 ‹_› | exact absurd h.2 ‹_›
      obtain ⟨e1, e2⟩ := me1 hn
      have e3 : (mergeV a b).length = 0 := by rw [e2]; rfl
      refine Ev.sr fun K hK => S.o q.mv (S.o (q.lens am_el22) (S.o q.eql (S.bd q.mv (fun c3 => ?_) (fun c3 => ?_))))
      · first
      | (first | omega | contradiction)
      | refine S.o q.mv (S.o q.eql (S.o q.pt (S.o q.as (S.end (hK _ ?_)))))
        clear hK K
        refine Ev.ret ?_
        refine Ev.ret1 ?_
        refine ⟨?_, rfl⟩
        first | rfl | exact lawT rfl | exact lawT (by omega) | (exfalso; omega) | contradiction | (exfalso; simp at *; done)
      · first
      | (first | omega | contradiction)
      | refine S.sk (S.sk (S.o q.pf (S.o q.as (S.end (hK _ ?_)))))
        clear hK K
        refine Ev.ret ?_
        refine Ev.ret1 ?_
        refine ⟨?_, rfl⟩
        first | rfl | exact lawT rfl | exact lawT (by omega) | (exfalso; omega) | contradiction | (exfalso; simp at *; done)
    · first
    | (first | omega | contradiction)
    | refine S.o q.mv (S.c0 (hF := rschedValid_fun _ (by omega) (by assumption)) (h := S.o q.not (S.o q.pf (S.end (hK _ ?_)))))
      clear hK K
      refine Ev.cn (fun c4 => ?_) (fun c4 => ?_)
      · first
      | (first | omega | contradiction)
      | have hn : ¬ (okSched a ∧ okSched b) := fun h => by first | exact absurd h.1 ‹_› | exact absurd h.2 ‹_›
        obtain ⟨e1, e2⟩ := me1 hn
        have e3 : (mergeV a b).length = 0 := by rw [e2]; rfl
        refine Ev.sr fun K hK => S.o q.mv (S.o (q.lens am_el22) (S.o q.eql (S.bd q.mv (fun c5 => ?_) (fun c5 => ?_))))
        · first
        | (first | omega | contradiction)
        | refine S.o q.mv (S.o q.eql (S.o q.pt (S.o q.as (S.end (hK _ ?_)))))
          clear hK K
          refine Ev.ret ?_
          refine Ev.ret1 ?_
          refine ⟨?_, rfl⟩
          first | rfl | exact lawT rfl | exact lawT (by omega) | (exfalso; omega) | contradiction | (exfalso; simp at *; done)
        · first
        | (first | omega | contradiction)
        | refine S.sk (S.sk (S.o q.pf (S.o q.as (S.end (hK _ ?_)))))
          clear hK K
          refine Ev.ret ?_
          refine Ev.ret1 ?_
          refine ⟨?_, rfl⟩
          first | rfl | exact lawT rfl | exact lawT (by omega) | (exfalso; omega) | contradiction | (exfalso; simp at *; done)
      · first
      | (first | omega | contradiction)
      | refine Ev.skip ?_
        show Ev _ _ _ _
        refine Ev.sr fun K hK => S.o q.mv (S.o q.mv (S.c0 (hF := rmerge_fun _ _ (by assumption) (by assumption)) (h := S.o q.mv (S.o q.ex (S.o q.ex (S.o q.as (S.o q.as (S.end (hK _ ?_)))))))))
        clear hK K
        refine Ev.sr fun K hK => S.o q.mv (S.o q.mv (S.c0 (hF := same14_fun _ _ (by omega) (by omega) (by assumption) (by assumption)) (h := S.bd q.mv (fun c6 => ?_) (fun c6 => ?_))))
        · first
        | (first | omega | contradiction)
        | refine S.o q.mv (S.o q.mv (S.o q.eql (S.o q.pt (S.o q.as (S.end (hK _ ?_))))))
          clear hK K
          refine Ev.ret ?_
          refine Ev.ret1 ?_
          refine ⟨?_, rfl⟩
          first | rfl | exact lawT rfl | exact lawT (by omega) | (exfalso; omega) | contradiction | (exfalso; simp at *; done)
        · first
        | (first | omega | contradiction)
        | refine S.sk (S.sk (S.sk (S.o q.pf (S.o q.as (S.end (hK _ ?_))))))
          clear hK K
          refine Ev.ret ?_
          refine Ev.ret1 ?_
          refine ⟨?_, rfl⟩
          first | rfl | exact lawT rfl | exact lawT (by omega) | (exfalso; omega) | contradiction | (exfalso; simp at *; done)
end Go.Proofs.YtddogeicmhbidaaDoor
