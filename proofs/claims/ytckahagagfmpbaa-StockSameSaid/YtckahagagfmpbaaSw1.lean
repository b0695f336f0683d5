/-
  The law StockForms, walked.
  Conditions: none.
-/
import Derived.Test.YtckahagagfmpbaaSo6
import Derived.Test.YtckahagagfmpbaaSo7
namespace Go.Proofs.Ytckahagagfmpbaa
open Go Go.AM
set_option linter.unusedSimpArgs false
set_option linter.unusedVariables false
set_option maxRecDepth 100000
set_option maxHeartbeats 1000000

theorem fit_ord {s l : List (Int × Int)} (h : ¬ okOrd l) : ¬ fitV s l ∧ fitE s l = 1 ∧ tlV l = 0 ∧ tlE l = 1 := ⟨fun hv => h hv.2.1, if_neg fun hv => h hv.2, if_neg h, if_neg h⟩
theorem fit_stk {s l : List (Int × Int)} (h : ¬ okStock s) : ¬ fitV s l ∧ fitE s l = 1 := ⟨fun hv => h hv.1, if_neg fun hv => h hv.1⟩
theorem fit_ok {s l : List (Int × Int)} (h : okStock s) (h2 : okOrd l) : decide (fitV s l) = decide (fitP s l) ∧ fitE s l = 0 := ⟨decide_eq_decide.2 ⟨fun hv => hv.2.2, fun hp => ⟨h, h2, hp⟩⟩, if_pos ⟨h, h2⟩⟩
theorem tl_ok {l : List (Int × Int)} (h2 : okOrd l) : tlV l = totP l ∧ tlE l = 0 := ⟨if_pos h2, if_pos h2⟩
theorem forms_law (s l : List (Int × Int)) (hs : s.length ≤ 140737488355328) (hl : l.length ≤ 140737488355328) : Fun Try.prog 3 [.sh 2 (s.map pairC), .sh 2 (l.map pairC)] (Ret (.lit (.bool true)) []) := by
  refine Fun.of (nt := 86) (rs := [.tmp 4]) Try.func3 rfl rfl rfl rfl rfl ?_
  refine Ev.sr fun K hK => S.o q.as (S.end (hK _ ?_))
  clear hK K
  refine Ev.seq ?_
  refine Ev.sr fun K hK => S.c0 (hF := awake_fun) (h := S.o q.nott (S.end (hK _ ?_)))
  clear hK K
  refine Ev.cf ?_
  refine Ev.skip ?_
  show Ev _ _ _ _
  refine Ev.seq ?_
  refine Ev.sr fun K hK => S.o q.mv (S.o (q.lens am_el22) (S.o q.gtr (S.bd q.mv (fun c1 => ?_) (fun c1 => ?_))))
  · first
  | (first | omega | contradiction)
  | refine S.sk (S.sk (S.sk (S.sk (S.o q.pt (S.end (hK _ ?_))))))
    clear hK K
    refine Ev.ct ?_
    refine Ev.sr fun K hK => S.o q.as (S.end (hK _ ?_))
    clear hK K
    refine Ev.ret ?_
    refine Ev.ret1 ?_
    refine ⟨?_, rfl⟩
    first | rfl | exact lawT rfl | exact lawT (by omega) | (exfalso; omega) | contradiction | (exfalso; simp_all; done) | (exfalso; simp at *; done)
  · first
  | (first | omega | contradiction)
  | refine S.o q.mv (S.nn (q.bs [[_]] true am_el59 am_ze23 am_cl23) (S.c0 (hF := few_fun [l] (by simp) (fun x hx => by simp only [List.mem_cons, List.not_mem_nil, or_false] at hx; first | (rcases hx with rfl | rfl <;> assumption) | (subst hx; assumption))) (h := S.o q.not (S.o q.pf (S.end (hK _ ?_))))))
    clear hK K
    refine Ev.cn (fun c2 => ?_) (fun c2 => ?_)
    · first
    | (first | omega | contradiction)
    | refine Ev.sr fun K hK => S.o q.as (S.end (hK _ ?_))
      clear hK K
      refine Ev.ret ?_
      refine Ev.ret1 ?_
      refine ⟨?_, rfl⟩
      first | rfl | exact lawT rfl | exact lawT (by omega) | (exfalso; omega) | contradiction | (exfalso; simp_all; done) | (exfalso; simp at *; done)
    · first
    | (first | omega | contradiction)
    | refine Ev.skip ?_
      show Ev _ _ _ _
      have hfl : l.length ≤ 220 := (‹∀ x ∈ [l], x.length ≤ 220› : ∀ x ∈ [l], x.length ≤ 220) l (by simp)
      refine Ev.sr fun K hK => S.o q.mv (S.o q.mv (S.c0 (hF := stFits_fun _ _ (by omega) (by omega)) (h := S.o q.mv (S.o q.ex (S.o q.ex (S.o q.as (S.o q.as (S.end (hK _ ?_)))))))))
      clear hK K
      refine Ev.sr fun K hK => S.o q.mv (S.c0 (hF := stTotal_fun _ (by omega)) (h := S.o q.mv (S.o q.ex (S.o q.ex (S.o q.as (S.o q.as (S.end (hK _ ?_))))))))
      clear hK K
      refine Ev.seq ?_
      refine Ev.sr fun K hK => S.o q.mv (S.c0 (hF := stValid_fun _ (by omega)) (h := S.o q.mv (S.c0 (hF := rValid_fun _ (by omega)) (h := S.o (q.bneq am_un4) (S.bb q.mv (fun c3 => ?_) (fun c3 => ?_))))))
      · first
      | (first | omega | contradiction)
      | refine S.sk (S.sk (S.sk (S.sk (S.sk (S.o q.pt (S.end (hK _ ?_)))))))
        clear hK K
        refine Ev.ct ?_
        refine Ev.sr fun K hK => S.o q.as (S.end (hK _ ?_))
        clear hK K
        refine Ev.ret ?_
        refine Ev.ret1 ?_
        refine ⟨?_, rfl⟩
        first | rfl | exact lawT rfl | exact lawT (by omega) | (exfalso; omega) | contradiction | (exfalso; simp_all; done) | (exfalso; simp at *; done)
      · first
      | (first | omega | contradiction)
      | refine S.o q.mv (S.c0 (hF := order_fun _ (by omega)) (h := S.o q.mv (S.c0 (hF := rorder_fun _ (by omega)) (h := S.o (q.bneq am_un4) (S.o q.pf (S.end (hK _ ?_)))))))
        clear hK K
        refine Ev.c (fun c4 => ?_) (fun c4 => ?_)
        · first
        | (first | omega | contradiction)
        | refine Ev.sr fun K hK => S.o q.as (S.end (hK _ ?_))
          clear hK K
          refine Ev.ret ?_
          refine Ev.ret1 ?_
          refine ⟨?_, rfl⟩
          first | rfl | exact lawT rfl | exact lawT (by omega) | (exfalso; omega) | contradiction | (exfalso; simp_all; done) | (exfalso; simp at *; done)
        · first
        | (first | omega | contradiction)
        | refine Ev.skip ?_
          show Ev _ _ _ _
          refine Ev.seq ?_
          refine Ev.sr fun K hK => S.o q.mv (S.c0 (hF := rorder_fun _ (by omega)) (h := S.o q.not (S.end (hK _ ?_))))
          clear hK K
          refine Ev.cn (fun c5 => ?_) (fun c5 => ?_)
          · first
          | (first | omega | contradiction)
          | obtain ⟨e1, e2, e3, e4⟩ := fit_ord (s := s) ‹¬ okOrd l›
            refine Ev.sr fun K hK => S.o q.mv (S.o q.not (S.bn q.mv (fun c6 => ?_) (fun c6 => ?_)))
            · first
            | (first | omega | contradiction)
            | refine S.o q.mv (S.o q.eql (S.o q.pt (S.bd q.mv (fun c7 => ?_) (fun c7 => ?_))))
              · first
              | (first | omega | contradiction)
              | refine S.o q.mv (S.o q.eql (S.o q.pt (S.bd q.mv (fun c8 => ?_) (fun c8 => ?_))))
                · first
                | (first | omega | contradiction)
                | refine S.o q.mv (S.o q.eql (S.o q.pt (S.o q.as (S.end (hK _ ?_)))))
                  clear hK K
                  refine Ev.ret ?_
                  refine Ev.ret1 ?_
                  refine ⟨?_, rfl⟩
                  first | rfl | exact lawT rfl | exact lawT (by omega) | (exfalso; omega) | contradiction | (exfalso; simp_all; done) | (exfalso; simp at *; done)
                · first
                | (first | omega | contradiction)
                | refine S.sk (S.sk (S.o q.pf (S.o q.as (S.end (hK _ ?_)))))
                  clear hK K
                  refine Ev.ret ?_
                  refine Ev.ret1 ?_
                  refine ⟨?_, rfl⟩
                  first | rfl | exact lawT rfl | exact lawT (by omega) | (exfalso; omega) | contradiction | (exfalso; simp_all; done) | (exfalso; simp at *; done)
              · first
              | (first | omega | contradiction)
              | refine S.sk (S.sk (S.o q.pf (S.o q.mv (S.sk (S.sk (S.o q.pf (S.o q.as (S.end (hK _ ?_)))))))))
                clear hK K
                refine Ev.ret ?_
                refine Ev.ret1 ?_
                refine ⟨?_, rfl⟩
                first | rfl | exact lawT rfl | exact lawT (by omega) | (exfalso; omega) | contradiction | (exfalso; simp_all; done) | (exfalso; simp at *; done)
            · first
            | (first | omega | contradiction)
            | refine S.sk (S.sk (S.o q.pf (S.o q.mv (S.sk (S.sk (S.o q.pf (S.o q.mv (S.sk (S.sk (S.o q.pf (S.o q.as (S.end (hK _ ?_)))))))))))))
              clear hK K
              refine Ev.ret ?_
              refine Ev.ret1 ?_
              refine ⟨?_, rfl⟩
              first | rfl | exact lawT rfl | exact lawT (by omega) | (exfalso; omega) | contradiction | (exfalso; simp_all; done) | (exfalso; simp at *; done)
          · first
          | (first | omega | contradiction)
          | refine Ev.skip ?_
            show Ev _ _ _ _
            refine Ev.seq ?_
            have hok : okOrd l := ‹okOrd l›
            obtain ⟨e1, e2⟩ := tl_ok hok
            refine Ev.sr fun K hK => S.o q.mv (S.o q.mv (S.c0 (hF := rTotal_fun _ (by assumption)) (h := S.o q.neq (S.bn q.mv (fun c9 => ?_) (fun c9 => ?_)))))
            · first
            | (first | omega | contradiction)
            | refine S.sk (S.sk (S.o q.pt (S.end (hK _ ?_))))
              clear hK K
              refine Ev.ct ?_
              refine Ev.sr fun K hK => S.o q.as (S.end (hK _ ?_))
              clear hK K
              refine Ev.ret ?_
              refine Ev.ret1 ?_
              refine ⟨?_, rfl⟩
              first | rfl | exact lawT rfl | exact lawT (by omega) | (exfalso; omega) | contradiction | (exfalso; simp_all; done) | (exfalso; simp at *; done)
            · first
            | (first | omega | contradiction)
            | refine S.o q.mv (S.o q.neq (S.o q.pf (S.end (hK _ ?_))))
              clear hK K
              refine Ev.cn (fun c10 => ?_) (fun c10 => ?_)
              · first
              | (first | omega | contradiction)
              | refine Ev.sr fun K hK => S.o q.as (S.end (hK _ ?_))
                clear hK K
                refine Ev.ret ?_
                refine Ev.ret1 ?_
                refine ⟨?_, rfl⟩
                first | rfl | exact lawT rfl | exact lawT (by omega) | (exfalso; omega) | contradiction | (exfalso; simp_all; done) | (exfalso; simp at *; done)
              · first
              | (first | omega | contradiction)
              | refine Ev.skip ?_
                show Ev _ _ _ _
                refine Ev.seq ?_
                refine Ev.sr fun K hK => S.o q.mv (S.c0 (hF := rValid_fun _ (by omega)) (h := S.o q.not (S.end (hK _ ?_))))
                clear hK K
                refine Ev.cn (fun c11 => ?_) (fun c11 => ?_)
                · first
                | (first | omega | contradiction)
                | obtain ⟨e3, e4⟩ := fit_stk (l := l) ‹¬ okStock s›
                  refine Ev.sr fun K hK => S.o q.mv (S.o q.not (S.bn q.mv (fun c12 => ?_) (fun c12 => ?_)))
                  · first
                  | (first | omega | contradiction)
                  | refine S.o q.mv (S.o q.eql (S.o q.pt (S.o q.as (S.end (hK _ ?_)))))
                    clear hK K
                    refine Ev.ret ?_
                    refine Ev.ret1 ?_
                    refine ⟨?_, rfl⟩
                    first | rfl | exact lawT rfl | exact lawT (by omega) | (exfalso; omega) | contradiction | (exfalso; simp_all; done) | (exfalso; simp at *; done)
                  · first
                  | (first | omega | contradiction)
                  | refine S.sk (S.sk (S.o q.pf (S.o q.as (S.end (hK _ ?_)))))
                    clear hK K
                    refine Ev.ret ?_
                    refine Ev.ret1 ?_
                    refine ⟨?_, rfl⟩
                    first | rfl | exact lawT rfl | exact lawT (by omega) | (exfalso; omega) | contradiction | (exfalso; simp_all; done) | (exfalso; simp at *; done)
                · first
                | (first | omega | contradiction)
                | refine Ev.skip ?_
                  show Ev _ _ _ _
                  obtain ⟨e3, e4⟩ := fit_ok ‹okStock s› hok
                  refine Ev.sr fun K hK => S.o q.mv (S.o q.mv (S.o q.mv (S.c0 (hF := rFits_fun _ _ (by omega) (by omega)) (h := S.o (q.beql am_un4) (S.bb q.mv (fun c13 => ?_) (fun c13 => ?_))))))
                  · first
                  | (first | omega | contradiction)
                  | refine S.o q.mv (S.o q.eql (S.o q.pt (S.o q.as (S.end (hK _ ?_)))))
                    clear hK K
                    refine Ev.ret ?_
                    refine Ev.ret1 ?_
                    refine ⟨?_, rfl⟩
                    first | rfl | exact lawT rfl | exact lawT (by omega) | (exfalso; omega) | contradiction | (exfalso; simp_all; done) | (exfalso; simp at *; done)
                  · first
                  | (first | omega | contradiction)
                  | refine S.sk (S.sk (S.o q.pf (S.o q.as (S.end (hK _ ?_)))))
                    clear hK K
                    refine Ev.ret ?_
                    refine Ev.ret1 ?_
                    refine ⟨?_, rfl⟩
                    first | rfl | exact lawT rfl | exact lawT (by omega) | (exfalso; omega) | contradiction | (exfalso; simp_all; done) | (exfalso; simp at *; done)
end Go.Proofs.Ytckahagagfmpbaa
