/-
  The law BundleMakes, walked.
  Conditions: none.
-/
import Derived.Test.YtnbjmckhongidaaDoorLw0
namespace Go.Proofs.YtnbjmckhongidaaDoor
open Go Go.AM
set_option linter.unusedSimpArgs false
set_option linter.unusedVariables false
set_option maxRecDepth 100000
set_option maxHeartbeats 1000000

theorem makeV_le (l : List Bar) (most : Int) : (makeV l most).length ≤ 1000 := by
  unfold makeV
  split
  · rename_i h
    rw [bunL_len]
    exact (makeE_ok h).2.2.2
  · exact Nat.zero_le _
theorem makeV_w (l : List Bar) (most : Int) : bunW (makeV l most) := by
  intro b hb
  by_cases h : makeE l most = 0
  · exact okBun_w ((made_of h).ok.2.1 b hb)
  · rw [makeV, if_neg h] at hb; cases hb
theorem makes_law (l : List Bar) (most : Int) (hlen : l.length ≤ 140737488355328) : Fun Tryd.prog 3 [.sh 5 (l.map Bar.c), .lit (.int .i64 most)] (Ret (.lit (.bool true)) []) := by
  have hml := makeV_le l most
  refine Fun.of (nt := 33) (rs := [.tmp 4]) Tryd.func3 rfl rfl rfl rfl rfl ?_
  refine Ev.sr fun K hK => S.o q.as (S.end (hK _ ?_))
  clear hK K
  refine Ev.seq ?_
  refine Ev.sr fun K hK => S.c0 (hF := awake_fun) (h := S.o q.nott (S.end (hK _ ?_)))
  clear hK K
  refine Ev.cf ?_
  refine Ev.skip ?_
  show Ev _ _ _ _
  refine Ev.seq ?_
  refine Ev.sr fun K hK => S.o q.mv (S.c0 (hF := large_fun _ (by omega)) (h := S.end (hK _ ?_)))
  clear hK K
  refine Ev.cd (fun c1 => ?_) (fun c1 => ?_)
  · first
  | (first | omega | contradiction)
  | refine Ev.sr fun K hK => S.o q.as (S.end (hK _ ?_))
    clear hK K
    refine Ev.ret ?_
    refine Ev.ret1 ?_
    refine ⟨?_, rfl⟩
    first | rfl | exact lawT rfl | exact lawT (by omega) | (exfalso; omega) | contradiction | (exfalso; simp at *; done)
  · first
  | (first | omega | contradiction)
  | refine Ev.skip ?_
    show Ev _ _ _ _
    have hsm := Decidable.not_not.1 ‹¬ ¬ smallL l 8›
    have hw := small_w hsm
    have hl8 := hsm.1
    refine Ev.sr fun K hK => S.o q.mv (S.o q.mv (S.c0 (hF := bmake_fun _ _ (by omega) (by assumption)) (h := S.o q.mv (S.o q.ex (S.o q.ex (S.o q.as (S.o q.as (S.end (hK _ ?_)))))))))
    clear hK K
    refine Ev.sr fun K hK => S.o q.mv (S.o q.mv (S.c0 (hF := rmake_fun _ _ (by omega) (by assumption)) (h := S.o q.mv (S.o q.ex (S.o q.ex (S.o q.as (S.o q.as (S.end (hK _ ?_)))))))))
    clear hK K
    refine Ev.sr fun K hK => S.o q.mv (S.o q.mv (S.c0 (hF := rSame_fun _ _ (by omega) (by omega)) (h := S.bd q.mv (fun c2 => ?_) (fun c2 => ?_))))
    · first
    | (first | omega | contradiction)
    | refine S.o q.mv (S.o q.mv (S.o q.eql (S.o q.pt (S.o q.as (S.end (hK _ ?_))))))
      clear hK K
      refine Ev.ret ?_
      refine Ev.ret1 ?_
      refine ⟨?_, rfl⟩
      first | rfl | exact lawT rfl | exact lawT (by omega) | (exfalso; omega) | contradiction | (exfalso; simp at *; done)
    · first
    | (first | omega | contradiction)
    | refine S.sk (S.sk (S.sk (S.o q.pf (S.o q.as (S.end (hK _ ?_))))))
      clear hK K
      refine Ev.ret ?_
      refine Ev.ret1 ?_
      refine ⟨?_, rfl⟩
      first | rfl | exact lawT rfl | exact lawT (by omega) | (exfalso; omega) | contradiction | (exfalso; simp at *; done)
end Go.Proofs.YtnbjmckhongidaaDoor
