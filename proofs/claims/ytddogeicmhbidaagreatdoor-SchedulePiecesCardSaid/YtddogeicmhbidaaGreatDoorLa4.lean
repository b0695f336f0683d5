/-
  The law SchedulePieces, walked.
  Conditions: none.
-/
import Derived.Test.YtddogeicmhbidaaGreatDoorAw1
import Derived.Test.YtddogeicmhbidaaGreatDoorPc2
namespace Go.Proofs.YtddogeicmhbidaaGreatDoor
open Go Go.AM
set_option linter.unusedSimpArgs false
set_option linter.unusedVariables false
set_option maxRecDepth 100000
set_option maxHeartbeats 1000000
theorem kind14_fun (d : Int) : Fun Tryz.prog 10 [.lit (.int .i64 d)] (Ret (.lit (.bool (decide (d ∈ sizes)))) []) := by
  refine Fun.of (nt := 5) (rs := [.tmp 2]) Tryz.func10 rfl rfl rfl rfl rfl ?_
  refine Ev.sr fun K hK => S.o q.as (S.end (hK _ ?_))
  clear hK K
  refine Ev.sr fun K hK => S.o q.mv (S.c0 (hF := rsize_fun _) (h := S.o q.as (S.end (hK _ ?_))))
  clear hK K
  refine Ev.ret ?_
  refine Ev.ret1 ?_
  refine ⟨?_, rfl⟩
  rfl
theorem pcV_len (l : List Bar) (d : Int) : (pcV l d).length ≤ 60 := by
  unfold pcV
  split
  · rename_i h
    have h1 := pcP_len h.1.2.1 d
    have h2 := h.1.1
    omega
  · simp
theorem pieces_law (l : List Bar) (d : Int) (hlen : l.length ≤ 140737488355328) : Fun Tryz.prog 3 [.sh 5 (l.map Bar.c), .lit (.int .i64 d)] (Ret (.lit (.bool true)) []) := by
  have hpl := pcV_len l d
  refine Fun.of (nt := 50) (rs := [.tmp 4]) Tryz.func3 rfl rfl rfl rfl rfl ?_
  refine Ev.sr fun K hK => S.o q.as (S.end (hK _ ?_))
  clear hK K
  refine Ev.seq ?_
  refine Ev.sr fun K hK => S.c0 (hF := awake_fun) (h := S.o q.nott (S.end (hK _ ?_)))
  clear hK K
  refine Ev.cf ?_
  refine Ev.skip ?_
  show Ev _ _ _ _
  refine Ev.seq ?_
  refine Ev.sr fun K hK => S.o q.mv (S.nn (q.bs [[_]] true am_el53 am_ze22 am_cl22) (S.c0 (hF := few_fun [l] (by simp) (fun x hx => by rw [List.mem_singleton] at hx; subst hx; exact hlen)) (h := S.o q.not (S.end (hK _ ?_)))))
  clear hK K
  refine Ev.cn (fun c1 => ?_) (fun c1 => ?_)
  · first
  | (first | omega | contradiction)
  | refine Ev.sr fun K hK => S.o q.as (S.end (hK _ ?_))
    clear hK K
    refine Ev.ret ?_
    refine Ev.ret1 ?_
    refine ⟨?_, rfl⟩
    first | rfl | exact lawT rfl | exact lawT (by omega) | (exfalso; omega) | contradiction | (exfalso; simp at *; done)
  · first
  | (first | omega | contradiction)
  | refine Ev.skip ?_
    show Ev _ _ _ _
    have hsm : smallL l 70 := (‹∀ x ∈ [l], smallL x 70› : ∀ x ∈ [l], smallL x 70) l (by simp)
    have hw := small_w hsm
    have hl8 := hsm.1
    refine Ev.sr fun K hK => S.o q.mv (S.o q.mv (S.c0 (hF := Pieces_fun _ _ (by omega) (by assumption)) (h := S.o q.mv (S.o q.ex (S.o q.ex (S.o q.as (S.o q.as (S.end (hK _ ?_)))))))))
    clear hK K
    refine Ev.seq ?_
    refine Ev.block ?_
    refine Ev.sr fun K hK => S.o q.mv (S.c0 (hF := rschedValid_fun _ (by omega) (by assumption)) (h := S.o q.not (S.o q.as (S.end (hK _ ?_)))))
    clear hK K
    refine Ev.cn (fun c2 => ?_) (fun c2 => ?_)
    · first
    | (first | omega | contradiction)
    | have e1 : pcV l d = [] := if_neg fun h => absurd h.1 ‹_›
      have e2 : pcE l d = 1 := if_neg ‹_›
      have e3 : (pcV l d).length = 0 := by rw [e1]; rfl
      refine Ev.sr fun K hK => S.o q.mv (S.o (q.lens am_el25) (S.o q.eql (S.bd q.mv (fun c3 => ?_) (fun c3 => ?_))))
      · first
      | (first | omega | contradiction)
      | refine S.o q.mv (S.o q.eql (S.o q.pt (S.o q.as (S.end (hK _ ?_)))))
        clear hK K
        refine Ev.ret ?_
        refine Ev.ret1 ?_
        refine ⟨?_, rfl⟩
        first | rfl | exact lawT rfl | exact lawT (by omega) | (exfalso; omega) | contradiction | (exfalso; simp at *; done)
      · first
      | (first | omega | contradiction)
      | refine S.sk (S.sk (S.o q.pf (S.o q.as (S.end (hK _ ?_)))))
        clear hK K
        refine Ev.ret ?_
        refine Ev.ret1 ?_
        refine ⟨?_, rfl⟩
        first | rfl | exact lawT rfl | exact lawT (by omega) | (exfalso; omega) | contradiction | (exfalso; simp at *; done)
    · first
    | (first | omega | contradiction)
    | refine Ev.sr fun K hK => S.o q.mv (S.c0 (hF := kind14_fun _) (h := S.o q.not (S.o q.as (S.end (hK _ ?_)))))
      clear hK K
      refine Ev.cn (fun c4 => ?_) (fun c4 => ?_)
      · first
      | (first | omega | contradiction)
      | have e1 : pcV l d = [] := if_neg fun h => absurd h.2 ‹_›
        have e2 : pcE l d = 11 := (if_pos ‹_›).trans (if_neg ‹_›)
        have e3 : (pcV l d).length = 0 := by rw [e1]; rfl
        refine Ev.sr fun K hK => S.o q.mv (S.o (q.lens am_el25) (S.o q.eql (S.bd q.mv (fun c5 => ?_) (fun c5 => ?_))))
        · first
        | (first | omega | contradiction)
        | refine S.o q.mv (S.o q.eql (S.o q.pt (S.o q.as (S.end (hK _ ?_)))))
          clear hK K
          refine Ev.ret ?_
          refine Ev.ret1 ?_
          refine ⟨?_, rfl⟩
          first | rfl | exact lawT rfl | exact lawT (by omega) | (exfalso; omega) | contradiction | (exfalso; simp at *; done)
        · first
        | (first | omega | contradiction)
        | refine S.sk (S.sk (S.o q.pf (S.o q.as (S.end (hK _ ?_)))))
          clear hK K
          refine Ev.ret ?_
          refine Ev.ret1 ?_
          refine ⟨?_, rfl⟩
          first | rfl | exact lawT rfl | exact lawT (by omega) | (exfalso; omega) | contradiction | (exfalso; simp at *; done)
      · first
      | (first | omega | contradiction)
      | refine Ev.skip ?_
        show Ev _ _ _ _
        have hok : okSched l := ‹_›
        have hsz : d ∈ sizes := ‹_›
        have e1 : pcV l d = pcP l d := if_pos ⟨hok, hsz⟩
        have e2 : pcE l d = 0 := (if_pos hok).trans (if_pos hsz)
        have hql : (pcP l d).length ≤ 60 := e1 ▸ hpl
        refine Ev.sr fun K hK => S.o q.mv (S.o q.mv (S.o q.mv (S.c0 (hF := rpieces_fun l d hok) (h := S.c0 (hF := eqPc_fun _ _ (by omega) (by omega)) (h := S.bd q.mv (fun c6 => ?_) (fun c6 => ?_))))))
        · first
        | (first | omega | contradiction)
        | refine S.o q.mv (S.o q.eql (S.o q.pt (S.o q.as (S.end (hK _ ?_)))))
          clear hK K
          refine Ev.ret ?_
          refine Ev.ret1 ?_
          refine ⟨?_, rfl⟩
          first | rfl | exact lawT rfl | exact lawT (by omega) | (exfalso; omega) | contradiction | (exfalso; simp at *; done)
        · first
        | (first | omega | contradiction)
        | refine S.sk (S.sk (S.o q.pf (S.o q.as (S.end (hK _ ?_)))))
          clear hK K
          refine Ev.ret ?_
          refine Ev.ret1 ?_
          refine ⟨?_, rfl⟩
          first | rfl | exact lawT rfl | exact lawT (by omega) | (exfalso; omega) | contradiction | (exfalso; simp at *; done)
end Go.Proofs.YtddogeicmhbidaaGreatDoor
