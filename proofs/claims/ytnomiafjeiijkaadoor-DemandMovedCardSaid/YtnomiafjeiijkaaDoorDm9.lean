/-
  Chapter 23: the laws DemandForms and DemandPeaks, walked.
  Conditions: none.
-/
import Derived.Test.YtnomiafjeiijkaaDoorDm8
namespace Go.Proofs.YtnomiafjeiijkaaDoor
open Go Go.AM
set_option linter.unusedSimpArgs false
set_option linter.unusedVariables false
set_option maxRecDepth 100000
set_option maxHeartbeats 1000000

theorem scD_w {d : Dem} (num den : Int) (hw : d.w) : (scD d num den).w := by
  unfold scD
  split
  · exact ⟨hw.1, by rw [scL_len]; exact hw.2⟩
  · exact ⟨by decide, by decide⟩
theorem in_eq {d : Dem} {b : Bx} (h1 : okDem d) (h2 : okBx b) : decide (inDV d b) = decide (rInP d.zone b) := decide_eq_decide.2 ⟨fun h => h.2.2, fun h => ⟨h1, h2, h⟩⟩
theorem inE_t {d : Dem} {b : Bx} (h1 : okDem d) (h2 : okBx b) : inDE d b = 0 := by unfold inDE okE1; exact if_pos ⟨h1, h2⟩
theorem inE_f {d : Dem} {b : Bx} (h : ¬ (okDem d ∧ okBx b)) : inDE d b = 1 ∧ ¬ inDV d b := ⟨by unfold inDE okE1; exact if_neg h, fun hv => h ⟨hv.1, hv.2.1⟩⟩
theorem lawB {p q : Prop} [Decidable p] [Decidable q] (h : decide p = decide q) : AV.lit (.bool (decide p == decide q)) = .lit (.bool true) := by rw [h]; simp
theorem forms_law (l : List Dem) (d : Dem) (x : Int) (b : Bx) (hl : l.length ≤ 140737488355328) (hwl : demW l) (hwd : d.w) : Fun Tryd.prog 5 [.sh 8 (l.map Dem.c), .agg d.c, .lit (.int .i64 x), .agg b.c] (Ret (.lit (.bool true)) []) := by
  refine Fun.of (nt := 87) (rs := [.tmp 8]) Tryd.func5 rfl rfl rfl rfl rfl ?_
  refine Ev.sr fun K hK => S.nn (q.bx [_, _, _, _, _, _, _, _] true) (S.nn (q.bx [_, _, _, _, _, _] true) (S.o q.as (S.end (hK _ ?_))))
  clear hK K
  refine Ev.seq ?_
  refine Ev.sr fun K hK => S.c0 (hF := awake_fun) (h := S.o q.nott (S.end (hK _ ?_)))
  clear hK K
  refine Ev.cf ?_
  refine Ev.skip ?_
  show Ev _ _ _ _
  refine Ev.seq ?_
  refine Ev.sr fun K hK => S.o q.mv (S.c0 (hF := small_fun _ (by omega)) (h := S.o q.not (S.bn q.mv (fun c1 => ?_) (fun c1 => ?_))))
  · first
  | (first | omega | contradiction)
  | refine S.sk (S.sk (S.sk (S.sk (S.o q.pt (S.end (hK _ ?_))))))
    clear hK K
    refine Ev.ct ?_
    refine Ev.sr fun K hK => S.o q.as (S.end (hK _ ?_))
    clear hK K
    refine Ev.ret ?_
    refine Ev.ret1 ?_
    refine ⟨?_, rfl⟩
    first | rfl | exact lawT rfl | exact lawT (by omega) | exact lawT (by assumption) | (exfalso; omega) | exact lawB hv | contradiction | (exfalso; simp_all; done) | (exfalso; simp at *; done)
  · first
  | (first | omega | contradiction)
  | refine S.o (q.lvA [_, _, _, _, _, _, _, _] am_ag28 am_cl28) (S.nn (q.bs [[_, _, _, _, _, _, _, _]] true am_el41 am_ze28 am_cl28) ?_)
    refine SeqL.weaken (Wk.frzl (f := Dem.c) [d] 20 [_, _]) ?_
    refine S.c0 (hF := small_fun [d] (by simp)) (h := S.o q.not (S.o q.pf (S.end (hK _ ?_))))
    clear hK K
    refine Ev.cn (fun c2 => ?_) (fun c2 => ?_)
    · first
    | (first | omega | contradiction)
    | refine Ev.sr fun K hK => S.o q.as (S.end (hK _ ?_))
      clear hK K
      refine Ev.ret ?_
      refine Ev.ret1 ?_
      refine ⟨?_, rfl⟩
      first | rfl | exact lawT rfl | exact lawT (by omega) | exact lawT (by assumption) | (exfalso; omega) | exact lawB hv | contradiction | (exfalso; simp_all; done) | (exfalso; simp at *; done)
    · first
    | (first | omega | contradiction)
    | refine Ev.skip ?_
      show Ev _ _ _ _
      refine Ev.sr fun K hK => S.o (q.lvA [_, _, _, _, _, _, _, _] am_ag28 am_cl28) (S.o q.mv (S.c0 (hF := demAt_fun d x hwd) (h := S.o q.mv (S.o q.ex (S.o q.ex (S.o q.as (S.o q.as (S.end (hK _ ?_)))))))))
      clear hK K
      refine Ev.sr fun K hK => S.o (q.lvA [_, _, _, _, _, _, _, _] am_ag28 am_cl28) (S.o (q.lvA [_, _, _, _, _, _] am_ag25 am_cl25) (S.c0 (hF := demIn_fun d b hwd) (h := S.o q.mv (S.o q.ex (S.o q.ex (S.o q.as (S.o q.as (S.end (hK _ ?_)))))))))
      clear hK K
      refine Ev.seq ?_
      refine Ev.sr fun K hK => S.o q.mv (S.c0 (hF := demValid_fun _ (by omega) (by assumption)) (h := S.o q.mv (S.c0 (hF := rdemValid_fun _ (by omega) (by assumption)) (h := S.o (q.bneq am_un4) (S.end (hK _ ?_))))))
      clear hK K
      refine Ev.c (fun c3 => ?_) (fun c3 => ?_)
      · first
      | (first | omega | contradiction)
      | refine Ev.sr fun K hK => S.o q.as (S.end (hK _ ?_))
        clear hK K
        refine Ev.ret ?_
        refine Ev.ret1 ?_
        refine ⟨?_, rfl⟩
        first | rfl | exact lawT rfl | exact lawT (by omega) | exact lawT (by assumption) | (exfalso; omega) | exact lawB hv | contradiction | (exfalso; simp_all; done) | (exfalso; simp at *; done)
      · first
      | (first | omega | contradiction)
      | refine Ev.skip ?_
        show Ev _ _ _ _
        refine Ev.seq ?_
        refine Ev.sr fun K hK => S.o (q.lvA [_, _, _, _, _, _, _, _] am_ag28 am_cl28) (S.c0 (hF := one_fun d hwd) (h := S.o q.not (S.end (hK _ ?_))))
        clear hK K
        refine Ev.cn (fun c4 => ?_) (fun c4 => ?_)
        · first
        | (first | omega | contradiction)
        | have hno : ¬ okDem d := ‹_›
          obtain ⟨e1, e2⟩ := atD_n (x := x) hno
          obtain ⟨e4, e3⟩ := inE_f (b := b) (fun h => hno h.1)
          refine Ev.sr fun K hK => S.o q.mv (S.o q.eql (S.bd q.mv (fun c5 => ?_) (fun c5 => ?_)))
          · first
          | (first | omega | contradiction)
          | refine S.o q.mv (S.o q.eql (S.o q.pt (S.bd q.mv (fun c6 => ?_) (fun c6 => ?_))))
            · first
            | (first | omega | contradiction)
            | refine S.o q.mv (S.o q.not (S.o q.pt (S.bn q.mv (fun c7 => ?_) (fun c7 => ?_))))
              · first
              | (first | omega | contradiction)
              | refine S.o q.mv (S.o q.eql (S.o q.pt (S.o q.as (S.end (hK _ ?_)))))
                clear hK K
                refine Ev.ret ?_
                refine Ev.ret1 ?_
                refine ⟨?_, rfl⟩
                first | rfl | exact lawT rfl | exact lawT (by omega) | exact lawT (by assumption) | (exfalso; omega) | exact lawB hv | contradiction | (exfalso; simp_all; done) | (exfalso; simp at *; done)
              · first
              | (first | omega | contradiction)
              | refine S.sk (S.sk (S.o q.pf (S.o q.as (S.end (hK _ ?_)))))
                clear hK K
                refine Ev.ret ?_
                refine Ev.ret1 ?_
                refine ⟨?_, rfl⟩
                first | rfl | exact lawT rfl | exact lawT (by omega) | exact lawT (by assumption) | (exfalso; omega) | exact lawB hv | contradiction | (exfalso; simp_all; done) | (exfalso; simp at *; done)
            · first
            | (first | omega | contradiction)
            | refine S.sk (S.sk (S.o q.pf (S.o q.mv (S.sk (S.sk (S.o q.pf (S.o q.as (S.end (hK _ ?_)))))))))
              clear hK K
              refine Ev.ret ?_
              refine Ev.ret1 ?_
              refine ⟨?_, rfl⟩
              first | rfl | exact lawT rfl | exact lawT (by omega) | exact lawT (by assumption) | (exfalso; omega) | exact lawB hv | contradiction | (exfalso; simp_all; done) | (exfalso; simp at *; done)
          · first
          | (first | omega | contradiction)
          | refine S.sk (S.sk (S.o q.pf (S.o q.mv (S.sk (S.sk (S.o q.pf (S.o q.mv (S.sk (S.sk (S.o q.pf (S.o q.as (S.end (hK _ ?_)))))))))))))
            clear hK K
            refine Ev.ret ?_
            refine Ev.ret1 ?_
            refine ⟨?_, rfl⟩
            first | rfl | exact lawT rfl | exact lawT (by omega) | exact lawT (by assumption) | (exfalso; omega) | exact lawB hv | contradiction | (exfalso; simp_all; done) | (exfalso; simp at *; done)
        · first
        | (first | omega | contradiction)
        | refine Ev.skip ?_
          show Ev _ _ _ _
          refine Ev.seq ?_
          have hok : okDem d := ‹_›
          obtain ⟨e1, e2, _, _⟩ := atD_y (x := x) hok
          refine Ev.sr fun K hK => S.o q.mv (S.o (q.fa 7 am_fi28_2 am_cl26) (S.o (q.lv am_ag26) (S.o q.mv (S.c0 (hF := rAt_fun d.steps x (by have := hwd.2; omega)) (h := S.o q.neq (S.bn q.mv (fun c8 => ?_) (fun c8 => ?_)))))))
          · first
          | (first | omega | contradiction)
          | refine S.sk (S.sk (S.o q.pt (S.end (hK _ ?_))))
            clear hK K
            refine Ev.ct ?_
            refine Ev.sr fun K hK => S.o q.as (S.end (hK _ ?_))
            clear hK K
            refine Ev.ret ?_
            refine Ev.ret1 ?_
            refine ⟨?_, rfl⟩
            first | rfl | exact lawT rfl | exact lawT (by omega) | exact lawT (by assumption) | (exfalso; omega) | exact lawB hv | contradiction | (exfalso; simp_all; done) | (exfalso; simp at *; done)
          · first
          | (first | omega | contradiction)
          | refine S.o q.mv (S.o q.neq (S.o q.pf (S.end (hK _ ?_))))
            clear hK K
            refine Ev.cn (fun c9 => ?_) (fun c9 => ?_)
            · first
            | (first | omega | contradiction)
            | refine Ev.sr fun K hK => S.o q.as (S.end (hK _ ?_))
              clear hK K
              refine Ev.ret ?_
              refine Ev.ret1 ?_
              refine ⟨?_, rfl⟩
              first | rfl | exact lawT rfl | exact lawT (by omega) | exact lawT (by assumption) | (exfalso; omega) | exact lawB hv | contradiction | (exfalso; simp_all; done) | (exfalso; simp at *; done)
            · first
            | (first | omega | contradiction)
            | refine Ev.skip ?_
              show Ev _ _ _ _
              refine Ev.seq ?_
              refine Ev.sr fun K hK => S.o (q.lvA [_, _, _, _, _, _] am_ag25 am_cl25) (S.c0 (hF := rboxValid_fun b) (h := S.o q.not (S.end (hK _ ?_))))
              clear hK K
              refine Ev.cn (fun c10 => ?_) (fun c10 => ?_)
              · first
              | (first | omega | contradiction)
              | obtain ⟨e4, e3⟩ := inE_f (d := d) (b := b) (fun h => absurd h.2 ‹_›)
                refine Ev.sr fun K hK => S.o q.mv (S.o q.not (S.bn q.mv (fun c11 => ?_) (fun c11 => ?_)))
                · first
                | (first | omega | contradiction)
                | refine S.o q.mv (S.o q.eql (S.o q.pt (S.o q.as (S.end (hK _ ?_)))))
                  clear hK K
                  refine Ev.ret ?_
                  refine Ev.ret1 ?_
                  refine ⟨?_, rfl⟩
                  first | rfl | exact lawT rfl | exact lawT (by omega) | exact lawT (by assumption) | (exfalso; omega) | exact lawB hv | contradiction | (exfalso; simp_all; done) | (exfalso; simp at *; done)
                · first
                | (first | omega | contradiction)
                | refine S.sk (S.sk (S.o q.pf (S.o q.as (S.end (hK _ ?_)))))
                  clear hK K
                  refine Ev.ret ?_
                  refine Ev.ret1 ?_
                  refine ⟨?_, rfl⟩
                  first | rfl | exact lawT rfl | exact lawT (by omega) | exact lawT (by assumption) | (exfalso; omega) | exact lawB hv | contradiction | (exfalso; simp_all; done) | (exfalso; simp at *; done)
              · first
              | (first | omega | contradiction)
              | refine Ev.skip ?_
                show Ev _ _ _ _
                have e4 := inE_t hok ‹okBx b›
                have hv := in_eq hok ‹okBx b›
                refine Ev.sr fun K hK => S.o q.mv (S.o q.eql (S.bd q.mv (fun c12 => ?_) (fun c12 => ?_)))
                · first
                | (first | omega | contradiction)
                | refine S.o q.mv (S.o (q.fa 1 am_fi28_1 am_cl25) (S.o (q.lvA [_, _, _, _, _, _] am_ag25 am_cl25) (S.o (q.lvA [_, _, _, _, _, _] am_ag25 am_cl25) (S.c0 (hF := rIn_fun d.zone b) (h := S.o (q.beql am_un4) (S.o q.pt (S.o q.as (S.end (hK _ ?_)))))))))
                  clear hK K
                  refine Ev.ret ?_
                  refine Ev.ret1 ?_
                  refine ⟨?_, rfl⟩
                  first | rfl | exact lawT rfl | exact lawT (by omega) | exact lawT (by assumption) | (exfalso; omega) | exact lawB hv | contradiction | (exfalso; simp_all; done) | (exfalso; simp at *; done)
                · first
                | (first | omega | contradiction)
                | refine S.sk (S.sk (S.sk (S.sk (S.sk (S.sk (S.o q.pf (S.o q.as (S.end (hK _ ?_)))))))))
                  clear hK K
                  refine Ev.ret ?_
                  refine Ev.ret1 ?_
                  refine ⟨?_, rfl⟩
                  first | rfl | exact lawT rfl | exact lawT (by omega) | exact lawT (by assumption) | (exfalso; omega) | exact lawB hv | contradiction | (exfalso; simp_all; done) | (exfalso; simp at *; done)
theorem peaks_law (d : Dem) (num den : Int) (hwd : d.w) : Fun Tryd.prog 3 [.agg d.c, .lit (.int .i64 num), .lit (.int .i64 den)] (Ret (.lit (.bool true)) []) := by
  have hws := scD_w num den hwd
  refine Fun.of (nt := 74) (rs := [.tmp 6]) Tryd.func3 rfl rfl rfl rfl rfl ?_
  refine Ev.sr fun K hK => S.nn (q.bx [_, _, _, _, _, _, _, _] true) (S.o q.as (S.end (hK _ ?_)))
  clear hK K
  refine Ev.seq ?_
  refine Ev.sr fun K hK => S.c0 (hF := awake_fun) (h := S.o q.nott (S.end (hK _ ?_)))
  clear hK K
  refine Ev.cf ?_
  refine Ev.skip ?_
  show Ev _ _ _ _
  refine Ev.seq ?_
  refine Ev.sr fun K hK => S.o (q.lvA [_, _, _, _, _, _, _, _] am_ag28 am_cl28) (S.nn (q.bs [[_, _, _, _, _, _, _, _]] true am_el41 am_ze28 am_cl28) ?_)
  refine SeqL.weaken (Wk.frzl (f := Dem.c) [d] 20 [_]) ?_
  refine S.c0 (hF := small_fun [d] (by simp)) (h := S.o q.not (S.end (hK _ ?_)))
  clear hK K
  refine Ev.cn (fun c1 => ?_) (fun c1 => ?_)
  · first
  | (first | omega | contradiction)
  | refine Ev.sr fun K hK => S.o q.as (S.end (hK _ ?_))
    clear hK K
    refine Ev.ret ?_
    refine Ev.ret1 ?_
    refine ⟨?_, rfl⟩
    first | rfl | exact lawT rfl | exact lawT (by omega) | exact lawT (by assumption) | (exfalso; omega) | contradiction | (exfalso; simp_all; done) | (exfalso; simp at *; done)
  · first
  | (first | omega | contradiction)
  | refine Ev.skip ?_
    show Ev _ _ _ _
    refine Ev.sr fun K hK => S.o (q.lvA [_, _, _, _, _, _, _, _] am_ag28 am_cl28) (S.c0 (hF := demPeak_fun d hwd) (h := S.o q.mv (S.o q.ex (S.o q.ex (S.o q.ex (S.o q.as (S.o q.as (S.o q.as (S.end (hK _ ?_))))))))))
    clear hK K
    refine Ev.sr fun K hK => S.o (q.lvA [_, _, _, _, _, _, _, _] am_ag28 am_cl28) (S.o q.mv (S.o q.mv (S.c0 (hF := demScaled_fun d num den hwd) (h := S.o q.mv (S.o q.ex (S.o q.ex (S.nn (q.al am_ze28) (S.sv [_, _, _, _, _, _, _, _] true [_] am_in28 am_cl28 (h := S.o q.as (S.end (hK _ ?_)))))))))))
    clear hK K
    refine Ev.sr fun K hK => S.o (q.lvA [_, _, _, _, _, _, _, _] am_ag28 am_cl28) (S.c0 (hF := rdemPeak_fun d hwd) (h := S.o q.mv (S.o q.ex (S.o q.ex (S.o q.ex (S.o q.as (S.o q.as (S.o q.as (S.end (hK _ ?_))))))))))
    clear hK K
    refine Ev.sr fun K hK => S.o (q.lvA [_, _, _, _, _, _, _, _] am_ag28 am_cl28) (S.o q.mv (S.o q.mv (S.c0 (hF := rdemScaled_fun d num den hwd) (h := S.o q.mv (S.o q.ex (S.o q.ex (S.nn (q.al am_ze28) (S.sv [_, _, _, _, _, _, _, _] true [_, _] am_in28 am_cl28 (h := S.o q.as (S.end (hK _ ?_)))))))))))
    clear hK K
    refine Ev.sr fun K hK => S.o q.mv (S.o q.mv (S.o q.eql (S.bd q.mv (fun c2 => ?_) (fun c2 => ?_))))
    · first
    | (first | omega | contradiction)
    | refine S.o q.mv (S.o q.mv (S.o q.eql (S.o q.pt (S.bd q.mv (fun c3 => ?_) (fun c3 => ?_)))))
      · first
      | (first | omega | contradiction)
      | refine S.o q.mv (S.o q.mv (S.o q.eql (S.o q.pt (S.bd q.mv (fun c4 => ?_) (fun c4 => ?_)))))
        · first
        | (first | omega | contradiction)
        | refine S.o (q.lvA [_, _, _, _, _, _, _, _] am_ag28 am_cl28) (S.nn (q.bs [[_, _, _, _, _, _, _, _]] true am_el41 am_ze28 am_cl28) ?_)
          refine SeqL.weaken (Wk.frzl (f := Dem.c) [scD d num den] 64 [_, _, _]) ?_
          refine S.o (q.lvA [_, _, _, _, _, _, _, _] am_ag28 am_cl28) (S.nn (q.bs [[_, _, _, _, _, _, _, _]] true am_el41 am_ze28 am_cl28) ?_)
          refine SeqL.weaken (Wk.frzl (f := Dem.c) [scD d num den] 66 [_, _, _]) ?_
          refine S.c0 (hF := rSame_fun [scD d num den] [scD d num den] (by simp) (by simp) (demW_one hws) (demW_one hws)) (h := S.o q.pt (S.bd q.mv (fun c5 => ?_) (fun c5 => ?_)))
          · first
          | (first | omega | contradiction)
          | refine S.o q.mv (S.o q.mv (S.o q.eql (S.o q.pt (S.o q.as (S.end (hK _ ?_))))))
            clear hK K
            refine Ev.ret ?_
            refine Ev.ret1 ?_
            refine ⟨?_, rfl⟩
            first | rfl | exact lawT rfl | exact lawT (by omega) | exact lawT (by assumption) | (exfalso; omega) | contradiction | (exfalso; simp_all; done) | (exfalso; simp at *; done)
          · first
          | (first | omega | contradiction)
          | refine S.sk (S.sk (S.sk (S.o q.pf (S.o q.as (S.end (hK _ ?_))))))
            clear hK K
            refine Ev.ret ?_
            refine Ev.ret1 ?_
            refine ⟨?_, rfl⟩
            first | rfl | exact lawT rfl | exact lawT (by omega) | exact lawT (by assumption) | (exfalso; omega) | contradiction | (exfalso; simp_all; done) | (exfalso; simp at *; done)
        · first
        | (first | omega | contradiction)
        | refine S.sk (S.sk (S.sk (S.sk (S.sk (S.o q.pf (S.o q.mv (S.sk (S.sk (S.sk (S.o q.pf (S.o q.as (S.end (hK _ ?_)))))))))))))
          clear hK K
          refine Ev.ret ?_
          refine Ev.ret1 ?_
          refine ⟨?_, rfl⟩
          first | rfl | exact lawT rfl | exact lawT (by omega) | exact lawT (by assumption) | (exfalso; omega) | contradiction | (exfalso; simp_all; done) | (exfalso; simp at *; done)
      · first
      | (first | omega | contradiction)
      | refine S.sk (S.sk (S.sk (S.o q.pf (S.o q.mv (S.sk (S.sk (S.sk (S.sk (S.sk (S.o q.pf (S.o q.mv (S.sk (S.sk (S.sk (S.o q.pf (S.o q.as (S.end (hK _ ?_))))))))))))))))))
        clear hK K
        refine Ev.ret ?_
        refine Ev.ret1 ?_
        refine ⟨?_, rfl⟩
        first | rfl | exact lawT rfl | exact lawT (by omega) | exact lawT (by assumption) | (exfalso; omega) | contradiction | (exfalso; simp_all; done) | (exfalso; simp at *; done)
    · first
    | (first | omega | contradiction)
    | refine S.sk (S.sk (S.sk (S.o q.pf (S.o q.mv (S.sk (S.sk (S.sk (S.o q.pf (S.o q.mv (S.sk (S.sk (S.sk (S.sk (S.sk (S.o q.pf (S.o q.mv (S.sk (S.sk (S.sk (S.o q.pf (S.o q.as (S.end (hK _ ?_)))))))))))))))))))))))
      clear hK K
      refine Ev.ret ?_
      refine Ev.ret1 ?_
      refine ⟨?_, rfl⟩
      first | rfl | exact lawT rfl | exact lawT (by omega) | exact lawT (by assumption) | (exfalso; omega) | contradiction | (exfalso; simp_all; done) | (exfalso; simp at *; done)
end Go.Proofs.YtnomiafjeiijkaaDoor
