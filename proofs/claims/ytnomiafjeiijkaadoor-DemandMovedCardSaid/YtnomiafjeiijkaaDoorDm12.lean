/-
  Chapter 23: the law DemandMoved, walked.
  Conditions: none.
-/
import Derived.Test.YtnomiafjeiijkaaDoorDm9
import Derived.Test.YtnomiafjeiijkaaDoorAmLate4
namespace Go.Proofs.YtnomiafjeiijkaaDoor
open Go Go.AM
set_option linter.unusedSimpArgs false
set_option linter.unusedVariables false
set_option maxRecDepth 100000
set_option maxHeartbeats 1000000

theorem wf_i16d {k : Int} (h : (Go.Lit.int .i16 k).wf = true) : -32768 ≤ k ∧ k ≤ 32767 := by
  have e1 : IntKind.i16.min = -32768 := rfl
  have e2 : IntKind.i16.max = 32767 := rfl
  simp only [Go.Lit.wf, e1, e2, Bool.and_eq_true, decide_eq_true_eq] at h
  exact h
theorem moved_same {d : Dem} {a1 a2 a3 a4 a5 a6 k : Int} (h1 : okDem d) (h2 : okBx ⟨a1, a2, a3, a4, a5, a6⟩) (h3 : okBx ⟨a1 + k, a2, a3, a4 + k, a5, a6⟩) : decide (inDV d ⟨a1 + k, a2, a3, a4 + k, a5, a6⟩) = decide (inDV d ⟨a1, a2, a3, a4, a5, a6⟩) := by
  rw [in_eq h1 h2, in_eq h1 h3]
  exact decide_eq_decide.2 Iff.rfl
theorem moved_ends {d : Dem} {a1 a2 a3 a4 a5 a6 : Int} (h : okBx ⟨a1, a2, a3, a4, a5, a6⟩) : okBx ⟨a1, a2, a3, a1, a2, a3⟩ ∧ okBx ⟨a4, a5, a6, a4, a5, a6⟩ ∧ (inDV d ⟨a1, a2, a3, a4, a5, a6⟩ → inDV d ⟨a1, a2, a3, a1, a2, a3⟩ ∧ inDV d ⟨a4, a5, a6, a4, a5, a6⟩) := by
  have e1 : okBx ⟨a1, a2, a3, a1, a2, a3⟩ := by unfold okBx at h ⊢; simp only at h ⊢; omega
  have e2 : okBx ⟨a4, a5, a6, a4, a5, a6⟩ := by unfold okBx at h ⊢; simp only at h ⊢; omega
  refine ⟨e1, e2, ?_⟩
  rintro ⟨g1, _, g3, g4, g5⟩
  unfold inB at g5
  simp only at g3 g4 g5
  exact ⟨⟨g1, e1, rfl, rfl, by unfold inB; simp only; omega⟩, ⟨g1, e2, rfl, rfl, by unfold inB; simp only; omega⟩⟩
theorem lawD {p q : Prop} [Decidable q] (h : p → q) (hp : p) : AV.lit (.bool (decide q)) = .lit (.bool true) := by rw [decide_eq_true (h hp)]
theorem moved_law (d : Dem) (b : Bx) (k : Int) (hwd : d.w) (hk : (Go.Lit.int .i16 k).wf = true) : Fun Tryd.prog 4 [.agg d.c, .agg b.c, .lit (.int .i16 k)] (Ret (.lit (.bool true)) []) := by
  obtain ⟨hk0, hk1⟩ := wf_i16d hk
  obtain ⟨a1, a2, a3, a4, a5, a6⟩ := b
  refine Fun.of (nt := 108) (rs := [.tmp 6]) Tryd.func4 rfl rfl rfl rfl rfl ?_
  refine Ev.sr fun K hK => S.nn (q.bx [_, _, _, _, _, _, _, _] true) (S.nn (q.bx [_, _, _, _, _, _] true) (S.o q.as (S.end (hK _ ?_))))
  clear hK K
  refine Ev.seq ?_
  refine Ev.sr fun K hK => S.c0 (hF := awake_fun) (h := S.o q.nott (S.end (hK _ ?_)))
  clear hK K
  refine Ev.cf ?_
  refine Ev.skip ?_
  show Ev _ _ _ _
  refine Ev.seq ?_
  refine Ev.sr fun K hK => S.o (q.lvA [_, _, _, _, _, _, _, _] am_ag28 am_cl28) (S.nn (q.bs [[_, _, _, _, _, _, _, _]] true am_el41 am_ze28 am_cl28) ?_)
  refine SeqL.weaken (Wk.frzl (f := Dem.c) [d] 19 [_, _]) ?_
  refine S.c0 (hF := small_fun [d] (by simp)) (h := S.o q.not (S.bn q.mv (fun c1 => ?_) (fun c1 => ?_)))
  · first
  | (first | omega | contradiction)
  | refine S.sk (S.sk (S.sk (S.o q.pt (S.o q.mv (S.sk (S.sk (S.sk (S.o q.pt (S.end (hK _ ?_))))))))))
    clear hK K
    refine Ev.ct ?_
    refine Ev.sr fun K hK => S.o q.as (S.end (hK _ ?_))
    clear hK K
    refine Ev.ret ?_
    refine Ev.ret1 ?_
    refine ⟨?_, rfl⟩
    first | rfl | exact lawT rfl | exact lawT (by omega) | exact lawT (by assumption) | (exfalso; omega) | exact lawD (fun h => (hin h).2) ‹_› | exact absurd (hin ‹_›).1 ‹_› | contradiction | (exfalso; simp_all; done) | (exfalso; simp at *; done)
  · first
  | (first | omega | contradiction)
  | refine S.o (q.lvA [_, _, _, _, _, _, _, _] am_ag28 am_cl28) (S.c0 (hF := one_fun d hwd) (h := S.o q.not (S.o q.pf (S.bn q.mv (fun c2 => ?_) (fun c2 => ?_)))))
    · first
    | (first | omega | contradiction)
    | refine S.sk (S.sk (S.sk (S.o q.pt (S.end (hK _ ?_)))))
      clear hK K
      refine Ev.ct ?_
      refine Ev.sr fun K hK => S.o q.as (S.end (hK _ ?_))
      clear hK K
      refine Ev.ret ?_
      refine Ev.ret1 ?_
      refine ⟨?_, rfl⟩
      first | rfl | exact lawT rfl | exact lawT (by omega) | exact lawT (by assumption) | (exfalso; omega) | exact lawD (fun h => (hin h).2) ‹_› | exact absurd (hin ‹_›).1 ‹_› | contradiction | (exfalso; simp_all; done) | (exfalso; simp at *; done)
    · first
    | (first | omega | contradiction)
    | refine S.o (q.lvA [_, _, _, _, _, _] am_ag25 am_cl25) (S.c0 (hF := rboxValid_fun ⟨a1, a2, a3, a4, a5, a6⟩) (h := S.o q.not (S.o q.pf (S.end (hK _ ?_)))))
      clear hK K
      refine Ev.cn (fun c3 => ?_) (fun c3 => ?_)
      · first
      | (first | omega | contradiction)
      | refine Ev.sr fun K hK => S.o q.as (S.end (hK _ ?_))
        clear hK K
        refine Ev.ret ?_
        refine Ev.ret1 ?_
        refine ⟨?_, rfl⟩
        first | rfl | exact lawT rfl | exact lawT (by omega) | exact lawT (by assumption) | (exfalso; omega) | exact lawD (fun h => (hin h).2) ‹_› | exact absurd (hin ‹_›).1 ‹_› | contradiction | (exfalso; simp_all; done) | (exfalso; simp at *; done)
      · first
      | (first | omega | contradiction)
      | refine Ev.skip ?_
        show Ev _ _ _ _
        have hok : okDem d := ‹okDem d›
        have hb : okBx ⟨a1, a2, a3, a4, a5, a6⟩ := ‹okBx _›
        obtain ⟨hb1, hb2, hin⟩ := moved_ends (d := d) hb
        have e0 := inE_t hok hb
        have e1 := inE_t hok hb1
        have e2 := inE_t hok hb2
        obtain ⟨⟨g1, g2, g3⟩, ⟨g4, g5, g6⟩, _⟩ := id hb
        simp only at g1 g2 g3 g4 g5 g6
        refine Ev.sr fun K hK => S.o (q.lvA [_, _, _, _, _, _, _, _] am_ag28 am_cl28) (S.o (q.lvA [_, _, _, _, _, _] am_ag25 am_cl25) (S.c0 (hF := demIn_fun d ⟨a1, a2, a3, a4, a5, a6⟩ hwd) (h := S.o q.mv (S.o q.ex (S.o q.ex (S.o q.as (S.o q.as (S.end (hK _ ?_)))))))))
        clear hK K
        refine Ev.sr fun K hK => S.o (q.lvA [_, _, _, _, _, _] am_ag25 am_cl25) (S.nn (q.al am_ze25) (S.sv [_, _, _, _, _, _] true [_, _] am_in25 am_cl25 (h := S.end (hK _ ?_))))
        clear hK K
        refine Ev.sz (tbs [(0, 0), (1, 1), (2, 3), (0, 0), (4, 8), (5, 31), (0, 0), (7, 64), (8, 192), (0, 0), (10, 512), (11, 1984), (6, 63), (13, 4159), (14, 12351), (15, 32767), (16, 65535), (17, 131071)]) 14 fun K hK => M.o (q.fa 0 am_fi25_0 am_cl23) (M.o (q.fa 0 am_fi23_0 am_cl3) (M.o (q.lv am_ag3) (M.o q.mv (M.o (q.cvi am_un3 am_us43) (M.o q.add (M.o (q.fa 3 am_fi25_1 am_cl23) (M.o (q.fa 3 am_fi23_0 am_cl3) (M.o (q.lv am_ag3) (M.o q.mv (M.o (q.cvi am_un3 am_us43) (M.o q.add (M.o (q.fa 0 am_fi25_0 am_cl23) (M.o (q.fa 0 am_fi23_0 am_cl3) (M.ste [_, _, _, _, _, _] true [true, true, true, true, true, true, false, false, false, false, false, false, true, true] [_, _] [_, _, _] am_in3 am_cl3 (hfr := FreeL.skip (FreeL.skip (FreeL.skip (FreeL.skip (FreeL.skip (FreeL.skip (FreeL.o (q.fa 3 am_fi25_1 am_cl23) (FreeL.o (q.fa 3 am_fi23_0 am_cl3) (FreeL.o (q.lv am_ag3) (FreeL.o q.mv (FreeL.o (q.cvi am_un3 am_us43) (FreeL.o q.add (FreeL.skip (FreeL.skip (.nil))))))))))))))) (h := S.o (q.fa 3 am_fi25_1 am_cl23) (S.o (q.fa 3 am_fi23_0 am_cl3) (S.sv [_, _, _, _, _, _] true [_, _] am_in3 am_cl3 (h := S.end (hK _ ?_)))))))))))))))))))
        clear hK K
        refine Ev.seq ?_
        refine Ev.sr fun K hK => S.o q.mv (S.o q.neq (S.end (hK _ ?_)))
        clear hK K
        refine Ev.cn (fun c4 => ?_) (fun c4 => ?_)
        · first
        | (first | omega | contradiction)
        | refine Ev.sr fun K hK => S.o q.as (S.end (hK _ ?_))
          clear hK K
          refine Ev.ret ?_
          refine Ev.ret1 ?_
          refine ⟨?_, rfl⟩
          first | rfl | exact lawT rfl | exact lawT (by omega) | exact lawT (by assumption) | (exfalso; omega) | exact lawD (fun h => (hin h).2) ‹_› | exact absurd (hin ‹_›).1 ‹_› | contradiction | (exfalso; simp_all; done) | (exfalso; simp at *; done)
        · first
        | (first | omega | contradiction)
        | refine Ev.skip ?_
          show Ev _ _ _ _
          refine Ev.seq ?_
          refine Ev.sr fun K hK => S.o (q.lvA [_, _, _, _, _, _] am_ag25 am_cl25) (S.c0 (hF := rboxValid_fun ⟨a1 + k, a2, a3, a4 + k, a5, a6⟩) (h := S.end (hK _ ?_)))
          clear hK K
          refine Ev.cd (fun c5 => ?_) (fun c5 => ?_)
          · first
          | (first | omega | contradiction)
          | have hm : okBx ⟨a1 + k, a2, a3, a4 + k, a5, a6⟩ := ‹okBx ⟨a1 + k, a2, a3, a4 + k, a5, a6⟩›
            have e3 := inE_t hok hm
            have hv := moved_same hok hb hm
            refine Ev.sr fun K hK => S.o (q.lvA [_, _, _, _, _, _, _, _] am_ag28 am_cl28) (S.o (q.lvA [_, _, _, _, _, _] am_ag25 am_cl25) (S.c0 (hF := demIn_fun d ⟨a1 + k, a2, a3, a4 + k, a5, a6⟩ hwd) (h := S.o q.mv (S.o q.ex (S.o q.ex (S.o q.as (S.o q.as (S.end (hK _ ?_)))))))))
            clear hK K
            rw [hv]
            refine Ev.sr fun K hK => S.o q.mv (S.o q.neq (S.bn q.mv (fun c6 => ?_) (fun c6 => ?_)))
            · first
            | (first | omega | contradiction)
            | refine S.sk (S.sk (S.sk (S.o q.pt (S.end (hK _ ?_)))))
              clear hK K
              refine Ev.ct ?_
              refine Ev.sr fun K hK => S.o q.as (S.end (hK _ ?_))
              clear hK K
              refine Ev.ret ?_
              refine Ev.ret1 ?_
              refine ⟨?_, rfl⟩
              first | rfl | exact lawT rfl | exact lawT (by omega) | exact lawT (by assumption) | (exfalso; omega) | exact lawD (fun h => (hin h).2) ‹_› | exact absurd (hin ‹_›).1 ‹_› | contradiction | (exfalso; simp_all; done) | (exfalso; simp at *; done)
            · first
            | (first | omega | contradiction)
            | refine S.o q.mv (S.o q.mv (S.o (q.bneq am_un4) (S.o q.pf (S.end (hK _ ?_)))))
              clear hK K
              refine Ev.c (fun c7 => ?_) (fun c7 => ?_)
              · first
              | (first | omega | contradiction)
              | refine Ev.sr fun K hK => S.o q.as (S.end (hK _ ?_))
                clear hK K
                refine Ev.ret ?_
                refine Ev.ret1 ?_
                refine ⟨?_, rfl⟩
                first | rfl | exact lawT rfl | exact lawT (by omega) | exact lawT (by assumption) | (exfalso; omega) | exact lawD (fun h => (hin h).2) ‹_› | exact absurd (hin ‹_›).1 ‹_› | contradiction | (exfalso; simp_all; done) | (exfalso; simp at *; done)
              · first
              | (first | omega | contradiction)
              | refine Ev.skip ?_
                show Ev _ _ _ _
                refine Ev.sr fun K hK => S.o (q.lvA [_, _, _, _, _, _, _, _] am_ag28 am_cl28) (S.o (q.fa 0 am_fi25_0 am_cl23) (S.o (q.lvA [_, _, _] am_ag23 am_cl23) (S.o (q.fa 0 am_fi25_0 am_cl23) (S.o (q.lvA [_, _, _] am_ag23 am_cl23) (S.o (q.bd [_, _, _, _, _, _] am_ze25 am_pl25) (S.c0 (hF := demIn_fun d ⟨a1, a2, a3, a1, a2, a3⟩ hwd) (h := S.o q.mv (S.o q.ex (S.o q.ex (S.o q.as (S.o q.as (S.end (hK _ ?_)))))))))))))
                clear hK K
                refine Ev.sr fun K hK => S.o (q.lvA [_, _, _, _, _, _, _, _] am_ag28 am_cl28) (S.o (q.fa 3 am_fi25_1 am_cl23) (S.o (q.lvA [_, _, _] am_ag23 am_cl23) (S.o (q.fa 3 am_fi25_1 am_cl23) (S.o (q.lvA [_, _, _] am_ag23 am_cl23) (S.o (q.bd [_, _, _, _, _, _] am_ze25 am_pl25) (S.c0 (hF := demIn_fun d ⟨a4, a5, a6, a4, a5, a6⟩ hwd) (h := S.o q.mv (S.o q.ex (S.o q.ex (S.o q.as (S.o q.as (S.end (hK _ ?_)))))))))))))
                clear hK K
                refine Ev.sr fun K hK => S.o q.mv (S.o q.eql (S.bd q.mv (fun c8 => ?_) (fun c8 => ?_)))
                · first
                | (first | omega | contradiction)
                | refine S.o q.mv (S.o q.eql (S.o q.pt (S.bd q.mv (fun c9 => ?_) (fun c9 => ?_))))
                  · first
                  | (first | omega | contradiction)
                  | refine S.o q.mv (S.o q.not (S.bn q.mv (fun c10 => ?_) (fun c10 => ?_)))
                    · first
                    | (first | omega | contradiction)
                    | refine S.sk (S.sk (S.sk (S.sk (S.o q.pt (S.o q.pt (S.o q.as (S.end (hK _ ?_))))))))
                      clear hK K
                      refine Ev.ret ?_
                      refine Ev.ret1 ?_
                      refine ⟨?_, rfl⟩
                      first | rfl | exact lawT rfl | exact lawT (by omega) | exact lawT (by assumption) | (exfalso; omega) | exact lawD (fun h => (hin h).2) ‹_› | exact absurd (hin ‹_›).1 ‹_› | contradiction | (exfalso; simp_all; done) | (exfalso; simp at *; done)
                    · first
                    | (first | omega | contradiction)
                    | refine S.o q.mv (S.bd q.mv (fun c11 => ?_) (fun c11 => ?_))
                      · first
                      | (first | omega | contradiction)
                      | refine S.o q.mv (S.o q.pt (S.o q.pf (S.o q.pt (S.o q.as (S.end (hK _ ?_))))))
                        clear hK K
                        refine Ev.ret ?_
                        refine Ev.ret1 ?_
                        refine ⟨?_, rfl⟩
                        first | rfl | exact lawT rfl | exact lawT (by omega) | exact lawT (by assumption) | (exfalso; omega) | exact lawD (fun h => (hin h).2) ‹_› | exact absurd (hin ‹_›).1 ‹_› | contradiction | (exfalso; simp_all; done) | (exfalso; simp at *; done)
                      · first
                      | (first | omega | contradiction)
                      | refine S.sk (S.o q.pf (S.o q.pf (S.o q.pt (S.o q.as (S.end (hK _ ?_))))))
                        clear hK K
                        refine Ev.ret ?_
                        refine Ev.ret1 ?_
                        refine ⟨?_, rfl⟩
                        first | rfl | exact lawT rfl | exact lawT (by omega) | exact lawT (by assumption) | (exfalso; omega) | exact lawD (fun h => (hin h).2) ‹_› | exact absurd (hin ‹_›).1 ‹_› | contradiction | (exfalso; simp_all; done) | (exfalso; simp at *; done)
                  · first
                  | (first | omega | contradiction)
                  | refine S.sk (S.sk (S.sk (S.sk (S.sk (S.sk (S.sk (S.sk (S.o q.pf (S.o q.as (S.end (hK _ ?_)))))))))))
                    clear hK K
                    refine Ev.ret ?_
                    refine Ev.ret1 ?_
                    refine ⟨?_, rfl⟩
                    first | rfl | exact lawT rfl | exact lawT (by omega) | exact lawT (by assumption) | (exfalso; omega) | exact lawD (fun h => (hin h).2) ‹_› | exact absurd (hin ‹_›).1 ‹_› | contradiction | (exfalso; simp_all; done) | (exfalso; simp at *; done)
                · first
                | (first | omega | contradiction)
                | refine S.sk (S.sk (S.o q.pf (S.o q.mv (S.sk (S.sk (S.sk (S.sk (S.sk (S.sk (S.sk (S.sk (S.o q.pf (S.o q.as (S.end (hK _ ?_)))))))))))))))
                  clear hK K
                  refine Ev.ret ?_
                  refine Ev.ret1 ?_
                  refine ⟨?_, rfl⟩
                  first | rfl | exact lawT rfl | exact lawT (by omega) | exact lawT (by assumption) | (exfalso; omega) | exact lawD (fun h => (hin h).2) ‹_› | exact absurd (hin ‹_›).1 ‹_› | contradiction | (exfalso; simp_all; done) | (exfalso; simp at *; done)
          · first
          | (first | omega | contradiction)
          | refine Ev.skip ?_
            show Ev _ _ _ _
            refine Ev.sr fun K hK => S.o (q.lvA [_, _, _, _, _, _, _, _] am_ag28 am_cl28) (S.o (q.fa 0 am_fi25_0 am_cl23) (S.o (q.lvA [_, _, _] am_ag23 am_cl23) (S.o (q.fa 0 am_fi25_0 am_cl23) (S.o (q.lvA [_, _, _] am_ag23 am_cl23) (S.o (q.bd [_, _, _, _, _, _] am_ze25 am_pl25) (S.c0 (hF := demIn_fun d ⟨a1, a2, a3, a1, a2, a3⟩ hwd) (h := S.o q.mv (S.o q.ex (S.o q.ex (S.o q.as (S.o q.as (S.end (hK _ ?_)))))))))))))
            clear hK K
            refine Ev.sr fun K hK => S.o (q.lvA [_, _, _, _, _, _, _, _] am_ag28 am_cl28) (S.o (q.fa 3 am_fi25_1 am_cl23) (S.o (q.lvA [_, _, _] am_ag23 am_cl23) (S.o (q.fa 3 am_fi25_1 am_cl23) (S.o (q.lvA [_, _, _] am_ag23 am_cl23) (S.o (q.bd [_, _, _, _, _, _] am_ze25 am_pl25) (S.c0 (hF := demIn_fun d ⟨a4, a5, a6, a4, a5, a6⟩ hwd) (h := S.o q.mv (S.o q.ex (S.o q.ex (S.o q.as (S.o q.as (S.end (hK _ ?_)))))))))))))
            clear hK K
            refine Ev.sr fun K hK => S.o q.mv (S.o q.eql (S.bd q.mv (fun c12 => ?_) (fun c12 => ?_)))
            · first
            | (first | omega | contradiction)
            | refine S.o q.mv (S.o q.eql (S.o q.pt (S.bd q.mv (fun c13 => ?_) (fun c13 => ?_))))
              · first
              | (first | omega | contradiction)
              | refine S.o q.mv (S.o q.not (S.bn q.mv (fun c14 => ?_) (fun c14 => ?_)))
                · first
                | (first | omega | contradiction)
                | refine S.sk (S.sk (S.sk (S.sk (S.o q.pt (S.o q.pt (S.o q.as (S.end (hK _ ?_))))))))
                  clear hK K
                  refine Ev.ret ?_
                  refine Ev.ret1 ?_
                  refine ⟨?_, rfl⟩
                  first | rfl | exact lawT rfl | exact lawT (by omega) | exact lawT (by assumption) | (exfalso; omega) | exact lawD (fun h => (hin h).2) ‹_› | exact absurd (hin ‹_›).1 ‹_› | contradiction | (exfalso; simp_all; done) | (exfalso; simp at *; done)
                · first
                | (first | omega | contradiction)
                | refine S.o q.mv (S.bd q.mv (fun c15 => ?_) (fun c15 => ?_))
                  · first
                  | (first | omega | contradiction)
                  | refine S.o q.mv (S.o q.pt (S.o q.pf (S.o q.pt (S.o q.as (S.end (hK _ ?_))))))
                    clear hK K
                    refine Ev.ret ?_
                    refine Ev.ret1 ?_
                    refine ⟨?_, rfl⟩
                    first | rfl | exact lawT rfl | exact lawT (by omega) | exact lawT (by assumption) | (exfalso; omega) | exact lawD (fun h => (hin h).2) ‹_› | exact absurd (hin ‹_›).1 ‹_› | contradiction | (exfalso; simp_all; done) | (exfalso; simp at *; done)
                  · first
                  | (first | omega | contradiction)
                  | refine S.sk (S.o q.pf (S.o q.pf (S.o q.pt (S.o q.as (S.end (hK _ ?_))))))
                    clear hK K
                    refine Ev.ret ?_
                    refine Ev.ret1 ?_
                    refine ⟨?_, rfl⟩
                    first | rfl | exact lawT rfl | exact lawT (by omega) | exact lawT (by assumption) | (exfalso; omega) | exact lawD (fun h => (hin h).2) ‹_› | exact absurd (hin ‹_›).1 ‹_› | contradiction | (exfalso; simp_all; done) | (exfalso; simp at *; done)
              · first
              | (first | omega | contradiction)
              | refine S.sk (S.sk (S.sk (S.sk (S.sk (S.sk (S.sk (S.sk (S.o q.pf (S.o q.as (S.end (hK _ ?_)))))))))))
                clear hK K
                refine Ev.ret ?_
                refine Ev.ret1 ?_
                refine ⟨?_, rfl⟩
                first | rfl | exact lawT rfl | exact lawT (by omega) | exact lawT (by assumption) | (exfalso; omega) | exact lawD (fun h => (hin h).2) ‹_› | exact absurd (hin ‹_›).1 ‹_› | contradiction | (exfalso; simp_all; done) | (exfalso; simp at *; done)
            · first
            | (first | omega | contradiction)
            | refine S.sk (S.sk (S.o q.pf (S.o q.mv (S.sk (S.sk (S.sk (S.sk (S.sk (S.sk (S.sk (S.sk (S.o q.pf (S.o q.as (S.end (hK _ ?_)))))))))))))))
              clear hK K
              refine Ev.ret ?_
              refine Ev.ret1 ?_
              refine ⟨?_, rfl⟩
              first | rfl | exact lawT rfl | exact lawT (by omega) | exact lawT (by assumption) | (exfalso; omega) | exact lawD (fun h => (hin h).2) ‹_› | exact absurd (hin ‹_›).1 ‹_› | contradiction | (exfalso; simp_all; done) | (exfalso; simp at *; done)
end Go.Proofs.YtnomiafjeiijkaaDoor
