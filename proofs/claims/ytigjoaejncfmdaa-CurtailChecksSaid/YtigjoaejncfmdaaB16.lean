/-
  The law CurtailChecks, walked.
  Conditions: none.
-/
import Derived.Test.YtigjoaejncfmdaaB15
namespace Go.Proofs.Ytigjoaejncfmdaa
open Go Go.AM
set_option linter.unusedSimpArgs false
set_option linter.unusedVariables false
set_option maxRecDepth 100000
set_option maxHeartbeats 1000000

theorem beqT {b : Bool} : AV.lit (.bool (b == b)) = .lit (.bool true) := by simp
theorem tot_0 {bars : List (Int × Int)} (h : ¬ barsE bars = 0) : totV bars = 0 := if_neg h
theorem nb_t {b : Bool} (h : (!b) = false) : b = true := by simpa using h
theorem nb_no {b : Bool} (h : b = false) (h2 : (!b) = false) : False := by rw [h] at h2; cases h2
theorem checks_law (l : List (Int × Int)) (d a : Int) (bars : List (Int × Int)) (hl0 : l.length ≤ 140737488355328) (hb0 : bars.length ≤ 140737488355328) : Fun Try.prog 7 [.sh 2 (l.map stepC), .lit (.int .i64 d), .lit (.int .i64 a), .sh 2 (bars.map stepC)] (Ret (.lit (.bool true)) []) := by
  refine Fun.of (nt := 101) (rs := [.tmp 8]) Try.func7 rfl rfl rfl rfl rfl ?_
  refine Ev.sr fun K hK => S.o q.as (S.end (hK _ ?_))
  clear hK K
  refine Ev.seq ?_
  refine Ev.sr fun K hK => S.c0 (hF := awake_fun) (h := S.o q.nott (S.end (hK _ ?_)))
  clear hK K
  refine Ev.cf ?_
  refine Ev.skip ?_
  show Ev _ _ _ _
  refine Ev.seq ?_
  refine Ev.sr fun K hK => S.o q.mv (S.c0 (hF := large_fun _ (by omega)) (h := S.bd q.mv (fun c1 => ?_) (fun c1 => ?_)))
  · first
  | (first | omega | contradiction)
  | refine S.sk (S.sk (S.sk (S.sk (S.sk (S.sk (S.sk (S.sk (S.o q.pt (S.o q.mv (S.sk (S.sk (S.sk (S.o q.pt (S.end (hK _ ?_)))))))))))))))
    clear hK K
    refine Ev.ct ?_
    refine Ev.sr fun K hK => S.o q.as (S.end (hK _ ?_))
    clear hK K
    refine Ev.ret ?_
    refine Ev.ret1 ?_
    refine ⟨?_, rfl⟩
    first
     | rfl
     | exact beqT
     | exact lawT rfl
     | exact lawT (by omega)
     | (exfalso; exact nb_no e2 ‹_›)
     | (exfalso; have h := tot_0 (bars := bars) (by omega); omega)
     | (exfalso; have h := (bars_ok (b := bars) (by omega)).2.2; omega)
     | (exfalso; omega)
  · first
  | (first | omega | contradiction)
  | refine S.o q.mv (S.o (q.lens am_el25) (S.o q.gtr (S.bd q.mv (fun c2 => ?_) (fun c2 => ?_))))
    · first
    | (first | omega | contradiction)
    | refine S.o q.mv (S.o (q.lens am_el25) (S.o q.leq (S.o q.pt (S.o q.pf (S.bd q.mv (fun c3 => ?_) (fun c3 => ?_))))))
      · first
      | (first | omega | contradiction)
      | refine S.sk (S.sk (S.sk (S.o q.pt (S.end (hK _ ?_)))))
        clear hK K
        refine Ev.ct ?_
        refine Ev.sr fun K hK => S.o q.as (S.end (hK _ ?_))
        clear hK K
        refine Ev.ret ?_
        refine Ev.ret1 ?_
        refine ⟨?_, rfl⟩
        first
         | rfl
         | exact beqT
         | exact lawT rfl
         | exact lawT (by omega)
         | (exfalso; exact nb_no e2 ‹_›)
         | (exfalso; have h := tot_0 (bars := bars) (by omega); omega)
         | (exfalso; have h := (bars_ok (b := bars) (by omega)).2.2; omega)
         | (exfalso; omega)
      · first
      | (first | omega | contradiction)
      | refine S.o q.mv (S.o (q.lens am_el25) (S.o q.gtr (S.o q.pf (S.end (hK _ ?_)))))
        clear hK K
        refine Ev.cd (fun c4 => ?_) (fun c4 => ?_)
        · first
        | (first | omega | contradiction)
        | refine Ev.sr fun K hK => S.o q.as (S.end (hK _ ?_))
          clear hK K
          refine Ev.ret ?_
          refine Ev.ret1 ?_
          refine ⟨?_, rfl⟩
          first
           | rfl
           | exact beqT
           | exact lawT rfl
           | exact lawT (by omega)
           | (exfalso; exact nb_no e2 ‹_›)
           | (exfalso; have h := tot_0 (bars := bars) (by omega); omega)
           | (exfalso; have h := (bars_ok (b := bars) (by omega)).2.2; omega)
           | (exfalso; omega)
        · first
        | (first | omega | contradiction)
        | refine Ev.skip ?_
          show Ev _ _ _ _
          refine Ev.sr fun K hK => S.o q.mv (S.c0 (hF := Total_fun _ (by omega)) (h := S.o q.mv (S.o q.ex (S.o q.ex (S.o q.as (S.o q.as (S.end (hK _ ?_))))))))
          clear hK K
          refine Ev.sr fun K hK => S.o q.mv (S.o q.mv (S.o q.mv (S.o q.mv (S.c0 (hF := Check_fun _ _ _ _ (by omega)) (h := S.o q.mv (S.o q.ex (S.o q.ex (S.o q.as (S.o q.as (S.end (hK _ ?_)))))))))))
          clear hK K
          refine Ev.sr fun K hK => S.o q.mv (S.c0 (hF := rBars_fun _ (by omega)) (h := S.o q.as (S.end (hK _ ?_))))
          clear hK K
          refine Ev.seq ?_
          refine Ev.sr fun K hK => S.o q.mv (S.o q.neq (S.bn q.mv (fun c5 => ?_) (fun c5 => ?_)))
          · first
          | (first | omega | contradiction)
          | refine S.o q.mv (S.o q.neq (S.bn q.mv (fun c6 => ?_) (fun c6 => ?_)))
            · first
            | (first | omega | contradiction)
            | refine S.sk (S.sk (S.sk (S.o q.pt (S.o q.pt (S.o q.mv (S.sk (S.sk (S.sk (S.sk (S.sk (S.sk (S.sk (S.sk (S.sk (S.sk (S.sk (S.sk (S.o q.pt (S.end (hK _ ?_))))))))))))))))))))
              clear hK K
              refine Ev.ct ?_
              refine Ev.sr fun K hK => S.o q.as (S.end (hK _ ?_))
              clear hK K
              refine Ev.ret ?_
              refine Ev.ret1 ?_
              refine ⟨?_, rfl⟩
              first
               | rfl
               | exact beqT
               | exact lawT rfl
               | exact lawT (by omega)
               | (exfalso; exact nb_no e2 ‹_›)
               | (exfalso; have h := tot_0 (bars := bars) (by omega); omega)
               | (exfalso; have h := (bars_ok (b := bars) (by omega)).2.2; omega)
               | (exfalso; omega)
            · first
            | (first | omega | contradiction)
            | refine S.o q.mv (S.o q.mv (S.o q.neq (S.o q.pf (S.o q.pt (S.bn q.mv (fun c7 => ?_) (fun c7 => ?_))))))
              · first
              | (first | omega | contradiction)
              | refine S.sk (S.sk (S.sk (S.sk (S.sk (S.sk (S.sk (S.sk (S.sk (S.sk (S.sk (S.sk (S.o q.pt (S.end (hK _ ?_))))))))))))))
                clear hK K
                refine Ev.ct ?_
                refine Ev.sr fun K hK => S.o q.as (S.end (hK _ ?_))
                clear hK K
                refine Ev.ret ?_
                refine Ev.ret1 ?_
                refine ⟨?_, rfl⟩
                first
                 | rfl
                 | exact beqT
                 | exact lawT rfl
                 | exact lawT (by omega)
                 | (exfalso; exact nb_no e2 ‹_›)
                 | (exfalso; have h := tot_0 (bars := bars) (by omega); omega)
                 | (exfalso; have h := (bars_ok (b := bars) (by omega)).2.2; omega)
                 | (exfalso; omega)
              · first
              | (first | omega | contradiction)
              | refine S.o q.mv (S.o q.eql (S.bd q.mv (fun c8 => ?_) (fun c8 => ?_)))
                · first
                | (first | omega | contradiction)
                | refine S.o q.mv (S.o q.mv (S.c0 (hF := rTotal_fun _ (by omega)) (h := S.o q.neq (S.bn q.mv (fun c9 => ?_) (fun c9 => ?_)))))
                  · first
                  | (first | omega | contradiction)
                  | refine S.sk (S.sk (S.o q.pt (S.o q.pt (S.o q.pf (S.end (hK _ ?_))))))
                    clear hK K
                    refine Ev.ct ?_
                    refine Ev.sr fun K hK => S.o q.as (S.end (hK _ ?_))
                    clear hK K
                    refine Ev.ret ?_
                    refine Ev.ret1 ?_
                    refine ⟨?_, rfl⟩
                    first
                     | rfl
                     | exact beqT
                     | exact lawT rfl
                     | exact lawT (by omega)
                     | (exfalso; exact nb_no e2 ‹_›)
                     | (exfalso; have h := tot_0 (bars := bars) (by omega); omega)
                     | (exfalso; have h := (bars_ok (b := bars) (by omega)).2.2; omega)
                     | (exfalso; omega)
                  · first
                  | (first | omega | contradiction)
                  | refine S.o q.mv (S.o q.neq (S.o q.pf (S.o q.pt (S.o q.pf (S.end (hK _ ?_))))))
                    clear hK K
                    refine Ev.cn (fun c10 => ?_) (fun c10 => ?_)
                    · first
                    | (first | omega | contradiction)
                    | refine Ev.sr fun K hK => S.o q.as (S.end (hK _ ?_))
                      clear hK K
                      refine Ev.ret ?_
                      refine Ev.ret1 ?_
                      refine ⟨?_, rfl⟩
                      first
                       | rfl
                       | exact beqT
                       | exact lawT rfl
                       | exact lawT (by omega)
                       | (exfalso; exact nb_no e2 ‹_›)
                       | (exfalso; have h := tot_0 (bars := bars) (by omega); omega)
                       | (exfalso; have h := (bars_ok (b := bars) (by omega)).2.2; omega)
                       | (exfalso; omega)
                    · first
                    | (first | omega | contradiction)
                    | refine Ev.skip ?_
                      show Ev _ _ _ _
                      refine Ev.sr fun K hK => S.o q.mv (S.o q.mv (S.o q.mv (S.c0 (hF := rgiven_fun _ _ _ (by omega)) (h := S.o q.as (S.end (hK _ ?_))))))
                      clear hK K
                      refine Ev.seq ?_
                      refine Ev.sr fun K hK => S.o q.mv (S.o q.eql (S.end (hK _ ?_)))
                      clear hK K
                      refine Ev.cd (fun c11 => ?_) (fun c11 => ?_)
                      · first
                      | (first | omega | contradiction)
                      | refine Ev.region_S fun K hK => S.o q.mv (S.o q.as (S.end (hK _ ?_)))
                        clear hK K
                        show Ev _ _ _ _
                        refine Ev.seq ?_
                        refine Ev.sr fun K hK => S.o q.mv (S.o q.neq (S.end (hK _ ?_)))
                        clear hK K
                        refine Ev.cn (fun c12 => ?_) (fun c12 => ?_)
                        · first
                        | (first | omega | contradiction)
                        | have e2 : chkV l d a bars = false := by first | exact (chk_2 (by omega) (by omega)).2 | exact (chk_1 (by omega)).2
                          first
                           | rw [(chk_2 (l := l) (d := d) (a := a) (bars := bars) (by omega) (by omega)).1]
                           | rw [(chk_1 (l := l) (d := d) (a := a) (bars := bars) (by omega)).1]
                          refine Ev.sr fun K hK => S.o q.mv (S.o q.not (S.bb q.mv (fun c13 => ?_) (fun c13 => ?_)))
                          · first
                          | (first | omega | contradiction)
                          | refine S.o q.mv (S.o q.mv (S.o q.eql (S.o q.pt (S.o q.as (S.end (hK _ ?_))))))
                            clear hK K
                            refine Ev.ret ?_
                            refine Ev.ret1 ?_
                            refine ⟨?_, rfl⟩
                            first
                             | rfl
                             | exact beqT
                             | exact lawT rfl
                             | exact lawT (by omega)
                             | (exfalso; exact nb_no e2 ‹_›)
                             | (exfalso; have h := tot_0 (bars := bars) (by omega); omega)
                             | (exfalso; have h := (bars_ok (b := bars) (by omega)).2.2; omega)
                             | (exfalso; omega)
                          · first
                          | (first | omega | contradiction)
                          | refine S.sk (S.sk (S.sk (S.o q.pf (S.o q.as (S.end (hK _ ?_))))))
                            clear hK K
                            refine Ev.ret ?_
                            refine Ev.ret1 ?_
                            refine ⟨?_, rfl⟩
                            first
                             | rfl
                             | exact beqT
                             | exact lawT rfl
                             | exact lawT (by omega)
                             | (exfalso; exact nb_no e2 ‹_›)
                             | (exfalso; have h := tot_0 (bars := bars) (by omega); omega)
                             | (exfalso; have h := (bars_ok (b := bars) (by omega)).2.2; omega)
                             | (exfalso; omega)
                        · first
                        | (first | omega | contradiction)
                        | refine Ev.skip ?_
                          show Ev _ _ _ _
                          obtain ⟨e1, e2⟩ := chk_0 (l := l) (d := d) (a := a) (bars := bars) (by omega) (by omega)
                          rw [e1, e2]
                          refine Ev.sr fun K hK => S.o q.mv (S.o q.eql (S.bd q.mv (fun c14 => ?_) (fun c14 => ?_)))
                          · first
                          | (first | omega | contradiction)
                          | refine S.o q.mv (S.o q.mv (S.o q.mv (S.o q.mv (S.o q.mv (S.c0 (hF := rCheck_fun _ _ _ _ (by omega) (by omega)) (h := S.o (q.beql am_un4) (S.o q.pt (S.o q.as (S.end (hK _ ?_))))))))))
                            clear hK K
                            refine Ev.ret ?_
                            refine Ev.ret1 ?_
                            refine ⟨?_, rfl⟩
                            first
                             | rfl
                             | exact beqT
                             | exact lawT rfl
                             | exact lawT (by omega)
                             | (exfalso; exact nb_no e2 ‹_›)
                             | (exfalso; have h := tot_0 (bars := bars) (by omega); omega)
                             | (exfalso; have h := (bars_ok (b := bars) (by omega)).2.2; omega)
                             | (exfalso; omega)
                          · first
                          | (first | omega | contradiction)
                          | refine S.sk (S.sk (S.sk (S.sk (S.sk (S.sk (S.sk (S.o q.pf (S.o q.as (S.end (hK _ ?_))))))))))
                            clear hK K
                            refine Ev.ret ?_
                            refine Ev.ret1 ?_
                            refine ⟨?_, rfl⟩
                            first
                             | rfl
                             | exact beqT
                             | exact lawT rfl
                             | exact lawT (by omega)
                             | (exfalso; exact nb_no e2 ‹_›)
                             | (exfalso; have h := tot_0 (bars := bars) (by omega); omega)
                             | (exfalso; have h := (bars_ok (b := bars) (by omega)).2.2; omega)
                             | (exfalso; omega)
                      · first
                      | (first | omega | contradiction)
                      | refine Ev.skip ?_
                        show Ev _ _ _ _
                        refine Ev.seq ?_
                        refine Ev.sr fun K hK => S.o q.mv (S.o q.neq (S.end (hK _ ?_)))
                        clear hK K
                        refine Ev.cn (fun c15 => ?_) (fun c15 => ?_)
                        · first
                        | (first | omega | contradiction)
                        | have e2 : chkV l d a bars = false := by first | exact (chk_2 (by omega) (by omega)).2 | exact (chk_1 (by omega)).2
                          first
                           | rw [(chk_2 (l := l) (d := d) (a := a) (bars := bars) (by omega) (by omega)).1]
                           | rw [(chk_1 (l := l) (d := d) (a := a) (bars := bars) (by omega)).1]
                          refine Ev.sr fun K hK => S.o q.mv (S.o q.not (S.bb q.mv (fun c16 => ?_) (fun c16 => ?_)))
                          · first
                          | (first | omega | contradiction)
                          | refine S.o q.mv (S.o q.mv (S.o q.eql (S.o q.pt (S.o q.as (S.end (hK _ ?_))))))
                            clear hK K
                            refine Ev.ret ?_
                            refine Ev.ret1 ?_
                            refine ⟨?_, rfl⟩
                            first
                             | rfl
                             | exact beqT
                             | exact lawT rfl
                             | exact lawT (by omega)
                             | (exfalso; exact nb_no e2 ‹_›)
                             | (exfalso; have h := tot_0 (bars := bars) (by omega); omega)
                             | (exfalso; have h := (bars_ok (b := bars) (by omega)).2.2; omega)
                             | (exfalso; omega)
                          · first
                          | (first | omega | contradiction)
                          | refine S.sk (S.sk (S.sk (S.o q.pf (S.o q.as (S.end (hK _ ?_))))))
                            clear hK K
                            refine Ev.ret ?_
                            refine Ev.ret1 ?_
                            refine ⟨?_, rfl⟩
                            first
                             | rfl
                             | exact beqT
                             | exact lawT rfl
                             | exact lawT (by omega)
                             | (exfalso; exact nb_no e2 ‹_›)
                             | (exfalso; have h := tot_0 (bars := bars) (by omega); omega)
                             | (exfalso; have h := (bars_ok (b := bars) (by omega)).2.2; omega)
                             | (exfalso; omega)
                        · first
                        | (first | omega | contradiction)
                        | refine Ev.skip ?_
                          show Ev _ _ _ _
                          obtain ⟨e1, e2⟩ := chk_0 (l := l) (d := d) (a := a) (bars := bars) (by omega) (by omega)
                          rw [e1, e2]
                          refine Ev.sr fun K hK => S.o q.mv (S.o q.eql (S.bd q.mv (fun c17 => ?_) (fun c17 => ?_)))
                          · first
                          | (first | omega | contradiction)
                          | refine S.o q.mv (S.o q.mv (S.o q.mv (S.o q.mv (S.o q.mv (S.c0 (hF := rCheck_fun _ _ _ _ (by omega) (by omega)) (h := S.o (q.beql am_un4) (S.o q.pt (S.o q.as (S.end (hK _ ?_))))))))))
                            clear hK K
                            refine Ev.ret ?_
                            refine Ev.ret1 ?_
                            refine ⟨?_, rfl⟩
                            first
                             | rfl
                             | exact beqT
                             | exact lawT rfl
                             | exact lawT (by omega)
                             | (exfalso; exact nb_no e2 ‹_›)
                             | (exfalso; have h := tot_0 (bars := bars) (by omega); omega)
                             | (exfalso; have h := (bars_ok (b := bars) (by omega)).2.2; omega)
                             | (exfalso; omega)
                          · first
                          | (first | omega | contradiction)
                          | refine S.sk (S.sk (S.sk (S.sk (S.sk (S.sk (S.sk (S.o q.pf (S.o q.as (S.end (hK _ ?_))))))))))
                            clear hK K
                            refine Ev.ret ?_
                            refine Ev.ret1 ?_
                            refine ⟨?_, rfl⟩
                            first
                             | rfl
                             | exact beqT
                             | exact lawT rfl
                             | exact lawT (by omega)
                             | (exfalso; exact nb_no e2 ‹_›)
                             | (exfalso; have h := tot_0 (bars := bars) (by omega); omega)
                             | (exfalso; have h := (bars_ok (b := bars) (by omega)).2.2; omega)
                             | (exfalso; omega)
                · first
                | (first | omega | contradiction)
                | refine S.sk (S.sk (S.sk (S.sk (S.sk (S.sk (S.sk (S.sk (S.o q.pf (S.o q.pf (S.end (hK _ ?_)))))))))))
                  clear hK K
                  refine Ev.cf ?_
                  refine Ev.skip ?_
                  show Ev _ _ _ _
                  refine Ev.sr fun K hK => S.o q.mv (S.o q.mv (S.o q.mv (S.c0 (hF := rgiven_fun _ _ _ (by omega)) (h := S.o q.as (S.end (hK _ ?_))))))
                  clear hK K
                  refine Ev.seq ?_
                  refine Ev.sr fun K hK => S.o q.mv (S.o q.eql (S.end (hK _ ?_)))
                  clear hK K
                  refine Ev.cd (fun c18 => ?_) (fun c18 => ?_)
                  · first
                  | (first | omega | contradiction)
                  | refine Ev.region_S fun K hK => S.o q.mv (S.o q.as (S.end (hK _ ?_)))
                    clear hK K
                    show Ev _ _ _ _
                    refine Ev.seq ?_
                    refine Ev.sr fun K hK => S.o q.mv (S.o q.neq (S.end (hK _ ?_)))
                    clear hK K
                    refine Ev.cn (fun c19 => ?_) (fun c19 => ?_)
                    · first
                    | (first | omega | contradiction)
                    | have e2 : chkV l d a bars = false := by first | exact (chk_2 (by omega) (by omega)).2 | exact (chk_1 (by omega)).2
                      first
                       | rw [(chk_2 (l := l) (d := d) (a := a) (bars := bars) (by omega) (by omega)).1]
                       | rw [(chk_1 (l := l) (d := d) (a := a) (bars := bars) (by omega)).1]
                      refine Ev.sr fun K hK => S.o q.mv (S.o q.not (S.bb q.mv (fun c20 => ?_) (fun c20 => ?_)))
                      · first
                      | (first | omega | contradiction)
                      | refine S.o q.mv (S.o q.mv (S.o q.eql (S.o q.pt (S.o q.as (S.end (hK _ ?_))))))
                        clear hK K
                        refine Ev.ret ?_
                        refine Ev.ret1 ?_
                        refine ⟨?_, rfl⟩
                        first
                         | rfl
                         | exact beqT
                         | exact lawT rfl
                         | exact lawT (by omega)
                         | (exfalso; exact nb_no e2 ‹_›)
                         | (exfalso; have h := tot_0 (bars := bars) (by omega); omega)
                         | (exfalso; have h := (bars_ok (b := bars) (by omega)).2.2; omega)
                         | (exfalso; omega)
                      · first
                      | (first | omega | contradiction)
                      | refine S.sk (S.sk (S.sk (S.o q.pf (S.o q.as (S.end (hK _ ?_))))))
                        clear hK K
                        refine Ev.ret ?_
                        refine Ev.ret1 ?_
                        refine ⟨?_, rfl⟩
                        first
                         | rfl
                         | exact beqT
                         | exact lawT rfl
                         | exact lawT (by omega)
                         | (exfalso; exact nb_no e2 ‹_›)
                         | (exfalso; have h := tot_0 (bars := bars) (by omega); omega)
                         | (exfalso; have h := (bars_ok (b := bars) (by omega)).2.2; omega)
                         | (exfalso; omega)
                    · first
                    | (first | omega | contradiction)
                    | refine Ev.skip ?_
                      show Ev _ _ _ _
                      obtain ⟨e1, e2⟩ := chk_0 (l := l) (d := d) (a := a) (bars := bars) (by omega) (by omega)
                      rw [e1, e2]
                      refine Ev.sr fun K hK => S.o q.mv (S.o q.eql (S.bd q.mv (fun c21 => ?_) (fun c21 => ?_)))
                      · first
                      | (first | omega | contradiction)
                      | refine S.o q.mv (S.o q.mv (S.o q.mv (S.o q.mv (S.o q.mv (S.c0 (hF := rCheck_fun _ _ _ _ (by omega) (by omega)) (h := S.o (q.beql am_un4) (S.o q.pt (S.o q.as (S.end (hK _ ?_))))))))))
                        clear hK K
                        refine Ev.ret ?_
                        refine Ev.ret1 ?_
                        refine ⟨?_, rfl⟩
                        first
                         | rfl
                         | exact beqT
                         | exact lawT rfl
                         | exact lawT (by omega)
                         | (exfalso; exact nb_no e2 ‹_›)
                         | (exfalso; have h := tot_0 (bars := bars) (by omega); omega)
                         | (exfalso; have h := (bars_ok (b := bars) (by omega)).2.2; omega)
                         | (exfalso; omega)
                      · first
                      | (first | omega | contradiction)
                      | refine S.sk (S.sk (S.sk (S.sk (S.sk (S.sk (S.sk (S.o q.pf (S.o q.as (S.end (hK _ ?_))))))))))
                        clear hK K
                        refine Ev.ret ?_
                        refine Ev.ret1 ?_
                        refine ⟨?_, rfl⟩
                        first
                         | rfl
                         | exact beqT
                         | exact lawT rfl
                         | exact lawT (by omega)
                         | (exfalso; exact nb_no e2 ‹_›)
                         | (exfalso; have h := tot_0 (bars := bars) (by omega); omega)
                         | (exfalso; have h := (bars_ok (b := bars) (by omega)).2.2; omega)
                         | (exfalso; omega)
                  · first
                  | (first | omega | contradiction)
                  | refine Ev.skip ?_
                    show Ev _ _ _ _
                    refine Ev.seq ?_
                    refine Ev.sr fun K hK => S.o q.mv (S.o q.neq (S.end (hK _ ?_)))
                    clear hK K
                    refine Ev.cn (fun c22 => ?_) (fun c22 => ?_)
                    · first
                    | (first | omega | contradiction)
                    | have e2 : chkV l d a bars = false := by first | exact (chk_2 (by omega) (by omega)).2 | exact (chk_1 (by omega)).2
                      first
                       | rw [(chk_2 (l := l) (d := d) (a := a) (bars := bars) (by omega) (by omega)).1]
                       | rw [(chk_1 (l := l) (d := d) (a := a) (bars := bars) (by omega)).1]
                      refine Ev.sr fun K hK => S.o q.mv (S.o q.not (S.bb q.mv (fun c23 => ?_) (fun c23 => ?_)))
                      · first
                      | (first | omega | contradiction)
                      | refine S.o q.mv (S.o q.mv (S.o q.eql (S.o q.pt (S.o q.as (S.end (hK _ ?_))))))
                        clear hK K
                        refine Ev.ret ?_
                        refine Ev.ret1 ?_
                        refine ⟨?_, rfl⟩
                        first
                         | rfl
                         | exact beqT
                         | exact lawT rfl
                         | exact lawT (by omega)
                         | (exfalso; exact nb_no e2 ‹_›)
                         | (exfalso; have h := tot_0 (bars := bars) (by omega); omega)
                         | (exfalso; have h := (bars_ok (b := bars) (by omega)).2.2; omega)
                         | (exfalso; omega)
                      · first
                      | (first | omega | contradiction)
                      | refine S.sk (S.sk (S.sk (S.o q.pf (S.o q.as (S.end (hK _ ?_))))))
                        clear hK K
                        refine Ev.ret ?_
                        refine Ev.ret1 ?_
                        refine ⟨?_, rfl⟩
                        first
                         | rfl
                         | exact beqT
                         | exact lawT rfl
                         | exact lawT (by omega)
                         | (exfalso; exact nb_no e2 ‹_›)
                         | (exfalso; have h := tot_0 (bars := bars) (by omega); omega)
                         | (exfalso; have h := (bars_ok (b := bars) (by omega)).2.2; omega)
                         | (exfalso; omega)
                    · first
                    | (first | omega | contradiction)
                    | refine Ev.skip ?_
                      show Ev _ _ _ _
                      obtain ⟨e1, e2⟩ := chk_0 (l := l) (d := d) (a := a) (bars := bars) (by omega) (by omega)
                      rw [e1, e2]
                      refine Ev.sr fun K hK => S.o q.mv (S.o q.eql (S.bd q.mv (fun c24 => ?_) (fun c24 => ?_)))
                      · first
                      | (first | omega | contradiction)
                      | refine S.o q.mv (S.o q.mv (S.o q.mv (S.o q.mv (S.o q.mv (S.c0 (hF := rCheck_fun _ _ _ _ (by omega) (by omega)) (h := S.o (q.beql am_un4) (S.o q.pt (S.o q.as (S.end (hK _ ?_))))))))))
                        clear hK K
                        refine Ev.ret ?_
                        refine Ev.ret1 ?_
                        refine ⟨?_, rfl⟩
                        first
                         | rfl
                         | exact beqT
                         | exact lawT rfl
                         | exact lawT (by omega)
                         | (exfalso; exact nb_no e2 ‹_›)
                         | (exfalso; have h := tot_0 (bars := bars) (by omega); omega)
                         | (exfalso; have h := (bars_ok (b := bars) (by omega)).2.2; omega)
                         | (exfalso; omega)
                      · first
                      | (first | omega | contradiction)
                      | refine S.sk (S.sk (S.sk (S.sk (S.sk (S.sk (S.sk (S.o q.pf (S.o q.as (S.end (hK _ ?_))))))))))
                        clear hK K
                        refine Ev.ret ?_
                        refine Ev.ret1 ?_
                        refine ⟨?_, rfl⟩
                        first
                         | rfl
                         | exact beqT
                         | exact lawT rfl
                         | exact lawT (by omega)
                         | (exfalso; exact nb_no e2 ‹_›)
                         | (exfalso; have h := tot_0 (bars := bars) (by omega); omega)
                         | (exfalso; have h := (bars_ok (b := bars) (by omega)).2.2; omega)
                         | (exfalso; omega)
          · first
          | (first | omega | contradiction)
          | refine S.sk (S.sk (S.sk (S.sk (S.sk (S.sk (S.sk (S.o q.pf (S.o q.mv (S.o q.mv (S.o q.eql (S.bd q.mv (fun c25 => ?_) (fun c25 => ?_))))))))))))
            · first
            | (first | omega | contradiction)
            | refine S.o q.mv (S.o q.mv (S.c0 (hF := rTotal_fun _ (by omega)) (h := S.o q.neq (S.bn q.mv (fun c26 => ?_) (fun c26 => ?_)))))
              · first
              | (first | omega | contradiction)
              | refine S.sk (S.sk (S.o q.pt (S.o q.pt (S.o q.pf (S.end (hK _ ?_))))))
                clear hK K
                refine Ev.ct ?_
                refine Ev.sr fun K hK => S.o q.as (S.end (hK _ ?_))
                clear hK K
                refine Ev.ret ?_
                refine Ev.ret1 ?_
                refine ⟨?_, rfl⟩
                first
                 | rfl
                 | exact beqT
                 | exact lawT rfl
                 | exact lawT (by omega)
                 | (exfalso; exact nb_no e2 ‹_›)
                 | (exfalso; have h := tot_0 (bars := bars) (by omega); omega)
                 | (exfalso; have h := (bars_ok (b := bars) (by omega)).2.2; omega)
                 | (exfalso; omega)
              · first
              | (first | omega | contradiction)
              | refine S.o q.mv (S.o q.neq (S.o q.pf (S.o q.pt (S.o q.pf (S.end (hK _ ?_))))))
                clear hK K
                refine Ev.cn (fun c27 => ?_) (fun c27 => ?_)
                · first
                | (first | omega | contradiction)
                | refine Ev.sr fun K hK => S.o q.as (S.end (hK _ ?_))
                  clear hK K
                  refine Ev.ret ?_
                  refine Ev.ret1 ?_
                  refine ⟨?_, rfl⟩
                  first
                   | rfl
                   | exact beqT
                   | exact lawT rfl
                   | exact lawT (by omega)
                   | (exfalso; exact nb_no e2 ‹_›)
                   | (exfalso; have h := tot_0 (bars := bars) (by omega); omega)
                   | (exfalso; have h := (bars_ok (b := bars) (by omega)).2.2; omega)
                   | (exfalso; omega)
                · first
                | (first | omega | contradiction)
                | refine Ev.skip ?_
                  show Ev _ _ _ _
                  refine Ev.sr fun K hK => S.o q.mv (S.o q.mv (S.o q.mv (S.c0 (hF := rgiven_fun _ _ _ (by omega)) (h := S.o q.as (S.end (hK _ ?_))))))
                  clear hK K
                  refine Ev.seq ?_
                  refine Ev.sr fun K hK => S.o q.mv (S.o q.eql (S.end (hK _ ?_)))
                  clear hK K
                  refine Ev.cd (fun c28 => ?_) (fun c28 => ?_)
                  · first
                  | (first | omega | contradiction)
                  | refine Ev.region_S fun K hK => S.o q.mv (S.o q.as (S.end (hK _ ?_)))
                    clear hK K
                    show Ev _ _ _ _
                    refine Ev.seq ?_
                    refine Ev.sr fun K hK => S.o q.mv (S.o q.neq (S.end (hK _ ?_)))
                    clear hK K
                    refine Ev.cn (fun c29 => ?_) (fun c29 => ?_)
                    · first
                    | (first | omega | contradiction)
                    | have e2 : chkV l d a bars = false := by first | exact (chk_2 (by omega) (by omega)).2 | exact (chk_1 (by omega)).2
                      first
                       | rw [(chk_2 (l := l) (d := d) (a := a) (bars := bars) (by omega) (by omega)).1]
                       | rw [(chk_1 (l := l) (d := d) (a := a) (bars := bars) (by omega)).1]
                      refine Ev.sr fun K hK => S.o q.mv (S.o q.not (S.bb q.mv (fun c30 => ?_) (fun c30 => ?_)))
                      · first
                      | (first | omega | contradiction)
                      | refine S.o q.mv (S.o q.mv (S.o q.eql (S.o q.pt (S.o q.as (S.end (hK _ ?_))))))
                        clear hK K
                        refine Ev.ret ?_
                        refine Ev.ret1 ?_
                        refine ⟨?_, rfl⟩
                        first
                         | rfl
                         | exact beqT
                         | exact lawT rfl
                         | exact lawT (by omega)
                         | (exfalso; exact nb_no e2 ‹_›)
                         | (exfalso; have h := tot_0 (bars := bars) (by omega); omega)
                         | (exfalso; have h := (bars_ok (b := bars) (by omega)).2.2; omega)
                         | (exfalso; omega)
                      · first
                      | (first | omega | contradiction)
                      | refine S.sk (S.sk (S.sk (S.o q.pf (S.o q.as (S.end (hK _ ?_))))))
                        clear hK K
                        refine Ev.ret ?_
                        refine Ev.ret1 ?_
                        refine ⟨?_, rfl⟩
                        first
                         | rfl
                         | exact beqT
                         | exact lawT rfl
                         | exact lawT (by omega)
                         | (exfalso; exact nb_no e2 ‹_›)
                         | (exfalso; have h := tot_0 (bars := bars) (by omega); omega)
                         | (exfalso; have h := (bars_ok (b := bars) (by omega)).2.2; omega)
                         | (exfalso; omega)
                    · first
                    | (first | omega | contradiction)
                    | refine Ev.skip ?_
                      show Ev _ _ _ _
                      obtain ⟨e1, e2⟩ := chk_0 (l := l) (d := d) (a := a) (bars := bars) (by omega) (by omega)
                      rw [e1, e2]
                      refine Ev.sr fun K hK => S.o q.mv (S.o q.eql (S.bd q.mv (fun c31 => ?_) (fun c31 => ?_)))
                      · first
                      | (first | omega | contradiction)
                      | refine S.o q.mv (S.o q.mv (S.o q.mv (S.o q.mv (S.o q.mv (S.c0 (hF := rCheck_fun _ _ _ _ (by omega) (by omega)) (h := S.o (q.beql am_un4) (S.o q.pt (S.o q.as (S.end (hK _ ?_))))))))))
                        clear hK K
                        refine Ev.ret ?_
                        refine Ev.ret1 ?_
                        refine ⟨?_, rfl⟩
                        first
                         | rfl
                         | exact beqT
                         | exact lawT rfl
                         | exact lawT (by omega)
                         | (exfalso; exact nb_no e2 ‹_›)
                         | (exfalso; have h := tot_0 (bars := bars) (by omega); omega)
                         | (exfalso; have h := (bars_ok (b := bars) (by omega)).2.2; omega)
                         | (exfalso; omega)
                      · first
                      | (first | omega | contradiction)
                      | refine S.sk (S.sk (S.sk (S.sk (S.sk (S.sk (S.sk (S.o q.pf (S.o q.as (S.end (hK _ ?_))))))))))
                        clear hK K
                        refine Ev.ret ?_
                        refine Ev.ret1 ?_
                        refine ⟨?_, rfl⟩
                        first
                         | rfl
                         | exact beqT
                         | exact lawT rfl
                         | exact lawT (by omega)
                         | (exfalso; exact nb_no e2 ‹_›)
                         | (exfalso; have h := tot_0 (bars := bars) (by omega); omega)
                         | (exfalso; have h := (bars_ok (b := bars) (by omega)).2.2; omega)
                         | (exfalso; omega)
                  · first
                  | (first | omega | contradiction)
                  | refine Ev.skip ?_
                    show Ev _ _ _ _
                    refine Ev.seq ?_
                    refine Ev.sr fun K hK => S.o q.mv (S.o q.neq (S.end (hK _ ?_)))
                    clear hK K
                    refine Ev.cn (fun c32 => ?_) (fun c32 => ?_)
                    · first
                    | (first | omega | contradiction)
                    | have e2 : chkV l d a bars = false := by first | exact (chk_2 (by omega) (by omega)).2 | exact (chk_1 (by omega)).2
                      first
                       | rw [(chk_2 (l := l) (d := d) (a := a) (bars := bars) (by omega) (by omega)).1]
                       | rw [(chk_1 (l := l) (d := d) (a := a) (bars := bars) (by omega)).1]
                      refine Ev.sr fun K hK => S.o q.mv (S.o q.not (S.bb q.mv (fun c33 => ?_) (fun c33 => ?_)))
                      · first
                      | (first | omega | contradiction)
                      | refine S.o q.mv (S.o q.mv (S.o q.eql (S.o q.pt (S.o q.as (S.end (hK _ ?_))))))
                        clear hK K
                        refine Ev.ret ?_
                        refine Ev.ret1 ?_
                        refine ⟨?_, rfl⟩
                        first
                         | rfl
                         | exact beqT
                         | exact lawT rfl
                         | exact lawT (by omega)
                         | (exfalso; exact nb_no e2 ‹_›)
                         | (exfalso; have h := tot_0 (bars := bars) (by omega); omega)
                         | (exfalso; have h := (bars_ok (b := bars) (by omega)).2.2; omega)
                         | (exfalso; omega)
                      · first
                      | (first | omega | contradiction)
                      | refine S.sk (S.sk (S.sk (S.o q.pf (S.o q.as (S.end (hK _ ?_))))))
                        clear hK K
                        refine Ev.ret ?_
                        refine Ev.ret1 ?_
                        refine ⟨?_, rfl⟩
                        first
                         | rfl
                         | exact beqT
                         | exact lawT rfl
                         | exact lawT (by omega)
                         | (exfalso; exact nb_no e2 ‹_›)
                         | (exfalso; have h := tot_0 (bars := bars) (by omega); omega)
                         | (exfalso; have h := (bars_ok (b := bars) (by omega)).2.2; omega)
                         | (exfalso; omega)
                    · first
                    | (first | omega | contradiction)
                    | refine Ev.skip ?_
                      show Ev _ _ _ _
                      obtain ⟨e1, e2⟩ := chk_0 (l := l) (d := d) (a := a) (bars := bars) (by omega) (by omega)
                      rw [e1, e2]
                      refine Ev.sr fun K hK => S.o q.mv (S.o q.eql (S.bd q.mv (fun c34 => ?_) (fun c34 => ?_)))
                      · first
                      | (first | omega | contradiction)
                      | refine S.o q.mv (S.o q.mv (S.o q.mv (S.o q.mv (S.o q.mv (S.c0 (hF := rCheck_fun _ _ _ _ (by omega) (by omega)) (h := S.o (q.beql am_un4) (S.o q.pt (S.o q.as (S.end (hK _ ?_))))))))))
                        clear hK K
                        refine Ev.ret ?_
                        refine Ev.ret1 ?_
                        refine ⟨?_, rfl⟩
                        first
                         | rfl
                         | exact beqT
                         | exact lawT rfl
                         | exact lawT (by omega)
                         | (exfalso; exact nb_no e2 ‹_›)
                         | (exfalso; have h := tot_0 (bars := bars) (by omega); omega)
                         | (exfalso; have h := (bars_ok (b := bars) (by omega)).2.2; omega)
                         | (exfalso; omega)
                      · first
                      | (first | omega | contradiction)
                      | refine S.sk (S.sk (S.sk (S.sk (S.sk (S.sk (S.sk (S.o q.pf (S.o q.as (S.end (hK _ ?_))))))))))
                        clear hK K
                        refine Ev.ret ?_
                        refine Ev.ret1 ?_
                        refine ⟨?_, rfl⟩
                        first
                         | rfl
                         | exact beqT
                         | exact lawT rfl
                         | exact lawT (by omega)
                         | (exfalso; exact nb_no e2 ‹_›)
                         | (exfalso; have h := tot_0 (bars := bars) (by omega); omega)
                         | (exfalso; have h := (bars_ok (b := bars) (by omega)).2.2; omega)
                         | (exfalso; omega)
            · first
            | (first | omega | contradiction)
            | refine S.sk (S.sk (S.sk (S.sk (S.sk (S.sk (S.sk (S.sk (S.o q.pf (S.o q.pf (S.end (hK _ ?_)))))))))))
              clear hK K
              refine Ev.cf ?_
              refine Ev.skip ?_
              show Ev _ _ _ _
              refine Ev.sr fun K hK => S.o q.mv (S.o q.mv (S.o q.mv (S.c0 (hF := rgiven_fun _ _ _ (by omega)) (h := S.o q.as (S.end (hK _ ?_))))))
              clear hK K
              refine Ev.seq ?_
              refine Ev.sr fun K hK => S.o q.mv (S.o q.eql (S.end (hK _ ?_)))
              clear hK K
              refine Ev.cd (fun c35 => ?_) (fun c35 => ?_)
              · first
              | (first | omega | contradiction)
              | refine Ev.region_S fun K hK => S.o q.mv (S.o q.as (S.end (hK _ ?_)))
                clear hK K
                show Ev _ _ _ _
                refine Ev.seq ?_
                refine Ev.sr fun K hK => S.o q.mv (S.o q.neq (S.end (hK _ ?_)))
                clear hK K
                refine Ev.cn (fun c36 => ?_) (fun c36 => ?_)
                · first
                | (first | omega | contradiction)
                | have e2 : chkV l d a bars = false := by first | exact (chk_2 (by omega) (by omega)).2 | exact (chk_1 (by omega)).2
                  first
                   | rw [(chk_2 (l := l) (d := d) (a := a) (bars := bars) (by omega) (by omega)).1]
                   | rw [(chk_1 (l := l) (d := d) (a := a) (bars := bars) (by omega)).1]
                  refine Ev.sr fun K hK => S.o q.mv (S.o q.not (S.bb q.mv (fun c37 => ?_) (fun c37 => ?_)))
                  · first
                  | (first | omega | contradiction)
                  | refine S.o q.mv (S.o q.mv (S.o q.eql (S.o q.pt (S.o q.as (S.end (hK _ ?_))))))
                    clear hK K
                    refine Ev.ret ?_
                    refine Ev.ret1 ?_
                    refine ⟨?_, rfl⟩
                    first
                     | rfl
                     | exact beqT
                     | exact lawT rfl
                     | exact lawT (by omega)
                     | (exfalso; exact nb_no e2 ‹_›)
                     | (exfalso; have h := tot_0 (bars := bars) (by omega); omega)
                     | (exfalso; have h := (bars_ok (b := bars) (by omega)).2.2; omega)
                     | (exfalso; omega)
                  · first
                  | (first | omega | contradiction)
                  | refine S.sk (S.sk (S.sk (S.o q.pf (S.o q.as (S.end (hK _ ?_))))))
                    clear hK K
                    refine Ev.ret ?_
                    refine Ev.ret1 ?_
                    refine ⟨?_, rfl⟩
                    first
                     | rfl
                     | exact beqT
                     | exact lawT rfl
                     | exact lawT (by omega)
                     | (exfalso; exact nb_no e2 ‹_›)
                     | (exfalso; have h := tot_0 (bars := bars) (by omega); omega)
                     | (exfalso; have h := (bars_ok (b := bars) (by omega)).2.2; omega)
                     | (exfalso; omega)
                · first
                | (first | omega | contradiction)
                | refine Ev.skip ?_
                  show Ev _ _ _ _
                  obtain ⟨e1, e2⟩ := chk_0 (l := l) (d := d) (a := a) (bars := bars) (by omega) (by omega)
                  rw [e1, e2]
                  refine Ev.sr fun K hK => S.o q.mv (S.o q.eql (S.bd q.mv (fun c38 => ?_) (fun c38 => ?_)))
                  · first
                  | (first | omega | contradiction)
                  | refine S.o q.mv (S.o q.mv (S.o q.mv (S.o q.mv (S.o q.mv (S.c0 (hF := rCheck_fun _ _ _ _ (by omega) (by omega)) (h := S.o (q.beql am_un4) (S.o q.pt (S.o q.as (S.end (hK _ ?_))))))))))
                    clear hK K
                    refine Ev.ret ?_
                    refine Ev.ret1 ?_
                    refine ⟨?_, rfl⟩
                    first
                     | rfl
                     | exact beqT
                     | exact lawT rfl
                     | exact lawT (by omega)
                     | (exfalso; exact nb_no e2 ‹_›)
                     | (exfalso; have h := tot_0 (bars := bars) (by omega); omega)
                     | (exfalso; have h := (bars_ok (b := bars) (by omega)).2.2; omega)
                     | (exfalso; omega)
                  · first
                  | (first | omega | contradiction)
                  | refine S.sk (S.sk (S.sk (S.sk (S.sk (S.sk (S.sk (S.o q.pf (S.o q.as (S.end (hK _ ?_))))))))))
                    clear hK K
                    refine Ev.ret ?_
                    refine Ev.ret1 ?_
                    refine ⟨?_, rfl⟩
                    first
                     | rfl
                     | exact beqT
                     | exact lawT rfl
                     | exact lawT (by omega)
                     | (exfalso; exact nb_no e2 ‹_›)
                     | (exfalso; have h := tot_0 (bars := bars) (by omega); omega)
                     | (exfalso; have h := (bars_ok (b := bars) (by omega)).2.2; omega)
                     | (exfalso; omega)
              · first
              | (first | omega | contradiction)
              | refine Ev.skip ?_
                show Ev _ _ _ _
                refine Ev.seq ?_
                refine Ev.sr fun K hK => S.o q.mv (S.o q.neq (S.end (hK _ ?_)))
                clear hK K
                refine Ev.cn (fun c39 => ?_) (fun c39 => ?_)
                · first
                | (first | omega | contradiction)
                | have e2 : chkV l d a bars = false := by first | exact (chk_2 (by omega) (by omega)).2 | exact (chk_1 (by omega)).2
                  first
                   | rw [(chk_2 (l := l) (d := d) (a := a) (bars := bars) (by omega) (by omega)).1]
                   | rw [(chk_1 (l := l) (d := d) (a := a) (bars := bars) (by omega)).1]
                  refine Ev.sr fun K hK => S.o q.mv (S.o q.not (S.bb q.mv (fun c40 => ?_) (fun c40 => ?_)))
                  · first
                  | (first | omega | contradiction)
                  | refine S.o q.mv (S.o q.mv (S.o q.eql (S.o q.pt (S.o q.as (S.end (hK _ ?_))))))
                    clear hK K
                    refine Ev.ret ?_
                    refine Ev.ret1 ?_
                    refine ⟨?_, rfl⟩
                    first
                     | rfl
                     | exact beqT
                     | exact lawT rfl
                     | exact lawT (by omega)
                     | (exfalso; exact nb_no e2 ‹_›)
                     | (exfalso; have h := tot_0 (bars := bars) (by omega); omega)
                     | (exfalso; have h := (bars_ok (b := bars) (by omega)).2.2; omega)
                     | (exfalso; omega)
                  · first
                  | (first | omega | contradiction)
                  | refine S.sk (S.sk (S.sk (S.o q.pf (S.o q.as (S.end (hK _ ?_))))))
                    clear hK K
                    refine Ev.ret ?_
                    refine Ev.ret1 ?_
                    refine ⟨?_, rfl⟩
                    first
                     | rfl
                     | exact beqT
                     | exact lawT rfl
                     | exact lawT (by omega)
                     | (exfalso; exact nb_no e2 ‹_›)
                     | (exfalso; have h := tot_0 (bars := bars) (by omega); omega)
                     | (exfalso; have h := (bars_ok (b := bars) (by omega)).2.2; omega)
                     | (exfalso; omega)
                · first
                | (first | omega | contradiction)
                | refine Ev.skip ?_
                  show Ev _ _ _ _
                  obtain ⟨e1, e2⟩ := chk_0 (l := l) (d := d) (a := a) (bars := bars) (by omega) (by omega)
                  rw [e1, e2]
                  refine Ev.sr fun K hK => S.o q.mv (S.o q.eql (S.bd q.mv (fun c41 => ?_) (fun c41 => ?_)))
                  · first
                  | (first | omega | contradiction)
                  | refine S.o q.mv (S.o q.mv (S.o q.mv (S.o q.mv (S.o q.mv (S.c0 (hF := rCheck_fun _ _ _ _ (by omega) (by omega)) (h := S.o (q.beql am_un4) (S.o q.pt (S.o q.as (S.end (hK _ ?_))))))))))
                    clear hK K
                    refine Ev.ret ?_
                    refine Ev.ret1 ?_
                    refine ⟨?_, rfl⟩
                    first
                     | rfl
                     | exact beqT
                     | exact lawT rfl
                     | exact lawT (by omega)
                     | (exfalso; exact nb_no e2 ‹_›)
                     | (exfalso; have h := tot_0 (bars := bars) (by omega); omega)
                     | (exfalso; have h := (bars_ok (b := bars) (by omega)).2.2; omega)
                     | (exfalso; omega)
                  · first
                  | (first | omega | contradiction)
                  | refine S.sk (S.sk (S.sk (S.sk (S.sk (S.sk (S.sk (S.o q.pf (S.o q.as (S.end (hK _ ?_))))))))))
                    clear hK K
                    refine Ev.ret ?_
                    refine Ev.ret1 ?_
                    refine ⟨?_, rfl⟩
                    first
                     | rfl
                     | exact beqT
                     | exact lawT rfl
                     | exact lawT (by omega)
                     | (exfalso; exact nb_no e2 ‹_›)
                     | (exfalso; have h := tot_0 (bars := bars) (by omega); omega)
                     | (exfalso; have h := (bars_ok (b := bars) (by omega)).2.2; omega)
                     | (exfalso; omega)
    · first
    | (first | omega | contradiction)
    | refine S.sk (S.sk (S.sk (S.o q.pf (S.o q.pf (S.o q.mv (S.o q.mv (S.o (q.lens am_el25) (S.o q.gtr (S.o q.pf (S.end (hK _ ?_)))))))))))
      clear hK K
      refine Ev.cd (fun c42 => ?_) (fun c42 => ?_)
      · first
      | (first | omega | contradiction)
      | refine Ev.sr fun K hK => S.o q.as (S.end (hK _ ?_))
        clear hK K
        refine Ev.ret ?_
        refine Ev.ret1 ?_
        refine ⟨?_, rfl⟩
        first
         | rfl
         | exact beqT
         | exact lawT rfl
         | exact lawT (by omega)
         | (exfalso; exact nb_no e2 ‹_›)
         | (exfalso; have h := tot_0 (bars := bars) (by omega); omega)
         | (exfalso; have h := (bars_ok (b := bars) (by omega)).2.2; omega)
         | (exfalso; omega)
      · first
      | (first | omega | contradiction)
      | refine Ev.skip ?_
        show Ev _ _ _ _
        refine Ev.sr fun K hK => S.o q.mv (S.c0 (hF := Total_fun _ (by omega)) (h := S.o q.mv (S.o q.ex (S.o q.ex (S.o q.as (S.o q.as (S.end (hK _ ?_))))))))
        clear hK K
        refine Ev.sr fun K hK => S.o q.mv (S.o q.mv (S.o q.mv (S.o q.mv (S.c0 (hF := Check_fun _ _ _ _ (by omega)) (h := S.o q.mv (S.o q.ex (S.o q.ex (S.o q.as (S.o q.as (S.end (hK _ ?_)))))))))))
        clear hK K
        refine Ev.sr fun K hK => S.o q.mv (S.c0 (hF := rBars_fun _ (by omega)) (h := S.o q.as (S.end (hK _ ?_))))
        clear hK K
        refine Ev.seq ?_
        refine Ev.sr fun K hK => S.o q.mv (S.o q.neq (S.bn q.mv (fun c43 => ?_) (fun c43 => ?_)))
        · first
        | (first | omega | contradiction)
        | refine S.o q.mv (S.o q.neq (S.bn q.mv (fun c44 => ?_) (fun c44 => ?_)))
          · first
          | (first | omega | contradiction)
          | refine S.sk (S.sk (S.sk (S.o q.pt (S.o q.pt (S.o q.mv (S.sk (S.sk (S.sk (S.sk (S.sk (S.sk (S.sk (S.sk (S.sk (S.sk (S.sk (S.sk (S.o q.pt (S.end (hK _ ?_))))))))))))))))))))
            clear hK K
            refine Ev.ct ?_
            refine Ev.sr fun K hK => S.o q.as (S.end (hK _ ?_))
            clear hK K
            refine Ev.ret ?_
            refine Ev.ret1 ?_
            refine ⟨?_, rfl⟩
            first
             | rfl
             | exact beqT
             | exact lawT rfl
             | exact lawT (by omega)
             | (exfalso; exact nb_no e2 ‹_›)
             | (exfalso; have h := tot_0 (bars := bars) (by omega); omega)
             | (exfalso; have h := (bars_ok (b := bars) (by omega)).2.2; omega)
             | (exfalso; omega)
          · first
          | (first | omega | contradiction)
          | refine S.o q.mv (S.o q.mv (S.o q.neq (S.o q.pf (S.o q.pt (S.bn q.mv (fun c45 => ?_) (fun c45 => ?_))))))
            · first
            | (first | omega | contradiction)
            | refine S.sk (S.sk (S.sk (S.sk (S.sk (S.sk (S.sk (S.sk (S.sk (S.sk (S.sk (S.sk (S.o q.pt (S.end (hK _ ?_))))))))))))))
              clear hK K
              refine Ev.ct ?_
              refine Ev.sr fun K hK => S.o q.as (S.end (hK _ ?_))
              clear hK K
              refine Ev.ret ?_
              refine Ev.ret1 ?_
              refine ⟨?_, rfl⟩
              first
               | rfl
               | exact beqT
               | exact lawT rfl
               | exact lawT (by omega)
               | (exfalso; exact nb_no e2 ‹_›)
               | (exfalso; have h := tot_0 (bars := bars) (by omega); omega)
               | (exfalso; have h := (bars_ok (b := bars) (by omega)).2.2; omega)
               | (exfalso; omega)
            · first
            | (first | omega | contradiction)
            | refine S.o q.mv (S.o q.eql (S.bd q.mv (fun c46 => ?_) (fun c46 => ?_)))
              · first
              | (first | omega | contradiction)
              | refine S.o q.mv (S.o q.mv (S.c0 (hF := rTotal_fun _ (by omega)) (h := S.o q.neq (S.bn q.mv (fun c47 => ?_) (fun c47 => ?_)))))
                · first
                | (first | omega | contradiction)
                | refine S.sk (S.sk (S.o q.pt (S.o q.pt (S.o q.pf (S.end (hK _ ?_))))))
                  clear hK K
                  refine Ev.ct ?_
                  refine Ev.sr fun K hK => S.o q.as (S.end (hK _ ?_))
                  clear hK K
                  refine Ev.ret ?_
                  refine Ev.ret1 ?_
                  refine ⟨?_, rfl⟩
                  first
                   | rfl
                   | exact beqT
                   | exact lawT rfl
                   | exact lawT (by omega)
                   | (exfalso; exact nb_no e2 ‹_›)
                   | (exfalso; have h := tot_0 (bars := bars) (by omega); omega)
                   | (exfalso; have h := (bars_ok (b := bars) (by omega)).2.2; omega)
                   | (exfalso; omega)
                · first
                | (first | omega | contradiction)
                | refine S.o q.mv (S.o q.neq (S.o q.pf (S.o q.pt (S.o q.pf (S.end (hK _ ?_))))))
                  clear hK K
                  refine Ev.cn (fun c48 => ?_) (fun c48 => ?_)
                  · first
                  | (first | omega | contradiction)
                  | refine Ev.sr fun K hK => S.o q.as (S.end (hK _ ?_))
                    clear hK K
                    refine Ev.ret ?_
                    refine Ev.ret1 ?_
                    refine ⟨?_, rfl⟩
                    first
                     | rfl
                     | exact beqT
                     | exact lawT rfl
                     | exact lawT (by omega)
                     | (exfalso; exact nb_no e2 ‹_›)
                     | (exfalso; have h := tot_0 (bars := bars) (by omega); omega)
                     | (exfalso; have h := (bars_ok (b := bars) (by omega)).2.2; omega)
                     | (exfalso; omega)
                  · first
                  | (first | omega | contradiction)
                  | refine Ev.skip ?_
                    show Ev _ _ _ _
                    refine Ev.sr fun K hK => S.o q.mv (S.o q.mv (S.o q.mv (S.c0 (hF := rgiven_fun _ _ _ (by omega)) (h := S.o q.as (S.end (hK _ ?_))))))
                    clear hK K
                    refine Ev.seq ?_
                    refine Ev.sr fun K hK => S.o q.mv (S.o q.eql (S.end (hK _ ?_)))
                    clear hK K
                    refine Ev.cd (fun c49 => ?_) (fun c49 => ?_)
                    · first
                    | (first | omega | contradiction)
                    | refine Ev.region_S fun K hK => S.o q.mv (S.o q.as (S.end (hK _ ?_)))
                      clear hK K
                      show Ev _ _ _ _
                      refine Ev.seq ?_
                      refine Ev.sr fun K hK => S.o q.mv (S.o q.neq (S.end (hK _ ?_)))
                      clear hK K
                      refine Ev.cn (fun c50 => ?_) (fun c50 => ?_)
                      · first
                      | (first | omega | contradiction)
                      | have e2 : chkV l d a bars = false := by first | exact (chk_2 (by omega) (by omega)).2 | exact (chk_1 (by omega)).2
                        first
                         | rw [(chk_2 (l := l) (d := d) (a := a) (bars := bars) (by omega) (by omega)).1]
                         | rw [(chk_1 (l := l) (d := d) (a := a) (bars := bars) (by omega)).1]
                        refine Ev.sr fun K hK => S.o q.mv (S.o q.not (S.bb q.mv (fun c51 => ?_) (fun c51 => ?_)))
                        · first
                        | (first | omega | contradiction)
                        | refine S.o q.mv (S.o q.mv (S.o q.eql (S.o q.pt (S.o q.as (S.end (hK _ ?_))))))
                          clear hK K
                          refine Ev.ret ?_
                          refine Ev.ret1 ?_
                          refine ⟨?_, rfl⟩
                          first
                           | rfl
                           | exact beqT
                           | exact lawT rfl
                           | exact lawT (by omega)
                           | (exfalso; exact nb_no e2 ‹_›)
                           | (exfalso; have h := tot_0 (bars := bars) (by omega); omega)
                           | (exfalso; have h := (bars_ok (b := bars) (by omega)).2.2; omega)
                           | (exfalso; omega)
                        · first
                        | (first | omega | contradiction)
                        | refine S.sk (S.sk (S.sk (S.o q.pf (S.o q.as (S.end (hK _ ?_))))))
                          clear hK K
                          refine Ev.ret ?_
                          refine Ev.ret1 ?_
                          refine ⟨?_, rfl⟩
                          first
                           | rfl
                           | exact beqT
                           | exact lawT rfl
                           | exact lawT (by omega)
                           | (exfalso; exact nb_no e2 ‹_›)
                           | (exfalso; have h := tot_0 (bars := bars) (by omega); omega)
                           | (exfalso; have h := (bars_ok (b := bars) (by omega)).2.2; omega)
                           | (exfalso; omega)
                      · first
                      | (first | omega | contradiction)
                      | refine Ev.skip ?_
                        show Ev _ _ _ _
                        obtain ⟨e1, e2⟩ := chk_0 (l := l) (d := d) (a := a) (bars := bars) (by omega) (by omega)
                        rw [e1, e2]
                        refine Ev.sr fun K hK => S.o q.mv (S.o q.eql (S.bd q.mv (fun c52 => ?_) (fun c52 => ?_)))
                        · first
                        | (first | omega | contradiction)
                        | refine S.o q.mv (S.o q.mv (S.o q.mv (S.o q.mv (S.o q.mv (S.c0 (hF := rCheck_fun _ _ _ _ (by omega) (by omega)) (h := S.o (q.beql am_un4) (S.o q.pt (S.o q.as (S.end (hK _ ?_))))))))))
                          clear hK K
                          refine Ev.ret ?_
                          refine Ev.ret1 ?_
                          refine ⟨?_, rfl⟩
                          first
                           | rfl
                           | exact beqT
                           | exact lawT rfl
                           | exact lawT (by omega)
                           | (exfalso; exact nb_no e2 ‹_›)
                           | (exfalso; have h := tot_0 (bars := bars) (by omega); omega)
                           | (exfalso; have h := (bars_ok (b := bars) (by omega)).2.2; omega)
                           | (exfalso; omega)
                        · first
                        | (first | omega | contradiction)
                        | refine S.sk (S.sk (S.sk (S.sk (S.sk (S.sk (S.sk (S.o q.pf (S.o q.as (S.end (hK _ ?_))))))))))
                          clear hK K
                          refine Ev.ret ?_
                          refine Ev.ret1 ?_
                          refine ⟨?_, rfl⟩
                          first
                           | rfl
                           | exact beqT
                           | exact lawT rfl
                           | exact lawT (by omega)
                           | (exfalso; exact nb_no e2 ‹_›)
                           | (exfalso; have h := tot_0 (bars := bars) (by omega); omega)
                           | (exfalso; have h := (bars_ok (b := bars) (by omega)).2.2; omega)
                           | (exfalso; omega)
                    · first
                    | (first | omega | contradiction)
                    | refine Ev.skip ?_
                      show Ev _ _ _ _
                      refine Ev.seq ?_
                      refine Ev.sr fun K hK => S.o q.mv (S.o q.neq (S.end (hK _ ?_)))
                      clear hK K
                      refine Ev.cn (fun c53 => ?_) (fun c53 => ?_)
                      · first
                      | (first | omega | contradiction)
                      | have e2 : chkV l d a bars = false := by first | exact (chk_2 (by omega) (by omega)).2 | exact (chk_1 (by omega)).2
                        first
                         | rw [(chk_2 (l := l) (d := d) (a := a) (bars := bars) (by omega) (by omega)).1]
                         | rw [(chk_1 (l := l) (d := d) (a := a) (bars := bars) (by omega)).1]
                        refine Ev.sr fun K hK => S.o q.mv (S.o q.not (S.bb q.mv (fun c54 => ?_) (fun c54 => ?_)))
                        · first
                        | (first | omega | contradiction)
                        | refine S.o q.mv (S.o q.mv (S.o q.eql (S.o q.pt (S.o q.as (S.end (hK _ ?_))))))
                          clear hK K
                          refine Ev.ret ?_
                          refine Ev.ret1 ?_
                          refine ⟨?_, rfl⟩
                          first
                           | rfl
                           | exact beqT
                           | exact lawT rfl
                           | exact lawT (by omega)
                           | (exfalso; exact nb_no e2 ‹_›)
                           | (exfalso; have h := tot_0 (bars := bars) (by omega); omega)
                           | (exfalso; have h := (bars_ok (b := bars) (by omega)).2.2; omega)
                           | (exfalso; omega)
                        · first
                        | (first | omega | contradiction)
                        | refine S.sk (S.sk (S.sk (S.o q.pf (S.o q.as (S.end (hK _ ?_))))))
                          clear hK K
                          refine Ev.ret ?_
                          refine Ev.ret1 ?_
                          refine ⟨?_, rfl⟩
                          first
                           | rfl
                           | exact beqT
                           | exact lawT rfl
                           | exact lawT (by omega)
                           | (exfalso; exact nb_no e2 ‹_›)
                           | (exfalso; have h := tot_0 (bars := bars) (by omega); omega)
                           | (exfalso; have h := (bars_ok (b := bars) (by omega)).2.2; omega)
                           | (exfalso; omega)
                      · first
                      | (first | omega | contradiction)
                      | refine Ev.skip ?_
                        show Ev _ _ _ _
                        obtain ⟨e1, e2⟩ := chk_0 (l := l) (d := d) (a := a) (bars := bars) (by omega) (by omega)
                        rw [e1, e2]
                        refine Ev.sr fun K hK => S.o q.mv (S.o q.eql (S.bd q.mv (fun c55 => ?_) (fun c55 => ?_)))
                        · first
                        | (first | omega | contradiction)
                        | refine S.o q.mv (S.o q.mv (S.o q.mv (S.o q.mv (S.o q.mv (S.c0 (hF := rCheck_fun _ _ _ _ (by omega) (by omega)) (h := S.o (q.beql am_un4) (S.o q.pt (S.o q.as (S.end (hK _ ?_))))))))))
                          clear hK K
                          refine Ev.ret ?_
                          refine Ev.ret1 ?_
                          refine ⟨?_, rfl⟩
                          first
                           | rfl
                           | exact beqT
                           | exact lawT rfl
                           | exact lawT (by omega)
                           | (exfalso; exact nb_no e2 ‹_›)
                           | (exfalso; have h := tot_0 (bars := bars) (by omega); omega)
                           | (exfalso; have h := (bars_ok (b := bars) (by omega)).2.2; omega)
                           | (exfalso; omega)
                        · first
                        | (first | omega | contradiction)
                        | refine S.sk (S.sk (S.sk (S.sk (S.sk (S.sk (S.sk (S.o q.pf (S.o q.as (S.end (hK _ ?_))))))))))
                          clear hK K
                          refine Ev.ret ?_
                          refine Ev.ret1 ?_
                          refine ⟨?_, rfl⟩
                          first
                           | rfl
                           | exact beqT
                           | exact lawT rfl
                           | exact lawT (by omega)
                           | (exfalso; exact nb_no e2 ‹_›)
                           | (exfalso; have h := tot_0 (bars := bars) (by omega); omega)
                           | (exfalso; have h := (bars_ok (b := bars) (by omega)).2.2; omega)
                           | (exfalso; omega)
              · first
              | (first | omega | contradiction)
              | refine S.sk (S.sk (S.sk (S.sk (S.sk (S.sk (S.sk (S.sk (S.o q.pf (S.o q.pf (S.end (hK _ ?_)))))))))))
                clear hK K
                refine Ev.cf ?_
                refine Ev.skip ?_
                show Ev _ _ _ _
                refine Ev.sr fun K hK => S.o q.mv (S.o q.mv (S.o q.mv (S.c0 (hF := rgiven_fun _ _ _ (by omega)) (h := S.o q.as (S.end (hK _ ?_))))))
                clear hK K
                refine Ev.seq ?_
                refine Ev.sr fun K hK => S.o q.mv (S.o q.eql (S.end (hK _ ?_)))
                clear hK K
                refine Ev.cd (fun c56 => ?_) (fun c56 => ?_)
                · first
                | (first | omega | contradiction)
                | refine Ev.region_S fun K hK => S.o q.mv (S.o q.as (S.end (hK _ ?_)))
                  clear hK K
                  show Ev _ _ _ _
                  refine Ev.seq ?_
                  refine Ev.sr fun K hK => S.o q.mv (S.o q.neq (S.end (hK _ ?_)))
                  clear hK K
                  refine Ev.cn (fun c57 => ?_) (fun c57 => ?_)
                  · first
                  | (first | omega | contradiction)
                  | have e2 : chkV l d a bars = false := by first | exact (chk_2 (by omega) (by omega)).2 | exact (chk_1 (by omega)).2
                    first
                     | rw [(chk_2 (l := l) (d := d) (a := a) (bars := bars) (by omega) (by omega)).1]
                     | rw [(chk_1 (l := l) (d := d) (a := a) (bars := bars) (by omega)).1]
                    refine Ev.sr fun K hK => S.o q.mv (S.o q.not (S.bb q.mv (fun c58 => ?_) (fun c58 => ?_)))
                    · first
                    | (first | omega | contradiction)
                    | refine S.o q.mv (S.o q.mv (S.o q.eql (S.o q.pt (S.o q.as (S.end (hK _ ?_))))))
                      clear hK K
                      refine Ev.ret ?_
                      refine Ev.ret1 ?_
                      refine ⟨?_, rfl⟩
                      first
                       | rfl
                       | exact beqT
                       | exact lawT rfl
                       | exact lawT (by omega)
                       | (exfalso; exact nb_no e2 ‹_›)
                       | (exfalso; have h := tot_0 (bars := bars) (by omega); omega)
                       | (exfalso; have h := (bars_ok (b := bars) (by omega)).2.2; omega)
                       | (exfalso; omega)
                    · first
                    | (first | omega | contradiction)
                    | refine S.sk (S.sk (S.sk (S.o q.pf (S.o q.as (S.end (hK _ ?_))))))
                      clear hK K
                      refine Ev.ret ?_
                      refine Ev.ret1 ?_
                      refine ⟨?_, rfl⟩
                      first
                       | rfl
                       | exact beqT
                       | exact lawT rfl
                       | exact lawT (by omega)
                       | (exfalso; exact nb_no e2 ‹_›)
                       | (exfalso; have h := tot_0 (bars := bars) (by omega); omega)
                       | (exfalso; have h := (bars_ok (b := bars) (by omega)).2.2; omega)
                       | (exfalso; omega)
                  · first
                  | (first | omega | contradiction)
                  | refine Ev.skip ?_
                    show Ev _ _ _ _
                    obtain ⟨e1, e2⟩ := chk_0 (l := l) (d := d) (a := a) (bars := bars) (by omega) (by omega)
                    rw [e1, e2]
                    refine Ev.sr fun K hK => S.o q.mv (S.o q.eql (S.bd q.mv (fun c59 => ?_) (fun c59 => ?_)))
                    · first
                    | (first | omega | contradiction)
                    | refine S.o q.mv (S.o q.mv (S.o q.mv (S.o q.mv (S.o q.mv (S.c0 (hF := rCheck_fun _ _ _ _ (by omega) (by omega)) (h := S.o (q.beql am_un4) (S.o q.pt (S.o q.as (S.end (hK _ ?_))))))))))
                      clear hK K
                      refine Ev.ret ?_
                      refine Ev.ret1 ?_
                      refine ⟨?_, rfl⟩
                      first
                       | rfl
                       | exact beqT
                       | exact lawT rfl
                       | exact lawT (by omega)
                       | (exfalso; exact nb_no e2 ‹_›)
                       | (exfalso; have h := tot_0 (bars := bars) (by omega); omega)
                       | (exfalso; have h := (bars_ok (b := bars) (by omega)).2.2; omega)
                       | (exfalso; omega)
                    · first
                    | (first | omega | contradiction)
                    | refine S.sk (S.sk (S.sk (S.sk (S.sk (S.sk (S.sk (S.o q.pf (S.o q.as (S.end (hK _ ?_))))))))))
                      clear hK K
                      refine Ev.ret ?_
                      refine Ev.ret1 ?_
                      refine ⟨?_, rfl⟩
                      first
                       | rfl
                       | exact beqT
                       | exact lawT rfl
                       | exact lawT (by omega)
                       | (exfalso; exact nb_no e2 ‹_›)
                       | (exfalso; have h := tot_0 (bars := bars) (by omega); omega)
                       | (exfalso; have h := (bars_ok (b := bars) (by omega)).2.2; omega)
                       | (exfalso; omega)
                · first
                | (first | omega | contradiction)
                | refine Ev.skip ?_
                  show Ev _ _ _ _
                  refine Ev.seq ?_
                  refine Ev.sr fun K hK => S.o q.mv (S.o q.neq (S.end (hK _ ?_)))
                  clear hK K
                  refine Ev.cn (fun c60 => ?_) (fun c60 => ?_)
                  · first
                  | (first | omega | contradiction)
                  | have e2 : chkV l d a bars = false := by first | exact (chk_2 (by omega) (by omega)).2 | exact (chk_1 (by omega)).2
                    first
                     | rw [(chk_2 (l := l) (d := d) (a := a) (bars := bars) (by omega) (by omega)).1]
                     | rw [(chk_1 (l := l) (d := d) (a := a) (bars := bars) (by omega)).1]
                    refine Ev.sr fun K hK => S.o q.mv (S.o q.not (S.bb q.mv (fun c61 => ?_) (fun c61 => ?_)))
                    · first
                    | (first | omega | contradiction)
                    | refine S.o q.mv (S.o q.mv (S.o q.eql (S.o q.pt (S.o q.as (S.end (hK _ ?_))))))
                      clear hK K
                      refine Ev.ret ?_
                      refine Ev.ret1 ?_
                      refine ⟨?_, rfl⟩
                      first
                       | rfl
                       | exact beqT
                       | exact lawT rfl
                       | exact lawT (by omega)
                       | (exfalso; exact nb_no e2 ‹_›)
                       | (exfalso; have h := tot_0 (bars := bars) (by omega); omega)
                       | (exfalso; have h := (bars_ok (b := bars) (by omega)).2.2; omega)
                       | (exfalso; omega)
                    · first
                    | (first | omega | contradiction)
                    | refine S.sk (S.sk (S.sk (S.o q.pf (S.o q.as (S.end (hK _ ?_))))))
                      clear hK K
                      refine Ev.ret ?_
                      refine Ev.ret1 ?_
                      refine ⟨?_, rfl⟩
                      first
                       | rfl
                       | exact beqT
                       | exact lawT rfl
                       | exact lawT (by omega)
                       | (exfalso; exact nb_no e2 ‹_›)
                       | (exfalso; have h := tot_0 (bars := bars) (by omega); omega)
                       | (exfalso; have h := (bars_ok (b := bars) (by omega)).2.2; omega)
                       | (exfalso; omega)
                  · first
                  | (first | omega | contradiction)
                  | refine Ev.skip ?_
                    show Ev _ _ _ _
                    obtain ⟨e1, e2⟩ := chk_0 (l := l) (d := d) (a := a) (bars := bars) (by omega) (by omega)
                    rw [e1, e2]
                    refine Ev.sr fun K hK => S.o q.mv (S.o q.eql (S.bd q.mv (fun c62 => ?_) (fun c62 => ?_)))
                    · first
                    | (first | omega | contradiction)
                    | refine S.o q.mv (S.o q.mv (S.o q.mv (S.o q.mv (S.o q.mv (S.c0 (hF := rCheck_fun _ _ _ _ (by omega) (by omega)) (h := S.o (q.beql am_un4) (S.o q.pt (S.o q.as (S.end (hK _ ?_))))))))))
                      clear hK K
                      refine Ev.ret ?_
                      refine Ev.ret1 ?_
                      refine ⟨?_, rfl⟩
                      first
                       | rfl
                       | exact beqT
                       | exact lawT rfl
                       | exact lawT (by omega)
                       | (exfalso; exact nb_no e2 ‹_›)
                       | (exfalso; have h := tot_0 (bars := bars) (by omega); omega)
                       | (exfalso; have h := (bars_ok (b := bars) (by omega)).2.2; omega)
                       | (exfalso; omega)
                    · first
                    | (first | omega | contradiction)
                    | refine S.sk (S.sk (S.sk (S.sk (S.sk (S.sk (S.sk (S.o q.pf (S.o q.as (S.end (hK _ ?_))))))))))
                      clear hK K
                      refine Ev.ret ?_
                      refine Ev.ret1 ?_
                      refine ⟨?_, rfl⟩
                      first
                       | rfl
                       | exact beqT
                       | exact lawT rfl
                       | exact lawT (by omega)
                       | (exfalso; exact nb_no e2 ‹_›)
                       | (exfalso; have h := tot_0 (bars := bars) (by omega); omega)
                       | (exfalso; have h := (bars_ok (b := bars) (by omega)).2.2; omega)
                       | (exfalso; omega)
        · first
        | (first | omega | contradiction)
        | refine S.sk (S.sk (S.sk (S.sk (S.sk (S.sk (S.sk (S.o q.pf (S.o q.mv (S.o q.mv (S.o q.eql (S.bd q.mv (fun c63 => ?_) (fun c63 => ?_))))))))))))
          · first
          | (first | omega | contradiction)
          | refine S.o q.mv (S.o q.mv (S.c0 (hF := rTotal_fun _ (by omega)) (h := S.o q.neq (S.bn q.mv (fun c64 => ?_) (fun c64 => ?_)))))
            · first
            | (first | omega | contradiction)
            | refine S.sk (S.sk (S.o q.pt (S.o q.pt (S.o q.pf (S.end (hK _ ?_))))))
              clear hK K
              refine Ev.ct ?_
              refine Ev.sr fun K hK => S.o q.as (S.end (hK _ ?_))
              clear hK K
              refine Ev.ret ?_
              refine Ev.ret1 ?_
              refine ⟨?_, rfl⟩
              first
               | rfl
               | exact beqT
               | exact lawT rfl
               | exact lawT (by omega)
               | (exfalso; exact nb_no e2 ‹_›)
               | (exfalso; have h := tot_0 (bars := bars) (by omega); omega)
               | (exfalso; have h := (bars_ok (b := bars) (by omega)).2.2; omega)
               | (exfalso; omega)
            · first
            | (first | omega | contradiction)
            | refine S.o q.mv (S.o q.neq (S.o q.pf (S.o q.pt (S.o q.pf (S.end (hK _ ?_))))))
              clear hK K
              refine Ev.cn (fun c65 => ?_) (fun c65 => ?_)
              · first
              | (first | omega | contradiction)
              | refine Ev.sr fun K hK => S.o q.as (S.end (hK _ ?_))
                clear hK K
                refine Ev.ret ?_
                refine Ev.ret1 ?_
                refine ⟨?_, rfl⟩
                first
                 | rfl
                 | exact beqT
                 | exact lawT rfl
                 | exact lawT (by omega)
                 | (exfalso; exact nb_no e2 ‹_›)
                 | (exfalso; have h := tot_0 (bars := bars) (by omega); omega)
                 | (exfalso; have h := (bars_ok (b := bars) (by omega)).2.2; omega)
                 | (exfalso; omega)
              · first
              | (first | omega | contradiction)
              | refine Ev.skip ?_
                show Ev _ _ _ _
                refine Ev.sr fun K hK => S.o q.mv (S.o q.mv (S.o q.mv (S.c0 (hF := rgiven_fun _ _ _ (by omega)) (h := S.o q.as (S.end (hK _ ?_))))))
                clear hK K
                refine Ev.seq ?_
                refine Ev.sr fun K hK => S.o q.mv (S.o q.eql (S.end (hK _ ?_)))
                clear hK K
                refine Ev.cd (fun c66 => ?_) (fun c66 => ?_)
                · first
                | (first | omega | contradiction)
                | refine Ev.region_S fun K hK => S.o q.mv (S.o q.as (S.end (hK _ ?_)))
                  clear hK K
                  show Ev _ _ _ _
                  refine Ev.seq ?_
                  refine Ev.sr fun K hK => S.o q.mv (S.o q.neq (S.end (hK _ ?_)))
                  clear hK K
                  refine Ev.cn (fun c67 => ?_) (fun c67 => ?_)
                  · first
                  | (first | omega | contradiction)
                  | have e2 : chkV l d a bars = false := by first | exact (chk_2 (by omega) (by omega)).2 | exact (chk_1 (by omega)).2
                    first
                     | rw [(chk_2 (l := l) (d := d) (a := a) (bars := bars) (by omega) (by omega)).1]
                     | rw [(chk_1 (l := l) (d := d) (a := a) (bars := bars) (by omega)).1]
                    refine Ev.sr fun K hK => S.o q.mv (S.o q.not (S.bb q.mv (fun c68 => ?_) (fun c68 => ?_)))
                    · first
                    | (first | omega | contradiction)
                    | refine S.o q.mv (S.o q.mv (S.o q.eql (S.o q.pt (S.o q.as (S.end (hK _ ?_))))))
                      clear hK K
                      refine Ev.ret ?_
                      refine Ev.ret1 ?_
                      refine ⟨?_, rfl⟩
                      first
                       | rfl
                       | exact beqT
                       | exact lawT rfl
                       | exact lawT (by omega)
                       | (exfalso; exact nb_no e2 ‹_›)
                       | (exfalso; have h := tot_0 (bars := bars) (by omega); omega)
                       | (exfalso; have h := (bars_ok (b := bars) (by omega)).2.2; omega)
                       | (exfalso; omega)
                    · first
                    | (first | omega | contradiction)
                    | refine S.sk (S.sk (S.sk (S.o q.pf (S.o q.as (S.end (hK _ ?_))))))
                      clear hK K
                      refine Ev.ret ?_
                      refine Ev.ret1 ?_
                      refine ⟨?_, rfl⟩
                      first
                       | rfl
                       | exact beqT
                       | exact lawT rfl
                       | exact lawT (by omega)
                       | (exfalso; exact nb_no e2 ‹_›)
                       | (exfalso; have h := tot_0 (bars := bars) (by omega); omega)
                       | (exfalso; have h := (bars_ok (b := bars) (by omega)).2.2; omega)
                       | (exfalso; omega)
                  · first
                  | (first | omega | contradiction)
                  | refine Ev.skip ?_
                    show Ev _ _ _ _
                    obtain ⟨e1, e2⟩ := chk_0 (l := l) (d := d) (a := a) (bars := bars) (by omega) (by omega)
                    rw [e1, e2]
                    refine Ev.sr fun K hK => S.o q.mv (S.o q.eql (S.bd q.mv (fun c69 => ?_) (fun c69 => ?_)))
                    · first
                    | (first | omega | contradiction)
                    | refine S.o q.mv (S.o q.mv (S.o q.mv (S.o q.mv (S.o q.mv (S.c0 (hF := rCheck_fun _ _ _ _ (by omega) (by omega)) (h := S.o (q.beql am_un4) (S.o q.pt (S.o q.as (S.end (hK _ ?_))))))))))
                      clear hK K
                      refine Ev.ret ?_
                      refine Ev.ret1 ?_
                      refine ⟨?_, rfl⟩
                      first
                       | rfl
                       | exact beqT
                       | exact lawT rfl
                       | exact lawT (by omega)
                       | (exfalso; exact nb_no e2 ‹_›)
                       | (exfalso; have h := tot_0 (bars := bars) (by omega); omega)
                       | (exfalso; have h := (bars_ok (b := bars) (by omega)).2.2; omega)
                       | (exfalso; omega)
                    · first
                    | (first | omega | contradiction)
                    | refine S.sk (S.sk (S.sk (S.sk (S.sk (S.sk (S.sk (S.o q.pf (S.o q.as (S.end (hK _ ?_))))))))))
                      clear hK K
                      refine Ev.ret ?_
                      refine Ev.ret1 ?_
                      refine ⟨?_, rfl⟩
                      first
                       | rfl
                       | exact beqT
                       | exact lawT rfl
                       | exact lawT (by omega)
                       | (exfalso; exact nb_no e2 ‹_›)
                       | (exfalso; have h := tot_0 (bars := bars) (by omega); omega)
                       | (exfalso; have h := (bars_ok (b := bars) (by omega)).2.2; omega)
                       | (exfalso; omega)
                · first
                | (first | omega | contradiction)
                | refine Ev.skip ?_
                  show Ev _ _ _ _
                  refine Ev.seq ?_
                  refine Ev.sr fun K hK => S.o q.mv (S.o q.neq (S.end (hK _ ?_)))
                  clear hK K
                  refine Ev.cn (fun c70 => ?_) (fun c70 => ?_)
                  · first
                  | (first | omega | contradiction)
                  | have e2 : chkV l d a bars = false := by first | exact (chk_2 (by omega) (by omega)).2 | exact (chk_1 (by omega)).2
                    first
                     | rw [(chk_2 (l := l) (d := d) (a := a) (bars := bars) (by omega) (by omega)).1]
                     | rw [(chk_1 (l := l) (d := d) (a := a) (bars := bars) (by omega)).1]
                    refine Ev.sr fun K hK => S.o q.mv (S.o q.not (S.bb q.mv (fun c71 => ?_) (fun c71 => ?_)))
                    · first
                    | (first | omega | contradiction)
                    | refine S.o q.mv (S.o q.mv (S.o q.eql (S.o q.pt (S.o q.as (S.end (hK _ ?_))))))
                      clear hK K
                      refine Ev.ret ?_
                      refine Ev.ret1 ?_
                      refine ⟨?_, rfl⟩
                      first
                       | rfl
                       | exact beqT
                       | exact lawT rfl
                       | exact lawT (by omega)
                       | (exfalso; exact nb_no e2 ‹_›)
                       | (exfalso; have h := tot_0 (bars := bars) (by omega); omega)
                       | (exfalso; have h := (bars_ok (b := bars) (by omega)).2.2; omega)
                       | (exfalso; omega)
                    · first
                    | (first | omega | contradiction)
                    | refine S.sk (S.sk (S.sk (S.o q.pf (S.o q.as (S.end (hK _ ?_))))))
                      clear hK K
                      refine Ev.ret ?_
                      refine Ev.ret1 ?_
                      refine ⟨?_, rfl⟩
                      first
                       | rfl
                       | exact beqT
                       | exact lawT rfl
                       | exact lawT (by omega)
                       | (exfalso; exact nb_no e2 ‹_›)
                       | (exfalso; have h := tot_0 (bars := bars) (by omega); omega)
                       | (exfalso; have h := (bars_ok (b := bars) (by omega)).2.2; omega)
                       | (exfalso; omega)
                  · first
                  | (first | omega | contradiction)
                  | refine Ev.skip ?_
                    show Ev _ _ _ _
                    obtain ⟨e1, e2⟩ := chk_0 (l := l) (d := d) (a := a) (bars := bars) (by omega) (by omega)
                    rw [e1, e2]
                    refine Ev.sr fun K hK => S.o q.mv (S.o q.eql (S.bd q.mv (fun c72 => ?_) (fun c72 => ?_)))
                    · first
                    | (first | omega | contradiction)
                    | refine S.o q.mv (S.o q.mv (S.o q.mv (S.o q.mv (S.o q.mv (S.c0 (hF := rCheck_fun _ _ _ _ (by omega) (by omega)) (h := S.o (q.beql am_un4) (S.o q.pt (S.o q.as (S.end (hK _ ?_))))))))))
                      clear hK K
                      refine Ev.ret ?_
                      refine Ev.ret1 ?_
                      refine ⟨?_, rfl⟩
                      first
                       | rfl
                       | exact beqT
                       | exact lawT rfl
                       | exact lawT (by omega)
                       | (exfalso; exact nb_no e2 ‹_›)
                       | (exfalso; have h := tot_0 (bars := bars) (by omega); omega)
                       | (exfalso; have h := (bars_ok (b := bars) (by omega)).2.2; omega)
                       | (exfalso; omega)
                    · first
                    | (first | omega | contradiction)
                    | refine S.sk (S.sk (S.sk (S.sk (S.sk (S.sk (S.sk (S.o q.pf (S.o q.as (S.end (hK _ ?_))))))))))
                      clear hK K
                      refine Ev.ret ?_
                      refine Ev.ret1 ?_
                      refine ⟨?_, rfl⟩
                      first
                       | rfl
                       | exact beqT
                       | exact lawT rfl
                       | exact lawT (by omega)
                       | (exfalso; exact nb_no e2 ‹_›)
                       | (exfalso; have h := tot_0 (bars := bars) (by omega); omega)
                       | (exfalso; have h := (bars_ok (b := bars) (by omega)).2.2; omega)
                       | (exfalso; omega)
          · first
          | (first | omega | contradiction)
          | refine S.sk (S.sk (S.sk (S.sk (S.sk (S.sk (S.sk (S.sk (S.o q.pf (S.o q.pf (S.end (hK _ ?_)))))))))))
            clear hK K
            refine Ev.cf ?_
            refine Ev.skip ?_
            show Ev _ _ _ _
            refine Ev.sr fun K hK => S.o q.mv (S.o q.mv (S.o q.mv (S.c0 (hF := rgiven_fun _ _ _ (by omega)) (h := S.o q.as (S.end (hK _ ?_))))))
            clear hK K
            refine Ev.seq ?_
            refine Ev.sr fun K hK => S.o q.mv (S.o q.eql (S.end (hK _ ?_)))
            clear hK K
            refine Ev.cd (fun c73 => ?_) (fun c73 => ?_)
            · first
            | (first | omega | contradiction)
            | refine Ev.region_S fun K hK => S.o q.mv (S.o q.as (S.end (hK _ ?_)))
              clear hK K
              show Ev _ _ _ _
              refine Ev.seq ?_
              refine Ev.sr fun K hK => S.o q.mv (S.o q.neq (S.end (hK _ ?_)))
              clear hK K
              refine Ev.cn (fun c74 => ?_) (fun c74 => ?_)
              · first
              | (first | omega | contradiction)
              | have e2 : chkV l d a bars = false := by first | exact (chk_2 (by omega) (by omega)).2 | exact (chk_1 (by omega)).2
                first
                 | rw [(chk_2 (l := l) (d := d) (a := a) (bars := bars) (by omega) (by omega)).1]
                 | rw [(chk_1 (l := l) (d := d) (a := a) (bars := bars) (by omega)).1]
                refine Ev.sr fun K hK => S.o q.mv (S.o q.not (S.bb q.mv (fun c75 => ?_) (fun c75 => ?_)))
                · first
                | (first | omega | contradiction)
                | refine S.o q.mv (S.o q.mv (S.o q.eql (S.o q.pt (S.o q.as (S.end (hK _ ?_))))))
                  clear hK K
                  refine Ev.ret ?_
                  refine Ev.ret1 ?_
                  refine ⟨?_, rfl⟩
                  first
                   | rfl
                   | exact beqT
                   | exact lawT rfl
                   | exact lawT (by omega)
                   | (exfalso; exact nb_no e2 ‹_›)
                   | (exfalso; have h := tot_0 (bars := bars) (by omega); omega)
                   | (exfalso; have h := (bars_ok (b := bars) (by omega)).2.2; omega)
                   | (exfalso; omega)
                · first
                | (first | omega | contradiction)
                | refine S.sk (S.sk (S.sk (S.o q.pf (S.o q.as (S.end (hK _ ?_))))))
                  clear hK K
                  refine Ev.ret ?_
                  refine Ev.ret1 ?_
                  refine ⟨?_, rfl⟩
                  first
                   | rfl
                   | exact beqT
                   | exact lawT rfl
                   | exact lawT (by omega)
                   | (exfalso; exact nb_no e2 ‹_›)
                   | (exfalso; have h := tot_0 (bars := bars) (by omega); omega)
                   | (exfalso; have h := (bars_ok (b := bars) (by omega)).2.2; omega)
                   | (exfalso; omega)
              · first
              | (first | omega | contradiction)
              | refine Ev.skip ?_
                show Ev _ _ _ _
                obtain ⟨e1, e2⟩ := chk_0 (l := l) (d := d) (a := a) (bars := bars) (by omega) (by omega)
                rw [e1, e2]
                refine Ev.sr fun K hK => S.o q.mv (S.o q.eql (S.bd q.mv (fun c76 => ?_) (fun c76 => ?_)))
                · first
                | (first | omega | contradiction)
                | refine S.o q.mv (S.o q.mv (S.o q.mv (S.o q.mv (S.o q.mv (S.c0 (hF := rCheck_fun _ _ _ _ (by omega) (by omega)) (h := S.o (q.beql am_un4) (S.o q.pt (S.o q.as (S.end (hK _ ?_))))))))))
                  clear hK K
                  refine Ev.ret ?_
                  refine Ev.ret1 ?_
                  refine ⟨?_, rfl⟩
                  first
                   | rfl
                   | exact beqT
                   | exact lawT rfl
                   | exact lawT (by omega)
                   | (exfalso; exact nb_no e2 ‹_›)
                   | (exfalso; have h := tot_0 (bars := bars) (by omega); omega)
                   | (exfalso; have h := (bars_ok (b := bars) (by omega)).2.2; omega)
                   | (exfalso; omega)
                · first
                | (first | omega | contradiction)
                | refine S.sk (S.sk (S.sk (S.sk (S.sk (S.sk (S.sk (S.o q.pf (S.o q.as (S.end (hK _ ?_))))))))))
                  clear hK K
                  refine Ev.ret ?_
                  refine Ev.ret1 ?_
                  refine ⟨?_, rfl⟩
                  first
                   | rfl
                   | exact beqT
                   | exact lawT rfl
                   | exact lawT (by omega)
                   | (exfalso; exact nb_no e2 ‹_›)
                   | (exfalso; have h := tot_0 (bars := bars) (by omega); omega)
                   | (exfalso; have h := (bars_ok (b := bars) (by omega)).2.2; omega)
                   | (exfalso; omega)
            · first
            | (first | omega | contradiction)
            | refine Ev.skip ?_
              show Ev _ _ _ _
              refine Ev.seq ?_
              refine Ev.sr fun K hK => S.o q.mv (S.o q.neq (S.end (hK _ ?_)))
              clear hK K
              refine Ev.cn (fun c77 => ?_) (fun c77 => ?_)
              · first
              | (first | omega | contradiction)
              | have e2 : chkV l d a bars = false := by first | exact (chk_2 (by omega) (by omega)).2 | exact (chk_1 (by omega)).2
                first
                 | rw [(chk_2 (l := l) (d := d) (a := a) (bars := bars) (by omega) (by omega)).1]
                 | rw [(chk_1 (l := l) (d := d) (a := a) (bars := bars) (by omega)).1]
                refine Ev.sr fun K hK => S.o q.mv (S.o q.not (S.bb q.mv (fun c78 => ?_) (fun c78 => ?_)))
                · first
                | (first | omega | contradiction)
                | refine S.o q.mv (S.o q.mv (S.o q.eql (S.o q.pt (S.o q.as (S.end (hK _ ?_))))))
                  clear hK K
                  refine Ev.ret ?_
                  refine Ev.ret1 ?_
                  refine ⟨?_, rfl⟩
                  first
                   | rfl
                   | exact beqT
                   | exact lawT rfl
                   | exact lawT (by omega)
                   | (exfalso; exact nb_no e2 ‹_›)
                   | (exfalso; have h := tot_0 (bars := bars) (by omega); omega)
                   | (exfalso; have h := (bars_ok (b := bars) (by omega)).2.2; omega)
                   | (exfalso; omega)
                · first
                | (first | omega | contradiction)
                | refine S.sk (S.sk (S.sk (S.o q.pf (S.o q.as (S.end (hK _ ?_))))))
                  clear hK K
                  refine Ev.ret ?_
                  refine Ev.ret1 ?_
                  refine ⟨?_, rfl⟩
                  first
                   | rfl
                   | exact beqT
                   | exact lawT rfl
                   | exact lawT (by omega)
                   | (exfalso; exact nb_no e2 ‹_›)
                   | (exfalso; have h := tot_0 (bars := bars) (by omega); omega)
                   | (exfalso; have h := (bars_ok (b := bars) (by omega)).2.2; omega)
                   | (exfalso; omega)
              · first
              | (first | omega | contradiction)
              | refine Ev.skip ?_
                show Ev _ _ _ _
                obtain ⟨e1, e2⟩ := chk_0 (l := l) (d := d) (a := a) (bars := bars) (by omega) (by omega)
                rw [e1, e2]
                refine Ev.sr fun K hK => S.o q.mv (S.o q.eql (S.bd q.mv (fun c79 => ?_) (fun c79 => ?_)))
                · first
                | (first | omega | contradiction)
                | refine S.o q.mv (S.o q.mv (S.o q.mv (S.o q.mv (S.o q.mv (S.c0 (hF := rCheck_fun _ _ _ _ (by omega) (by omega)) (h := S.o (q.beql am_un4) (S.o q.pt (S.o q.as (S.end (hK _ ?_))))))))))
                  clear hK K
                  refine Ev.ret ?_
                  refine Ev.ret1 ?_
                  refine ⟨?_, rfl⟩
                  first
                   | rfl
                   | exact beqT
                   | exact lawT rfl
                   | exact lawT (by omega)
                   | (exfalso; exact nb_no e2 ‹_›)
                   | (exfalso; have h := tot_0 (bars := bars) (by omega); omega)
                   | (exfalso; have h := (bars_ok (b := bars) (by omega)).2.2; omega)
                   | (exfalso; omega)
                · first
                | (first | omega | contradiction)
                | refine S.sk (S.sk (S.sk (S.sk (S.sk (S.sk (S.sk (S.o q.pf (S.o q.as (S.end (hK _ ?_))))))))))
                  clear hK K
                  refine Ev.ret ?_
                  refine Ev.ret1 ?_
                  refine ⟨?_, rfl⟩
                  first
                   | rfl
                   | exact beqT
                   | exact lawT rfl
                   | exact lawT (by omega)
                   | (exfalso; exact nb_no e2 ‹_›)
                   | (exfalso; have h := tot_0 (bars := bars) (by omega); omega)
                   | (exfalso; have h := (bars_ok (b := bars) (by omega)).2.2; omega)
                   | (exfalso; omega)
end Go.Proofs.Ytigjoaejncfmdaa
