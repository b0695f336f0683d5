/-
  The law BundleAll, walked.
  Conditions: none.
-/
import Derived.Test.YtnbjmckhongidaaDoorLw1
namespace Go.Proofs.YtnbjmckhongidaaDoor
open Go Go.AM
set_option linter.unusedSimpArgs false
set_option linter.unusedVariables false
set_option maxRecDepth 100000
set_option maxHeartbeats 1000000

theorem all1_fun (y : Bundle) (x : Bar) : Fun Tryd.prog 19 [.agg x.c, .sadr y.c 0] (Ret (.lit (.bool (decide (x.mark = y.mark)))) []) := by
  refine Fun.of (nt := 9) (rs := [.tmp 3]) Tryd.func19 rfl rfl rfl rfl rfl ?_
  refine Ev.sr fun K hK => S.nn (q.bx [_, _, _, _, _] true) (S.o q.as (S.end (hK _ ?_)))
  clear hK K
  refine Ev.sr fun K hK => S.o (q.fa 0 am_fi42_0 am_cl9) (S.o (q.lv am_ag9) (S.o (q.fs 1 am_fi46_1 am_cl9) (S.o (q.ls am_ag9) (S.o q.seqs (S.o q.as (S.end (hK _ ?_)))))))
  clear hK K
  refine Ev.ret ?_
  refine Ev.ret1 ?_
  refine ⟨?_, rfl⟩
  rfl

theorem all1_idx (l : List Bar) (y : Bundle) (hlen : l.length ≤ 140737488355328) : Fun Tryd.prog 18 [.sh 5 (l.map Bar.c), .fn (.func 19) [] [.sadr y.c 0]] (Ret (.lit (.int .i64 (markI l y.mark))) []) := indexFuncBar1 _ _ _ (all1_fun y) l hlen
theorem lone_fun (b : Bar) (hok : okBar b) : Fun Tryd.prog 20 [.agg b.c] (Ret (.tup [.lit (.int .i64 (oneOf b)), .lit (.bool true)]) []) := by
  have hw := okBar_w hok
  obtain ⟨e1, e2, e3, e4, e5⟩ := okV_cut hok
  have e6 := szE_in hok.2.1
  refine Fun.of (nt := 25) (rs := [.tmp 2, .tmp 3]) Tryd.func20 rfl rfl rfl rfl rfl ?_
  refine Ev.sr fun K hK => S.nn (q.bx [_, _, _, _, _] true) (S.o q.as (S.o q.as (S.end (hK _ ?_))))
  clear hK K
  refine Ev.sr fun K hK => S.o (q.lvA [_, _, _, _, _] am_ag42 am_cl42) (S.c0 (hF := cut_fun _ (by assumption)) (h := S.o q.mv (S.o q.ex (S.o q.ex (S.o q.as (S.o q.as (S.end (hK _ ?_))))))))
  clear hK K
  refine Ev.seq ?_
  refine Ev.sr fun K hK => S.o q.mv (S.o q.neq (S.end (hK _ ?_)))
  clear hK K
  refine Ev.cn (fun c1 => ?_) (fun c1 => ?_)
  · first
  | (first | omega | contradiction)
  | refine Ev.sr fun K hK => S.o q.as (S.o q.as (S.end (hK _ ?_)))
    clear hK K
    refine Ev.ret ?_
    refine Ev.ret2 ?_
    refine ⟨?_, rfl⟩
    first | rfl | (exfalso; omega) | (rw [e3, decide_eq_true e6]; done) | (rw [e3, e6]; rfl)
  · first
  | (first | omega | contradiction)
  | refine Ev.skip ?_
    show Ev _ _ _ _
    rw [e1]
    refine Ev.sr fun K hK => S.o (q.fa 1 am_fi42_1 am_cl3) (S.o (q.lv am_ag3) (S.o q.mv (S.c0 (hF := Mass_fun _ _ (by omega) (by omega)) (h := S.o q.mv (S.o q.ex (S.o q.ex (S.o q.as (S.o q.as (S.end (hK _ ?_))))))))))
    clear hK K
    refine Ev.sr fun K hK => S.o q.mv (S.o q.mv (S.o q.eql (S.o q.as (S.o q.as (S.end (hK _ ?_))))))
    clear hK K
    refine Ev.ret ?_
    refine Ev.ret2 ?_
    refine ⟨?_, rfl⟩
    first | rfl | (exfalso; omega) | (rw [e3, decide_eq_true e6]; done) | (rw [e3, e6]; rfl)

def nextB (V : List Bundle) (i : Nat) : Bundle := (V[i + 1]?).getD ⟨[], [], 0, 0⟩
theorem nn_t {p : Prop} [Decidable p] (h : (!!decide p) = true) : p := by simpa using h
theorem nextB_at {V : List Bundle} {i : Nat} (h : i + 1 < V.length) : V[i + 1]? = some (nextB V i) := by
  rw [nextB, List.getElem?_eq_getElem h]; rfl
theorem made_all {l most V} (M : Made l most V) : chkE l V = 0 ∧ (chkV l V).length = 0 ∧ bunsE V = 0 ∧ massV V = totB l := by
  have h : okSched l ∧ okBuns V := ⟨M.sched, M.ok⟩
  refine ⟨if_pos h, ?_, if_pos h.2, (if_pos h.2).trans M.mass⟩
  rw [chkV, if_pos h, M.check]; rfl
theorem all_law (l : List Bar) (most : Int) (hlen : l.length ≤ 140737488355328) : Fun Tryd.prog 5 [.sh 5 (l.map Bar.c), .lit (.int .i64 most)] (Ret (.lit (.bool true)) []) := by
  have hml := makeV_le l most
  have hmw := makeV_w l most
  refine Fun.of (nt := 152) (rs := [.tmp 4]) Tryd.func5 rfl rfl rfl rfl rfl ?_
  refine Ev.sr fun K hK => S.o q.as (S.end (hK _ ?_))
  clear hK K
  refine Ev.seq ?_
  refine Ev.sr fun K hK => S.c0 (hF := awake_fun) (h := S.o q.nott (S.end (hK _ ?_)))
  clear hK K
  refine Ev.cf ?_
  refine Ev.skip ?_
  show Ev _ _ _ _
  refine Ev.seq ?_
  refine Ev.sr fun K hK => S.o q.mv (S.c0 (hF := large_fun _ (by omega)) (h := S.end (hK _ ?_)))
  clear hK K
  refine Ev.cd (fun c1 => ?_) (fun c1 => ?_)
  · first
  | (first | omega | contradiction)
  | refine Ev.sr fun K hK => S.o q.as (S.end (hK _ ?_))
    clear hK K
    refine Ev.ret ?_
    refine Ev.ret1 ?_
    refine ⟨?_, rfl⟩
    first
     | rfl
     | (exfalso; omega)
     | contradiction
     | (rw [makeV_bad ‹_›]; rfl)
     | (exfalso; have h8 : (nextB (makeV l most) pre.length).mark = s.mark := nn_t ‹_›; have h9 := MD.next hidx (hnx (by omega)) h8.symm hbm hbk; omega)
  · first
  | (first | omega | contradiction)
  | refine Ev.skip ?_
    show Ev _ _ _ _
    have hsm := Decidable.not_not.1 ‹¬ ¬ smallL l 8›
    have hw := small_w hsm
    have hl8 := hsm.1
    refine Ev.sr fun K hK => S.o q.mv (S.o q.mv (S.c0 (hF := bmake_fun _ _ (by omega) (by assumption)) (h := S.o q.mv (S.o q.ex (S.o q.ex (S.o q.as (S.o q.as (S.end (hK _ ?_)))))))))
    clear hK K
    refine Ev.seq ?_
    refine Ev.sr fun K hK => S.o q.mv (S.o q.neq (S.end (hK _ ?_)))
    clear hK K
    refine Ev.cn (fun c2 => ?_) (fun c2 => ?_)
    · first
    | (first | omega | contradiction)
    | refine Ev.sr fun K hK => S.o q.mv (S.o (q.lens am_el25) (S.o q.eql (S.o q.as (S.end (hK _ ?_)))))
      clear hK K
      refine Ev.ret ?_
      refine Ev.ret1 ?_
      refine ⟨?_, rfl⟩
      first
       | rfl
       | (exfalso; omega)
       | contradiction
       | (rw [makeV_bad ‹_›]; rfl)
       | (exfalso; have h8 : (nextB (makeV l most) pre.length).mark = s.mark := nn_t ‹_›; have h9 := MD.next hidx (hnx (by omega)) h8.symm hbm hbk; omega)
    · first
    | (first | omega | contradiction)
    | refine Ev.skip ?_
      show Ev _ _ _ _
      have MD := made_of ‹makeE l most = 0›
      obtain ⟨hE1, hE2, hE3, hE4⟩ := made_all MD
      have hok := MD.ok
      refine Ev.sr fun K hK => S.o q.mv (S.o q.mv (S.c0 (hF := bcheck_fun _ _ (by omega) (by omega) (by assumption) (by assumption)) (h := S.o q.mv (S.o q.ex (S.o q.ex (S.o q.as (S.o q.as (S.end (hK _ ?_)))))))))
      clear hK K
      refine Ev.sr fun K hK => S.o q.mv (S.c0 (hF := bmass_fun _ (by omega) (by assumption)) (h := S.o q.mv (S.o q.ex (S.o q.ex (S.o q.as (S.o q.as (S.end (hK _ ?_))))))))
      clear hK K
      refine Ev.sr fun K hK => S.o q.as (S.end (hK _ ?_))
      clear hK K
      refine Ev.seq ?_
      refine Ev.sr fun K hK => S.o q.mv (S.o (q.lens am_el22) (S.o q.mv (S.end (hK _ ?_))))
      clear hK K
      refine Ev.block ?_
      refine Ev.loopU (ι := {p : List (Bar) × List (Bar) // p.1 ++ p.2 = l ∧ True}) [] [0, 1, 5, 7, 8, 9, 10, 48, 49] (fun ⟨(pre, suf), _⟩ => [(50, .lit (.int .i64 ((pre.length : Int)))), (11, .lit (.int .i64 (totB pre)))]) (fun ⟨(pre, suf), _⟩ => []) (fun ⟨(pre, suf), _⟩ => suf.length) ⟨([], l), rfl, trivial⟩ (.c (.c (.c (.c (.c (.c (.c (.c (.c .n))))))))) keep_n (slots_c (he := (by first | rfl | (congr 2; simp; done))) (h := (slots_c (he := (by first | rfl | exact iE (by rw [totB_snoc]))) (h := trivial)))) ?_
      rintro ⟨⟨pre, suf⟩, hp, hinv⟩ R0 hR0
      dsimp only [List.cons_append, List.nil_append, List.length_cons, List.length_nil]
      simp only at hp hinv
      have hpl : pre.length + suf.length = (l).length := by rw [← hp, List.length_append]
      rcases suf with _ | ⟨s, suf⟩
      · rw [List.append_nil] at hp; subst pre; simp only [List.length_nil] at hpl
        refine Ev.sr fun K hK => S.o q.lss (S.end (hK _ ?_))
        clear hK K
        refine Ev.ud (fun c3 => ?_) (fun c3 => ?_)
        · first | omega | contradiction
        · first
        | (first | omega | contradiction)
        | refine Ev.exit ?_
          refine hR0 _ _ ?_
          show Ev _ _ _ _
          refine Ev.seq ?_
          refine Ev.sr fun K hK => S.o q.mv (S.o q.neq (S.bn q.mv (fun c4 => ?_) (fun c4 => ?_)))
          · first
          | (first | omega | contradiction)
          | refine S.sk (S.sk (S.sk (S.o q.pt (S.o q.mv (S.sk (S.sk (S.o q.pt (S.o q.mv (S.sk (S.sk (S.sk (S.o q.pt (S.o q.mv (S.sk (S.sk (S.sk (S.o q.pt (S.end (hK _ ?_)))))))))))))))))))
            clear hK K
            refine Ev.ct ?_
            refine Ev.sr fun K hK => S.o q.as (S.end (hK _ ?_))
            clear hK K
            refine Ev.ret ?_
            refine Ev.ret1 ?_
            refine ⟨?_, rfl⟩
            first
             | rfl
             | (exfalso; omega)
             | contradiction
             | (rw [makeV_bad ‹_›]; rfl)
             | (exfalso; have h8 : (nextB (makeV l most) pre.length).mark = s.mark := nn_t ‹_›; have h9 := MD.next hidx (hnx (by omega)) h8.symm hbm hbk; omega)
          · first
          | (first | omega | contradiction)
          | refine S.o q.mv (S.o (q.lens am_el35) (S.o q.neq (S.o q.pf (S.bn q.mv (fun c5 => ?_) (fun c5 => ?_)))))
            · first
            | (first | omega | contradiction)
            | refine S.sk (S.sk (S.o q.pt (S.o q.mv (S.sk (S.sk (S.sk (S.o q.pt (S.o q.mv (S.sk (S.sk (S.sk (S.o q.pt (S.end (hK _ ?_))))))))))))))
              clear hK K
              refine Ev.ct ?_
              refine Ev.sr fun K hK => S.o q.as (S.end (hK _ ?_))
              clear hK K
              refine Ev.ret ?_
              refine Ev.ret1 ?_
              refine ⟨?_, rfl⟩
              first
               | rfl
               | (exfalso; omega)
               | contradiction
               | (rw [makeV_bad ‹_›]; rfl)
               | (exfalso; have h8 : (nextB (makeV l most) pre.length).mark = s.mark := nn_t ‹_›; have h9 := MD.next hidx (hnx (by omega)) h8.symm hbm hbk; omega)
            · first
            | (first | omega | contradiction)
            | refine S.o q.mv (S.o q.neq (S.o q.pf (S.bn q.mv (fun c6 => ?_) (fun c6 => ?_))))
              · first
              | (first | omega | contradiction)
              | refine S.sk (S.sk (S.sk (S.o q.pt (S.o q.mv (S.sk (S.sk (S.sk (S.o q.pt (S.end (hK _ ?_))))))))))
                clear hK K
                refine Ev.ct ?_
                refine Ev.sr fun K hK => S.o q.as (S.end (hK _ ?_))
                clear hK K
                refine Ev.ret ?_
                refine Ev.ret1 ?_
                refine ⟨?_, rfl⟩
                first
                 | rfl
                 | (exfalso; omega)
                 | contradiction
                 | (rw [makeV_bad ‹_›]; rfl)
                 | (exfalso; have h8 : (nextB (makeV l most) pre.length).mark = s.mark := nn_t ‹_›; have h9 := MD.next hidx (hnx (by omega)) h8.symm hbm hbk; omega)
              · first
              | (first | omega | contradiction)
              | refine S.o q.mv (S.o q.mv (S.o q.neq (S.o q.pf (S.bn q.mv (fun c7 => ?_) (fun c7 => ?_)))))
                · first
                | (first | omega | contradiction)
                | refine S.sk (S.sk (S.sk (S.o q.pt (S.end (hK _ ?_)))))
                  clear hK K
                  refine Ev.ct ?_
                  refine Ev.sr fun K hK => S.o q.as (S.end (hK _ ?_))
                  clear hK K
                  refine Ev.ret ?_
                  refine Ev.ret1 ?_
                  refine ⟨?_, rfl⟩
                  first
                   | rfl
                   | (exfalso; omega)
                   | contradiction
                   | (rw [makeV_bad ‹_›]; rfl)
                   | (exfalso; have h8 : (nextB (makeV l most) pre.length).mark = s.mark := nn_t ‹_›; have h9 := MD.next hidx (hnx (by omega)) h8.symm hbm hbk; omega)
                · first
                | (first | omega | contradiction)
                | refine S.o q.mv (S.c0 (hF := bvalid_fun _ (by omega) (by assumption)) (h := S.o q.not (S.o q.pf (S.end (hK _ ?_)))))
                  clear hK K
                  refine Ev.cn (fun c8 => ?_) (fun c8 => ?_)
                  · first
                  | (first | omega | contradiction)
                  | refine Ev.sr fun K hK => S.o q.as (S.end (hK _ ?_))
                    clear hK K
                    refine Ev.ret ?_
                    refine Ev.ret1 ?_
                    refine ⟨?_, rfl⟩
                    first
                     | rfl
                     | (exfalso; omega)
                     | contradiction
                     | (rw [makeV_bad ‹_›]; rfl)
                     | (exfalso; have h8 : (nextB (makeV l most) pre.length).mark = s.mark := nn_t ‹_›; have h9 := MD.next hidx (hnx (by omega)) h8.symm hbm hbk; omega)
                  · first
                  | (first | omega | contradiction)
                  | refine Ev.skip ?_
                    show Ev _ _ _ _
                    refine Ev.seq ?_
                    refine Ev.sr fun K hK => S.o q.mv (S.o (q.lens am_el25) (S.o q.mv (S.end (hK _ ?_))))
                    clear hK K
                    refine Ev.block ?_
                    refine Ev.loopU (ι := {p : List (Bundle) × List (Bundle) // p.1 ++ p.2 = (makeV l most) ∧ True}) [] [0, 1, 5, 7, 8, 9, 10, 11, 48, 49, 50, 51, 65, 66, 67, 68, 69, 70, 71, 72, 73, 74, 75, 76, 77, 78, 79, 80, 81, 82, 83, 84, 85, 86, 87] (fun ⟨(pre, suf), _⟩ => [(88, .lit (.int .i64 ((pre.length : Int))))]) (fun ⟨(pre, suf), _⟩ => []) (fun ⟨(pre, suf), _⟩ => suf.length) ⟨([], (makeV l most)), rfl, trivial⟩ (.c (.c (.c (.c (.c (.c (.c (.c (.c (.c (.c (.c (.c (.c (.c (.c (.c (.c (.c (.c (.c (.c (.c (.c (.c (.c (.c (.c (.c (.c (.c (.c (.c (.c (.c .n))))))))))))))))))))))))))))))))))) keep_n (slots_c (he := (by first | rfl | (congr 2; simp; done))) (h := trivial)) ?_
                    rintro ⟨⟨pre, suf⟩, hp, hinv⟩ R2 hR2
                    dsimp only [List.cons_append, List.nil_append, List.length_cons, List.length_nil]
                    simp only at hp hinv
                    have hpl : pre.length + suf.length = ((makeV l most)).length := by rw [← hp, List.length_append]
                    rcases suf with _ | ⟨s, suf⟩
                    · rw [List.append_nil] at hp; simp only [List.length_nil] at hpl
                      refine Ev.sr fun K hK => S.o q.lss (S.end (hK _ ?_))
                      clear hK K
                      refine Ev.ud (fun c9 => ?_) (fun c9 => ?_)
                      · first | omega | contradiction
                      · first
                      | (first | omega | contradiction)
                      | refine Ev.exit ?_
                        refine hR2 _ _ ?_
                        show Ev _ _ _ _
                        refine Ev.sr fun K hK => S.o q.as (S.end (hK _ ?_))
                        clear hK K
                        refine Ev.ret ?_
                        refine Ev.ret1 ?_
                        refine ⟨?_, rfl⟩
                        first
                         | rfl
                         | (exfalso; omega)
                         | contradiction
                         | (rw [makeV_bad ‹_›]; rfl)
                         | (exfalso; have h8 : (nextB (makeV l most) pre.length).mark = s.mark := nn_t ‹_›; have h9 := MD.next hidx (hnx (by omega)) h8.symm hbm hbk; omega)
                    · simp only [List.length_cons] at hpl
                      have hidx : (makeV l most)[pre.length]? = some s := by rw [← hp]; simp
                      have hnx := fun h => nextB_at (V := makeV l most) (i := pre.length) h
                      obtain ⟨b, hbi, hb0, hbok, hbm, hbk, hbq, hbl, hbn, hbc, hbd⟩ := MD.row hidx
                      obtain ⟨_, _, hbo1, hbo2⟩ := (by have h := barMass_bd hbok; exact ⟨h.1, h.1, h.1, h.2.1⟩ : 0 ≤ oneOf b ∧ 0 ≤ oneOf b ∧ 0 ≤ oneOf b ∧ oneOf b ≤ 10343154)
                      obtain ⟨hq1, hq2⟩ := mul_bd (k := s.count) (K := 1000) (by omega) hbc hbo1 hbo2
                      refine Ev.sr fun K hK => S.o q.lss (S.end (hK _ ?_))
                      clear hK K
                      refine Ev.ud (fun c10 => ?_) (fun c10 => ?_)
                      · first
                      | (first | omega | contradiction)
                      | refine Ev.seq ?_
                        refine Ev.block ?_
                        refine Ev.sr fun K hK => S.o q.mv (S.o (q.ix am_el25 am_cl46 (hl := (by first | exact ati hbi (by omega) | exact ati (hnx (by omega)) (by omega) | exact ati hidx (by omega) | exact atig (by omega)))) (S.o (q.lsA [_, _, _, _] am_ag46 am_cl46) (S.nn (q.al am_ze46) (S.o q.as (S.sv [_, _, _, _] true [] am_in46 am_cl46 (h := S.end (hK _ ?_)))))))
                        clear hK K
                        refine Ev.sr fun K hK => S.o q.mv (S.o q.mf (S.c0 (hF := all1_idx l s (by omega)) (h := S.o q.as (S.end (hK _ ?_)))))
                        clear hK K
                        refine Ev.seq ?_
                        refine Ev.sr fun K hK => S.o q.mv (S.o q.lss (S.bd q.mv (fun c11 => ?_) (fun c11 => ?_)))
                        · first
                        | (first | omega | contradiction)
                        | refine S.sk (S.sk (S.sk (S.sk (S.o q.pt (S.end (hK _ ?_))))))
                          clear hK K
                          refine Ev.ct ?_
                          refine Ev.sr fun K hK => S.o q.as (S.end (hK _ ?_))
                          clear hK K
                          refine Ev.ret ?_
                          refine hR2 _ _ ?_
                          refine Ev.ret1 ?_
                          refine ⟨?_, rfl⟩
                          first
                           | rfl
                           | (exfalso; omega)
                           | contradiction
                           | (rw [makeV_bad ‹_›]; rfl)
                           | (exfalso; have h8 : (nextB (makeV l most) pre.length).mark = s.mark := nn_t ‹_›; have h9 := MD.next hidx (hnx (by omega)) h8.symm hbm hbk; omega)
                        · first
                        | (first | omega | contradiction)
                        | refine S.o (q.fa 3 am_fi46_3 am_cl3) (S.o (q.lv am_ag3) (S.o q.mv (S.o q.gtr (S.o q.pf (S.end (hK _ ?_))))))
                          clear hK K
                          refine Ev.cd (fun c12 => ?_) (fun c12 => ?_)
                          · first
                          | (first | omega | contradiction)
                          | refine Ev.sr fun K hK => S.o q.as (S.end (hK _ ?_))
                            clear hK K
                            refine Ev.ret ?_
                            refine hR2 _ _ ?_
                            refine Ev.ret1 ?_
                            refine ⟨?_, rfl⟩
                            first
                             | rfl
                             | (exfalso; omega)
                             | contradiction
                             | (rw [makeV_bad ‹_›]; rfl)
                             | (exfalso; have h8 : (nextB (makeV l most) pre.length).mark = s.mark := nn_t ‹_›; have h9 := MD.next hidx (hnx (by omega)) h8.symm hbm hbk; omega)
                          · first
                          | (first | omega | contradiction)
                          | refine Ev.skip ?_
                            show Ev _ _ _ _
                            refine Ev.sr fun K hK => S.o q.mv (S.o q.mv (S.o (q.ix am_el22 am_cl42 (hl := (by first | exact ati hbi (by omega) | exact ati (hnx (by omega)) (by omega) | exact ati hidx (by omega) | exact atig (by omega)))) (S.o (q.lsA [_, _, _, _, _] am_ag42 am_cl42) (S.c0 (hF := lone_fun _ (by assumption)) (h := S.o q.mv (S.o q.ex (S.o q.ex (S.o q.as (S.o q.as (S.end (hK _ ?_)))))))))))
                            clear hK K
                            refine Ev.sm (tbs [(0, 0), (1, 1), (0, 0), (3, 4), (4, 15), (5, 31), (6, 63), (6, 63), (8, 191), (9, 511), (10, 1023), (11, 2047), (6, 63), (13, 4159), (14, 16383), (15, 32767), (16, 65535)]) 16 fun K hK => M.o q.mv (M.o q.add (M.o q.mv (M.o (q.lens am_el25) (M.o q.eql (M.bd q.mv (fun c13 => ?_) (fun c13 => ?_))))))
                            · first
                            | (first | omega | contradiction)
                            | refine M.sk (M.sk (M.sk (M.sk (M.sk (M.sk (M.sk (M.sk (M.sk (M.o q.pt (M.end [_] (h := S.o q.as (S.end (hK _ ?_)))))))))))))
                              clear hK K
                              refine Ev.sr fun K hK => S.o q.mv (S.o q.nott (S.o q.mv (S.o (q.fa 3 am_fi46_3 am_cl3) (S.o (q.lv am_ag3) (S.o (q.fa 2 am_fi46_2 am_cl3) (S.o (q.lv am_ag3) (S.o q.mv (S.o q.mul (S.o q.neq (S.o q.pf (S.bn q.mv (fun c14 => ?_) (fun c14 => ?_))))))))))))
                              · first
                              | (first | omega | contradiction)
                              | refine S.sk (S.sk (S.sk (S.sk (S.sk (S.sk (S.sk (S.sk (S.sk (S.sk (S.o q.pt (S.end (hK _ ?_))))))))))))
                                clear hK K
                                refine Ev.ct ?_
                                refine Ev.sr fun K hK => S.o q.as (S.end (hK _ ?_))
                                clear hK K
                                refine Ev.ret ?_
                                refine hR2 _ _ ?_
                                refine Ev.ret1 ?_
                                refine ⟨?_, rfl⟩
                                first
                                 | rfl
                                 | (exfalso; omega)
                                 | contradiction
                                 | (rw [makeV_bad ‹_›]; rfl)
                                 | (exfalso; have h8 : (nextB (makeV l most) pre.length).mark = s.mark := nn_t ‹_›; have h9 := MD.next hidx (hnx (by omega)) h8.symm hbm hbk; omega)
                              · first
                              | (first | omega | contradiction)
                              | refine S.o q.mv (S.o q.nott (S.o q.mv (S.sk (S.sk (S.sk (S.sk (S.sk (S.sk (S.o q.pf (S.o q.pf (S.end (hK _ ?_))))))))))))
                                clear hK K
                                refine Ev.cf ?_
                                refine Ev.skip ?_
                                show Ev _ _ _ _
                                refine Ev.region_S fun K hK => S.o q.add (S.o q.mv (S.end (hK _ ?_)))
                                clear hK K
                                refine hR2 _ _ ?_
                                refine roundU [] [0, 1, 5, 7, 8, 9, 10, 11, 48, 49, 50, 51, 65, 66, 67, 68, 69, 70, 71, 72, 73, 74, 75, 76, 77, 78, 79, 80, 81, 82, 83, 84, 85, 86, 87] ⟨(pre ++ [s], suf), by rw [← hp]; simp, ?_⟩ ?_ keep_n (slots_c (he := (by first | rfl | (congr 2; simp; done))) (h := trivial)) (.c (.c (.c (.c (.c (.c (.c (.c (.c (.c (.c (.c (.c (.c (.c (.c (.c (.c (.c (.c (.c (.c (.c (.c (.c (.c (.c (.c (.c (.c (.c (.c (.c (.c (.c .n)))))))))))))))))))))))))))))))))))
                                trivial
                                all_goals (dsimp only; simp only [List.length_cons]; omega)
                            · first
                            | (first | omega | contradiction)
                            | refine M.o q.mv (M.o q.mv (M.o q.add (M.o (q.ix am_el25 am_cl46 (hl := (by first | exact ati hbi (by omega) | exact ati (hnx (by omega)) (by omega) | exact ati hidx (by omega) | exact atig (by omega)))) (M.o (q.fs 1 am_fi46_1 am_cl9) (M.o (q.ls am_ag9) (M.o (q.fa 1 am_fi46_1 am_cl9) (M.o (q.lv am_ag9) (M.o q.snes (M.o q.pf (M.end [_] (h := S.o q.as (S.end (hK _ ?_)))))))))))))
                              clear hK K
                              refine Ev.sr fun K hK => S.o q.mv (S.o q.nott (S.o q.mv (S.o (q.fa 3 am_fi46_3 am_cl3) (S.o (q.lv am_ag3) (S.o (q.fa 2 am_fi46_2 am_cl3) (S.o (q.lv am_ag3) (S.o q.mv (S.o q.mul (S.o q.neq (S.o q.pf (S.bn q.mv (fun c15 => ?_) (fun c15 => ?_))))))))))))
                              · first
                              | (first | omega | contradiction)
                              | refine S.sk (S.sk (S.sk (S.sk (S.sk (S.sk (S.sk (S.sk (S.sk (S.sk (S.o q.pt (S.end (hK _ ?_))))))))))))
                                clear hK K
                                refine Ev.ct ?_
                                refine Ev.sr fun K hK => S.o q.as (S.end (hK _ ?_))
                                clear hK K
                                refine Ev.ret ?_
                                refine hR2 _ _ ?_
                                refine Ev.ret1 ?_
                                refine ⟨?_, rfl⟩
                                first
                                 | rfl
                                 | (exfalso; omega)
                                 | contradiction
                                 | (rw [makeV_bad ‹_›]; rfl)
                                 | (exfalso; have h8 : (nextB (makeV l most) pre.length).mark = s.mark := nn_t ‹_›; have h9 := MD.next hidx (hnx (by omega)) h8.symm hbm hbk; omega)
                              · first
                              | (first | omega | contradiction)
                              | refine S.o q.mv (S.o q.not (S.bb q.mv (fun c16 => ?_) (fun c16 => ?_)))
                                · first
                                | (first | omega | contradiction)
                                | refine S.o (q.fa 3 am_fi46_3 am_cl3) (S.o (q.lv am_ag3) (S.o q.mv (S.o q.add (S.o q.mv (S.o q.leq (S.o q.pt (S.o q.pf (S.end (hK _ ?_)))))))))
                                  clear hK K
                                  refine Ev.cd (fun c17 => ?_) (fun c17 => ?_)
                                  · first
                                  | (first | omega | contradiction)
                                  | refine Ev.sr fun K hK => S.o q.as (S.end (hK _ ?_))
                                    clear hK K
                                    refine Ev.ret ?_
                                    refine hR2 _ _ ?_
                                    refine Ev.ret1 ?_
                                    refine ⟨?_, rfl⟩
                                    first
                                     | rfl
                                     | (exfalso; omega)
                                     | contradiction
                                     | (rw [makeV_bad ‹_›]; rfl)
                                     | (exfalso; have h8 : (nextB (makeV l most) pre.length).mark = s.mark := nn_t ‹_›; have h9 := MD.next hidx (hnx (by omega)) h8.symm hbm hbk; omega)
                                  · first
                                  | (first | omega | contradiction)
                                  | refine Ev.skip ?_
                                    show Ev _ _ _ _
                                    refine Ev.region_S fun K hK => S.o q.add (S.o q.mv (S.end (hK _ ?_)))
                                    clear hK K
                                    refine hR2 _ _ ?_
                                    refine roundU [] [0, 1, 5, 7, 8, 9, 10, 11, 48, 49, 50, 51, 65, 66, 67, 68, 69, 70, 71, 72, 73, 74, 75, 76, 77, 78, 79, 80, 81, 82, 83, 84, 85, 86, 87] ⟨(pre ++ [s], suf), by rw [← hp]; simp, ?_⟩ ?_ keep_n (slots_c (he := (by first | rfl | (congr 2; simp; done))) (h := trivial)) (.c (.c (.c (.c (.c (.c (.c (.c (.c (.c (.c (.c (.c (.c (.c (.c (.c (.c (.c (.c (.c (.c (.c (.c (.c (.c (.c (.c (.c (.c (.c (.c (.c (.c (.c .n)))))))))))))))))))))))))))))))))))
                                    trivial
                                    all_goals (dsimp only; simp only [List.length_cons]; omega)
                                · first
                                | (first | omega | contradiction)
                                | refine S.sk (S.sk (S.sk (S.sk (S.sk (S.sk (S.o q.pf (S.o q.pf (S.end (hK _ ?_)))))))))
                                  clear hK K
                                  refine Ev.cf ?_
                                  refine Ev.skip ?_
                                  show Ev _ _ _ _
                                  refine Ev.region_S fun K hK => S.o q.add (S.o q.mv (S.end (hK _ ?_)))
                                  clear hK K
                                  refine hR2 _ _ ?_
                                  refine roundU [] [0, 1, 5, 7, 8, 9, 10, 11, 48, 49, 50, 51, 65, 66, 67, 68, 69, 70, 71, 72, 73, 74, 75, 76, 77, 78, 79, 80, 81, 82, 83, 84, 85, 86, 87] ⟨(pre ++ [s], suf), by rw [← hp]; simp, ?_⟩ ?_ keep_n (slots_c (he := (by first | rfl | (congr 2; simp; done))) (h := trivial)) (.c (.c (.c (.c (.c (.c (.c (.c (.c (.c (.c (.c (.c (.c (.c (.c (.c (.c (.c (.c (.c (.c (.c (.c (.c (.c (.c (.c (.c (.c (.c (.c (.c (.c (.c .n)))))))))))))))))))))))))))))))))))
                                  trivial
                                  all_goals (dsimp only; simp only [List.length_cons]; omega)
                      · first | omega | contradiction
      · simp only [List.length_cons] at hpl
        have hidx : (l)[pre.length]? = some s := by rw [← hp]; simp
        have hsok : okBar s := MD.sched.2.1 s (by rw [← hp]; simp)
        have hsw := okBar_w hsok
        obtain ⟨_, _, hbm1, hbm2⟩ := barMass_bd hsok
        have htb := totB_bd pre (fun b hb => MD.sched.2.1 b (by rw [← hp]; simp [hb]))
        refine Ev.sr fun K hK => S.o q.lss (S.end (hK _ ?_))
        clear hK K
        refine Ev.ud (fun c18 => ?_) (fun c18 => ?_)
        · first
        | (first | omega | contradiction)
        | refine Ev.seq ?_
          refine Ev.block ?_
          refine Ev.sr fun K hK => S.o (q.ix am_el22 am_cl42 (hl := (by first | exact ati hbi (by omega) | exact ati (hnx (by omega)) (by omega) | exact ati hidx (by omega) | exact atig (by omega)))) (S.o (q.lsA [_, _, _, _, _] am_ag42 am_cl42) (S.nn (q.al am_ze42) (S.sv [_, _, _, _, _] true [] am_in42 am_cl42 (h := S.end (hK _ ?_)))))
          clear hK K
          refine Ev.sr fun K hK => S.o (q.lvA [_, _, _, _, _] am_ag42 am_cl42) (S.c0 (hF := barMass_fun _ (by assumption)) (h := S.o q.mv (S.o q.ex (S.o q.ex (S.o q.as (S.o q.as (S.end (hK _ ?_))))))))
          clear hK K
          refine Ev.seq ?_
          have e1 := okV_in (v := barMass s) hsok
          have e2 := okE_in hsok
          rw [e1]
          refine Ev.sr fun K hK => S.o q.mv (S.o q.neq (S.end (hK _ ?_)))
          clear hK K
          refine Ev.cn (fun c19 => ?_) (fun c19 => ?_)
          · first
          | (first | omega | contradiction)
          | refine Ev.sr fun K hK => S.o q.as (S.end (hK _ ?_))
            clear hK K
            refine Ev.ret ?_
            refine hR0 _ _ ?_
            refine Ev.ret1 ?_
            refine ⟨?_, rfl⟩
            first
             | rfl
             | (exfalso; omega)
             | contradiction
             | (rw [makeV_bad ‹_›]; rfl)
             | (exfalso; have h8 : (nextB (makeV l most) pre.length).mark = s.mark := nn_t ‹_›; have h9 := MD.next hidx (hnx (by omega)) h8.symm hbm hbk; omega)
          · first
          | (first | omega | contradiction)
          | refine Ev.skip ?_
            show Ev _ _ _ _
            refine Ev.region_S fun K hK => S.o q.mv (S.o q.mv (S.o q.add (S.o q.as (S.end (hK _ ?_)))))
            clear hK K
            show Ev _ _ _ _
            refine Ev.region_S fun K hK => S.o q.add (S.o q.mv (S.end (hK _ ?_)))
            clear hK K
            refine hR0 _ _ ?_
            refine roundU [] [0, 1, 5, 7, 8, 9, 10, 48, 49] ⟨(pre ++ [s], suf), by rw [← hp]; simp, ?_⟩ ?_ keep_n (slots_c (he := (by first | rfl | (congr 2; simp; done))) (h := (slots_c (he := (by first | rfl | exact iE (by rw [totB_snoc]))) (h := trivial)))) (.c (.c (.c (.c (.c (.c (.c (.c (.c .n)))))))))
            trivial
            all_goals (dsimp only; simp only [List.length_cons]; omega)
        · first | omega | contradiction
end Go.Proofs.YtnbjmckhongidaaDoor
