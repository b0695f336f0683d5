/-
  The law BundleChecks, walked.
  Conditions: none.
-/
import Derived.Test.YtnbjmckhongidaaDoorLw0
import Derived.Test.YtnbjmckhongidaaDoorMk4
namespace Go.Proofs.YtnbjmckhongidaaDoor
open Go Go.AM
set_option linter.unusedSimpArgs false
set_option linter.unusedVariables false
set_option maxRecDepth 100000
set_option maxHeartbeats 1000000

theorem bun_bad {bs : List Bar} {l : List Bundle} (t : List UInt8) (h : ¬ okBuns l) : massV l = 0 ∧ bunsE l = 1 ∧ findV l t = 0 ∧ findE l t = 1 ∧ (chkV bs l).length = 0 ∧ chkE bs l = 1 := ⟨if_neg h, if_neg h, if_neg h, if_neg h, by rw [(chk_bad (fun h' => h h'.2)).1]; rfl, (chk_bad (fun h' => h h'.2)).2⟩
theorem bun_good {l : List Bundle} (t : List UInt8) (h : okBuns l) : massV l = massSum l ∧ bunsE l = 0 ∧ (tagI l t < 0 → findV l t = 0 ∧ findE l t = 9) ∧ (¬ tagI l t < 0 → findV l t = tagI l t ∧ findE l t = 0) :=
  ⟨if_pos h, if_pos h, fun h' => ⟨by rw [findV, if_pos h, if_pos h'], by rw [findE, if_pos h, if_pos h']⟩, fun h' => ⟨by rw [findV, if_pos h, if_neg h'], by rw [findE, if_pos h, if_neg h']⟩⟩
theorem sched_bad {bs : List Bar} (l : List Bundle) (h : ¬ okSched bs) : (chkV bs l).length = 0 ∧ chkE bs l = 1 := ⟨by rw [(chk_bad (fun h' => h h'.1)).1]; rfl, (chk_bad (fun h' => h h'.1)).2⟩
theorem chk_len (bs : List Bar) (l : List Bundle) (h : l.length ≤ 1003) (hb : bs.length ≤ 60) : (chkV bs l).length ≤ 2000 ∧ (checkP bs l).length ≤ 2000 := by
  have h1 := fnd1_len l bs
  have h2 := fnd2_len bs l
  have h3 : (checkP bs l).length ≤ 2000 := by rw [checkP, List.length_append]; omega
  refine ⟨?_, h3⟩
  unfold chkV
  split
  · exact h3
  · exact Nat.zero_le _
theorem checks_law (l : List Bar) (v : List Bundle) (t : List UInt8) (hlen : l.length ≤ 140737488355328) (hvl : v.length ≤ 140737488355328) (htl : t.length ≤ 140737488355328) : Fun Tryd.prog 6 [.sh 5 (l.map Bar.c), .sh 4 (v.map Bundle.c), .lit (str t)] (Ret (.lit (.bool true)) []) := by
  refine Fun.of (nt := 134) (rs := [.tmp 6]) Tryd.func6 rfl rfl rfl rfl rfl ?_
  refine Ev.sr fun K hK => S.o q.as (S.end (hK _ ?_))
  clear hK K
  refine Ev.seq ?_
  refine Ev.sr fun K hK => S.c0 (hF := awake_fun) (h := S.o q.nott (S.end (hK _ ?_)))
  clear hK K
  refine Ev.cf ?_
  refine Ev.skip ?_
  show Ev _ _ _ _
  refine Ev.seq ?_
  refine Ev.sr fun K hK => S.o q.mv (S.c0 (hF := large_fun _ (by omega)) (h := S.bd q.mv (fun c1 => ?_) (fun c1 => ?_)))
  · first
  | (first | omega | contradiction)
  | refine S.sk (S.sk (S.sk (S.o q.pt (S.o q.mv (S.sk (S.sk (S.sk (S.o q.pt (S.end (hK _ ?_))))))))))
    clear hK K
    refine Ev.ct ?_
    refine Ev.sr fun K hK => S.o q.as (S.end (hK _ ?_))
    clear hK K
    refine Ev.ret ?_
    refine Ev.ret1 ?_
    refine ⟨?_, rfl⟩
    first | rfl | exact lawT rfl | exact lawT (by omega) | (exfalso; omega) | contradiction | (exfalso; simp at *; done)
  · first
  | (first | omega | contradiction)
  | refine S.o q.mv (S.c0 (hF := short_fun _ _ (by omega)) (h := S.o q.not (S.o q.pf (S.bn q.mv (fun c2 => ?_) (fun c2 => ?_)))))
    · first
    | (first | omega | contradiction)
    | refine S.sk (S.sk (S.sk (S.o q.pt (S.end (hK _ ?_)))))
      clear hK K
      refine Ev.ct ?_
      refine Ev.sr fun K hK => S.o q.as (S.end (hK _ ?_))
      clear hK K
      refine Ev.ret ?_
      refine Ev.ret1 ?_
      refine ⟨?_, rfl⟩
      first | rfl | exact lawT rfl | exact lawT (by omega) | (exfalso; omega) | contradiction | (exfalso; simp at *; done)
    · first
    | (first | omega | contradiction)
    | refine S.o q.mv (S.o (q.slen am_el9 am_un9) (S.o q.gtr (S.o q.pf (S.end (hK _ ?_)))))
      clear hK K
      refine Ev.cd (fun c3 => ?_) (fun c3 => ?_)
      · first
      | (first | omega | contradiction)
      | refine Ev.sr fun K hK => S.o q.as (S.end (hK _ ?_))
        clear hK K
        refine Ev.ret ?_
        refine Ev.ret1 ?_
        refine ⟨?_, rfl⟩
        first | rfl | exact lawT rfl | exact lawT (by omega) | (exfalso; omega) | contradiction | (exfalso; simp at *; done)
      · first
      | (first | omega | contradiction)
      | refine Ev.skip ?_
        show Ev _ _ _ _
        have hsm := Decidable.not_not.1 ‹¬ ¬ smallL l 8›
        have hw := small_w hsm
        have hl8 := hsm.1
        obtain ⟨hbw, hb3⟩ := short_w ‹shortB v 30›
        obtain ⟨hcl1, hcl2⟩ := chk_len l v hb3 (by omega)
        refine Ev.sr fun K hK => S.o q.mv (S.c0 (hF := bmass_fun _ (by omega) (by assumption)) (h := S.o q.mv (S.o q.ex (S.o q.ex (S.o q.as (S.o q.as (S.end (hK _ ?_))))))))
        clear hK K
        refine Ev.sr fun K hK => S.o q.mv (S.o q.mv (S.c0 (hF := bfind_fun _ _ (by omega) (by assumption)) (h := S.o q.mv (S.o q.ex (S.o q.ex (S.o q.as (S.o q.as (S.end (hK _ ?_)))))))))
        clear hK K
        refine Ev.sr fun K hK => S.o q.mv (S.o q.mv (S.c0 (hF := bcheck_fun _ _ (by omega) (by omega) (by assumption) (by assumption)) (h := S.o q.mv (S.o q.ex (S.o q.ex (S.o q.as (S.o q.as (S.end (hK _ ?_)))))))))
        clear hK K
        refine Ev.seq ?_
        refine Ev.sr fun K hK => S.o q.mv (S.c0 (hF := rBvalid_fun _ (by omega) (by assumption)) (h := S.o q.not (S.end (hK _ ?_))))
        clear hK K
        refine Ev.cn (fun c4 => ?_) (fun c4 => ?_)
        · first
        | (first | omega | contradiction)
        | obtain ⟨e1, e2, e3, e4, e5, e6⟩ := bun_bad (bs := l) t ‹¬ okBuns v›
          refine Ev.sr fun K hK => S.o q.mv (S.c0 (hF := bvalid_fun _ (by omega) (by assumption)) (h := S.o q.not (S.bn q.mv (fun c5 => ?_) (fun c5 => ?_))))
          · first
          | (first | omega | contradiction)
          | refine S.o q.mv (S.o q.eql (S.o q.pt (S.bd q.mv (fun c6 => ?_) (fun c6 => ?_))))
            · first
            | (first | omega | contradiction)
            | refine S.o q.mv (S.o q.eql (S.o q.pt (S.bd q.mv (fun c7 => ?_) (fun c7 => ?_))))
              · first
              | (first | omega | contradiction)
              | refine S.o q.mv (S.o q.eql (S.o q.pt (S.bd q.mv (fun c8 => ?_) (fun c8 => ?_))))
                · first
                | (first | omega | contradiction)
                | refine S.o q.mv (S.o q.eql (S.o q.pt (S.bd q.mv (fun c9 => ?_) (fun c9 => ?_))))
                  · first
                  | (first | omega | contradiction)
                  | refine S.o q.mv (S.o (q.lens am_el35) (S.o q.eql (S.o q.pt (S.bd q.mv (fun c10 => ?_) (fun c10 => ?_)))))
                    · first
                    | (first | omega | contradiction)
                    | refine S.o q.mv (S.o q.eql (S.o q.pt (S.o q.as (S.end (hK _ ?_)))))
                      clear hK K
                      refine Ev.ret ?_
                      refine Ev.ret1 ?_
                      refine ⟨?_, rfl⟩
                      first | rfl | exact lawT rfl | exact lawT (by omega) | (exfalso; omega) | contradiction | (exfalso; simp at *; done)
                    · first
                    | (first | omega | contradiction)
                    | refine S.sk (S.sk (S.o q.pf (S.o q.as (S.end (hK _ ?_)))))
                      clear hK K
                      refine Ev.ret ?_
                      refine Ev.ret1 ?_
                      refine ⟨?_, rfl⟩
                      first | rfl | exact lawT rfl | exact lawT (by omega) | (exfalso; omega) | contradiction | (exfalso; simp at *; done)
                  · first
                  | (first | omega | contradiction)
                  | refine S.sk (S.sk (S.sk (S.o q.pf (S.o q.mv (S.sk (S.sk (S.o q.pf (S.o q.as (S.end (hK _ ?_))))))))))
                    clear hK K
                    refine Ev.ret ?_
                    refine Ev.ret1 ?_
                    refine ⟨?_, rfl⟩
                    first | rfl | exact lawT rfl | exact lawT (by omega) | (exfalso; omega) | contradiction | (exfalso; simp at *; done)
                · first
                | (first | omega | contradiction)
                | refine S.sk (S.sk (S.o q.pf (S.o q.mv (S.sk (S.sk (S.sk (S.o q.pf (S.o q.mv (S.sk (S.sk (S.o q.pf (S.o q.as (S.end (hK _ ?_))))))))))))))
                  clear hK K
                  refine Ev.ret ?_
                  refine Ev.ret1 ?_
                  refine ⟨?_, rfl⟩
                  first | rfl | exact lawT rfl | exact lawT (by omega) | (exfalso; omega) | contradiction | (exfalso; simp at *; done)
              · first
              | (first | omega | contradiction)
              | refine S.sk (S.sk (S.o q.pf (S.o q.mv (S.sk (S.sk (S.o q.pf (S.o q.mv (S.sk (S.sk (S.sk (S.o q.pf (S.o q.mv (S.sk (S.sk (S.o q.pf (S.o q.as (S.end (hK _ ?_))))))))))))))))))
                clear hK K
                refine Ev.ret ?_
                refine Ev.ret1 ?_
                refine ⟨?_, rfl⟩
                first | rfl | exact lawT rfl | exact lawT (by omega) | (exfalso; omega) | contradiction | (exfalso; simp at *; done)
            · first
            | (first | omega | contradiction)
            | refine S.sk (S.sk (S.o q.pf (S.o q.mv (S.sk (S.sk (S.o q.pf (S.o q.mv (S.sk (S.sk (S.o q.pf (S.o q.mv (S.sk (S.sk (S.sk (S.o q.pf (S.o q.mv (S.sk (S.sk (S.o q.pf (S.o q.as (S.end (hK _ ?_))))))))))))))))))))))
              clear hK K
              refine Ev.ret ?_
              refine Ev.ret1 ?_
              refine ⟨?_, rfl⟩
              first | rfl | exact lawT rfl | exact lawT (by omega) | (exfalso; omega) | contradiction | (exfalso; simp at *; done)
          · first
          | (first | omega | contradiction)
          | refine S.sk (S.sk (S.o q.pf (S.o q.mv (S.sk (S.sk (S.o q.pf (S.o q.mv (S.sk (S.sk (S.o q.pf (S.o q.mv (S.sk (S.sk (S.o q.pf (S.o q.mv (S.sk (S.sk (S.sk (S.o q.pf (S.o q.mv (S.sk (S.sk (S.o q.pf (S.o q.as (S.end (hK _ ?_))))))))))))))))))))))))))
            clear hK K
            refine Ev.ret ?_
            refine Ev.ret1 ?_
            refine ⟨?_, rfl⟩
            first | rfl | exact lawT rfl | exact lawT (by omega) | (exfalso; omega) | contradiction | (exfalso; simp at *; done)
        · first
        | (first | omega | contradiction)
        | refine Ev.skip ?_
          show Ev _ _ _ _
          refine Ev.seq ?_
          have hB : okBuns v := ‹_›
          obtain ⟨e1, e2, e3, e4⟩ := bun_good t hB
          refine Ev.sr fun K hK => S.o q.mv (S.c0 (hF := bvalid_fun _ (by omega) (by assumption)) (h := S.o q.not (S.bn q.mv (fun c11 => ?_) (fun c11 => ?_))))
          · first
          | (first | omega | contradiction)
          | refine S.sk (S.sk (S.sk (S.sk (S.o q.pt (S.o q.mv (S.sk (S.sk (S.o q.pt (S.end (hK _ ?_))))))))))
            clear hK K
            refine Ev.ct ?_
            refine Ev.sr fun K hK => S.o q.as (S.end (hK _ ?_))
            clear hK K
            refine Ev.ret ?_
            refine Ev.ret1 ?_
            refine ⟨?_, rfl⟩
            first | rfl | exact lawT rfl | exact lawT (by omega) | (exfalso; omega) | contradiction | (exfalso; simp at *; done)
          · first
          | (first | omega | contradiction)
          | refine S.o q.mv (S.o q.mv (S.c0 (hF := rBmass_fun _ (by assumption)) (h := S.o q.neq (S.o q.pf (S.bn q.mv (fun c12 => ?_) (fun c12 => ?_))))))
            · first
            | (first | omega | contradiction)
            | refine S.sk (S.sk (S.o q.pt (S.end (hK _ ?_))))
              clear hK K
              refine Ev.ct ?_
              refine Ev.sr fun K hK => S.o q.as (S.end (hK _ ?_))
              clear hK K
              refine Ev.ret ?_
              refine Ev.ret1 ?_
              refine ⟨?_, rfl⟩
              first | rfl | exact lawT rfl | exact lawT (by omega) | (exfalso; omega) | contradiction | (exfalso; simp at *; done)
            · first
            | (first | omega | contradiction)
            | refine S.o q.mv (S.o q.neq (S.o q.pf (S.end (hK _ ?_))))
              clear hK K
              refine Ev.cn (fun c13 => ?_) (fun c13 => ?_)
              · first
              | (first | omega | contradiction)
              | refine Ev.sr fun K hK => S.o q.as (S.end (hK _ ?_))
                clear hK K
                refine Ev.ret ?_
                refine Ev.ret1 ?_
                refine ⟨?_, rfl⟩
                first | rfl | exact lawT rfl | exact lawT (by omega) | (exfalso; omega) | contradiction | (exfalso; simp at *; done)
              · first
              | (first | omega | contradiction)
              | refine Ev.skip ?_
                show Ev _ _ _ _
                refine Ev.sr fun K hK => S.o q.mv (S.o q.mv (S.c0 (hF := rBfind_fun _ _ (by omega)) (h := S.o q.as (S.end (hK _ ?_)))))
                clear hK K
                refine Ev.seq ?_
                refine Ev.sr fun K hK => S.o q.mv (S.o q.lss (S.bd q.mv (fun c14 => ?_) (fun c14 => ?_)))
                · first
                | (first | omega | contradiction)
                | refine S.o q.mv (S.o q.neq (S.bn q.mv (fun c15 => ?_) (fun c15 => ?_)))
                  · first
                  | (first | omega | contradiction)
                  | refine S.sk (S.sk (S.o q.pt (S.o q.pt (S.o q.mv (S.sk (S.sk (S.sk (S.sk (S.sk (S.sk (S.sk (S.sk (S.sk (S.sk (S.sk (S.o q.pt (S.end (hK _ ?_))))))))))))))))))
                    clear hK K
                    refine Ev.ct ?_
                    refine Ev.sr fun K hK => S.o q.as (S.end (hK _ ?_))
                    clear hK K
                    refine Ev.ret ?_
                    refine Ev.ret1 ?_
                    refine ⟨?_, rfl⟩
                    first | rfl | exact lawT rfl | exact lawT (by omega) | (exfalso; omega) | contradiction | (exfalso; simp at *; done)
                  · first
                  | (first | omega | contradiction)
                  | refine S.o q.mv (S.o q.neq (S.o q.pf (S.o q.pt (S.bn q.mv (fun c16 => ?_) (fun c16 => ?_)))))
                    · first
                    | (first | omega | contradiction)
                    | refine S.sk (S.sk (S.sk (S.sk (S.sk (S.sk (S.sk (S.sk (S.sk (S.sk (S.sk (S.o q.pt (S.end (hK _ ?_)))))))))))))
                      clear hK K
                      refine Ev.ct ?_
                      refine Ev.sr fun K hK => S.o q.as (S.end (hK _ ?_))
                      clear hK K
                      refine Ev.ret ?_
                      refine Ev.ret1 ?_
                      refine ⟨?_, rfl⟩
                      first | rfl | exact lawT rfl | exact lawT (by omega) | (exfalso; omega) | contradiction | (exfalso; simp at *; done)
                    · first
                    | (first | omega | contradiction)
                    | refine S.o q.mv (S.o q.geq (S.bd q.mv (fun c17 => ?_) (fun c17 => ?_)))
                      · first
                      | (first | omega | contradiction)
                      | refine S.o q.mv (S.o q.mv (S.o q.neq (S.bn q.mv (fun c18 => ?_) (fun c18 => ?_))))
                        · first
                        | (first | omega | contradiction)
                        | refine S.sk (S.sk (S.o q.pt (S.o q.pt (S.o q.pf (S.end (hK _ ?_))))))
                          clear hK K
                          refine Ev.ct ?_
                          refine Ev.sr fun K hK => S.o q.as (S.end (hK _ ?_))
                          clear hK K
                          refine Ev.ret ?_
                          refine Ev.ret1 ?_
                          refine ⟨?_, rfl⟩
                          first | rfl | exact lawT rfl | exact lawT (by omega) | (exfalso; omega) | contradiction | (exfalso; simp at *; done)
                        · first
                        | (first | omega | contradiction)
                        | refine S.o q.mv (S.o q.neq (S.o q.pf (S.o q.pt (S.o q.pf (S.end (hK _ ?_))))))
                          clear hK K
                          refine Ev.cn (fun c19 => ?_) (fun c19 => ?_)
                          · first
                          | (first | omega | contradiction)
                          | refine Ev.sr fun K hK => S.o q.as (S.end (hK _ ?_))
                            clear hK K
                            refine Ev.ret ?_
                            refine Ev.ret1 ?_
                            refine ⟨?_, rfl⟩
                            first | rfl | exact lawT rfl | exact lawT (by omega) | (exfalso; omega) | contradiction | (exfalso; simp at *; done)
                          · first
                          | (first | omega | contradiction)
                          | refine Ev.skip ?_
                            show Ev _ _ _ _
                            refine Ev.seq ?_
                            refine Ev.sr fun K hK => S.o q.mv (S.c0 (hF := rschedValid_fun _ (by omega) (by assumption)) (h := S.o q.not (S.end (hK _ ?_))))
                            clear hK K
                            refine Ev.cn (fun c20 => ?_) (fun c20 => ?_)
                            · first
                            | (first | omega | contradiction)
                            | obtain ⟨e5, e6⟩ := sched_bad v ‹¬ okSched l›
                              refine Ev.sr fun K hK => S.o q.mv (S.o (q.lens am_el35) (S.o q.eql (S.bd q.mv (fun c21 => ?_) (fun c21 => ?_))))
                              · first
                              | (first | omega | contradiction)
                              | refine S.o q.mv (S.o q.eql (S.o q.pt (S.o q.as (S.end (hK _ ?_)))))
                                clear hK K
                                refine Ev.ret ?_
                                refine Ev.ret1 ?_
                                refine ⟨?_, rfl⟩
                                first | rfl | exact lawT rfl | exact lawT (by omega) | (exfalso; omega) | contradiction | (exfalso; simp at *; done)
                              · first
                              | (first | omega | contradiction)
                              | refine S.sk (S.sk (S.o q.pf (S.o q.as (S.end (hK _ ?_)))))
                                clear hK K
                                refine Ev.ret ?_
                                refine Ev.ret1 ?_
                                refine ⟨?_, rfl⟩
                                first | rfl | exact lawT rfl | exact lawT (by omega) | (exfalso; omega) | contradiction | (exfalso; simp at *; done)
                            · first
                            | (first | omega | contradiction)
                            | refine Ev.skip ?_
                              show Ev _ _ _ _
                              have hS : okSched l := ‹_›
                              have e5 : chkV l v = checkP l v := (chk_ok ⟨hS, hB⟩).1
                              have e6 := (chk_ok ⟨hS, hB⟩).2
                              refine Ev.sr fun K hK => S.o q.mv (S.o q.eql (S.bd q.mv (fun c22 => ?_) (fun c22 => ?_)))
                              · first
                              | (first | omega | contradiction)
                              | refine S.o q.mv (S.o q.mv (S.o q.mv (S.c0 (hF := rCheck_fun _ _ (by assumption) (by assumption)) (h := S.c0 (hF := eqFnd_fun _ _ (by omega) (by omega)) (h := S.o q.pt (S.o q.as (S.end (hK _ ?_))))))))
                                clear hK K
                                refine Ev.ret ?_
                                refine Ev.ret1 ?_
                                refine ⟨?_, rfl⟩
                                first | rfl | exact lawT rfl | exact lawT (by omega) | (exfalso; omega) | contradiction | (exfalso; simp at *; done)
                              · first
                              | (first | omega | contradiction)
                              | refine S.sk (S.sk (S.sk (S.sk (S.sk (S.o q.pf (S.o q.as (S.end (hK _ ?_))))))))
                                clear hK K
                                refine Ev.ret ?_
                                refine Ev.ret1 ?_
                                refine ⟨?_, rfl⟩
                                first | rfl | exact lawT rfl | exact lawT (by omega) | (exfalso; omega) | contradiction | (exfalso; simp at *; done)
                      · first
                      | (first | omega | contradiction)
                      | refine S.sk (S.sk (S.sk (S.sk (S.sk (S.sk (S.sk (S.o q.pf (S.o q.pf (S.end (hK _ ?_))))))))))
                        clear hK K
                        refine Ev.cf ?_
                        refine Ev.skip ?_
                        show Ev _ _ _ _
                        refine Ev.seq ?_
                        refine Ev.sr fun K hK => S.o q.mv (S.c0 (hF := rschedValid_fun _ (by omega) (by assumption)) (h := S.o q.not (S.end (hK _ ?_))))
                        clear hK K
                        refine Ev.cn (fun c23 => ?_) (fun c23 => ?_)
                        · first
                        | (first | omega | contradiction)
                        | obtain ⟨e5, e6⟩ := sched_bad v ‹¬ okSched l›
                          refine Ev.sr fun K hK => S.o q.mv (S.o (q.lens am_el35) (S.o q.eql (S.bd q.mv (fun c24 => ?_) (fun c24 => ?_))))
                          · first
                          | (first | omega | contradiction)
                          | refine S.o q.mv (S.o q.eql (S.o q.pt (S.o q.as (S.end (hK _ ?_)))))
                            clear hK K
                            refine Ev.ret ?_
                            refine Ev.ret1 ?_
                            refine ⟨?_, rfl⟩
                            first | rfl | exact lawT rfl | exact lawT (by omega) | (exfalso; omega) | contradiction | (exfalso; simp at *; done)
                          · first
                          | (first | omega | contradiction)
                          | refine S.sk (S.sk (S.o q.pf (S.o q.as (S.end (hK _ ?_)))))
                            clear hK K
                            refine Ev.ret ?_
                            refine Ev.ret1 ?_
                            refine ⟨?_, rfl⟩
                            first | rfl | exact lawT rfl | exact lawT (by omega) | (exfalso; omega) | contradiction | (exfalso; simp at *; done)
                        · first
                        | (first | omega | contradiction)
                        | refine Ev.skip ?_
                          show Ev _ _ _ _
                          have hS : okSched l := ‹_›
                          have e5 : chkV l v = checkP l v := (chk_ok ⟨hS, hB⟩).1
                          have e6 := (chk_ok ⟨hS, hB⟩).2
                          refine Ev.sr fun K hK => S.o q.mv (S.o q.eql (S.bd q.mv (fun c25 => ?_) (fun c25 => ?_)))
                          · first
                          | (first | omega | contradiction)
                          | refine S.o q.mv (S.o q.mv (S.o q.mv (S.c0 (hF := rCheck_fun _ _ (by assumption) (by assumption)) (h := S.c0 (hF := eqFnd_fun _ _ (by omega) (by omega)) (h := S.o q.pt (S.o q.as (S.end (hK _ ?_))))))))
                            clear hK K
                            refine Ev.ret ?_
                            refine Ev.ret1 ?_
                            refine ⟨?_, rfl⟩
                            first | rfl | exact lawT rfl | exact lawT (by omega) | (exfalso; omega) | contradiction | (exfalso; simp at *; done)
                          · first
                          | (first | omega | contradiction)
                          | refine S.sk (S.sk (S.sk (S.sk (S.sk (S.o q.pf (S.o q.as (S.end (hK _ ?_))))))))
                            clear hK K
                            refine Ev.ret ?_
                            refine Ev.ret1 ?_
                            refine ⟨?_, rfl⟩
                            first | rfl | exact lawT rfl | exact lawT (by omega) | (exfalso; omega) | contradiction | (exfalso; simp at *; done)
                · first
                | (first | omega | contradiction)
                | refine S.sk (S.sk (S.sk (S.sk (S.sk (S.sk (S.o q.pf (S.o q.mv (S.o q.mv (S.o q.geq (S.bd q.mv (fun c26 => ?_) (fun c26 => ?_)))))))))))
                  · first
                  | (first | omega | contradiction)
                  | refine S.o q.mv (S.o q.mv (S.o q.neq (S.bn q.mv (fun c27 => ?_) (fun c27 => ?_))))
                    · first
                    | (first | omega | contradiction)
                    | refine S.sk (S.sk (S.o q.pt (S.o q.pt (S.o q.pf (S.end (hK _ ?_))))))
                      clear hK K
                      refine Ev.ct ?_
                      refine Ev.sr fun K hK => S.o q.as (S.end (hK _ ?_))
                      clear hK K
                      refine Ev.ret ?_
                      refine Ev.ret1 ?_
                      refine ⟨?_, rfl⟩
                      first | rfl | exact lawT rfl | exact lawT (by omega) | (exfalso; omega) | contradiction | (exfalso; simp at *; done)
                    · first
                    | (first | omega | contradiction)
                    | refine S.o q.mv (S.o q.neq (S.o q.pf (S.o q.pt (S.o q.pf (S.end (hK _ ?_))))))
                      clear hK K
                      refine Ev.cn (fun c28 => ?_) (fun c28 => ?_)
                      · first
                      | (first | omega | contradiction)
                      | refine Ev.sr fun K hK => S.o q.as (S.end (hK _ ?_))
                        clear hK K
                        refine Ev.ret ?_
                        refine Ev.ret1 ?_
                        refine ⟨?_, rfl⟩
                        first | rfl | exact lawT rfl | exact lawT (by omega) | (exfalso; omega) | contradiction | (exfalso; simp at *; done)
                      · first
                      | (first | omega | contradiction)
                      | refine Ev.skip ?_
                        show Ev _ _ _ _
                        refine Ev.seq ?_
                        refine Ev.sr fun K hK => S.o q.mv (S.c0 (hF := rschedValid_fun _ (by omega) (by assumption)) (h := S.o q.not (S.end (hK _ ?_))))
                        clear hK K
                        refine Ev.cn (fun c29 => ?_) (fun c29 => ?_)
                        · first
                        | (first | omega | contradiction)
                        | obtain ⟨e5, e6⟩ := sched_bad v ‹¬ okSched l›
                          refine Ev.sr fun K hK => S.o q.mv (S.o (q.lens am_el35) (S.o q.eql (S.bd q.mv (fun c30 => ?_) (fun c30 => ?_))))
                          · first
                          | (first | omega | contradiction)
                          | refine S.o q.mv (S.o q.eql (S.o q.pt (S.o q.as (S.end (hK _ ?_)))))
                            clear hK K
                            refine Ev.ret ?_
                            refine Ev.ret1 ?_
                            refine ⟨?_, rfl⟩
                            first | rfl | exact lawT rfl | exact lawT (by omega) | (exfalso; omega) | contradiction | (exfalso; simp at *; done)
                          · first
                          | (first | omega | contradiction)
                          | refine S.sk (S.sk (S.o q.pf (S.o q.as (S.end (hK _ ?_)))))
                            clear hK K
                            refine Ev.ret ?_
                            refine Ev.ret1 ?_
                            refine ⟨?_, rfl⟩
                            first | rfl | exact lawT rfl | exact lawT (by omega) | (exfalso; omega) | contradiction | (exfalso; simp at *; done)
                        · first
                        | (first | omega | contradiction)
                        | refine Ev.skip ?_
                          show Ev _ _ _ _
                          have hS : okSched l := ‹_›
                          have e5 : chkV l v = checkP l v := (chk_ok ⟨hS, hB⟩).1
                          have e6 := (chk_ok ⟨hS, hB⟩).2
                          refine Ev.sr fun K hK => S.o q.mv (S.o q.eql (S.bd q.mv (fun c31 => ?_) (fun c31 => ?_)))
                          · first
                          | (first | omega | contradiction)
                          | refine S.o q.mv (S.o q.mv (S.o q.mv (S.c0 (hF := rCheck_fun _ _ (by assumption) (by assumption)) (h := S.c0 (hF := eqFnd_fun _ _ (by omega) (by omega)) (h := S.o q.pt (S.o q.as (S.end (hK _ ?_))))))))
                            clear hK K
                            refine Ev.ret ?_
                            refine Ev.ret1 ?_
                            refine ⟨?_, rfl⟩
                            first | rfl | exact lawT rfl | exact lawT (by omega) | (exfalso; omega) | contradiction | (exfalso; simp at *; done)
                          · first
                          | (first | omega | contradiction)
                          | refine S.sk (S.sk (S.sk (S.sk (S.sk (S.o q.pf (S.o q.as (S.end (hK _ ?_))))))))
                            clear hK K
                            refine Ev.ret ?_
                            refine Ev.ret1 ?_
                            refine ⟨?_, rfl⟩
                            first | rfl | exact lawT rfl | exact lawT (by omega) | (exfalso; omega) | contradiction | (exfalso; simp at *; done)
                  · first
                  | (first | omega | contradiction)
                  | refine S.sk (S.sk (S.sk (S.sk (S.sk (S.sk (S.sk (S.o q.pf (S.o q.pf (S.end (hK _ ?_))))))))))
                    clear hK K
                    refine Ev.cf ?_
                    refine Ev.skip ?_
                    show Ev _ _ _ _
                    refine Ev.seq ?_
                    refine Ev.sr fun K hK => S.o q.mv (S.c0 (hF := rschedValid_fun _ (by omega) (by assumption)) (h := S.o q.not (S.end (hK _ ?_))))
                    clear hK K
                    refine Ev.cn (fun c32 => ?_) (fun c32 => ?_)
                    · first
                    | (first | omega | contradiction)
                    | obtain ⟨e5, e6⟩ := sched_bad v ‹¬ okSched l›
                      refine Ev.sr fun K hK => S.o q.mv (S.o (q.lens am_el35) (S.o q.eql (S.bd q.mv (fun c33 => ?_) (fun c33 => ?_))))
                      · first
                      | (first | omega | contradiction)
                      | refine S.o q.mv (S.o q.eql (S.o q.pt (S.o q.as (S.end (hK _ ?_)))))
                        clear hK K
                        refine Ev.ret ?_
                        refine Ev.ret1 ?_
                        refine ⟨?_, rfl⟩
                        first | rfl | exact lawT rfl | exact lawT (by omega) | (exfalso; omega) | contradiction | (exfalso; simp at *; done)
                      · first
                      | (first | omega | contradiction)
                      | refine S.sk (S.sk (S.o q.pf (S.o q.as (S.end (hK _ ?_)))))
                        clear hK K
                        refine Ev.ret ?_
                        refine Ev.ret1 ?_
                        refine ⟨?_, rfl⟩
                        first | rfl | exact lawT rfl | exact lawT (by omega) | (exfalso; omega) | contradiction | (exfalso; simp at *; done)
                    · first
                    | (first | omega | contradiction)
                    | refine Ev.skip ?_
                      show Ev _ _ _ _
                      have hS : okSched l := ‹_›
                      have e5 : chkV l v = checkP l v := (chk_ok ⟨hS, hB⟩).1
                      have e6 := (chk_ok ⟨hS, hB⟩).2
                      refine Ev.sr fun K hK => S.o q.mv (S.o q.eql (S.bd q.mv (fun c34 => ?_) (fun c34 => ?_)))
                      · first
                      | (first | omega | contradiction)
                      | refine S.o q.mv (S.o q.mv (S.o q.mv (S.c0 (hF := rCheck_fun _ _ (by assumption) (by assumption)) (h := S.c0 (hF := eqFnd_fun _ _ (by omega) (by omega)) (h := S.o q.pt (S.o q.as (S.end (hK _ ?_))))))))
                        clear hK K
                        refine Ev.ret ?_
                        refine Ev.ret1 ?_
                        refine ⟨?_, rfl⟩
                        first | rfl | exact lawT rfl | exact lawT (by omega) | (exfalso; omega) | contradiction | (exfalso; simp at *; done)
                      · first
                      | (first | omega | contradiction)
                      | refine S.sk (S.sk (S.sk (S.sk (S.sk (S.o q.pf (S.o q.as (S.end (hK _ ?_))))))))
                        clear hK K
                        refine Ev.ret ?_
                        refine Ev.ret1 ?_
                        refine ⟨?_, rfl⟩
                        first | rfl | exact lawT rfl | exact lawT (by omega) | (exfalso; omega) | contradiction | (exfalso; simp at *; done)
end Go.Proofs.YtnbjmckhongidaaDoor
