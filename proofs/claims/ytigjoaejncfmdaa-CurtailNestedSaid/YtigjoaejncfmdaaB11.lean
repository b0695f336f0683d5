/-
  The law CurtailNested, walked.
  Conditions: none.
-/
import Derived.Test.YtigjoaejncfmdaaB10
namespace Go.Proofs.Ytigjoaejncfmdaa
open Go Go.AM
set_option linter.unusedSimpArgs false
set_option linter.unusedVariables false
set_option maxRecDepth 100000

theorem nested_law (l : List (Int × Int)) (d k y : Int) (hlen : l.length ≤ 140737488355328) : Fun Try.prog 5 [.sh 2 (l.map stepC), .lit (.int .i64 d), .lit (.int .i64 k), .lit (.int .i64 y)] (Ret (.lit (.bool true)) []) := by
  refine Fun.of (nt := 165) (rs := [.tmp 8]) Try.func5 rfl rfl rfl rfl rfl ?_
  refine Ev.sr fun K hK => S.nn (q.bx [_] true) (S.o q.as (S.end (hK _ ?_)))
  clear hK K
  refine Ev.seq ?_
  refine Ev.sr fun K hK => S.c0 (hF := awake_fun) (h := S.o q.nott (S.end (hK _ ?_)))
  clear hK K
  refine Ev.cf ?_
  refine Ev.skip ?_
  show Ev _ _ _ _
  refine Ev.seq ?_
  refine Ev.sr fun K hK => S.o q.mv (S.c0 (hF := large_fun _ (by omega)) (h := S.bd q.mv (fun c1 => ?_) (fun c1 => ?_)))
  · first
    | (first | omega | contradiction)
    | refine S.sk (S.sk (S.o q.pt (S.o q.mv (S.sk (S.sk (S.o q.pt (S.o q.mv (S.sk (S.sk (S.o q.pt (S.o q.mv (S.sk (S.sk (S.o q.pt (S.o q.mv (S.sk (S.sk (S.o q.pt (S.end (hK _ ?_))))))))))))))))))))
      clear hK K
      refine Ev.ct ?_
      refine Ev.sr fun K hK => S.o q.as (S.end (hK _ ?_))
      clear hK K
      refine Ev.ret ?_
      refine Ev.ret1 ?_
      refine ⟨?_, rfl⟩
      -- leaf 1
      first | rfl | exact lawT (by omega) | (exfalso; omega) | exact lawT (by assumption) | (exfalso; contradiction) | exact congrArg (fun b => AV.lit (.bool b)) m3 | exact congrArg (fun b => AV.lit (.bool b)) m4 | (exfalso; exact absurd (m3.symm.trans ‹_ = false›) (by decide)) | (exfalso; exact absurd (m4.symm.trans ‹_ = false›) (by decide)) | (exfalso; have := r2 (by omega); omega)
  · first
    | (first | omega | contradiction)
    | refine S.o q.mv (S.c0 (hF := high_fun _ (by omega)) (h := S.o q.pf (S.bd q.mv (fun c2 => ?_) (fun c2 => ?_))))
      · first
        | (first | omega | contradiction)
        | refine S.sk (S.sk (S.o q.pt (S.o q.mv (S.sk (S.sk (S.o q.pt (S.o q.mv (S.sk (S.sk (S.o q.pt (S.o q.mv (S.sk (S.sk (S.o q.pt (S.end (hK _ ?_))))))))))))))))
          clear hK K
          refine Ev.ct ?_
          refine Ev.sr fun K hK => S.o q.as (S.end (hK _ ?_))
          clear hK K
          refine Ev.ret ?_
          refine Ev.ret1 ?_
          refine ⟨?_, rfl⟩
          -- leaf 2
          first | rfl | exact lawT (by omega) | (exfalso; omega) | exact lawT (by assumption) | (exfalso; contradiction) | exact congrArg (fun b => AV.lit (.bool b)) m3 | exact congrArg (fun b => AV.lit (.bool b)) m4 | (exfalso; exact absurd (m3.symm.trans ‹_ = false›) (by decide)) | (exfalso; exact absurd (m4.symm.trans ‹_ = false›) (by decide)) | (exfalso; have := r2 (by omega); omega)
      · first
        | (first | omega | contradiction)
        | refine S.o q.mv (S.o q.lss (S.o q.pf (S.bd q.mv (fun c3 => ?_) (fun c3 => ?_))))
          · first
            | (first | omega | contradiction)
            | refine S.sk (S.sk (S.o q.pt (S.o q.mv (S.sk (S.sk (S.o q.pt (S.o q.mv (S.sk (S.sk (S.o q.pt (S.end (hK _ ?_))))))))))))
              clear hK K
              refine Ev.ct ?_
              refine Ev.sr fun K hK => S.o q.as (S.end (hK _ ?_))
              clear hK K
              refine Ev.ret ?_
              refine Ev.ret1 ?_
              refine ⟨?_, rfl⟩
              -- leaf 3
              first | rfl | exact lawT (by omega) | (exfalso; omega) | exact lawT (by assumption) | (exfalso; contradiction) | exact congrArg (fun b => AV.lit (.bool b)) m3 | exact congrArg (fun b => AV.lit (.bool b)) m4 | (exfalso; exact absurd (m3.symm.trans ‹_ = false›) (by decide)) | (exfalso; exact absurd (m4.symm.trans ‹_ = false›) (by decide)) | (exfalso; have := r2 (by omega); omega)
          · first
            | (first | omega | contradiction)
            | refine S.o q.mv (S.o q.geq (S.o q.pf (S.bd q.mv (fun c4 => ?_) (fun c4 => ?_))))
              · first
                | (first | omega | contradiction)
                | refine S.sk (S.sk (S.o q.pt (S.o q.mv (S.sk (S.sk (S.o q.pt (S.end (hK _ ?_))))))))
                  clear hK K
                  refine Ev.ct ?_
                  refine Ev.sr fun K hK => S.o q.as (S.end (hK _ ?_))
                  clear hK K
                  refine Ev.ret ?_
                  refine Ev.ret1 ?_
                  refine ⟨?_, rfl⟩
                  -- leaf 4
                  first | rfl | exact lawT (by omega) | (exfalso; omega) | exact lawT (by assumption) | (exfalso; contradiction) | exact congrArg (fun b => AV.lit (.bool b)) m3 | exact congrArg (fun b => AV.lit (.bool b)) m4 | (exfalso; exact absurd (m3.symm.trans ‹_ = false›) (by decide)) | (exfalso; exact absurd (m4.symm.trans ‹_ = false›) (by decide)) | (exfalso; have := r2 (by omega); omega)
              · first
                | (first | omega | contradiction)
                | refine S.o (q.lv am_ag3) (S.o q.lss (S.o q.pf (S.bd q.mv (fun c5 => ?_) (fun c5 => ?_))))
                  · first
                    | (first | omega | contradiction)
                    | refine S.sk (S.sk (S.o q.pt (S.end (hK _ ?_))))
                      clear hK K
                      refine Ev.ct ?_
                      refine Ev.sr fun K hK => S.o q.as (S.end (hK _ ?_))
                      clear hK K
                      refine Ev.ret ?_
                      refine Ev.ret1 ?_
                      refine ⟨?_, rfl⟩
                      -- leaf 5
                      first | rfl | exact lawT (by omega) | (exfalso; omega) | exact lawT (by assumption) | (exfalso; contradiction) | exact congrArg (fun b => AV.lit (.bool b)) m3 | exact congrArg (fun b => AV.lit (.bool b)) m4 | (exfalso; exact absurd (m3.symm.trans ‹_ = false›) (by decide)) | (exfalso; exact absurd (m4.symm.trans ‹_ = false›) (by decide)) | (exfalso; have := r2 (by omega); omega)
                  · first
                    | (first | omega | contradiction)
                    | refine S.o (q.lv am_ag3) (S.o q.gtr (S.o q.pf (S.end (hK _ ?_))))
                      clear hK K
                      refine Ev.cd (fun c6 => ?_) (fun c6 => ?_)
                      · first
                        | (first | omega | contradiction)
                        | refine Ev.sr fun K hK => S.o q.as (S.end (hK _ ?_))
                          clear hK K
                          refine Ev.ret ?_
                          refine Ev.ret1 ?_
                          refine ⟨?_, rfl⟩
                          -- leaf 6
                          first | rfl | exact lawT (by omega) | (exfalso; omega) | exact lawT (by assumption) | (exfalso; contradiction) | exact congrArg (fun b => AV.lit (.bool b)) m3 | exact congrArg (fun b => AV.lit (.bool b)) m4 | (exfalso; exact absurd (m3.symm.trans ‹_ = false›) (by decide)) | (exfalso; exact absurd (m4.symm.trans ‹_ = false›) (by decide)) | (exfalso; have := r2 (by omega); omega)
                      · first
                        | (first | omega | contradiction)
                        | refine Ev.skip ?_
                          show Ev _ _ _ _
                          refine Ev.sr fun K hK => S.o q.mv (S.o q.mv (S.o q.mv (S.c0 (hF := Level_fun _ _ _) (h := S.o q.mv (S.o q.ex (S.o q.ex (S.o q.as (S.o q.as (S.end (hK _ ?_))))))))))
                          clear hK K
                          refine Ev.sr fun K hK => S.o q.mv (S.o q.mv (S.o q.mv (S.o q.add (S.c0 (hF := Level_fun _ _ _) (h := S.o q.mv (S.o q.ex (S.o q.ex (S.o q.as (S.o q.as (S.end (hK _ ?_)))))))))))
                          clear hK K
                          refine Ev.sr fun K hK => S.o q.mv (S.o q.mv (S.c0 (hF := Least_fun _ _) (h := S.o q.mv (S.o q.ex (S.o q.ex (S.o q.as (S.o q.as (S.end (hK _ ?_)))))))))
                          clear hK K
                          refine Ev.seq ?_
                          refine Ev.sr fun K hK => S.o q.mv (S.o q.neq (S.bn q.mv (fun c7 => ?_) (fun c7 => ?_)))
                          · first
                            | (first | omega | contradiction)
                            | refine S.sk (S.sk (S.o q.pt (S.o q.mv (S.sk (S.sk (S.o q.pt (S.end (hK _ ?_))))))))
                              clear hK K
                              refine Ev.ct ?_
                              have e1 := nested_e (l := l) (d := d) (fun hg => by have := nested_o (d := d) hg (k := k) (by omega) (by omega); have := nested_o (d := d) hg (k := k + 1) (by omega) (by omega); omega)
                              have e2 := e1 k
                              have e3 := e1 (k + 1)
                              refine Ev.sr fun K hK => S.o q.mv (S.o q.mv (S.o q.eql (S.bd q.mv (fun c8 => ?_) (fun c8 => ?_))))
                              · first
                                | (first | omega | contradiction)
                                | refine S.o q.mv (S.o q.mv (S.o q.eql (S.o q.pt (S.o q.as (S.end (hK _ ?_))))))
                                  clear hK K
                                  refine Ev.ret ?_
                                  refine Ev.ret1 ?_
                                  refine ⟨?_, rfl⟩
                                  -- leaf 7
                                  first | rfl | exact lawT (by omega) | (exfalso; omega) | exact lawT (by assumption) | (exfalso; contradiction) | exact congrArg (fun b => AV.lit (.bool b)) m3 | exact congrArg (fun b => AV.lit (.bool b)) m4 | (exfalso; exact absurd (m3.symm.trans ‹_ = false›) (by decide)) | (exfalso; exact absurd (m4.symm.trans ‹_ = false›) (by decide)) | (exfalso; have := r2 (by omega); omega)
                              · first
                                | (first | omega | contradiction)
                                | refine S.sk (S.sk (S.sk (S.o q.pf (S.o q.as (S.end (hK _ ?_))))))
                                  clear hK K
                                  refine Ev.ret ?_
                                  refine Ev.ret1 ?_
                                  refine ⟨?_, rfl⟩
                                  -- leaf 8
                                  first | rfl | exact lawT (by omega) | (exfalso; omega) | exact lawT (by assumption) | (exfalso; contradiction) | exact congrArg (fun b => AV.lit (.bool b)) m3 | exact congrArg (fun b => AV.lit (.bool b)) m4 | (exfalso; exact absurd (m3.symm.trans ‹_ = false›) (by decide)) | (exfalso; exact absurd (m4.symm.trans ‹_ = false›) (by decide)) | (exfalso; have := r2 (by omega); omega)
                          · first
                            | (first | omega | contradiction)
                            | refine S.o q.mv (S.o q.neq (S.o q.pf (S.bn q.mv (fun c9 => ?_) (fun c9 => ?_))))
                              · first
                                | (first | omega | contradiction)
                                | refine S.sk (S.sk (S.o q.pt (S.end (hK _ ?_))))
                                  clear hK K
                                  refine Ev.ct ?_
                                  have e1 := nested_e (l := l) (d := d) (fun hg => by have := nested_o (d := d) hg (k := k) (by omega) (by omega); have := nested_o (d := d) hg (k := k + 1) (by omega) (by omega); omega)
                                  have e2 := e1 k
                                  have e3 := e1 (k + 1)
                                  refine Ev.sr fun K hK => S.o q.mv (S.o q.mv (S.o q.eql (S.bd q.mv (fun c10 => ?_) (fun c10 => ?_))))
                                  · first
                                    | (first | omega | contradiction)
                                    | refine S.o q.mv (S.o q.mv (S.o q.eql (S.o q.pt (S.o q.as (S.end (hK _ ?_))))))
                                      clear hK K
                                      refine Ev.ret ?_
                                      refine Ev.ret1 ?_
                                      refine ⟨?_, rfl⟩
                                      -- leaf 9
                                      first | rfl | exact lawT (by omega) | (exfalso; omega) | exact lawT (by assumption) | (exfalso; contradiction) | exact congrArg (fun b => AV.lit (.bool b)) m3 | exact congrArg (fun b => AV.lit (.bool b)) m4 | (exfalso; exact absurd (m3.symm.trans ‹_ = false›) (by decide)) | (exfalso; exact absurd (m4.symm.trans ‹_ = false›) (by decide)) | (exfalso; have := r2 (by omega); omega)
                                  · first
                                    | (first | omega | contradiction)
                                    | refine S.sk (S.sk (S.sk (S.o q.pf (S.o q.as (S.end (hK _ ?_))))))
                                      clear hK K
                                      refine Ev.ret ?_
                                      refine Ev.ret1 ?_
                                      refine ⟨?_, rfl⟩
                                      -- leaf 10
                                      first | rfl | exact lawT (by omega) | (exfalso; omega) | exact lawT (by assumption) | (exfalso; contradiction) | exact congrArg (fun b => AV.lit (.bool b)) m3 | exact congrArg (fun b => AV.lit (.bool b)) m4 | (exfalso; exact absurd (m3.symm.trans ‹_ = false›) (by decide)) | (exfalso; exact absurd (m4.symm.trans ‹_ = false›) (by decide)) | (exfalso; have := r2 (by omega); omega)
                              · first
                                | (first | omega | contradiction)
                                | refine S.o q.mv (S.o q.neq (S.o q.pf (S.end (hK _ ?_))))
                                  clear hK K
                                  refine Ev.cn (fun c11 => ?_) (fun c11 => ?_)
                                  · first
                                    | (first | omega | contradiction)
                                    | have e1 := nested_e (l := l) (d := d) (fun hg => by have := nested_o (d := d) hg (k := k) (by omega) (by omega); have := nested_o (d := d) hg (k := k + 1) (by omega) (by omega); omega)
                                      have e2 := e1 k
                                      have e3 := e1 (k + 1)
                                      refine Ev.sr fun K hK => S.o q.mv (S.o q.mv (S.o q.eql (S.bd q.mv (fun c12 => ?_) (fun c12 => ?_))))
                                      · first
                                        | (first | omega | contradiction)
                                        | refine S.o q.mv (S.o q.mv (S.o q.eql (S.o q.pt (S.o q.as (S.end (hK _ ?_))))))
                                          clear hK K
                                          refine Ev.ret ?_
                                          refine Ev.ret1 ?_
                                          refine ⟨?_, rfl⟩
                                          -- leaf 11
                                          first | rfl | exact lawT (by omega) | (exfalso; omega) | exact lawT (by assumption) | (exfalso; contradiction) | exact congrArg (fun b => AV.lit (.bool b)) m3 | exact congrArg (fun b => AV.lit (.bool b)) m4 | (exfalso; exact absurd (m3.symm.trans ‹_ = false›) (by decide)) | (exfalso; exact absurd (m4.symm.trans ‹_ = false›) (by decide)) | (exfalso; have := r2 (by omega); omega)
                                      · first
                                        | (first | omega | contradiction)
                                        | refine S.sk (S.sk (S.sk (S.o q.pf (S.o q.as (S.end (hK _ ?_))))))
                                          clear hK K
                                          refine Ev.ret ?_
                                          refine Ev.ret1 ?_
                                          refine ⟨?_, rfl⟩
                                          -- leaf 12
                                          first | rfl | exact lawT (by omega) | (exfalso; omega) | exact lawT (by assumption) | (exfalso; contradiction) | exact congrArg (fun b => AV.lit (.bool b)) m3 | exact congrArg (fun b => AV.lit (.bool b)) m4 | (exfalso; exact absurd (m3.symm.trans ‹_ = false›) (by decide)) | (exfalso; exact absurd (m4.symm.trans ‹_ = false›) (by decide)) | (exfalso; have := r2 (by omega); omega)
                                  · first
                                    | (first | omega | contradiction)
                                    | refine Ev.skip ?_
                                      show Ev _ _ _ _
                                      refine Ev.seq ?_
                                      have hg : givenE l d 0 = 0 := by omega
                                      obtain ⟨hs1, hs2, hlast, hz, hz1, hz2, hb1, hb2⟩ := givenZ hg
                                      obtain ⟨o1, o2⟩ := nested_o hg (k := k) (by omega) (by omega)
                                      obtain ⟨o3, o4⟩ := nested_o hg (k := k + 1) (by omega) (by omega)
                                      rw [show k + 1 - 1 = k by omega] at o4
                                      obtain ⟨n1, n2, n3, n4⟩ := nested_t (k := k) (y := y) hs1 hs2 hlast hb1 (by omega)
                                      obtain ⟨p1, _⟩ := spans_bd hs1 hs2 ((k - 1) * areaOf d)
                                      obtain ⟨p2, _⟩ := spans_bd hs1 hs2 (k * areaOf d)
                                      obtain ⟨q1, q2⟩ := mul_bd (show 0 ≤ k - 1 by omega) (show k - 1 ≤ 1000 by omega) (show 0 ≤ areaOf d by omega) hb2
                                      have q3 : areaN d = areaOf d ∧ errN d = 0 := ⟨if_pos hz, if_pos hz⟩
                                      have q4 : atV l y = atF 0 l y ∧ atE l = 0 := ⟨if_pos ⟨hs1, hs2⟩, if_pos ⟨hs1, hs2⟩⟩
                                      have q5 : leastV l d = leastN l d := if_pos hg
                                      rw [← o2] at n1 n2 n3 n4 p1
                                      rw [← o4] at n2 p2
                                      have m3 : (decide (∃ x ∈ levelV l d k, (decide (x.1 ≤ y) && decide (y < x.2)) = true) == decide ((k - 1) * areaOf d < atF 0 l y)) = true := beq_iff_eq.2 (decide_eq_decide.2 n3)
                                      have m4 : (decide ((0 : Int) < ((levelV l d k).length : Int)) == decide (k ≤ leastN l d)) = true := beq_iff_eq.2 (decide_eq_decide.2 (Int.natCast_pos.trans n4))
                                      refine Ev.sr fun K hK => S.o q.mv (S.o (q.lens am_el25) (S.o q.mv (S.end (hK _ ?_))))
                                      clear hK K
                                      refine Ev.block ?_
                                      refine Ev.loopU (ι := {p : List (Int × Int) × List (Int × Int) // p.1 ++ p.2 = levelV l d k}) [0] [0, 1, 2, 7, 9, 11, 13, 87, 88] (fun ⟨(pre, suf), _⟩ => [(89, .lit (.int .i64 ((pre.length : Int))))]) (fun ⟨(pre, suf), _⟩ => [(0, ⟨false, 3, 1, [[.lit (.int .i64 (y))]], true⟩)]) (fun ⟨(pre, suf), _⟩ => suf.length) ⟨([], levelV l d k), rfl⟩ (.c (.c (.c (.c (.c (.c (.c (.c (.c .n))))))))) (keep_c (he := (by first | rfl | (simp; done))) (h := keep_n)) (slots_c (he := (by first | rfl | (simp; done) | (congr 2; omega))) (h := trivial)) ?_
                                      rintro ⟨⟨pre, suf⟩, hp⟩ R0 hR0
                                      dsimp only [List.cons_append, List.nil_append, List.length_cons, List.length_nil]
                                      simp only at hp
                                      have hpl : pre.length + suf.length = (levelV l d k).length := by rw [← hp, List.length_append]
                                      rcases suf with _ | ⟨s, suf⟩
                                      · simp only [List.length_nil] at hpl
                                        refine Ev.sr fun K hK => S.o q.lss (S.end (hK _ ?_))
                                        clear hK K
                                        refine Ev.ud (fun c13 => ?_) (fun c13 => ?_)
                                        · first
                                          | (first | omega | contradiction)
                                          | refine Ev.seq ?_
                                            refine Ev.block ?_
                                            refine Ev.sr fun K hK => S.o q.mv (S.o (q.ix am_el25 am_cl36 (hl := (by first | exact atig (by omega)))) (S.o (q.lsA [_, _] am_ag36 am_cl36) (S.nn (q.al am_ze36) (S.o q.as (S.sv [_, _] true [_] am_in36 am_cl36 (h := S.end (hK _ ?_)))))))
                                            clear hK K
                                            refine Ev.sm (tbs [(0, 0), (1, 1), (0, 0), (3, 4), (4, 15), (5, 31), (6, 63), (7, 127), (8, 255), (9, 511), (10, 1023), (9, 511), (9, 511), (13, 4607), (14, 14847), (15, 31231), (16, 63999), (17, 131071), (18, 262143), (19, 524287)]) 20 fun K hK => M.o (q.fa 0 am_fi36_0 am_cl3) (M.o (q.lv am_ag3) (M.o (q.fa 1 am_fi36_1 am_cl3) (M.o (q.lv am_ag3) (M.o q.geq (M.bd q.mv (fun c14 => ?_) (fun c14 => ?_))))))
                                            · first
                                              | (first | omega | contradiction)
                                              | refine M.sk (M.sk (M.sk (M.sk (M.sk (M.sk (M.sk (M.sk (M.sk (M.sk (M.sk (M.sk (M.sk (M.o q.pt (M.end [_, _] (h := S.end (hK _ ?_))))))))))))))))
                                                clear hK K
                                                refine Ev.ct ?_
                                                refine Ev.sr fun K hK => S.o q.as (S.end (hK _ ?_))
                                                clear hK K
                                                refine Ev.ret ?_
                                                refine hR0 _ _ ?_
                                                refine Ev.ret1 ?_
                                                refine ⟨?_, rfl⟩
                                                -- leaf 13
                                                first | rfl | exact lawT (by omega) | (exfalso; omega) | exact lawT (by assumption) | (exfalso; contradiction) | exact congrArg (fun b => AV.lit (.bool b)) m3 | exact congrArg (fun b => AV.lit (.bool b)) m4 | (exfalso; exact absurd (m3.symm.trans ‹_ = false›) (by decide)) | (exfalso; exact absurd (m4.symm.trans ‹_ = false›) (by decide)) | (exfalso; have := r2 (by omega); omega)
                                            · first
                                              | (first | omega | contradiction)
                                              | refine M.o q.mv (M.o q.gtr (M.bd q.mv (fun c15 => ?_) (fun c15 => ?_)))
                                                · first
                                                  | (first | omega | contradiction)
                                                  | refine M.o (q.fa 0 am_fi36_0 am_cl3) (M.o (q.lv am_ag3) (M.o q.mv (M.o q.mv (M.o q.sub (M.o (q.ix am_el25 am_cl36 (hl := (by first | exact atig (by omega)))) (M.o (q.fs 1 am_fi36_1 am_cl3) (M.o (q.ls am_ag3) (M.o q.leq (M.o q.pt (M.o q.pf (M.end [_, _] (h := S.end (hK _ ?_)))))))))))))
                                                    clear hK K
                                                    refine Ev.cd (fun c16 => ?_) (fun c16 => ?_)
                                                    · first
                                                      | (first | omega | contradiction)
                                                      | refine Ev.sr fun K hK => S.o q.as (S.end (hK _ ?_))
                                                        clear hK K
                                                        refine Ev.ret ?_
                                                        refine hR0 _ _ ?_
                                                        refine Ev.ret1 ?_
                                                        refine ⟨?_, rfl⟩
                                                        -- leaf 14
                                                        first | rfl | exact lawT (by omega) | (exfalso; omega) | exact lawT (by assumption) | (exfalso; contradiction) | exact congrArg (fun b => AV.lit (.bool b)) m3 | exact congrArg (fun b => AV.lit (.bool b)) m4 | (exfalso; exact absurd (m3.symm.trans ‹_ = false›) (by decide)) | (exfalso; exact absurd (m4.symm.trans ‹_ = false›) (by decide)) | (exfalso; have := r2 (by omega); omega)
                                                    · first
                                                      | (first | omega | contradiction)
                                                      | refine Ev.skip ?_
                                                        show Ev _ _ _ _
                                                        refine Ev.region_S fun K hK => S.o q.add (S.o q.mv (S.end (hK _ ?_)))
                                                        clear hK K
                                                        -- back 15
                                                        refine hR0 _ _ ?_
                                                        refine roundU [0] [0, 1, 2, 7, 9, 11, 13, 87, 88] ⟨(pre ++ [s], suf), by rw [← hp]; simp⟩ ?_ (keep_c (he := (by first | rfl | (simp; done))) (h := keep_n)) (slots_c (he := (by first | rfl | (simp; done) | (congr 2; omega))) (h := trivial)) (.c (.c (.c (.c (.c (.c (.c (.c (.c .n)))))))))
                                                        skip
                                                        all_goals (dsimp only; simp only [List.length_cons]; omega)
                                                · first
                                                  | (first | omega | contradiction)
                                                  | refine M.sk (M.sk (M.sk (M.sk (M.sk (M.sk (M.sk (M.sk (M.sk (M.o q.pf (M.o q.pf (M.end [_, _] (h := S.end (hK _ ?_)))))))))))))
                                                    clear hK K
                                                    refine Ev.cf ?_
                                                    refine Ev.skip ?_
                                                    show Ev _ _ _ _
                                                    refine Ev.region_S fun K hK => S.o q.add (S.o q.mv (S.end (hK _ ?_)))
                                                    clear hK K
                                                    -- back 16
                                                    refine hR0 _ _ ?_
                                                    refine roundU [0] [0, 1, 2, 7, 9, 11, 13, 87, 88] ⟨(pre ++ [s], suf), by rw [← hp]; simp⟩ ?_ (keep_c (he := (by first | rfl | (simp; done))) (h := keep_n)) (slots_c (he := (by first | rfl | (simp; done) | (congr 2; omega))) (h := trivial)) (.c (.c (.c (.c (.c (.c (.c (.c (.c .n)))))))))
                                                    skip
                                                    all_goals (dsimp only; simp only [List.length_cons]; omega)
                                        · first
                                          | (first | omega | contradiction)
                                          | refine Ev.exit ?_
                                            refine hR0 _ _ ?_
                                            show Ev _ _ _ _
                                            refine Ev.seq ?_
                                            refine Ev.sr fun K hK => S.o q.mv (S.o (q.lens am_el25) (S.o q.mv (S.end (hK _ ?_))))
                                            clear hK K
                                            refine Ev.block ?_
                                            refine Ev.loopU (ι := {p : List (Int × Int) × List (Int × Int) // p.1 ++ p.2 = levelV l d (k + 1)}) [0] [0, 1, 2, 7, 9, 11, 13, 87, 88, 89, 90, 115, 116] (fun ⟨(pre, suf), _⟩ => [(117, .lit (.int .i64 ((pre.length : Int))))]) (fun ⟨(pre, suf), _⟩ => [(0, ⟨false, 3, 1, [[.lit (.int .i64 (y))]], true⟩)]) (fun ⟨(pre, suf), _⟩ => suf.length) ⟨([], levelV l d (k + 1)), rfl⟩ (.c (.c (.c (.c (.c (.c (.c (.c (.c (.c (.c (.c (.c .n))))))))))))) (keep_c (he := (by first | rfl | (simp; done))) (h := keep_n)) (slots_c (he := (by first | rfl | (simp; done) | (congr 2; omega))) (h := trivial)) ?_
                                            rintro ⟨⟨pre, suf⟩, hp⟩ R2 hR2
                                            dsimp only [List.cons_append, List.nil_append, List.length_cons, List.length_nil]
                                            simp only at hp
                                            have hpl : pre.length + suf.length = (levelV l d (k + 1)).length := by rw [← hp, List.length_append]
                                            rcases suf with _ | ⟨s, suf⟩
                                            · simp only [List.length_nil] at hpl
                                              refine Ev.sr fun K hK => S.o q.lss (S.end (hK _ ?_))
                                              clear hK K
                                              refine Ev.ud (fun c17 => ?_) (fun c17 => ?_)
                                              · first
                                                | (first | omega | contradiction)
                                                | refine Ev.seq ?_
                                                  refine Ev.block ?_
                                                  refine Ev.sr fun K hK => S.o (q.ix am_el25 am_cl36 (hl := (by first | exact atig (by omega)))) (S.o (q.lsA [_, _] am_ag36 am_cl36) (S.nn (q.al am_ze36) (S.sv [_, _] true [_] am_in36 am_cl36 (h := S.end (hK _ ?_)))))
                                                  clear hK K
                                                  refine Ev.sr fun K hK => S.o q.mv (S.o q.mf (S.c0 (hF := containsFuncSpan1 _ _ _ (inner_fun _) _ (by omega)) (h := S.o q.not (S.end (hK _ ?_)))))
                                                  clear hK K
                                                  refine Ev.cn (fun c18 => ?_) (fun c18 => ?_)
                                                  · first
                                                    | (first | omega | contradiction)
                                                    | refine Ev.sr fun K hK => S.o q.as (S.end (hK _ ?_))
                                                      clear hK K
                                                      refine Ev.ret ?_
                                                      refine hR2 _ _ ?_
                                                      refine Ev.ret1 ?_
                                                      refine ⟨?_, rfl⟩
                                                      -- leaf 17
                                                      first | rfl | exact lawT (by omega) | (exfalso; omega) | exact lawT (by assumption) | (exfalso; contradiction) | exact congrArg (fun b => AV.lit (.bool b)) m3 | exact congrArg (fun b => AV.lit (.bool b)) m4 | (exfalso; exact absurd (m3.symm.trans ‹_ = false›) (by decide)) | (exfalso; exact absurd (m4.symm.trans ‹_ = false›) (by decide)) | (exfalso; have := r2 (by omega); omega)
                                                  · first
                                                    | (first | omega | contradiction)
                                                    | refine Ev.skip ?_
                                                      show Ev _ _ _ _
                                                      refine Ev.region_S fun K hK => S.o q.add (S.o q.mv (S.end (hK _ ?_)))
                                                      clear hK K
                                                      -- back 18
                                                      refine hR2 _ _ ?_
                                                      refine roundU [0] [0, 1, 2, 7, 9, 11, 13, 87, 88, 89, 90, 115, 116] ⟨(pre ++ [s], suf), by rw [← hp]; simp⟩ ?_ (keep_c (he := (by first | rfl | (simp; done))) (h := keep_n)) (slots_c (he := (by first | rfl | (simp; done) | (congr 2; omega))) (h := trivial)) (.c (.c (.c (.c (.c (.c (.c (.c (.c (.c (.c (.c (.c .n)))))))))))))
                                                      skip
                                                      all_goals (dsimp only; simp only [List.length_cons]; omega)
                                              · first
                                                | (first | omega | contradiction)
                                                | refine Ev.exit ?_
                                                  refine hR2 _ _ ?_
                                                  show Ev _ _ _ _
                                                  refine Ev.sr fun K hK => S.o q.mv (S.o (q.lv am_ag3) (S.c0 (hF := At_fun _ _) (h := S.o q.mv (S.o q.ex (S.o q.ex (S.o q.as (S.o q.as (S.end (hK _ ?_)))))))))
                                                  clear hK K
                                                  refine Ev.sr fun K hK => S.o q.mv (S.c0 (hF := Area_fun _) (h := S.o q.mv (S.o q.ex (S.o q.ex (S.o q.as (S.o q.as (S.end (hK _ ?_))))))))
                                                  clear hK K
                                                  refine Ev.sr fun K hK => S.o q.mv (S.o q.mf (S.c0 (hF := containsFuncSpan1 _ _ _ (holds_fun _) _ (by omega)) (h := S.o q.as (S.end (hK _ ?_)))))
                                                  clear hK K
                                                  rw [q3.1, q3.2, q4.1, q4.2, q5]
                                                  refine Ev.sr fun K hK => S.o q.mv (S.o q.eql (S.bd q.mv (fun c19 => ?_) (fun c19 => ?_)))
                                                  · first
                                                    | (first | omega | contradiction)
                                                    | refine S.o q.mv (S.o q.eql (S.o q.pt (S.bd q.mv (fun c20 => ?_) (fun c20 => ?_))))
                                                      · first
                                                        | (first | omega | contradiction)
                                                        | refine S.o q.mv (S.o q.mv (S.o q.mv (S.o q.sub (S.o q.mv (S.o q.mul (S.o q.gtr (S.o (q.beql am_un4) (S.o q.pt (S.bb q.mv (fun c21 => ?_) (fun c21 => ?_))))))))))
                                                          · first
                                                            | (first | omega | contradiction)
                                                            | refine S.o q.mv (S.o (q.lens am_el25) (S.o q.gtr (S.o q.mv (S.o q.mv (S.o q.leq (S.o (q.beql am_un4) (S.o q.pt (S.o q.as (S.end (hK _ ?_))))))))))
                                                              clear hK K
                                                              refine Ev.ret ?_
                                                              refine Ev.ret1 ?_
                                                              refine ⟨?_, rfl⟩
                                                              -- leaf 19
                                                              first | rfl | exact lawT (by omega) | (exfalso; omega) | exact lawT (by assumption) | (exfalso; contradiction) | exact congrArg (fun b => AV.lit (.bool b)) m3 | exact congrArg (fun b => AV.lit (.bool b)) m4 | (exfalso; exact absurd (m3.symm.trans ‹_ = false›) (by decide)) | (exfalso; exact absurd (m4.symm.trans ‹_ = false›) (by decide)) | (exfalso; have := r2 (by omega); omega)
                                                          · first
                                                            | (first | omega | contradiction)
                                                            | refine S.sk (S.sk (S.sk (S.sk (S.sk (S.sk (S.sk (S.o q.pf (S.o q.as (S.end (hK _ ?_))))))))))
                                                              clear hK K
                                                              refine Ev.ret ?_
                                                              refine Ev.ret1 ?_
                                                              refine ⟨?_, rfl⟩
                                                              -- leaf 20
                                                              first | rfl | exact lawT (by omega) | (exfalso; omega) | exact lawT (by assumption) | (exfalso; contradiction) | exact congrArg (fun b => AV.lit (.bool b)) m3 | exact congrArg (fun b => AV.lit (.bool b)) m4 | (exfalso; exact absurd (m3.symm.trans ‹_ = false›) (by decide)) | (exfalso; exact absurd (m4.symm.trans ‹_ = false›) (by decide)) | (exfalso; have := r2 (by omega); omega)
                                                      · first
                                                        | (first | omega | contradiction)
                                                        | refine S.sk (S.sk (S.sk (S.sk (S.sk (S.sk (S.sk (S.sk (S.o q.pf (S.o q.mv (S.sk (S.sk (S.sk (S.sk (S.sk (S.sk (S.sk (S.o q.pf (S.o q.as (S.end (hK _ ?_))))))))))))))))))))
                                                          clear hK K
                                                          refine Ev.ret ?_
                                                          refine Ev.ret1 ?_
                                                          refine ⟨?_, rfl⟩
                                                          -- leaf 21
                                                          first | rfl | exact lawT (by omega) | (exfalso; omega) | exact lawT (by assumption) | (exfalso; contradiction) | exact congrArg (fun b => AV.lit (.bool b)) m3 | exact congrArg (fun b => AV.lit (.bool b)) m4 | (exfalso; exact absurd (m3.symm.trans ‹_ = false›) (by decide)) | (exfalso; exact absurd (m4.symm.trans ‹_ = false›) (by decide)) | (exfalso; have := r2 (by omega); omega)
                                                  · first
                                                    | (first | omega | contradiction)
                                                    | refine S.sk (S.sk (S.o q.pf (S.o q.mv (S.sk (S.sk (S.sk (S.sk (S.sk (S.sk (S.sk (S.sk (S.o q.pf (S.o q.mv (S.sk (S.sk (S.sk (S.sk (S.sk (S.sk (S.sk (S.o q.pf (S.o q.as (S.end (hK _ ?_))))))))))))))))))))))))
                                                      clear hK K
                                                      refine Ev.ret ?_
                                                      refine Ev.ret1 ?_
                                                      refine ⟨?_, rfl⟩
                                                      -- leaf 22
                                                      first | rfl | exact lawT (by omega) | (exfalso; omega) | exact lawT (by assumption) | (exfalso; contradiction) | exact congrArg (fun b => AV.lit (.bool b)) m3 | exact congrArg (fun b => AV.lit (.bool b)) m4 | (exfalso; exact absurd (m3.symm.trans ‹_ = false›) (by decide)) | (exfalso; exact absurd (m4.symm.trans ‹_ = false›) (by decide)) | (exfalso; have := r2 (by omega); omega)
                                            · simp only [List.length_cons] at hpl
                                              have hidx : (levelV l d (k + 1))[pre.length]? = some s := by rw [← hp]; simp
                                              have r1 := n2 s (by rw [← hp]; simp)
                                              refine Ev.sr fun K hK => S.o q.lss (S.end (hK _ ?_))
                                              clear hK K
                                              refine Ev.ud (fun c22 => ?_) (fun c22 => ?_)
                                              · first
                                                | (first | omega | contradiction)
                                                | refine Ev.seq ?_
                                                  refine Ev.block ?_
                                                  refine Ev.sr fun K hK => S.o (q.ix am_el25 am_cl36 (hl := (by first | exact ati hidx (by omega) | exact atig (by omega)))) (S.o (q.lsA [_, _] am_ag36 am_cl36) (S.nn (q.al am_ze36) (S.sv [_, _] true [_] am_in36 am_cl36 (h := S.end (hK _ ?_)))))
                                                  clear hK K
                                                  refine Ev.sr fun K hK => S.o q.mv (S.o q.mf (S.c0 (hF := containsFuncSpan1 _ _ _ (inner_fun _) _ (by omega)) (h := S.o q.not (S.end (hK _ ?_)))))
                                                  clear hK K
                                                  refine Ev.cn (fun c23 => ?_) (fun c23 => ?_)
                                                  · first
                                                    | (first | omega | contradiction)
                                                    | refine Ev.sr fun K hK => S.o q.as (S.end (hK _ ?_))
                                                      clear hK K
                                                      refine Ev.ret ?_
                                                      refine hR2 _ _ ?_
                                                      refine Ev.ret1 ?_
                                                      refine ⟨?_, rfl⟩
                                                      -- leaf 23
                                                      first | rfl | exact lawT (by omega) | (exfalso; omega) | exact lawT (by assumption) | (exfalso; contradiction) | exact congrArg (fun b => AV.lit (.bool b)) m3 | exact congrArg (fun b => AV.lit (.bool b)) m4 | (exfalso; exact absurd (m3.symm.trans ‹_ = false›) (by decide)) | (exfalso; exact absurd (m4.symm.trans ‹_ = false›) (by decide)) | (exfalso; have := r2 (by omega); omega)
                                                  · first
                                                    | (first | omega | contradiction)
                                                    | refine Ev.skip ?_
                                                      show Ev _ _ _ _
                                                      refine Ev.region_S fun K hK => S.o q.add (S.o q.mv (S.end (hK _ ?_)))
                                                      clear hK K
                                                      -- back 24
                                                      refine hR2 _ _ ?_
                                                      refine roundU [0] [0, 1, 2, 7, 9, 11, 13, 87, 88, 89, 90, 115, 116] ⟨(pre ++ [s], suf), by rw [← hp]; simp⟩ ?_ (keep_c (he := (by first | rfl | (simp; done))) (h := keep_n)) (slots_c (he := (by first | rfl | (simp; done) | (congr 2; omega))) (h := trivial)) (.c (.c (.c (.c (.c (.c (.c (.c (.c (.c (.c (.c (.c .n)))))))))))))
                                                      skip
                                                      all_goals (dsimp only; simp only [List.length_cons]; omega)
                                              · first
                                                | (first | omega | contradiction)
                                                | refine Ev.exit ?_
                                                  refine hR2 _ _ ?_
                                                  show Ev _ _ _ _
                                                  refine Ev.sr fun K hK => S.o q.mv (S.o (q.lv am_ag3) (S.c0 (hF := At_fun _ _) (h := S.o q.mv (S.o q.ex (S.o q.ex (S.o q.as (S.o q.as (S.end (hK _ ?_)))))))))
                                                  clear hK K
                                                  refine Ev.sr fun K hK => S.o q.mv (S.c0 (hF := Area_fun _) (h := S.o q.mv (S.o q.ex (S.o q.ex (S.o q.as (S.o q.as (S.end (hK _ ?_))))))))
                                                  clear hK K
                                                  refine Ev.sr fun K hK => S.o q.mv (S.o q.mf (S.c0 (hF := containsFuncSpan1 _ _ _ (holds_fun _) _ (by omega)) (h := S.o q.as (S.end (hK _ ?_)))))
                                                  clear hK K
                                                  rw [q3.1, q3.2, q4.1, q4.2, q5]
                                                  refine Ev.sr fun K hK => S.o q.mv (S.o q.eql (S.bd q.mv (fun c24 => ?_) (fun c24 => ?_)))
                                                  · first
                                                    | (first | omega | contradiction)
                                                    | refine S.o q.mv (S.o q.eql (S.o q.pt (S.bd q.mv (fun c25 => ?_) (fun c25 => ?_))))
                                                      · first
                                                        | (first | omega | contradiction)
                                                        | refine S.o q.mv (S.o q.mv (S.o q.mv (S.o q.sub (S.o q.mv (S.o q.mul (S.o q.gtr (S.o (q.beql am_un4) (S.o q.pt (S.bb q.mv (fun c26 => ?_) (fun c26 => ?_))))))))))
                                                          · first
                                                            | (first | omega | contradiction)
                                                            | refine S.o q.mv (S.o (q.lens am_el25) (S.o q.gtr (S.o q.mv (S.o q.mv (S.o q.leq (S.o (q.beql am_un4) (S.o q.pt (S.o q.as (S.end (hK _ ?_))))))))))
                                                              clear hK K
                                                              refine Ev.ret ?_
                                                              refine Ev.ret1 ?_
                                                              refine ⟨?_, rfl⟩
                                                              -- leaf 25
                                                              first | rfl | exact lawT (by omega) | (exfalso; omega) | exact lawT (by assumption) | (exfalso; contradiction) | exact congrArg (fun b => AV.lit (.bool b)) m3 | exact congrArg (fun b => AV.lit (.bool b)) m4 | (exfalso; exact absurd (m3.symm.trans ‹_ = false›) (by decide)) | (exfalso; exact absurd (m4.symm.trans ‹_ = false›) (by decide)) | (exfalso; have := r2 (by omega); omega)
                                                          · first
                                                            | (first | omega | contradiction)
                                                            | refine S.sk (S.sk (S.sk (S.sk (S.sk (S.sk (S.sk (S.o q.pf (S.o q.as (S.end (hK _ ?_))))))))))
                                                              clear hK K
                                                              refine Ev.ret ?_
                                                              refine Ev.ret1 ?_
                                                              refine ⟨?_, rfl⟩
                                                              -- leaf 26
                                                              first | rfl | exact lawT (by omega) | (exfalso; omega) | exact lawT (by assumption) | (exfalso; contradiction) | exact congrArg (fun b => AV.lit (.bool b)) m3 | exact congrArg (fun b => AV.lit (.bool b)) m4 | (exfalso; exact absurd (m3.symm.trans ‹_ = false›) (by decide)) | (exfalso; exact absurd (m4.symm.trans ‹_ = false›) (by decide)) | (exfalso; have := r2 (by omega); omega)
                                                      · first
                                                        | (first | omega | contradiction)
                                                        | refine S.sk (S.sk (S.sk (S.sk (S.sk (S.sk (S.sk (S.sk (S.o q.pf (S.o q.mv (S.sk (S.sk (S.sk (S.sk (S.sk (S.sk (S.sk (S.o q.pf (S.o q.as (S.end (hK _ ?_))))))))))))))))))))
                                                          clear hK K
                                                          refine Ev.ret ?_
                                                          refine Ev.ret1 ?_
                                                          refine ⟨?_, rfl⟩
                                                          -- leaf 27
                                                          first | rfl | exact lawT (by omega) | (exfalso; omega) | exact lawT (by assumption) | (exfalso; contradiction) | exact congrArg (fun b => AV.lit (.bool b)) m3 | exact congrArg (fun b => AV.lit (.bool b)) m4 | (exfalso; exact absurd (m3.symm.trans ‹_ = false›) (by decide)) | (exfalso; exact absurd (m4.symm.trans ‹_ = false›) (by decide)) | (exfalso; have := r2 (by omega); omega)
                                                  · first
                                                    | (first | omega | contradiction)
                                                    | refine S.sk (S.sk (S.o q.pf (S.o q.mv (S.sk (S.sk (S.sk (S.sk (S.sk (S.sk (S.sk (S.sk (S.o q.pf (S.o q.mv (S.sk (S.sk (S.sk (S.sk (S.sk (S.sk (S.sk (S.o q.pf (S.o q.as (S.end (hK _ ?_))))))))))))))))))))))))
                                                      clear hK K
                                                      refine Ev.ret ?_
                                                      refine Ev.ret1 ?_
                                                      refine ⟨?_, rfl⟩
                                                      -- leaf 28
                                                      first | rfl | exact lawT (by omega) | (exfalso; omega) | exact lawT (by assumption) | (exfalso; contradiction) | exact congrArg (fun b => AV.lit (.bool b)) m3 | exact congrArg (fun b => AV.lit (.bool b)) m4 | (exfalso; exact absurd (m3.symm.trans ‹_ = false›) (by decide)) | (exfalso; exact absurd (m4.symm.trans ‹_ = false›) (by decide)) | (exfalso; have := r2 (by omega); omega)
                                      · simp only [List.length_cons] at hpl
                                        have hidx : (levelV l d k)[pre.length]? = some s := by rw [← hp]; simp
                                        obtain ⟨r1, r2⟩ := asc_next (by rw [hp]; exact n1)
                                        have r3 := fun h => pre_last (pre := pre) hp h
                                        refine Ev.sr fun K hK => S.o q.lss (S.end (hK _ ?_))
                                        clear hK K
                                        refine Ev.ud (fun c27 => ?_) (fun c27 => ?_)
                                        · first
                                          | (first | omega | contradiction)
                                          | refine Ev.seq ?_
                                            refine Ev.block ?_
                                            refine Ev.sr fun K hK => S.o q.mv (S.o (q.ix am_el25 am_cl36 (hl := (by first | exact ati hidx (by omega) | exact ati (r3 (by omega)) (by omega) | exact atig (by omega)))) (S.o (q.lsA [_, _] am_ag36 am_cl36) (S.nn (q.al am_ze36) (S.o q.as (S.sv [_, _] true [_] am_in36 am_cl36 (h := S.end (hK _ ?_)))))))
                                            clear hK K
                                            refine Ev.sm (tbs [(0, 0), (1, 1), (0, 0), (3, 4), (4, 15), (5, 31), (6, 63), (7, 127), (8, 255), (9, 511), (10, 1023), (9, 511), (9, 511), (13, 4607), (14, 14847), (15, 31231), (16, 63999), (17, 131071), (18, 262143), (19, 524287)]) 20 fun K hK => M.o (q.fa 0 am_fi36_0 am_cl3) (M.o (q.lv am_ag3) (M.o (q.fa 1 am_fi36_1 am_cl3) (M.o (q.lv am_ag3) (M.o q.geq (M.bd q.mv (fun c28 => ?_) (fun c28 => ?_))))))
                                            · first
                                              | (first | omega | contradiction)
                                              | refine M.sk (M.sk (M.sk (M.sk (M.sk (M.sk (M.sk (M.sk (M.sk (M.sk (M.sk (M.sk (M.sk (M.o q.pt (M.end [_, _] (h := S.end (hK _ ?_))))))))))))))))
                                                clear hK K
                                                refine Ev.ct ?_
                                                refine Ev.sr fun K hK => S.o q.as (S.end (hK _ ?_))
                                                clear hK K
                                                refine Ev.ret ?_
                                                refine hR0 _ _ ?_
                                                refine Ev.ret1 ?_
                                                refine ⟨?_, rfl⟩
                                                -- leaf 29
                                                first | rfl | exact lawT (by omega) | (exfalso; omega) | exact lawT (by assumption) | (exfalso; contradiction) | exact congrArg (fun b => AV.lit (.bool b)) m3 | exact congrArg (fun b => AV.lit (.bool b)) m4 | (exfalso; exact absurd (m3.symm.trans ‹_ = false›) (by decide)) | (exfalso; exact absurd (m4.symm.trans ‹_ = false›) (by decide)) | (exfalso; have := r2 (by omega); omega)
                                            · first
                                              | (first | omega | contradiction)
                                              | refine M.o q.mv (M.o q.gtr (M.bd q.mv (fun c29 => ?_) (fun c29 => ?_)))
                                                · first
                                                  | (first | omega | contradiction)
                                                  | refine M.o (q.fa 0 am_fi36_0 am_cl3) (M.o (q.lv am_ag3) (M.o q.mv (M.o q.mv (M.o q.sub (M.o (q.ix am_el25 am_cl36 (hl := (by first | exact ati hidx (by omega) | exact ati (r3 (by omega)) (by omega) | exact atig (by omega)))) (M.o (q.fs 1 am_fi36_1 am_cl3) (M.o (q.ls am_ag3) (M.o q.leq (M.o q.pt (M.o q.pf (M.end [_, _] (h := S.end (hK _ ?_)))))))))))))
                                                    clear hK K
                                                    refine Ev.cd (fun c30 => ?_) (fun c30 => ?_)
                                                    · first
                                                      | (first | omega | contradiction)
                                                      | refine Ev.sr fun K hK => S.o q.as (S.end (hK _ ?_))
                                                        clear hK K
                                                        refine Ev.ret ?_
                                                        refine hR0 _ _ ?_
                                                        refine Ev.ret1 ?_
                                                        refine ⟨?_, rfl⟩
                                                        -- leaf 30
                                                        first | rfl | exact lawT (by omega) | (exfalso; omega) | exact lawT (by assumption) | (exfalso; contradiction) | exact congrArg (fun b => AV.lit (.bool b)) m3 | exact congrArg (fun b => AV.lit (.bool b)) m4 | (exfalso; exact absurd (m3.symm.trans ‹_ = false›) (by decide)) | (exfalso; exact absurd (m4.symm.trans ‹_ = false›) (by decide)) | (exfalso; have := r2 (by omega); omega)
                                                    · first
                                                      | (first | omega | contradiction)
                                                      | refine Ev.skip ?_
                                                        show Ev _ _ _ _
                                                        refine Ev.region_S fun K hK => S.o q.add (S.o q.mv (S.end (hK _ ?_)))
                                                        clear hK K
                                                        -- back 31
                                                        refine hR0 _ _ ?_
                                                        refine roundU [0] [0, 1, 2, 7, 9, 11, 13, 87, 88] ⟨(pre ++ [s], suf), by rw [← hp]; simp⟩ ?_ (keep_c (he := (by first | rfl | (simp; done))) (h := keep_n)) (slots_c (he := (by first | rfl | (simp; done) | (congr 2; omega))) (h := trivial)) (.c (.c (.c (.c (.c (.c (.c (.c (.c .n)))))))))
                                                        skip
                                                        all_goals (dsimp only; simp only [List.length_cons]; omega)
                                                · first
                                                  | (first | omega | contradiction)
                                                  | refine M.sk (M.sk (M.sk (M.sk (M.sk (M.sk (M.sk (M.sk (M.sk (M.o q.pf (M.o q.pf (M.end [_, _] (h := S.end (hK _ ?_)))))))))))))
                                                    clear hK K
                                                    refine Ev.cf ?_
                                                    refine Ev.skip ?_
                                                    show Ev _ _ _ _
                                                    refine Ev.region_S fun K hK => S.o q.add (S.o q.mv (S.end (hK _ ?_)))
                                                    clear hK K
                                                    -- back 32
                                                    refine hR0 _ _ ?_
                                                    refine roundU [0] [0, 1, 2, 7, 9, 11, 13, 87, 88] ⟨(pre ++ [s], suf), by rw [← hp]; simp⟩ ?_ (keep_c (he := (by first | rfl | (simp; done))) (h := keep_n)) (slots_c (he := (by first | rfl | (simp; done) | (congr 2; omega))) (h := trivial)) (.c (.c (.c (.c (.c (.c (.c (.c (.c .n)))))))))
                                                    skip
                                                    all_goals (dsimp only; simp only [List.length_cons]; omega)
                                        · first
                                          | (first | omega | contradiction)
                                          | refine Ev.exit ?_
                                            refine hR0 _ _ ?_
                                            show Ev _ _ _ _
                                            refine Ev.seq ?_
                                            refine Ev.sr fun K hK => S.o q.mv (S.o (q.lens am_el25) (S.o q.mv (S.end (hK _ ?_))))
                                            clear hK K
                                            refine Ev.block ?_
                                            refine Ev.loopU (ι := {p : List (Int × Int) × List (Int × Int) // p.1 ++ p.2 = levelV l d (k + 1)}) [0] [0, 1, 2, 7, 9, 11, 13, 87, 88, 89, 90, 115, 116] (fun ⟨(pre, suf), _⟩ => [(117, .lit (.int .i64 ((pre.length : Int))))]) (fun ⟨(pre, suf), _⟩ => [(0, ⟨false, 3, 1, [[.lit (.int .i64 (y))]], true⟩)]) (fun ⟨(pre, suf), _⟩ => suf.length) ⟨([], levelV l d (k + 1)), rfl⟩ (.c (.c (.c (.c (.c (.c (.c (.c (.c (.c (.c (.c (.c .n))))))))))))) (keep_c (he := (by first | rfl | (simp; done))) (h := keep_n)) (slots_c (he := (by first | rfl | (simp; done) | (congr 2; omega))) (h := trivial)) ?_
                                            rintro ⟨⟨pre, suf⟩, hp⟩ R2 hR2
                                            dsimp only [List.cons_append, List.nil_append, List.length_cons, List.length_nil]
                                            simp only at hp
                                            have hpl : pre.length + suf.length = (levelV l d (k + 1)).length := by rw [← hp, List.length_append]
                                            rcases suf with _ | ⟨s, suf⟩
                                            · simp only [List.length_nil] at hpl
                                              refine Ev.sr fun K hK => S.o q.lss (S.end (hK _ ?_))
                                              clear hK K
                                              refine Ev.ud (fun c31 => ?_) (fun c31 => ?_)
                                              · first
                                                | (first | omega | contradiction)
                                                | refine Ev.seq ?_
                                                  refine Ev.block ?_
                                                  refine Ev.sr fun K hK => S.o (q.ix am_el25 am_cl36 (hl := (by first | exact ati hidx (by omega) | exact ati (r3 (by omega)) (by omega) | exact atig (by omega)))) (S.o (q.lsA [_, _] am_ag36 am_cl36) (S.nn (q.al am_ze36) (S.sv [_, _] true [_] am_in36 am_cl36 (h := S.end (hK _ ?_)))))
                                                  clear hK K
                                                  refine Ev.sr fun K hK => S.o q.mv (S.o q.mf (S.c0 (hF := containsFuncSpan1 _ _ _ (inner_fun _) _ (by omega)) (h := S.o q.not (S.end (hK _ ?_)))))
                                                  clear hK K
                                                  refine Ev.cn (fun c32 => ?_) (fun c32 => ?_)
                                                  · first
                                                    | (first | omega | contradiction)
                                                    | refine Ev.sr fun K hK => S.o q.as (S.end (hK _ ?_))
                                                      clear hK K
                                                      refine Ev.ret ?_
                                                      refine hR2 _ _ ?_
                                                      refine Ev.ret1 ?_
                                                      refine ⟨?_, rfl⟩
                                                      -- leaf 33
                                                      first | rfl | exact lawT (by omega) | (exfalso; omega) | exact lawT (by assumption) | (exfalso; contradiction) | exact congrArg (fun b => AV.lit (.bool b)) m3 | exact congrArg (fun b => AV.lit (.bool b)) m4 | (exfalso; exact absurd (m3.symm.trans ‹_ = false›) (by decide)) | (exfalso; exact absurd (m4.symm.trans ‹_ = false›) (by decide)) | (exfalso; have := r2 (by omega); omega)
                                                  · first
                                                    | (first | omega | contradiction)
                                                    | refine Ev.skip ?_
                                                      show Ev _ _ _ _
                                                      refine Ev.region_S fun K hK => S.o q.add (S.o q.mv (S.end (hK _ ?_)))
                                                      clear hK K
                                                      -- back 34
                                                      refine hR2 _ _ ?_
                                                      refine roundU [0] [0, 1, 2, 7, 9, 11, 13, 87, 88, 89, 90, 115, 116] ⟨(pre ++ [s], suf), by rw [← hp]; simp⟩ ?_ (keep_c (he := (by first | rfl | (simp; done))) (h := keep_n)) (slots_c (he := (by first | rfl | (simp; done) | (congr 2; omega))) (h := trivial)) (.c (.c (.c (.c (.c (.c (.c (.c (.c (.c (.c (.c (.c .n)))))))))))))
                                                      skip
                                                      all_goals (dsimp only; simp only [List.length_cons]; omega)
                                              · first
                                                | (first | omega | contradiction)
                                                | refine Ev.exit ?_
                                                  refine hR2 _ _ ?_
                                                  show Ev _ _ _ _
                                                  refine Ev.sr fun K hK => S.o q.mv (S.o (q.lv am_ag3) (S.c0 (hF := At_fun _ _) (h := S.o q.mv (S.o q.ex (S.o q.ex (S.o q.as (S.o q.as (S.end (hK _ ?_)))))))))
                                                  clear hK K
                                                  refine Ev.sr fun K hK => S.o q.mv (S.c0 (hF := Area_fun _) (h := S.o q.mv (S.o q.ex (S.o q.ex (S.o q.as (S.o q.as (S.end (hK _ ?_))))))))
                                                  clear hK K
                                                  refine Ev.sr fun K hK => S.o q.mv (S.o q.mf (S.c0 (hF := containsFuncSpan1 _ _ _ (holds_fun _) _ (by omega)) (h := S.o q.as (S.end (hK _ ?_)))))
                                                  clear hK K
                                                  rw [q3.1, q3.2, q4.1, q4.2, q5]
                                                  refine Ev.sr fun K hK => S.o q.mv (S.o q.eql (S.bd q.mv (fun c33 => ?_) (fun c33 => ?_)))
                                                  · first
                                                    | (first | omega | contradiction)
                                                    | refine S.o q.mv (S.o q.eql (S.o q.pt (S.bd q.mv (fun c34 => ?_) (fun c34 => ?_))))
                                                      · first
                                                        | (first | omega | contradiction)
                                                        | refine S.o q.mv (S.o q.mv (S.o q.mv (S.o q.sub (S.o q.mv (S.o q.mul (S.o q.gtr (S.o (q.beql am_un4) (S.o q.pt (S.bb q.mv (fun c35 => ?_) (fun c35 => ?_))))))))))
                                                          · first
                                                            | (first | omega | contradiction)
                                                            | refine S.o q.mv (S.o (q.lens am_el25) (S.o q.gtr (S.o q.mv (S.o q.mv (S.o q.leq (S.o (q.beql am_un4) (S.o q.pt (S.o q.as (S.end (hK _ ?_))))))))))
                                                              clear hK K
                                                              refine Ev.ret ?_
                                                              refine Ev.ret1 ?_
                                                              refine ⟨?_, rfl⟩
                                                              -- leaf 35
                                                              first | rfl | exact lawT (by omega) | (exfalso; omega) | exact lawT (by assumption) | (exfalso; contradiction) | exact congrArg (fun b => AV.lit (.bool b)) m3 | exact congrArg (fun b => AV.lit (.bool b)) m4 | (exfalso; exact absurd (m3.symm.trans ‹_ = false›) (by decide)) | (exfalso; exact absurd (m4.symm.trans ‹_ = false›) (by decide)) | (exfalso; have := r2 (by omega); omega)
                                                          · first
                                                            | (first | omega | contradiction)
                                                            | refine S.sk (S.sk (S.sk (S.sk (S.sk (S.sk (S.sk (S.o q.pf (S.o q.as (S.end (hK _ ?_))))))))))
                                                              clear hK K
                                                              refine Ev.ret ?_
                                                              refine Ev.ret1 ?_
                                                              refine ⟨?_, rfl⟩
                                                              -- leaf 36
                                                              first | rfl | exact lawT (by omega) | (exfalso; omega) | exact lawT (by assumption) | (exfalso; contradiction) | exact congrArg (fun b => AV.lit (.bool b)) m3 | exact congrArg (fun b => AV.lit (.bool b)) m4 | (exfalso; exact absurd (m3.symm.trans ‹_ = false›) (by decide)) | (exfalso; exact absurd (m4.symm.trans ‹_ = false›) (by decide)) | (exfalso; have := r2 (by omega); omega)
                                                      · first
                                                        | (first | omega | contradiction)
                                                        | refine S.sk (S.sk (S.sk (S.sk (S.sk (S.sk (S.sk (S.sk (S.o q.pf (S.o q.mv (S.sk (S.sk (S.sk (S.sk (S.sk (S.sk (S.sk (S.o q.pf (S.o q.as (S.end (hK _ ?_))))))))))))))))))))
                                                          clear hK K
                                                          refine Ev.ret ?_
                                                          refine Ev.ret1 ?_
                                                          refine ⟨?_, rfl⟩
                                                          -- leaf 37
                                                          first | rfl | exact lawT (by omega) | (exfalso; omega) | exact lawT (by assumption) | (exfalso; contradiction) | exact congrArg (fun b => AV.lit (.bool b)) m3 | exact congrArg (fun b => AV.lit (.bool b)) m4 | (exfalso; exact absurd (m3.symm.trans ‹_ = false›) (by decide)) | (exfalso; exact absurd (m4.symm.trans ‹_ = false›) (by decide)) | (exfalso; have := r2 (by omega); omega)
                                                  · first
                                                    | (first | omega | contradiction)
                                                    | refine S.sk (S.sk (S.o q.pf (S.o q.mv (S.sk (S.sk (S.sk (S.sk (S.sk (S.sk (S.sk (S.sk (S.o q.pf (S.o q.mv (S.sk (S.sk (S.sk (S.sk (S.sk (S.sk (S.sk (S.o q.pf (S.o q.as (S.end (hK _ ?_))))))))))))))))))))))))
                                                      clear hK K
                                                      refine Ev.ret ?_
                                                      refine Ev.ret1 ?_
                                                      refine ⟨?_, rfl⟩
                                                      -- leaf 38
                                                      first | rfl | exact lawT (by omega) | (exfalso; omega) | exact lawT (by assumption) | (exfalso; contradiction) | exact congrArg (fun b => AV.lit (.bool b)) m3 | exact congrArg (fun b => AV.lit (.bool b)) m4 | (exfalso; exact absurd (m3.symm.trans ‹_ = false›) (by decide)) | (exfalso; exact absurd (m4.symm.trans ‹_ = false›) (by decide)) | (exfalso; have := r2 (by omega); omega)
                                            · simp only [List.length_cons] at hpl
                                              have hidx : (levelV l d (k + 1))[pre.length]? = some s := by rw [← hp]; simp
                                              have r1 := n2 s (by rw [← hp]; simp)
                                              refine Ev.sr fun K hK => S.o q.lss (S.end (hK _ ?_))
                                              clear hK K
                                              refine Ev.ud (fun c36 => ?_) (fun c36 => ?_)
                                              · first
                                                | (first | omega | contradiction)
                                                | refine Ev.seq ?_
                                                  refine Ev.block ?_
                                                  refine Ev.sr fun K hK => S.o (q.ix am_el25 am_cl36 (hl := (by first | exact ati hidx (by omega) | exact ati (r3 (by omega)) (by omega) | exact ati hidx (by omega) | exact atig (by omega)))) (S.o (q.lsA [_, _] am_ag36 am_cl36) (S.nn (q.al am_ze36) (S.sv [_, _] true [_] am_in36 am_cl36 (h := S.end (hK _ ?_)))))
                                                  clear hK K
                                                  refine Ev.sr fun K hK => S.o q.mv (S.o q.mf (S.c0 (hF := containsFuncSpan1 _ _ _ (inner_fun _) _ (by omega)) (h := S.o q.not (S.end (hK _ ?_)))))
                                                  clear hK K
                                                  refine Ev.cn (fun c37 => ?_) (fun c37 => ?_)
                                                  · first
                                                    | (first | omega | contradiction)
                                                    | refine Ev.sr fun K hK => S.o q.as (S.end (hK _ ?_))
                                                      clear hK K
                                                      refine Ev.ret ?_
                                                      refine hR2 _ _ ?_
                                                      refine Ev.ret1 ?_
                                                      refine ⟨?_, rfl⟩
                                                      -- leaf 39
                                                      first | rfl | exact lawT (by omega) | (exfalso; omega) | exact lawT (by assumption) | (exfalso; contradiction) | exact congrArg (fun b => AV.lit (.bool b)) m3 | exact congrArg (fun b => AV.lit (.bool b)) m4 | (exfalso; exact absurd (m3.symm.trans ‹_ = false›) (by decide)) | (exfalso; exact absurd (m4.symm.trans ‹_ = false›) (by decide)) | (exfalso; have := r2 (by omega); omega)
                                                  · first
                                                    | (first | omega | contradiction)
                                                    | refine Ev.skip ?_
                                                      show Ev _ _ _ _
                                                      refine Ev.region_S fun K hK => S.o q.add (S.o q.mv (S.end (hK _ ?_)))
                                                      clear hK K
                                                      -- back 40
                                                      refine hR2 _ _ ?_
                                                      refine roundU [0] [0, 1, 2, 7, 9, 11, 13, 87, 88, 89, 90, 115, 116] ⟨(pre ++ [s], suf), by rw [← hp]; simp⟩ ?_ (keep_c (he := (by first | rfl | (simp; done))) (h := keep_n)) (slots_c (he := (by first | rfl | (simp; done) | (congr 2; omega))) (h := trivial)) (.c (.c (.c (.c (.c (.c (.c (.c (.c (.c (.c (.c (.c .n)))))))))))))
                                                      skip
                                                      all_goals (dsimp only; simp only [List.length_cons]; omega)
                                              · first
                                                | (first | omega | contradiction)
                                                | refine Ev.exit ?_
                                                  refine hR2 _ _ ?_
                                                  show Ev _ _ _ _
                                                  refine Ev.sr fun K hK => S.o q.mv (S.o (q.lv am_ag3) (S.c0 (hF := At_fun _ _) (h := S.o q.mv (S.o q.ex (S.o q.ex (S.o q.as (S.o q.as (S.end (hK _ ?_)))))))))
                                                  clear hK K
                                                  refine Ev.sr fun K hK => S.o q.mv (S.c0 (hF := Area_fun _) (h := S.o q.mv (S.o q.ex (S.o q.ex (S.o q.as (S.o q.as (S.end (hK _ ?_))))))))
                                                  clear hK K
                                                  refine Ev.sr fun K hK => S.o q.mv (S.o q.mf (S.c0 (hF := containsFuncSpan1 _ _ _ (holds_fun _) _ (by omega)) (h := S.o q.as (S.end (hK _ ?_)))))
                                                  clear hK K
                                                  rw [q3.1, q3.2, q4.1, q4.2, q5]
                                                  refine Ev.sr fun K hK => S.o q.mv (S.o q.eql (S.bd q.mv (fun c38 => ?_) (fun c38 => ?_)))
                                                  · first
                                                    | (first | omega | contradiction)
                                                    | refine S.o q.mv (S.o q.eql (S.o q.pt (S.bd q.mv (fun c39 => ?_) (fun c39 => ?_))))
                                                      · first
                                                        | (first | omega | contradiction)
                                                        | refine S.o q.mv (S.o q.mv (S.o q.mv (S.o q.sub (S.o q.mv (S.o q.mul (S.o q.gtr (S.o (q.beql am_un4) (S.o q.pt (S.bb q.mv (fun c40 => ?_) (fun c40 => ?_))))))))))
                                                          · first
                                                            | (first | omega | contradiction)
                                                            | refine S.o q.mv (S.o (q.lens am_el25) (S.o q.gtr (S.o q.mv (S.o q.mv (S.o q.leq (S.o (q.beql am_un4) (S.o q.pt (S.o q.as (S.end (hK _ ?_))))))))))
                                                              clear hK K
                                                              refine Ev.ret ?_
                                                              refine Ev.ret1 ?_
                                                              refine ⟨?_, rfl⟩
                                                              -- leaf 41
                                                              first | rfl | exact lawT (by omega) | (exfalso; omega) | exact lawT (by assumption) | (exfalso; contradiction) | exact congrArg (fun b => AV.lit (.bool b)) m3 | exact congrArg (fun b => AV.lit (.bool b)) m4 | (exfalso; exact absurd (m3.symm.trans ‹_ = false›) (by decide)) | (exfalso; exact absurd (m4.symm.trans ‹_ = false›) (by decide)) | (exfalso; have := r2 (by omega); omega)
                                                          · first
                                                            | (first | omega | contradiction)
                                                            | refine S.sk (S.sk (S.sk (S.sk (S.sk (S.sk (S.sk (S.o q.pf (S.o q.as (S.end (hK _ ?_))))))))))
                                                              clear hK K
                                                              refine Ev.ret ?_
                                                              refine Ev.ret1 ?_
                                                              refine ⟨?_, rfl⟩
                                                              -- leaf 42
                                                              first | rfl | exact lawT (by omega) | (exfalso; omega) | exact lawT (by assumption) | (exfalso; contradiction) | exact congrArg (fun b => AV.lit (.bool b)) m3 | exact congrArg (fun b => AV.lit (.bool b)) m4 | (exfalso; exact absurd (m3.symm.trans ‹_ = false›) (by decide)) | (exfalso; exact absurd (m4.symm.trans ‹_ = false›) (by decide)) | (exfalso; have := r2 (by omega); omega)
                                                      · first
                                                        | (first | omega | contradiction)
                                                        | refine S.sk (S.sk (S.sk (S.sk (S.sk (S.sk (S.sk (S.sk (S.o q.pf (S.o q.mv (S.sk (S.sk (S.sk (S.sk (S.sk (S.sk (S.sk (S.o q.pf (S.o q.as (S.end (hK _ ?_))))))))))))))))))))
                                                          clear hK K
                                                          refine Ev.ret ?_
                                                          refine Ev.ret1 ?_
                                                          refine ⟨?_, rfl⟩
                                                          -- leaf 43
                                                          first | rfl | exact lawT (by omega) | (exfalso; omega) | exact lawT (by assumption) | (exfalso; contradiction) | exact congrArg (fun b => AV.lit (.bool b)) m3 | exact congrArg (fun b => AV.lit (.bool b)) m4 | (exfalso; exact absurd (m3.symm.trans ‹_ = false›) (by decide)) | (exfalso; exact absurd (m4.symm.trans ‹_ = false›) (by decide)) | (exfalso; have := r2 (by omega); omega)
                                                  · first
                                                    | (first | omega | contradiction)
                                                    | refine S.sk (S.sk (S.o q.pf (S.o q.mv (S.sk (S.sk (S.sk (S.sk (S.sk (S.sk (S.sk (S.sk (S.o q.pf (S.o q.mv (S.sk (S.sk (S.sk (S.sk (S.sk (S.sk (S.sk (S.o q.pf (S.o q.as (S.end (hK _ ?_))))))))))))))))))))))))
                                                      clear hK K
                                                      refine Ev.ret ?_
                                                      refine Ev.ret1 ?_
                                                      refine ⟨?_, rfl⟩
                                                      -- leaf 44
                                                      first | rfl | exact lawT (by omega) | (exfalso; omega) | exact lawT (by assumption) | (exfalso; contradiction) | exact congrArg (fun b => AV.lit (.bool b)) m3 | exact congrArg (fun b => AV.lit (.bool b)) m4 | (exfalso; exact absurd (m3.symm.trans ‹_ = false›) (by decide)) | (exfalso; exact absurd (m4.symm.trans ‹_ = false›) (by decide)) | (exfalso; have := r2 (by omega); omega)
end Go.Proofs.Ytigjoaejncfmdaa
