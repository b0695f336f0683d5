/-
  The law QuantitySums, walked.
  Conditions: none.
-/
import Derived.Test.YtappnbebcjmlbaaQ4
namespace Go.Proofs.Ytappnbebcjmlbaa
open Go Go.AM
set_option linter.unusedSimpArgs false
set_option linter.unusedVariables false
set_option maxRecDepth 100000

theorem size2_fun (c : Int × Int) (b : Bar) : Fun Try.prog 20 [.agg b.c, .sadr (pairC c) 0] (Ret (.lit (.bool (decide (b.size = c.1)))) []) := by
  refine Fun.of (nt := 9) (rs := [.tmp 3]) Try.func20 rfl rfl rfl rfl rfl ?_
  refine Ev.sr fun K hK => S.nn (q.bx [_, _, _, _, _] true) (S.o q.as (S.end (hK _ ?_)))
  clear hK K
  refine Ev.sr fun K hK => S.o (q.fa 1 am_fi40_1 am_cl3) (S.o (q.lv am_ag3) (S.o (q.fs 0 am_fi34_0 am_cl3) (S.o (q.ls am_ag3) (S.o q.eql (S.o q.as (S.end (hK _ ?_)))))))
  clear hK K
  refine Ev.ret ?_
  refine Ev.ret1 ?_
  refine ⟨?_, rfl⟩
  -- leaf 1
  rfl

theorem sums_law (l : List Bar) (hlen : l.length ≤ 140737488355328) : Fun Try.prog 4 [.sh 5 (l.map Bar.c)] (Ret (.lit (.bool true)) []) := by
  refine Fun.of (nt := 129) (rs := [.tmp 2]) Try.func4 rfl rfl rfl rfl rfl ?_
  refine Ev.sr fun K hK => S.o q.as (S.end (hK _ ?_))
  clear hK K
  refine Ev.seq ?_
  refine Ev.sr fun K hK => S.c0 (hF := awake_fun) (h := S.o q.nott (S.end (hK _ ?_)))
  clear hK K
  refine Ev.cf ?_
  refine Ev.skip ?_
  show Ev _ _ _ _
  refine Ev.seq ?_
  refine Ev.sr fun K hK => S.o q.mv (S.c0 (hF := small_fun _ _ (by omega)) (h := S.o q.not (S.end (hK _ ?_))))
  clear hK K
  refine Ev.cn (fun c1 => ?_) (fun c1 => ?_)
  · first
    | (first | omega | contradiction)
    | refine Ev.sr fun K hK => S.o q.as (S.end (hK _ ?_))
      clear hK K
      refine Ev.ret ?_
      refine Ev.ret1 ?_
      refine ⟨?_, rfl⟩
      -- leaf 1
      first | rfl | exact lawT (by omega) | (exfalso; omega) | exact lawT (by assumption) | (exfalso; contradiction) | (exfalso; have := hlt (by omega); omega) | exact bT (by omega)
  · first
    | (first | omega | contradiction)
    | refine Ev.skip ?_
      show Ev _ _ _ _
      have hw := small_w ‹smallL l 8›
      have hl8 := (‹smallL l 8›).1
      refine Ev.sr fun K hK => S.o q.mv (S.c0 (hF := Masses_fun _ (by omega) (by assumption)) (h := S.o q.mv (S.o q.ex (S.o q.ex (S.o q.as (S.o q.as (S.end (hK _ ?_))))))))
      clear hK K
      refine Ev.sr fun K hK => S.o q.mv (S.c0 (hF := Total_fun _ (by omega) (by assumption)) (h := S.o q.mv (S.o q.ex (S.o q.ex (S.o q.as (S.o q.as (S.end (hK _ ?_))))))))
      clear hK K
      refine Ev.seq ?_
      refine Ev.sr fun K hK => S.o q.mv (S.o q.neq (S.bn q.mv (fun c2 => ?_) (fun c2 => ?_)))
      · first
        | (first | omega | contradiction)
        | refine S.sk (S.sk (S.o q.pt (S.end (hK _ ?_))))
          clear hK K
          refine Ev.ct ?_
          obtain ⟨e1, e2, e3⟩ := masses_bad (l := l) (fun h => by have := (masses_good h).2.1; omega)
          refine Ev.sr fun K hK => S.o q.mv (S.o q.mv (S.o q.eql (S.bd q.mv (fun c3 => ?_) (fun c3 => ?_))))
          · first
            | (first | omega | contradiction)
            | refine S.o q.mv (S.o (q.lens am_el25) (S.o q.eql (S.o q.pt (S.bd q.mv (fun c4 => ?_) (fun c4 => ?_)))))
              · first
                | (first | omega | contradiction)
                | refine S.o q.mv (S.o q.eql (S.o q.pt (S.o q.as (S.end (hK _ ?_)))))
                  clear hK K
                  refine Ev.ret ?_
                  refine Ev.ret1 ?_
                  refine ⟨?_, rfl⟩
                  -- leaf 2
                  first | rfl | exact lawT (by omega) | (exfalso; omega) | exact lawT (by assumption) | (exfalso; contradiction) | (exfalso; have := hlt (by omega); omega) | exact bT (by omega)
              · first
                | (first | omega | contradiction)
                | refine S.sk (S.sk (S.o q.pf (S.o q.as (S.end (hK _ ?_)))))
                  clear hK K
                  refine Ev.ret ?_
                  refine Ev.ret1 ?_
                  refine ⟨?_, rfl⟩
                  -- leaf 3
                  first | rfl | exact lawT (by omega) | (exfalso; omega) | exact lawT (by assumption) | (exfalso; contradiction) | (exfalso; have := hlt (by omega); omega) | exact bT (by omega)
          · first
            | (first | omega | contradiction)
            | refine S.sk (S.sk (S.sk (S.o q.pf (S.o q.mv (S.sk (S.sk (S.o q.pf (S.o q.as (S.end (hK _ ?_))))))))))
              clear hK K
              refine Ev.ret ?_
              refine Ev.ret1 ?_
              refine ⟨?_, rfl⟩
              -- leaf 4
              first | rfl | exact lawT (by omega) | (exfalso; omega) | exact lawT (by assumption) | (exfalso; contradiction) | (exfalso; have := hlt (by omega); omega) | exact bT (by omega)
      · first
        | (first | omega | contradiction)
        | refine S.o q.mv (S.o q.neq (S.o q.pf (S.end (hK _ ?_))))
          clear hK K
          refine Ev.cn (fun c5 => ?_) (fun c5 => ?_)
          · first
            | (first | omega | contradiction)
            | obtain ⟨e1, e2, e3⟩ := masses_bad (l := l) (fun h => by have := (masses_good h).2.1; omega)
              refine Ev.sr fun K hK => S.o q.mv (S.o q.mv (S.o q.eql (S.bd q.mv (fun c6 => ?_) (fun c6 => ?_))))
              · first
                | (first | omega | contradiction)
                | refine S.o q.mv (S.o (q.lens am_el25) (S.o q.eql (S.o q.pt (S.bd q.mv (fun c7 => ?_) (fun c7 => ?_)))))
                  · first
                    | (first | omega | contradiction)
                    | refine S.o q.mv (S.o q.eql (S.o q.pt (S.o q.as (S.end (hK _ ?_)))))
                      clear hK K
                      refine Ev.ret ?_
                      refine Ev.ret1 ?_
                      refine ⟨?_, rfl⟩
                      -- leaf 5
                      first | rfl | exact lawT (by omega) | (exfalso; omega) | exact lawT (by assumption) | (exfalso; contradiction) | (exfalso; have := hlt (by omega); omega) | exact bT (by omega)
                  · first
                    | (first | omega | contradiction)
                    | refine S.sk (S.sk (S.o q.pf (S.o q.as (S.end (hK _ ?_)))))
                      clear hK K
                      refine Ev.ret ?_
                      refine Ev.ret1 ?_
                      refine ⟨?_, rfl⟩
                      -- leaf 6
                      first | rfl | exact lawT (by omega) | (exfalso; omega) | exact lawT (by assumption) | (exfalso; contradiction) | (exfalso; have := hlt (by omega); omega) | exact bT (by omega)
              · first
                | (first | omega | contradiction)
                | refine S.sk (S.sk (S.sk (S.o q.pf (S.o q.mv (S.sk (S.sk (S.o q.pf (S.o q.as (S.end (hK _ ?_))))))))))
                  clear hK K
                  refine Ev.ret ?_
                  refine Ev.ret1 ?_
                  refine ⟨?_, rfl⟩
                  -- leaf 7
                  first | rfl | exact lawT (by omega) | (exfalso; omega) | exact lawT (by assumption) | (exfalso; contradiction) | (exfalso; have := hlt (by omega); omega) | exact bT (by omega)
          · first
            | (first | omega | contradiction)
            | refine Ev.skip ?_
              show Ev _ _ _ _
              have hok : okSched l := by
                by_cases h : okSched l
                · exact h
                · have := (masses_bad h).2.1; omega
              obtain ⟨e1, e2, e3, e4⟩ := masses_good hok
              have hasc : (massesV l).Pairwise (fun p q => p.1 < q.1) := by rw [e1]; exact massesP_asc l
              have hmem : ∀ s ∈ massesV l, (∃ b ∈ l, decide (b.size = s.1) = true) ∧ s.1 ∈ sizes ∧ s.2 = ofSum l s.1 := fun s hs => massesP_mem (by rw [← e1]; exact hs)
              have hbd : ∀ s ∈ massesV l, 0 ≤ s.1 ∧ s.1 ≤ 1000 := fun s hs => by have := size_bd (hmem s hs).2.1; omega
              have hsb : ∀ s ∈ massesV l, 0 ≤ s.2 ∧ s.2 ≤ 82745232000 := fun s hs => by
                have h1 := (hmem s hs).2.2
                have := ofSum_bd l hok.2.1 s.1
                omega
              have hsum : sumI ((massesV l).map (·.2)) = totV l := by
                rw [e1, e3, massesP_sum]
                exact (totM_bd l hok.2.1).2
              refine Ev.sr fun K hK => S.o q.mv (S.c1 (hF := clone_fun _ (by omega)) (h := S.o q.as (S.end (hK _ ?_))))
              clear hK K
              refine Ev.sr fun K hK => S.o q.mv (S.cR [0] _ [_] (hob := (keep_c (he := rfl) (h := keep_n))) (hF := reverse_fun _ (by omega)) (hn' := below1 (by decide)) (h := S.end (hK _ ?_)))
              clear hK K
              refine Ev.weaken (Wk.frz 7 []) ?_
              refine Ev.sr fun K hK => S.o q.mv (S.c0 (hF := Masses_fun l.reverse (by rw [List.length_reverse]; omega) (schedW_rev hw)) (h := S.o q.mv (S.o q.ex (S.o q.ex (S.o q.as (S.o q.as (S.end (hK _ ?_))))))))
              clear hK K
              refine Ev.seq ?_
              rw [(massesV_rev l).1, (massesV_rev l).2]
              refine Ev.sr fun K hK => S.o q.mv (S.o q.neq (S.bn q.mv (fun c8 => ?_) (fun c8 => ?_)))
              · first
                | (first | omega | contradiction)
                | refine S.sk (S.sk (S.sk (S.sk (S.o q.pt (S.o q.mv (S.sk (S.sk (S.sk (S.o q.pt (S.end (hK _ ?_)))))))))))
                  clear hK K
                  refine Ev.ct ?_
                  refine Ev.sr fun K hK => S.o q.as (S.end (hK _ ?_))
                  clear hK K
                  refine Ev.ret ?_
                  refine Ev.ret1 ?_
                  refine ⟨?_, rfl⟩
                  -- leaf 8
                  first | rfl | exact lawT (by omega) | (exfalso; omega) | exact lawT (by assumption) | (exfalso; contradiction) | (exfalso; have := hlt (by omega); omega) | exact bT (by omega)
              · first
                | (first | omega | contradiction)
                | refine S.o q.mv (S.o q.mv (S.c0 (hF := equalStep_fun _ _ (by omega) (by omega)) (h := S.o q.not (S.o q.pf (S.bn q.mv (fun c9 => ?_) (fun c9 => ?_))))))
                  · first
                    | (first | omega | contradiction)
                    | refine S.sk (S.sk (S.sk (S.o q.pt (S.end (hK _ ?_)))))
                      clear hK K
                      refine Ev.ct ?_
                      refine Ev.sr fun K hK => S.o q.as (S.end (hK _ ?_))
                      clear hK K
                      refine Ev.ret ?_
                      refine Ev.ret1 ?_
                      refine ⟨?_, rfl⟩
                      -- leaf 9
                      first | rfl | exact lawT (by omega) | (exfalso; omega) | exact lawT (by assumption) | (exfalso; contradiction) | (exfalso; have := hlt (by omega); omega) | exact bT (by omega)
                  · first
                    | (first | omega | contradiction)
                    | refine S.o q.mv (S.c0 (hF := sorted_fun _ hasc hbd (by omega)) (h := S.o q.nott (S.o q.pf (S.end (hK _ ?_)))))
                      clear hK K
                      refine Ev.cf ?_
                      refine Ev.skip ?_
                      show Ev _ _ _ _
                      refine Ev.sr fun K hK => S.o q.as (S.o q.as (S.end (hK _ ?_)))
                      clear hK K
                      refine Ev.seq ?_
                      refine Ev.sr fun K hK => S.o q.mv (S.o (q.lens am_el25) (S.o q.mv (S.end (hK _ ?_))))
                      clear hK K
                      refine Ev.block ?_
                      refine Ev.loopU (ι := {q : List (Int × Int) × List (Int × Int) // q.1 ++ q.2 = massesV l ∧ 0 ≤ sumI (q.1.map (·.2)) ∧ sumI (q.1.map (·.2)) ≤ 82745232000 * q.1.length}) [] [0, 3, 5, 11, 73, 74] (fun ⟨(pre, suf), _⟩ => [(75, .lit (.int .i64 ((pre.length : Int)))), (10, .lit (.int .i64 (sumI (pre.map (·.2)))))]) (fun ⟨(pre, suf), _⟩ => []) (fun ⟨(pre, suf), _⟩ => suf.length) ⟨([], (massesV l)), rfl, (by decide : 0 ≤ sumI [] ∧ sumI [] ≤ 82745232000 * (([] : List Int).length : Int))⟩ (.c (.c (.c (.c (.c (.c .n)))))) keep_n (slots_c (he := (by first | rfl | (congr 2; simp; done))) (h := (slots_c (he := (by first | rfl | (congr 2; rw [List.map_append, sumI_app, show sumI ([s].map (·.2)) = s.2 by simp [sumI]]; done))) (h := trivial)))) ?_
                      rintro ⟨⟨pre, suf⟩, hp, hinv⟩ R0 hR0
                      dsimp only [List.cons_append, List.nil_append, List.length_cons, List.length_nil]
                      simp only at hp hinv
                      have hpl : pre.length + suf.length = ((massesV l)).length := by rw [← hp, List.length_append]
                      rcases suf with _ | ⟨s, suf⟩
                      · rw [List.append_nil] at hp; simp only [List.length_nil] at hpl
                        have hfin := hsum
                        rw [← hp] at hfin
                        refine Ev.sr fun K hK => S.o q.lss (S.end (hK _ ?_))
                        clear hK K
                        refine Ev.ud (fun c10 => ?_) (fun c10 => ?_)
                        · first
                          | (first | omega | contradiction)
                          | refine Ev.seq ?_
                            refine Ev.block ?_
                            refine Ev.sr fun K hK => S.o q.mv (S.o (q.ix am_el25 am_cl34 (hl := (by first | exact atig (by omega)))) (S.o (q.lsA [_, _] am_ag34 am_cl34) (S.nn (q.al am_ze34) (S.o q.as (S.sv [_, _] true [] am_in34 am_cl34 (h := S.end (hK _ ?_)))))))
                            clear hK K
                            refine Ev.seq ?_
                            refine Ev.sm (tbs [(0, 0), (1, 1), (2, 3), (3, 7), (4, 15), (3, 7), (3, 7), (7, 71), (8, 231), (9, 487), (10, 999), (11, 2047), (12, 4095), (13, 8191), (14, 16383), (14, 16383), (16, 65535), (17, 131071), (18, 262143)]) 19 fun K hK => M.o q.mv (M.o q.gtr (M.bd q.mv (fun c11 => ?_) (fun c11 => ?_)))
                            · first
                              | (first | omega | contradiction)
                              | refine M.o (q.fa 0 am_fi34_0 am_cl3) (M.o (q.lv am_ag3) (M.o q.mv (M.o q.mv (M.o q.sub (M.o (q.ix am_el25 am_cl34 (hl := (by first | exact atig (by omega)))) (M.o (q.fs 0 am_fi34_0 am_cl3) (M.o (q.ls am_ag3) (M.o q.eql (M.o q.pt (M.bd q.mv (fun c12 => ?_) (fun c12 => ?_)))))))))))
                                · first
                                  | (first | omega | contradiction)
                                  | refine M.sk (M.sk (M.sk (M.sk (M.o q.pt (M.end [_] (h := S.end (hK _ ?_)))))))
                                    clear hK K
                                    refine Ev.ct ?_
                                    refine Ev.sr fun K hK => S.o q.as (S.end (hK _ ?_))
                                    clear hK K
                                    refine Ev.ret ?_
                                    refine hR0 _ _ ?_
                                    refine Ev.ret1 ?_
                                    refine ⟨?_, rfl⟩
                                    -- leaf 10
                                    first | rfl | exact lawT (by omega) | (exfalso; omega) | exact lawT (by assumption) | (exfalso; contradiction) | (exfalso; have := hlt (by omega); omega) | exact bT (by omega)
                                · first
                                  | (first | omega | contradiction)
                                  | refine M.o q.mv (M.o q.mf (M.c0 (hF := containsFuncBar1 _ _ _ (size2_fun s) l (by omega)) (h := M.o q.not (M.o q.pf (M.end [_] (h := S.end (hK _ ?_)))))))
                                    clear hK K
                                    refine Ev.cn (fun c13 => ?_) (fun c13 => ?_)
                                    · first
                                      | (first | omega | contradiction)
                                      | refine Ev.sr fun K hK => S.o q.as (S.end (hK _ ?_))
                                        clear hK K
                                        refine Ev.ret ?_
                                        refine hR0 _ _ ?_
                                        refine Ev.ret1 ?_
                                        refine ⟨?_, rfl⟩
                                        -- leaf 11
                                        first | rfl | exact lawT (by omega) | (exfalso; omega) | exact lawT (by assumption) | (exfalso; contradiction) | (exfalso; have := hlt (by omega); omega) | exact bT (by omega)
                                    · first
                                      | (first | omega | contradiction)
                                      | refine Ev.skip ?_
                                        show Ev _ _ _ _
                                        refine Ev.region_S fun K hK => S.o q.mv (S.o (q.fa 1 am_fi34_1 am_cl3) (S.o (q.lv am_ag3) (S.o q.add (S.o q.as (S.end (hK _ ?_))))))
                                        clear hK K
                                        show Ev _ _ _ _
                                        refine Ev.region_S fun K hK => S.o q.add (S.o q.mv (S.end (hK _ ?_)))
                                        clear hK K
                                        -- back 12
                                        refine hR0 _ _ ?_
                                        refine roundU [] [0, 3, 5, 11, 73, 74] ⟨(pre ++ [s], suf), by rw [← hp]; simp, ?_⟩ ?_ keep_n (slots_c (he := (by first | rfl | (congr 2; simp; done))) (h := (slots_c (he := (by first | rfl | (congr 2; rw [List.map_append, sumI_app, show sumI ([s].map (·.2)) = s.2 by simp [sumI]]; done))) (h := trivial)))) (.c (.c (.c (.c (.c (.c .n))))))
                                        (rw [List.map_append, sumI_app, List.length_append, List.length_singleton, show sumI ([s].map (·.2)) = s.2 by simp [sumI]]; omega)
                                        all_goals (dsimp only; simp only [List.length_cons]; omega)
                            · first
                              | (first | omega | contradiction)
                              | refine M.sk (M.sk (M.sk (M.sk (M.sk (M.sk (M.sk (M.sk (M.sk (M.o q.pf (M.o q.mv (M.o q.mv (M.o q.mf (M.c0 (hF := containsFuncBar1 _ _ _ (size2_fun s) l (by omega)) (h := M.o q.not (M.o q.pf (M.end [_] (h := S.end (hK _ ?_))))))))))))))))))
                                clear hK K
                                refine Ev.cn (fun c14 => ?_) (fun c14 => ?_)
                                · first
                                  | (first | omega | contradiction)
                                  | refine Ev.sr fun K hK => S.o q.as (S.end (hK _ ?_))
                                    clear hK K
                                    refine Ev.ret ?_
                                    refine hR0 _ _ ?_
                                    refine Ev.ret1 ?_
                                    refine ⟨?_, rfl⟩
                                    -- leaf 13
                                    first | rfl | exact lawT (by omega) | (exfalso; omega) | exact lawT (by assumption) | (exfalso; contradiction) | (exfalso; have := hlt (by omega); omega) | exact bT (by omega)
                                · first
                                  | (first | omega | contradiction)
                                  | refine Ev.skip ?_
                                    show Ev _ _ _ _
                                    refine Ev.region_S fun K hK => S.o q.mv (S.o (q.fa 1 am_fi34_1 am_cl3) (S.o (q.lv am_ag3) (S.o q.add (S.o q.as (S.end (hK _ ?_))))))
                                    clear hK K
                                    show Ev _ _ _ _
                                    refine Ev.region_S fun K hK => S.o q.add (S.o q.mv (S.end (hK _ ?_)))
                                    clear hK K
                                    -- back 14
                                    refine hR0 _ _ ?_
                                    refine roundU [] [0, 3, 5, 11, 73, 74] ⟨(pre ++ [s], suf), by rw [← hp]; simp, ?_⟩ ?_ keep_n (slots_c (he := (by first | rfl | (congr 2; simp; done))) (h := (slots_c (he := (by first | rfl | (congr 2; rw [List.map_append, sumI_app, show sumI ([s].map (·.2)) = s.2 by simp [sumI]]; done))) (h := trivial)))) (.c (.c (.c (.c (.c (.c .n))))))
                                    (rw [List.map_append, sumI_app, List.length_append, List.length_singleton, show sumI ([s].map (·.2)) = s.2 by simp [sumI]]; omega)
                                    all_goals (dsimp only; simp only [List.length_cons]; omega)
                        · first
                          | (first | omega | contradiction)
                          | refine Ev.exit ?_
                            refine hR0 _ _ ?_
                            show Ev _ _ _ _
                            refine Ev.seq ?_
                            refine Ev.sr fun K hK => S.o q.mv (S.o (q.lens am_el22) (S.o q.mv (S.end (hK _ ?_))))
                            clear hK K
                            refine Ev.block ?_
                            refine Ev.loopU (ι := {q : List Bar × List Bar // q.1 ++ q.2 = l}) [] [0, 3, 5, 10, 73, 74, 75, 76, 104, 105] (fun ⟨(pre2, suf2), _⟩ => [(106, .lit (.int .i64 ((pre2.length : Int)))), (11, .lit (.int .i64 (totM pre2)))]) (fun ⟨(pre2, suf2), _⟩ => []) (fun ⟨(pre2, suf2), _⟩ => suf2.length) ⟨([], l), rfl⟩ (.c (.c (.c (.c (.c (.c (.c (.c (.c (.c .n)))))))))) keep_n (slots_c (he := (by first | rfl | (congr 2; simp; done))) (h := (slots_c (he := (by first | rfl | (congr 2; rw [totM_snoc] <;> rfl))) (h := trivial)))) ?_
                            rintro ⟨⟨pre2, suf2⟩, hp2⟩ R2 hR2
                            dsimp only [List.cons_append, List.nil_append, List.length_cons, List.length_nil]
                            simp only at hp2
                            have hpl2 : pre2.length + suf2.length = l.length := by rw [← hp2, List.length_append]
                            rcases suf2 with _ | ⟨s, suf2⟩
                            · rw [List.append_nil] at hp2; simp only [List.length_nil] at hpl2
                              have hfin2 : totM pre2 = totV l := by rw [hp2, e3]
                              refine Ev.sr fun K hK => S.o q.lss (S.end (hK _ ?_))
                              clear hK K
                              refine Ev.ud (fun c15 => ?_) (fun c15 => ?_)
                              · first
                                | (first | omega | contradiction)
                                | refine Ev.seq ?_
                                  refine Ev.block ?_
                                  refine Ev.sr fun K hK => S.o (q.ix am_el22 am_cl40 (hl := (by first | exact atig (by omega)))) (S.o (q.lsA [_, _, _, _, _] am_ag40 am_cl40) (S.nn (q.al am_ze40) (S.sv [_, _, _, _, _] true [] am_in40 am_cl40 (h := S.end (hK _ ?_)))))
                                  clear hK K
                                  refine Ev.sr fun K hK => S.o (q.lvA [_, _, _, _, _] am_ag40 am_cl40) (S.c0 (hF := barMass_fun _ (by assumption)) (h := S.o q.mv (S.o q.ex (S.o q.ex (S.o q.as (S.o q.as (S.end (hK _ ?_))))))))
                                  clear hK K
                                  refine Ev.seq ?_
                                  rw [okE_in hsok]
                                  refine Ev.sr fun K hK => S.o q.mv (S.o q.neq (S.end (hK _ ?_)))
                                  clear hK K
                                  refine Ev.cn (fun c16 => ?_) (fun c16 => ?_)
                                  · first
                                    | (first | omega | contradiction)
                                    | refine Ev.sr fun K hK => S.o q.as (S.end (hK _ ?_))
                                      clear hK K
                                      refine Ev.ret ?_
                                      refine hR2 _ _ ?_
                                      refine Ev.ret1 ?_
                                      refine ⟨?_, rfl⟩
                                      -- leaf 15
                                      first | rfl | exact lawT (by omega) | (exfalso; omega) | exact lawT (by assumption) | (exfalso; contradiction) | (exfalso; have := hlt (by omega); omega) | exact bT (by omega)
                                  · first
                                    | (first | omega | contradiction)
                                    | refine Ev.skip ?_
                                      show Ev _ _ _ _
                                      rw [okV_in hsok]
                                      refine Ev.region_S fun K hK => S.o q.mv (S.o q.mv (S.o q.add (S.o q.as (S.end (hK _ ?_)))))
                                      clear hK K
                                      show Ev _ _ _ _
                                      refine Ev.region_S fun K hK => S.o q.add (S.o q.mv (S.end (hK _ ?_)))
                                      clear hK K
                                      -- back 16
                                      refine hR2 _ _ ?_
                                      refine roundU [] [0, 3, 5, 10, 73, 74, 75, 76, 104, 105] ⟨(pre2 ++ [s], suf2), by rw [← hp2]; simp⟩ ?_ keep_n (slots_c (he := (by first | rfl | (congr 2; simp; done))) (h := (slots_c (he := (by first | rfl | (congr 2; rw [totM_snoc] <;> rfl))) (h := trivial)))) (.c (.c (.c (.c (.c (.c (.c (.c (.c (.c .n))))))))))
                                      skip
                                      all_goals (dsimp only; simp only [List.length_cons]; omega)
                              · first
                                | (first | omega | contradiction)
                                | refine Ev.exit ?_
                                  refine hR2 _ _ ?_
                                  show Ev _ _ _ _
                                  rw [hp]
                                  refine Ev.sr fun K hK => S.o q.mv (S.o q.mv (S.o q.eql (S.bd q.mv (fun c17 => ?_) (fun c17 => ?_))))
                                  · first
                                    | (first | omega | contradiction)
                                    | refine S.o q.mv (S.o q.mv (S.o q.eql (S.o q.pt (S.o q.as (S.end (hK _ ?_))))))
                                      clear hK K
                                      refine Ev.ret ?_
                                      refine Ev.ret1 ?_
                                      refine ⟨?_, rfl⟩
                                      -- leaf 17
                                      first | rfl | exact lawT (by omega) | (exfalso; omega) | exact lawT (by assumption) | (exfalso; contradiction) | (exfalso; have := hlt (by omega); omega) | exact bT (by omega)
                                  · first
                                    | (first | omega | contradiction)
                                    | refine S.sk (S.sk (S.sk (S.o q.pf (S.o q.as (S.end (hK _ ?_))))))
                                      clear hK K
                                      refine Ev.ret ?_
                                      refine Ev.ret1 ?_
                                      refine ⟨?_, rfl⟩
                                      -- leaf 18
                                      first | rfl | exact lawT (by omega) | (exfalso; omega) | exact lawT (by assumption) | (exfalso; contradiction) | (exfalso; have := hlt (by omega); omega) | exact bT (by omega)
                            · simp only [List.length_cons] at hpl2
                              have hidx2 : l[pre2.length]? = some s := by rw [← hp2]; simp
                              have hsok : okBar s := hok.2.1 s (by rw [← hp2]; simp)
                              have hsw : s.w := hw s (by rw [← hp2]; simp)
                              obtain ⟨_, _, g3, g4⟩ := barMass_bd hsok
                              obtain ⟨⟨t1, t2⟩, _⟩ := totM_bd pre2 (fun b hb => hok.2.1 b (by rw [← hp2]; simp [hb]))
                              refine Ev.sr fun K hK => S.o q.lss (S.end (hK _ ?_))
                              clear hK K
                              refine Ev.ud (fun c18 => ?_) (fun c18 => ?_)
                              · first
                                | (first | omega | contradiction)
                                | refine Ev.seq ?_
                                  refine Ev.block ?_
                                  refine Ev.sr fun K hK => S.o (q.ix am_el22 am_cl40 (hl := (by first | exact ati hidx2 (by omega) | exact atig (by omega)))) (S.o (q.lsA [_, _, _, _, _] am_ag40 am_cl40) (S.nn (q.al am_ze40) (S.sv [_, _, _, _, _] true [] am_in40 am_cl40 (h := S.end (hK _ ?_)))))
                                  clear hK K
                                  refine Ev.sr fun K hK => S.o (q.lvA [_, _, _, _, _] am_ag40 am_cl40) (S.c0 (hF := barMass_fun _ (by assumption)) (h := S.o q.mv (S.o q.ex (S.o q.ex (S.o q.as (S.o q.as (S.end (hK _ ?_))))))))
                                  clear hK K
                                  refine Ev.seq ?_
                                  rw [okE_in hsok]
                                  refine Ev.sr fun K hK => S.o q.mv (S.o q.neq (S.end (hK _ ?_)))
                                  clear hK K
                                  refine Ev.cn (fun c19 => ?_) (fun c19 => ?_)
                                  · first
                                    | (first | omega | contradiction)
                                    | refine Ev.sr fun K hK => S.o q.as (S.end (hK _ ?_))
                                      clear hK K
                                      refine Ev.ret ?_
                                      refine hR2 _ _ ?_
                                      refine Ev.ret1 ?_
                                      refine ⟨?_, rfl⟩
                                      -- leaf 19
                                      first | rfl | exact lawT (by omega) | (exfalso; omega) | exact lawT (by assumption) | (exfalso; contradiction) | (exfalso; have := hlt (by omega); omega) | exact bT (by omega)
                                  · first
                                    | (first | omega | contradiction)
                                    | refine Ev.skip ?_
                                      show Ev _ _ _ _
                                      rw [okV_in hsok]
                                      refine Ev.region_S fun K hK => S.o q.mv (S.o q.mv (S.o q.add (S.o q.as (S.end (hK _ ?_)))))
                                      clear hK K
                                      show Ev _ _ _ _
                                      refine Ev.region_S fun K hK => S.o q.add (S.o q.mv (S.end (hK _ ?_)))
                                      clear hK K
                                      -- back 20
                                      refine hR2 _ _ ?_
                                      refine roundU [] [0, 3, 5, 10, 73, 74, 75, 76, 104, 105] ⟨(pre2 ++ [s], suf2), by rw [← hp2]; simp⟩ ?_ keep_n (slots_c (he := (by first | rfl | (congr 2; simp; done))) (h := (slots_c (he := (by first | rfl | (congr 2; rw [totM_snoc] <;> rfl))) (h := trivial)))) (.c (.c (.c (.c (.c (.c (.c (.c (.c (.c .n))))))))))
                                      skip
                                      all_goals (dsimp only; simp only [List.length_cons]; omega)
                              · first
                                | (first | omega | contradiction)
                                | refine Ev.exit ?_
                                  refine hR2 _ _ ?_
                                  show Ev _ _ _ _
                                  rw [hp]
                                  refine Ev.sr fun K hK => S.o q.mv (S.o q.mv (S.o q.eql (S.bd q.mv (fun c20 => ?_) (fun c20 => ?_))))
                                  · first
                                    | (first | omega | contradiction)
                                    | refine S.o q.mv (S.o q.mv (S.o q.eql (S.o q.pt (S.o q.as (S.end (hK _ ?_))))))
                                      clear hK K
                                      refine Ev.ret ?_
                                      refine Ev.ret1 ?_
                                      refine ⟨?_, rfl⟩
                                      -- leaf 21
                                      first | rfl | exact lawT (by omega) | (exfalso; omega) | exact lawT (by assumption) | (exfalso; contradiction) | (exfalso; have := hlt (by omega); omega) | exact bT (by omega)
                                  · first
                                    | (first | omega | contradiction)
                                    | refine S.sk (S.sk (S.sk (S.o q.pf (S.o q.as (S.end (hK _ ?_))))))
                                      clear hK K
                                      refine Ev.ret ?_
                                      refine Ev.ret1 ?_
                                      refine ⟨?_, rfl⟩
                                      -- leaf 22
                                      first | rfl | exact lawT (by omega) | (exfalso; omega) | exact lawT (by assumption) | (exfalso; contradiction) | (exfalso; have := hlt (by omega); omega) | exact bT (by omega)
                      · simp only [List.length_cons] at hpl
                        have hidx : (massesV l)[pre.length]? = some s := by rw [← hp]; simp
                        obtain ⟨m1, m2, m3⟩ := hmem s (by rw [← hp]; simp)
                        obtain ⟨b1, b2⟩ := hsb s (by rw [← hp]; simp)
                        obtain ⟨v1, v2⟩ := hinv
                        have hlt : ∀ h : 0 < pre.length, (pre.getLast (List.ne_nil_of_length_pos h)).1 < s.1 := fun h => by
                          have h2 := hasc
                          rw [← hp, List.pairwise_append] at h2
                          exact h2.2.2 _ (List.getLast_mem _) s (by simp)
                        have hprev := fun h => pre_last (pre := pre) hp h
                        refine Ev.sr fun K hK => S.o q.lss (S.end (hK _ ?_))
                        clear hK K
                        refine Ev.ud (fun c21 => ?_) (fun c21 => ?_)
                        · first
                          | (first | omega | contradiction)
                          | refine Ev.seq ?_
                            refine Ev.block ?_
                            refine Ev.sr fun K hK => S.o q.mv (S.o (q.ix am_el25 am_cl34 (hl := (by first | exact ati hidx (by omega) | exact ati (hprev (by omega)) (by omega) | exact atig (by omega)))) (S.o (q.lsA [_, _] am_ag34 am_cl34) (S.nn (q.al am_ze34) (S.o q.as (S.sv [_, _] true [] am_in34 am_cl34 (h := S.end (hK _ ?_)))))))
                            clear hK K
                            refine Ev.seq ?_
                            refine Ev.sm (tbs [(0, 0), (1, 1), (2, 3), (3, 7), (4, 15), (3, 7), (3, 7), (7, 71), (8, 231), (9, 487), (10, 999), (11, 2047), (12, 4095), (13, 8191), (14, 16383), (14, 16383), (16, 65535), (17, 131071), (18, 262143)]) 19 fun K hK => M.o q.mv (M.o q.gtr (M.bd q.mv (fun c22 => ?_) (fun c22 => ?_)))
                            · first
                              | (first | omega | contradiction)
                              | refine M.o (q.fa 0 am_fi34_0 am_cl3) (M.o (q.lv am_ag3) (M.o q.mv (M.o q.mv (M.o q.sub (M.o (q.ix am_el25 am_cl34 (hl := (by first | exact ati hidx (by omega) | exact ati (hprev (by omega)) (by omega) | exact atig (by omega)))) (M.o (q.fs 0 am_fi34_0 am_cl3) (M.o (q.ls am_ag3) (M.o q.eql (M.o q.pt (M.bd q.mv (fun c23 => ?_) (fun c23 => ?_)))))))))))
                                · first
                                  | (first | omega | contradiction)
                                  | refine M.sk (M.sk (M.sk (M.sk (M.o q.pt (M.end [_] (h := S.end (hK _ ?_)))))))
                                    clear hK K
                                    refine Ev.ct ?_
                                    refine Ev.sr fun K hK => S.o q.as (S.end (hK _ ?_))
                                    clear hK K
                                    refine Ev.ret ?_
                                    refine hR0 _ _ ?_
                                    refine Ev.ret1 ?_
                                    refine ⟨?_, rfl⟩
                                    -- leaf 23
                                    first | rfl | exact lawT (by omega) | (exfalso; omega) | exact lawT (by assumption) | (exfalso; contradiction) | (exfalso; have := hlt (by omega); omega) | exact bT (by omega)
                                · first
                                  | (first | omega | contradiction)
                                  | refine M.o q.mv (M.o q.mf (M.c0 (hF := containsFuncBar1 _ _ _ (size2_fun s) l (by omega)) (h := M.o q.not (M.o q.pf (M.end [_] (h := S.end (hK _ ?_)))))))
                                    clear hK K
                                    refine Ev.cn (fun c24 => ?_) (fun c24 => ?_)
                                    · first
                                      | (first | omega | contradiction)
                                      | refine Ev.sr fun K hK => S.o q.as (S.end (hK _ ?_))
                                        clear hK K
                                        refine Ev.ret ?_
                                        refine hR0 _ _ ?_
                                        refine Ev.ret1 ?_
                                        refine ⟨?_, rfl⟩
                                        -- leaf 24
                                        first | rfl | exact lawT (by omega) | (exfalso; omega) | exact lawT (by assumption) | (exfalso; contradiction) | (exfalso; have := hlt (by omega); omega) | exact bT (by omega)
                                    · first
                                      | (first | omega | contradiction)
                                      | refine Ev.skip ?_
                                        show Ev _ _ _ _
                                        refine Ev.region_S fun K hK => S.o q.mv (S.o (q.fa 1 am_fi34_1 am_cl3) (S.o (q.lv am_ag3) (S.o q.add (S.o q.as (S.end (hK _ ?_))))))
                                        clear hK K
                                        show Ev _ _ _ _
                                        refine Ev.region_S fun K hK => S.o q.add (S.o q.mv (S.end (hK _ ?_)))
                                        clear hK K
                                        -- back 25
                                        refine hR0 _ _ ?_
                                        refine roundU [] [0, 3, 5, 11, 73, 74] ⟨(pre ++ [s], suf), by rw [← hp]; simp, ?_⟩ ?_ keep_n (slots_c (he := (by first | rfl | (congr 2; simp; done))) (h := (slots_c (he := (by first | rfl | (congr 2; rw [List.map_append, sumI_app, show sumI ([s].map (·.2)) = s.2 by simp [sumI]]; done))) (h := trivial)))) (.c (.c (.c (.c (.c (.c .n))))))
                                        (rw [List.map_append, sumI_app, List.length_append, List.length_singleton, show sumI ([s].map (·.2)) = s.2 by simp [sumI]]; omega)
                                        all_goals (dsimp only; simp only [List.length_cons]; omega)
                            · first
                              | (first | omega | contradiction)
                              | refine M.sk (M.sk (M.sk (M.sk (M.sk (M.sk (M.sk (M.sk (M.sk (M.o q.pf (M.o q.mv (M.o q.mv (M.o q.mf (M.c0 (hF := containsFuncBar1 _ _ _ (size2_fun s) l (by omega)) (h := M.o q.not (M.o q.pf (M.end [_] (h := S.end (hK _ ?_))))))))))))))))))
                                clear hK K
                                refine Ev.cn (fun c25 => ?_) (fun c25 => ?_)
                                · first
                                  | (first | omega | contradiction)
                                  | refine Ev.sr fun K hK => S.o q.as (S.end (hK _ ?_))
                                    clear hK K
                                    refine Ev.ret ?_
                                    refine hR0 _ _ ?_
                                    refine Ev.ret1 ?_
                                    refine ⟨?_, rfl⟩
                                    -- leaf 26
                                    first | rfl | exact lawT (by omega) | (exfalso; omega) | exact lawT (by assumption) | (exfalso; contradiction) | (exfalso; have := hlt (by omega); omega) | exact bT (by omega)
                                · first
                                  | (first | omega | contradiction)
                                  | refine Ev.skip ?_
                                    show Ev _ _ _ _
                                    refine Ev.region_S fun K hK => S.o q.mv (S.o (q.fa 1 am_fi34_1 am_cl3) (S.o (q.lv am_ag3) (S.o q.add (S.o q.as (S.end (hK _ ?_))))))
                                    clear hK K
                                    show Ev _ _ _ _
                                    refine Ev.region_S fun K hK => S.o q.add (S.o q.mv (S.end (hK _ ?_)))
                                    clear hK K
                                    -- back 27
                                    refine hR0 _ _ ?_
                                    refine roundU [] [0, 3, 5, 11, 73, 74] ⟨(pre ++ [s], suf), by rw [← hp]; simp, ?_⟩ ?_ keep_n (slots_c (he := (by first | rfl | (congr 2; simp; done))) (h := (slots_c (he := (by first | rfl | (congr 2; rw [List.map_append, sumI_app, show sumI ([s].map (·.2)) = s.2 by simp [sumI]]; done))) (h := trivial)))) (.c (.c (.c (.c (.c (.c .n))))))
                                    (rw [List.map_append, sumI_app, List.length_append, List.length_singleton, show sumI ([s].map (·.2)) = s.2 by simp [sumI]]; omega)
                                    all_goals (dsimp only; simp only [List.length_cons]; omega)
                        · first
                          | (first | omega | contradiction)
                          | refine Ev.exit ?_
                            refine hR0 _ _ ?_
                            show Ev _ _ _ _
                            refine Ev.seq ?_
                            refine Ev.sr fun K hK => S.o q.mv (S.o (q.lens am_el22) (S.o q.mv (S.end (hK _ ?_))))
                            clear hK K
                            refine Ev.block ?_
                            refine Ev.loopU (ι := {q : List Bar × List Bar // q.1 ++ q.2 = l}) [] [0, 3, 5, 10, 73, 74, 75, 76, 104, 105] (fun ⟨(pre2, suf2), _⟩ => [(106, .lit (.int .i64 ((pre2.length : Int)))), (11, .lit (.int .i64 (totM pre2)))]) (fun ⟨(pre2, suf2), _⟩ => []) (fun ⟨(pre2, suf2), _⟩ => suf2.length) ⟨([], l), rfl⟩ (.c (.c (.c (.c (.c (.c (.c (.c (.c (.c .n)))))))))) keep_n (slots_c (he := (by first | rfl | (congr 2; simp; done))) (h := (slots_c (he := (by first | rfl | (congr 2; rw [totM_snoc] <;> rfl))) (h := trivial)))) ?_
                            rintro ⟨⟨pre2, suf2⟩, hp2⟩ R2 hR2
                            dsimp only [List.cons_append, List.nil_append, List.length_cons, List.length_nil]
                            simp only at hp2
                            have hpl2 : pre2.length + suf2.length = l.length := by rw [← hp2, List.length_append]
                            rcases suf2 with _ | ⟨s, suf2⟩
                            · rw [List.append_nil] at hp2; simp only [List.length_nil] at hpl2
                              have hfin2 : totM pre2 = totV l := by rw [hp2, e3]
                              refine Ev.sr fun K hK => S.o q.lss (S.end (hK _ ?_))
                              clear hK K
                              refine Ev.ud (fun c26 => ?_) (fun c26 => ?_)
                              · first
                                | (first | omega | contradiction)
                                | refine Ev.seq ?_
                                  refine Ev.block ?_
                                  refine Ev.sr fun K hK => S.o (q.ix am_el22 am_cl40 (hl := (by first | exact ati hidx (by omega) | exact ati (hprev (by omega)) (by omega) | exact atig (by omega)))) (S.o (q.lsA [_, _, _, _, _] am_ag40 am_cl40) (S.nn (q.al am_ze40) (S.sv [_, _, _, _, _] true [] am_in40 am_cl40 (h := S.end (hK _ ?_)))))
                                  clear hK K
                                  refine Ev.sr fun K hK => S.o (q.lvA [_, _, _, _, _] am_ag40 am_cl40) (S.c0 (hF := barMass_fun _ (by assumption)) (h := S.o q.mv (S.o q.ex (S.o q.ex (S.o q.as (S.o q.as (S.end (hK _ ?_))))))))
                                  clear hK K
                                  refine Ev.seq ?_
                                  rw [okE_in hsok]
                                  refine Ev.sr fun K hK => S.o q.mv (S.o q.neq (S.end (hK _ ?_)))
                                  clear hK K
                                  refine Ev.cn (fun c27 => ?_) (fun c27 => ?_)
                                  · first
                                    | (first | omega | contradiction)
                                    | refine Ev.sr fun K hK => S.o q.as (S.end (hK _ ?_))
                                      clear hK K
                                      refine Ev.ret ?_
                                      refine hR2 _ _ ?_
                                      refine Ev.ret1 ?_
                                      refine ⟨?_, rfl⟩
                                      -- leaf 28
                                      first | rfl | exact lawT (by omega) | (exfalso; omega) | exact lawT (by assumption) | (exfalso; contradiction) | (exfalso; have := hlt (by omega); omega) | exact bT (by omega)
                                  · first
                                    | (first | omega | contradiction)
                                    | refine Ev.skip ?_
                                      show Ev _ _ _ _
                                      rw [okV_in hsok]
                                      refine Ev.region_S fun K hK => S.o q.mv (S.o q.mv (S.o q.add (S.o q.as (S.end (hK _ ?_)))))
                                      clear hK K
                                      show Ev _ _ _ _
                                      refine Ev.region_S fun K hK => S.o q.add (S.o q.mv (S.end (hK _ ?_)))
                                      clear hK K
                                      -- back 29
                                      refine hR2 _ _ ?_
                                      refine roundU [] [0, 3, 5, 10, 73, 74, 75, 76, 104, 105] ⟨(pre2 ++ [s], suf2), by rw [← hp2]; simp⟩ ?_ keep_n (slots_c (he := (by first | rfl | (congr 2; simp; done))) (h := (slots_c (he := (by first | rfl | (congr 2; rw [totM_snoc] <;> rfl))) (h := trivial)))) (.c (.c (.c (.c (.c (.c (.c (.c (.c (.c .n))))))))))
                                      skip
                                      all_goals (dsimp only; simp only [List.length_cons]; omega)
                              · first
                                | (first | omega | contradiction)
                                | refine Ev.exit ?_
                                  refine hR2 _ _ ?_
                                  show Ev _ _ _ _
                                  rw [hp]
                                  refine Ev.sr fun K hK => S.o q.mv (S.o q.mv (S.o q.eql (S.bd q.mv (fun c28 => ?_) (fun c28 => ?_))))
                                  · first
                                    | (first | omega | contradiction)
                                    | refine S.o q.mv (S.o q.mv (S.o q.eql (S.o q.pt (S.o q.as (S.end (hK _ ?_))))))
                                      clear hK K
                                      refine Ev.ret ?_
                                      refine Ev.ret1 ?_
                                      refine ⟨?_, rfl⟩
                                      -- leaf 30
                                      first | rfl | exact lawT (by omega) | (exfalso; omega) | exact lawT (by assumption) | (exfalso; contradiction) | (exfalso; have := hlt (by omega); omega) | exact bT (by omega)
                                  · first
                                    | (first | omega | contradiction)
                                    | refine S.sk (S.sk (S.sk (S.o q.pf (S.o q.as (S.end (hK _ ?_))))))
                                      clear hK K
                                      refine Ev.ret ?_
                                      refine Ev.ret1 ?_
                                      refine ⟨?_, rfl⟩
                                      -- leaf 31
                                      first | rfl | exact lawT (by omega) | (exfalso; omega) | exact lawT (by assumption) | (exfalso; contradiction) | (exfalso; have := hlt (by omega); omega) | exact bT (by omega)
                            · simp only [List.length_cons] at hpl2
                              have hidx2 : l[pre2.length]? = some s := by rw [← hp2]; simp
                              have hsok : okBar s := hok.2.1 s (by rw [← hp2]; simp)
                              have hsw : s.w := hw s (by rw [← hp2]; simp)
                              obtain ⟨_, _, g3, g4⟩ := barMass_bd hsok
                              obtain ⟨⟨t1, t2⟩, _⟩ := totM_bd pre2 (fun b hb => hok.2.1 b (by rw [← hp2]; simp [hb]))
                              refine Ev.sr fun K hK => S.o q.lss (S.end (hK _ ?_))
                              clear hK K
                              refine Ev.ud (fun c29 => ?_) (fun c29 => ?_)
                              · first
                                | (first | omega | contradiction)
                                | refine Ev.seq ?_
                                  refine Ev.block ?_
                                  refine Ev.sr fun K hK => S.o (q.ix am_el22 am_cl40 (hl := (by first | exact ati hidx (by omega) | exact ati (hprev (by omega)) (by omega) | exact ati hidx2 (by omega) | exact atig (by omega)))) (S.o (q.lsA [_, _, _, _, _] am_ag40 am_cl40) (S.nn (q.al am_ze40) (S.sv [_, _, _, _, _] true [] am_in40 am_cl40 (h := S.end (hK _ ?_)))))
                                  clear hK K
                                  refine Ev.sr fun K hK => S.o (q.lvA [_, _, _, _, _] am_ag40 am_cl40) (S.c0 (hF := barMass_fun _ (by assumption)) (h := S.o q.mv (S.o q.ex (S.o q.ex (S.o q.as (S.o q.as (S.end (hK _ ?_))))))))
                                  clear hK K
                                  refine Ev.seq ?_
                                  rw [okE_in hsok]
                                  refine Ev.sr fun K hK => S.o q.mv (S.o q.neq (S.end (hK _ ?_)))
                                  clear hK K
                                  refine Ev.cn (fun c30 => ?_) (fun c30 => ?_)
                                  · first
                                    | (first | omega | contradiction)
                                    | refine Ev.sr fun K hK => S.o q.as (S.end (hK _ ?_))
                                      clear hK K
                                      refine Ev.ret ?_
                                      refine hR2 _ _ ?_
                                      refine Ev.ret1 ?_
                                      refine ⟨?_, rfl⟩
                                      -- leaf 32
                                      first | rfl | exact lawT (by omega) | (exfalso; omega) | exact lawT (by assumption) | (exfalso; contradiction) | (exfalso; have := hlt (by omega); omega) | exact bT (by omega)
                                  · first
                                    | (first | omega | contradiction)
                                    | refine Ev.skip ?_
                                      show Ev _ _ _ _
                                      rw [okV_in hsok]
                                      refine Ev.region_S fun K hK => S.o q.mv (S.o q.mv (S.o q.add (S.o q.as (S.end (hK _ ?_)))))
                                      clear hK K
                                      show Ev _ _ _ _
                                      refine Ev.region_S fun K hK => S.o q.add (S.o q.mv (S.end (hK _ ?_)))
                                      clear hK K
                                      -- back 33
                                      refine hR2 _ _ ?_
                                      refine roundU [] [0, 3, 5, 10, 73, 74, 75, 76, 104, 105] ⟨(pre2 ++ [s], suf2), by rw [← hp2]; simp⟩ ?_ keep_n (slots_c (he := (by first | rfl | (congr 2; simp; done))) (h := (slots_c (he := (by first | rfl | (congr 2; rw [totM_snoc] <;> rfl))) (h := trivial)))) (.c (.c (.c (.c (.c (.c (.c (.c (.c (.c .n))))))))))
                                      skip
                                      all_goals (dsimp only; simp only [List.length_cons]; omega)
                              · first
                                | (first | omega | contradiction)
                                | refine Ev.exit ?_
                                  refine hR2 _ _ ?_
                                  show Ev _ _ _ _
                                  rw [hp]
                                  refine Ev.sr fun K hK => S.o q.mv (S.o q.mv (S.o q.eql (S.bd q.mv (fun c31 => ?_) (fun c31 => ?_))))
                                  · first
                                    | (first | omega | contradiction)
                                    | refine S.o q.mv (S.o q.mv (S.o q.eql (S.o q.pt (S.o q.as (S.end (hK _ ?_))))))
                                      clear hK K
                                      refine Ev.ret ?_
                                      refine Ev.ret1 ?_
                                      refine ⟨?_, rfl⟩
                                      -- leaf 34
                                      first | rfl | exact lawT (by omega) | (exfalso; omega) | exact lawT (by assumption) | (exfalso; contradiction) | (exfalso; have := hlt (by omega); omega) | exact bT (by omega)
                                  · first
                                    | (first | omega | contradiction)
                                    | refine S.sk (S.sk (S.sk (S.o q.pf (S.o q.as (S.end (hK _ ?_))))))
                                      clear hK K
                                      refine Ev.ret ?_
                                      refine Ev.ret1 ?_
                                      refine ⟨?_, rfl⟩
                                      -- leaf 35
                                      first | rfl | exact lawT (by omega) | (exfalso; omega) | exact lawT (by assumption) | (exfalso; contradiction) | (exfalso; have := hlt (by omega); omega) | exact bT (by omega)
end Go.Proofs.Ytappnbebcjmlbaa
