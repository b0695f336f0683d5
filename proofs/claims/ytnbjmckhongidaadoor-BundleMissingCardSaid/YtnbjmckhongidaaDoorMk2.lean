/-
  The answer: making bundles, equality.
  Conditions: none.
-/
import Derived.Test.YtnbjmckhongidaaDoorMk1
import Derived.Test.YtnbjmckhongidaaDoorDig
import Derived.Test.YtnbjmckhongidaaDoorRbend
namespace Go.Proofs.YtnbjmckhongidaaDoor
open Go Go.AM
set_option linter.unusedSimpArgs false
set_option linter.unusedVariables false
set_option maxRecDepth 100000
set_option maxHeartbeats 1000000

theorem fill_app (most : Int) (pre : List Bar) (q : List Unit2) : units most pre ++ q ++ [] = units most pre ++ q := List.append_nil _
theorem rmake_fun (l : List Bar) (most : Int) (hlen : l.length ≤ 140737488355328) (hw : schedW l) : Fun Tryd.prog 12 [.sh 5 (l.map Bar.c), .lit (.int .i64 most)] (Ret (.tup [.sh 4 ((makeV l most).map Bundle.c), .lit (.int .i64 (makeE l most))]) []) := by
  refine Fun.of (nt := 84) (rs := [.tmp 4, .tmp 5]) Tryd.func12 rfl rfl rfl rfl rfl ?_
  refine Ev.sr fun K hK => S.o q.as (S.o q.as (S.end (hK _ ?_)))
  clear hK K
  refine Ev.seq ?_
  refine Ev.sr fun K hK => S.o q.mv (S.c0 (hF := rschedValid_fun _ (by omega) (by assumption)) (h := S.o q.not (S.end (hK _ ?_))))
  clear hK K
  refine Ev.cn (fun c1 => ?_) (fun c1 => ?_)
  · first
  | (first | omega | contradiction)
  | refine Ev.sr fun K hK => S.o q.as (S.o q.as (S.end (hK _ ?_)))
    clear hK K
    refine Ev.weaken (Wk.nsh Bundle.c 4 4) ?_
    refine Ev.ret ?_
    refine Ev.ret2 ?_
    refine ⟨?_, rfl⟩
    first
     | (rw [(mk1 ‹¬ okSched l›).1, (mk1 (most := most) ‹¬ okSched l›).2]; done)
     | (rw [(mk2 ‹okSched l› (by omega)).1, (mk2 (most := most) ‹okSched l› (by omega)).2]; done)
     | (rw [(mk3 hS hR ⟨s, by rw [← hp]; simp, decide_eq_true ‹_›⟩).1, (mk3 hS hR ⟨s, by rw [← hp]; simp, decide_eq_true ‹_›⟩).2]; done)
     | (have h4 := fill_full hp2 hsok hm1 (by omega) hq (by rw [bunL_len] at *; omega); rw [(mk4 hS hR hO h4).1, (mk4 hS hR hO h4).2]; done)
     | (rw [(mk0 hS hR hO hinv2).1, (mk0 hS hR hO hinv2).2]; done)
  · first
  | (first | omega | contradiction)
  | refine Ev.skip ?_
    show Ev _ _ _ _
    refine Ev.seq ?_
    have hS : okSched l := ‹okSched l›
    refine Ev.sr fun K hK => S.o q.mv (S.o q.lss (S.bd q.mv (fun c2 => ?_) (fun c2 => ?_)))
    · first
    | (first | omega | contradiction)
    | refine S.sk (S.sk (S.o q.pt (S.end (hK _ ?_))))
      clear hK K
      refine Ev.ct ?_
      refine Ev.sr fun K hK => S.o q.as (S.o q.as (S.end (hK _ ?_)))
      clear hK K
      refine Ev.weaken (Wk.nsh Bundle.c 4 4) ?_
      refine Ev.ret ?_
      refine Ev.ret2 ?_
      refine ⟨?_, rfl⟩
      first
       | (rw [(mk1 ‹¬ okSched l›).1, (mk1 (most := most) ‹¬ okSched l›).2]; done)
       | (rw [(mk2 ‹okSched l› (by omega)).1, (mk2 (most := most) ‹okSched l› (by omega)).2]; done)
       | (rw [(mk3 hS hR ⟨s, by rw [← hp]; simp, decide_eq_true ‹_›⟩).1, (mk3 hS hR ⟨s, by rw [← hp]; simp, decide_eq_true ‹_›⟩).2]; done)
       | (have h4 := fill_full hp2 hsok hm1 (by omega) hq (by rw [bunL_len] at *; omega); rw [(mk4 hS hR hO h4).1, (mk4 hS hR hO h4).2]; done)
       | (rw [(mk0 hS hR hO hinv2).1, (mk0 hS hR hO hinv2).2]; done)
    · first
    | (first | omega | contradiction)
    | refine S.o q.mv (S.o q.gtr (S.o q.pf (S.end (hK _ ?_))))
      clear hK K
      refine Ev.cd (fun c3 => ?_) (fun c3 => ?_)
      · first
      | (first | omega | contradiction)
      | refine Ev.sr fun K hK => S.o q.as (S.o q.as (S.end (hK _ ?_)))
        clear hK K
        refine Ev.weaken (Wk.nsh Bundle.c 4 4) ?_
        refine Ev.ret ?_
        refine Ev.ret2 ?_
        refine ⟨?_, rfl⟩
        first
         | (rw [(mk1 ‹¬ okSched l›).1, (mk1 (most := most) ‹¬ okSched l›).2]; done)
         | (rw [(mk2 ‹okSched l› (by omega)).1, (mk2 (most := most) ‹okSched l› (by omega)).2]; done)
         | (rw [(mk3 hS hR ⟨s, by rw [← hp]; simp, decide_eq_true ‹_›⟩).1, (mk3 hS hR ⟨s, by rw [← hp]; simp, decide_eq_true ‹_›⟩).2]; done)
         | (have h4 := fill_full hp2 hsok hm1 (by omega) hq (by rw [bunL_len] at *; omega); rw [(mk4 hS hR hO h4).1, (mk4 hS hR hO h4).2]; done)
         | (rw [(mk0 hS hR hO hinv2).1, (mk0 hS hR hO hinv2).2]; done)
      · first
      | (first | omega | contradiction)
      | refine Ev.skip ?_
        show Ev _ _ _ _
        refine Ev.seq ?_
        have hR : 1 ≤ most ∧ most ≤ 1099511627776 := by omega
        refine Ev.sr fun K hK => S.o q.as (S.end (hK _ ?_))
        clear hK K
        refine Ev.block ?_
        refine Ev.loopU (ι := {p : List (Bar) × List (Bar) // p.1 ++ p.2 = l ∧ ∀ b ∈ p.1, oneOf b ≤ most}) [] [0, 1] (fun ⟨(pre, suf), _⟩ => [(6, .lit (.int .i64 ((pre.length : Int))))]) (fun ⟨(pre, suf), _⟩ => []) (fun ⟨(pre, suf), _⟩ => suf.length) ⟨([], l), rfl, fun b hb => by simp at hb⟩ (.c (.c .n)) keep_n (slots_c (he := (by first | rfl | (simp; done) | (congr 2; omega))) (h := trivial)) ?_
        rintro ⟨⟨pre, suf⟩, hp, hinv⟩ R0 hR0
        dsimp only [List.cons_append, List.nil_append, List.length_cons, List.length_nil]
        simp only at hp hinv
        have hpl : pre.length + suf.length = (l).length := by rw [← hp, List.length_append]
        rcases suf with _ | ⟨s, suf⟩
        · rw [List.append_nil] at hp; subst pre; simp only [List.length_nil] at hpl
          refine Ev.seq ?_
          refine Ev.sr fun K hK => S.o q.mv (S.o q.mv (S.o (q.lens am_el22) (S.o q.lss (S.end (hK _ ?_)))))
          clear hK K
          refine Ev.cd (fun c4 => ?_) (fun c4 => ?_)
          · first | omega | contradiction
          · first
          | (first | omega | contradiction)
          | refine Ev.exit ?_
            refine hR0 _ _ ?_
            show Ev _ _ _ _
            have hO : ¬ overP most l := over_no hinv
            refine Ev.sr fun K hK => S.o q.as (S.end (hK _ ?_))
            clear hK K
            refine Ev.seq ?_
            refine Ev.sr fun K hK => S.o q.as (S.end (hK _ ?_))
            clear hK K
            refine Ev.block ?_
            refine Ev.weaken (Wk.nown Bundle.c 7 46 4) ?_
            refine Ev.loopU (ι := {p : List Bar × List Bar // p.1 ++ p.2 = l ∧ (units most p.1).length ≤ 1000}) [0] [0, 1, 6, 20, 21, 22, 23] (fun ⟨(pre2, suf2), _⟩ => [(8, .lit (.int .i64 ((pre2.length : Int)))), (7, .als 0 0 (bunL 0 (units most pre2)).length)]) (fun ⟨(pre2, suf2), _⟩ => [(0, ⟨true, 46, 4, (bunL 0 (units most pre2)).map Bundle.c, true⟩)]) (fun ⟨(pre2, suf2), _⟩ => suf2.length) ⟨([], l), rfl, by rw [units_nil]; decide⟩ (.c (.c (.c (.c (.c (.c (.c .n))))))) (keep_c (he := (by first | rfl | (rw [List.append_nil]; done) | (rw [← List.append_assoc, ← bunN_snoc _ _ _ hbq, List.map_append]; done) | (rw [fill_done (by omega) hq, ← units_snoc]; done))) (h := keep_n)) (slots_c (he := (by first | rfl | (congr 2; simp; done))) (h := (slots_c (he := (by first | rfl | (rw [List.append_nil]; done) | (refine congrArg (AV.als _ 0) ?_; simp only [bunL_len, List.length_append, List.length_cons, List.length_nil, List.length_map]; omega) | (rw [fill_done (by omega) hq, ← units_snoc]; done))) (h := trivial)))) ?_
            rintro ⟨⟨pre2, suf2⟩, hp2, hinv2⟩ R2 hR2
            dsimp only [List.cons_append, List.nil_append, List.length_cons, List.length_nil]
            simp only at hp2 hinv2
            have hpl2 : pre2.length + suf2.length = l.length := by rw [← hp2, List.length_append]
            rcases suf2 with _ | ⟨s, suf2⟩
            · rw [List.append_nil] at hp2; subst hp2; simp only [List.length_nil] at hpl2
              refine Ev.seq ?_
              refine Ev.sr fun K hK => S.o q.mv (S.o q.mv (S.o (q.lens am_el22) (S.o q.lss (S.end (hK _ ?_)))))
              clear hK K
              refine Ev.cd (fun c5 => ?_) (fun c5 => ?_)
              · first | omega | contradiction
              · first
              | (first | omega | contradiction)
              | refine Ev.exit ?_
                refine hR2 _ _ ?_
                show Ev _ _ _ _
                refine Ev.sr fun K hK => S.o q.mv (S.o q.as (S.o q.as (S.end (hK _ ?_))))
                clear hK K
                refine Ev.weaken (Wk.frz 4 []) ?_
                refine Ev.ret ?_
                refine Ev.ret2 ?_
                refine ⟨?_, rfl⟩
                first
                 | (rw [(mk1 ‹¬ okSched l›).1, (mk1 (most := most) ‹¬ okSched l›).2]; done)
                 | (rw [(mk2 ‹okSched l› (by omega)).1, (mk2 (most := most) ‹okSched l› (by omega)).2]; done)
                 | (rw [(mk3 hS hR ⟨s, by rw [← hp]; simp, decide_eq_true ‹_›⟩).1, (mk3 hS hR ⟨s, by rw [← hp]; simp, decide_eq_true ‹_›⟩).2]; done)
                 | (have h4 := fill_full hp2 hsok hm1 (by omega) hq (by rw [bunL_len] at *; omega); rw [(mk4 hS hR hO h4).1, (mk4 hS hR hO h4).2]; done)
                 | (rw [(mk0 hS hR hO hinv2).1, (mk0 hS hR hO hinv2).2]; done)
            · simp only [List.length_cons] at hpl2
              have hidx2 : l[pre2.length]? = some s := by rw [← hp2]; simp
              have hsok : okBar s := hS.2.1 s (by rw [← hp2]; simp)
              have hm1 := not_over hO s (by rw [← hp2]; simp)
              obtain ⟨o1, o2⟩ := one_bd hsok
              obtain ⟨w1, w2⟩ := whole_pos hsok hm1
              have hbl := bunL_len (units most pre2) 0
              have hsc := hsok.2.2.2.1
              have hsc0 := hsok.2.2.1
              refine Ev.seq ?_
              refine Ev.sr fun K hK => S.o q.mv (S.o q.mv (S.o (q.lens am_el22) (S.o q.lss (S.end (hK _ ?_)))))
              clear hK K
              refine Ev.cd (fun c6 => ?_) (fun c6 => ?_)
              · first
              | (first | omega | contradiction)
              | refine Ev.skip ?_
                show Ev _ _ _ _
                refine Ev.seq ?_
                refine Ev.block ?_
                refine Ev.sr fun K hK => S.o q.mv (S.o q.mv (S.o (q.ix am_el22 am_cl42 (hl := (by first | exact ati hidx (by omega) | exact ati hidx2 (by omega) | exact ati hidx2 (by omega) | exact atig (by omega)))) (S.o (q.fs 2 am_fi42_2 am_cl3) (S.o (q.ls am_ag3) (S.o q.as (S.end (hK _ ?_)))))))
                clear hK K
                refine Ev.block ?_
                refine Ev.loopU (ι := {q : List Unit2 × Int // q.1 ++ (chunks (most / oneOf s) q.2).map (fun n => (s, n)) = unitsB most s ∧ 0 ≤ q.2 ∧ q.2 ≤ 1000 ∧ (units most pre2 ++ q.1).length ≤ 1000}) [0] [0, 1, 6, 8, 20, 21, 22, 23, 33, 34, 35, 36, 39, 40, 41, 42, 43] (fun ⟨(us, left), _⟩ => [(9, .lit (.int .i64 (left))), (7, .als 0 0 (bunL 0 (units most pre2 ++ us)).length)]) (fun ⟨(us, left), _⟩ => [(0, ⟨true, 46, 4, (bunL 0 (units most pre2 ++ us)).map Bundle.c, true⟩)]) (fun ⟨(us, left), _⟩ => left.toNat) ⟨([], s.count), rfl, by dsimp only; omega, by dsimp only; omega, by rw [List.append_nil]; exact hinv2⟩ (.c (.c (.c (.c (.c (.c (.c (.c (.c (.c (.c (.c (.c (.c (.c (.c (.c .n))))))))))))))))) (keep_c (he := (by first | rfl | (rw [List.append_nil]; done) | (rw [← List.append_assoc, ← bunN_snoc _ _ _ hbq, List.map_append]; done) | (rw [fill_done (by omega) hq, ← units_snoc]; done))) (h := keep_n)) (slots_c (he := (by rfl)) (h := (slots_c (he := (by first | rfl | (rw [List.append_nil]; done) | (refine congrArg (AV.als _ 0) ?_; simp only [bunL_len, List.length_append, List.length_cons, List.length_nil, List.length_map]; omega) | (rw [fill_done (by omega) hq, ← units_snoc]; done))) (h := trivial)))) ?_
                rintro ⟨⟨us, left⟩, hq, hl0, hl1, hql⟩ R4 hR4
                dsimp only [List.cons_append, List.nil_append, List.length_cons, List.length_nil]
                simp only at hq hl0 hl1 hql
                have hbq := bunL_len (units most pre2 ++ us) 0
                refine Ev.seq ?_
                refine Ev.sr fun K hK => S.o q.mv (S.o q.gtr (S.end (hK _ ?_)))
                clear hK K
                refine Ev.cd (fun c7 => ?_) (fun c7 => ?_)
                · first
                | (first | omega | contradiction)
                | refine Ev.skip ?_
                  show Ev _ _ _ _
                  refine Ev.block ?_
                  refine Ev.sr fun K hK => S.o q.mv (S.o q.mv (S.o q.mv (S.o q.mv (S.o (q.ix am_el22 am_cl42 (hl := (by first | exact ati hidx (by omega) | exact ati hidx2 (by omega) | exact ati hidx2 (by omega) | exact atig (by omega)))) (S.o (q.lsA [_, _, _, _, _] am_ag42 am_cl42) (S.c0 (hF := one_fun _ (by assumption)) (h := S.o q.quo (S.o q.min (S.o q.as (S.end (hK _ ?_)))))))))))
                  clear hK K
                  refine Ev.seq ?_
                  refine Ev.sr fun K hK => S.o q.mv (S.o (q.lena am_el25) (S.o q.eql (S.end (hK _ ?_))))
                  clear hK K
                  refine Ev.cd (fun c8 => ?_) (fun c8 => ?_)
                  · first
                  | (first | omega | contradiction)
                  | refine Ev.sr fun K hK => S.o q.as (S.o q.as (S.end (hK _ ?_)))
                    clear hK K
                    refine Ev.weaken (Wk.nsh Bundle.c 4 4) ?_
                    refine Ev.ret ?_
                    refine hR4 _ _ ?_
                    refine hR2 _ _ ?_
                    refine Ev.ret2 ?_
                    refine ⟨?_, rfl⟩
                    first
                     | (rw [(mk1 ‹¬ okSched l›).1, (mk1 (most := most) ‹¬ okSched l›).2]; done)
                     | (rw [(mk2 ‹okSched l› (by omega)).1, (mk2 (most := most) ‹okSched l› (by omega)).2]; done)
                     | (rw [(mk3 hS hR ⟨s, by rw [← hp]; simp, decide_eq_true ‹_›⟩).1, (mk3 hS hR ⟨s, by rw [← hp]; simp, decide_eq_true ‹_›⟩).2]; done)
                     | (have h4 := fill_full hp2 hsok hm1 (by omega) hq (by rw [bunL_len] at *; omega); rw [(mk4 hS hR hO h4).1, (mk4 hS hR hO h4).2]; done)
                     | (rw [(mk0 hS hR hO hinv2).1, (mk0 hS hR hO hinv2).2]; done)
                  · first
                  | (first | omega | contradiction)
                  | refine Ev.skip ?_
                    show Ev _ _ _ _
                    obtain ⟨u1, u2, u3⟩ := unit_mass hsok hm1 hR.2 (show 0 < left by omega)
                    have hil := itoa_len (N := ((bunL 0 (units most pre2 ++ us)).length : Int) + 1) (by omega) (by omega)
                    refine Ev.sm (tbs [(0, 0), (0, 0), (2, 2), (3, 6), (4, 14), (5, 30), (0, 0), (0, 0), (8, 192), (9, 448), (10, 960), (0, 0), (0, 0), (0, 0), (0, 0), (15, 24576), (16, 57344), (17, 122910), (18, 258078), (19, 524286), (20, 1048574), (21, 2097151), (22, 4194303)]) 21 fun K hK => M.o q.mv (M.o q.mv (M.o (q.lena am_el25) (M.o q.add (M.c0 (hF := number_fun _ (by omega) (by omega)) (h := M.o q.sadd (M.o q.mv (M.o q.mv (M.o (q.ix am_el22 am_cl42 (hl := (by first | exact ati hidx (by omega) | exact ati hidx2 (by omega) | exact ati hidx2 (by omega) | exact atig (by omega)))) (M.o (q.fs 0 am_fi42_0 am_cl9) (M.o (q.ls am_ag9) (M.o q.mv (M.o q.mv (M.o q.mv (M.o q.mv (M.o (q.ix am_el22 am_cl42 (hl := (by first | exact ati hidx (by omega) | exact ati hidx2 (by omega) | exact ati hidx2 (by omega) | exact atig (by omega)))) (M.o (q.lsA [_, _, _, _, _] am_ag42 am_cl42) (M.c0 (hF := one_fun _ (by assumption)) (h := M.o q.mul (M.o (q.bd [_, _, _, _] am_ze46 am_pl46) (M.nn [_] (q.bs [[_, _, _, _]] true am_el25 am_ze46 am_cl46) (h := M.end [_, _] (h := S.ap' [_] am_el25 am_ze46 am_cl46 am_by46 (hh := head_own') (hr := (rows_lit [bun (bunL 0 (units most pre2 ++ us)).length (s, min left (most / oneOf s))])) (h := S.o q.as (S.end (hK _ ?_)))))))))))))))))))))))))
                    clear hK K
                    refine Ev.region_S fun K hK => S.o q.mv (S.o q.mv (S.o q.sub (S.o q.as (S.end (hK _ ?_)))))
                    clear hK K
                    refine hR4 _ _ ?_
                    refine roundU [85] [0, 1, 6, 8, 20, 21, 22, 23, 33, 34, 35, 36, 39, 40, 41, 42, 43] ⟨(us ++ [(s, min left (most / oneOf s))], left - min left (most / oneOf s)), fill_more hsok hm1 (by omega) hq, by dsimp only; omega, by dsimp only; omega, by rw [← List.append_assoc, List.length_append, List.length_singleton]; omega⟩ ?_ (keep_c (he := (by first | rfl | (rw [List.append_nil]; done) | (rw [← List.append_assoc, ← bunN_snoc _ _ _ hbq, List.map_append]; done) | (rw [fill_done (by omega) hq, ← units_snoc]; done))) (h := keep_n)) (slots_c (he := (by rfl)) (h := (slots_c (he := (by first | rfl | (rw [List.append_nil]; done) | (refine congrArg (AV.als _ 0) ?_; simp only [bunL_len, List.length_append, List.length_cons, List.length_nil, List.length_map]; omega) | (rw [fill_done (by omega) hq, ← units_snoc]; done))) (h := trivial)))) (.c (.c (.c (.c (.c (.c (.c (.c (.c (.c (.c (.c (.c (.c (.c (.c (.c .n)))))))))))))))))
                    skip
                    all_goals (dsimp only; omega)
                · first
                | (first | omega | contradiction)
                | refine Ev.exit ?_
                  refine hR4 _ _ ?_
                  show Ev _ _ _ _
                  refine Ev.region_S fun K hK => S.o q.mv (S.o q.add (S.o q.as (S.end (hK _ ?_))))
                  clear hK K
                  refine hR2 _ _ ?_
                  refine roundU [0] [0, 1, 6, 20, 21, 22, 23] ⟨(pre2 ++ [s], suf2), by rw [← hp2]; simp, by rw [units_snoc, ← fill_done (by omega) hq]; exact hql⟩ ?_ (keep_c (he := (by first | rfl | (rw [List.append_nil]; done) | (rw [← List.append_assoc, ← bunN_snoc _ _ _ hbq, List.map_append]; done) | (rw [fill_done (by omega) hq, ← units_snoc]; done))) (h := keep_n)) (slots_c (he := (by first | rfl | (congr 2; simp; done))) (h := (slots_c (he := (by first | rfl | (rw [List.append_nil]; done) | (refine congrArg (AV.als _ 0) ?_; simp only [bunL_len, List.length_append, List.length_cons, List.length_nil, List.length_map]; omega) | (rw [fill_done (by omega) hq, ← units_snoc]; done))) (h := trivial)))) (.c (.c (.c (.c (.c (.c (.c .n)))))))
                  skip
                  all_goals (dsimp only; simp only [List.length_cons]; omega)
              · first | omega | contradiction
        · simp only [List.length_cons] at hpl
          have hidx : (l)[pre.length]? = some s := by rw [← hp]; simp
          refine Ev.seq ?_
          refine Ev.sr fun K hK => S.o q.mv (S.o q.mv (S.o (q.lens am_el22) (S.o q.lss (S.end (hK _ ?_)))))
          clear hK K
          refine Ev.cd (fun c9 => ?_) (fun c9 => ?_)
          · first
          | (first | omega | contradiction)
          | refine Ev.skip ?_
            show Ev _ _ _ _
            refine Ev.seq ?_
            refine Ev.block ?_
            have hsok : okBar s := hS.2.1 s (by rw [← hp]; simp)
            refine Ev.sr fun K hK => S.o q.mv (S.o q.mv (S.o (q.ix am_el22 am_cl42 (hl := (by first | exact ati hidx (by omega) | exact ati hidx2 (by omega) | exact ati hidx (by omega) | exact atig (by omega)))) (S.o (q.lsA [_, _, _, _, _] am_ag42 am_cl42) (S.c0 (hF := one_fun _ (by assumption)) (h := S.o q.mv (S.o q.gtr (S.end (hK _ ?_))))))))
            clear hK K
            refine Ev.cd (fun c10 => ?_) (fun c10 => ?_)
            · first
            | (first | omega | contradiction)
            | refine Ev.sr fun K hK => S.o q.as (S.o q.as (S.end (hK _ ?_)))
              clear hK K
              refine Ev.weaken (Wk.nsh Bundle.c 4 4) ?_
              refine Ev.ret ?_
              refine hR0 _ _ ?_
              refine Ev.ret2 ?_
              refine ⟨?_, rfl⟩
              first
               | (rw [(mk1 ‹¬ okSched l›).1, (mk1 (most := most) ‹¬ okSched l›).2]; done)
               | (rw [(mk2 ‹okSched l› (by omega)).1, (mk2 (most := most) ‹okSched l› (by omega)).2]; done)
               | (rw [(mk3 hS hR ⟨s, by rw [← hp]; simp, decide_eq_true ‹_›⟩).1, (mk3 hS hR ⟨s, by rw [← hp]; simp, decide_eq_true ‹_›⟩).2]; done)
               | (have h4 := fill_full hp2 hsok hm1 (by omega) hq (by rw [bunL_len] at *; omega); rw [(mk4 hS hR hO h4).1, (mk4 hS hR hO h4).2]; done)
               | (rw [(mk0 hS hR hO hinv2).1, (mk0 hS hR hO hinv2).2]; done)
            · first
            | (first | omega | contradiction)
            | refine Ev.skip ?_
              show Ev _ _ _ _
              refine Ev.region_S fun K hK => S.o q.mv (S.o q.add (S.o q.as (S.end (hK _ ?_))))
              clear hK K
              refine hR0 _ _ ?_
              refine roundU [] [0, 1] ⟨(pre ++ [s], suf), by rw [← hp]; simp, ?_⟩ ?_ keep_n (slots_c (he := (by first | rfl | (simp; done) | (congr 2; omega))) (h := trivial)) (.c (.c .n))
              intro x hx; simp only [List.mem_append, List.mem_singleton] at hx; rcases hx with hx | rfl
              · exact hinv x hx
              · omega
              all_goals (dsimp only; simp only [List.length_cons]; omega)
          · first | omega | contradiction

theorem bun_same {s t : Bundle} (h : (!(decide ((⟨s.tag.toArray⟩ : ByteArray) = ⟨t.tag.toArray⟩) && (decide ((⟨s.mark.toArray⟩ : ByteArray) = ⟨t.mark.toArray⟩) && (decide (s.count = t.count) && (decide (s.mass = t.mass) && true))))) = false) : t = s := by
  simp only [Bool.not_eq_false', Bool.and_eq_true, decide_eq_true_eq, Bool.and_true] at h
  obtain ⟨h1, h2, h3, h4⟩ := h
  cases s; cases t
  simp only [Bundle.mk.injEq]
  exact ⟨(bytes_inj.1 h1).symm, (bytes_inj.1 h2).symm, h3.symm, h4.symm⟩
theorem bun_diff {s t : Bundle} (h : (!(decide ((⟨s.tag.toArray⟩ : ByteArray) = ⟨t.tag.toArray⟩) && (decide ((⟨s.mark.toArray⟩ : ByteArray) = ⟨t.mark.toArray⟩) && (decide (s.count = t.count) && (decide (s.mass = t.mass) && true))))) = true) : s ≠ t := by
  rintro rfl
  simp at h
theorem rSame_fun (a b : List Bundle) (ha : a.length ≤ 140737488355328) (hb : b.length ≤ 140737488355328) : Fun Tryd.prog 13 [.sh 4 (a.map Bundle.c), .sh 4 (b.map Bundle.c)] (Ret (.lit (.bool (decide (a = b)))) []) := by
  refine Fun.of (nt := 26) (rs := [.tmp 4]) Tryd.func13 rfl rfl rfl rfl rfl ?_
  refine Ev.sr fun K hK => S.o q.as (S.end (hK _ ?_))
  clear hK K
  refine Ev.seq ?_
  refine Ev.sr fun K hK => S.o q.mv (S.o (q.lens am_el25) (S.o q.mv (S.o (q.lens am_el25) (S.o q.neq (S.end (hK _ ?_))))))
  clear hK K
  refine Ev.cn (fun c1 => ?_) (fun c1 => ?_)
  · first
  | (first | omega | contradiction)
  | refine Ev.sr fun K hK => S.o q.as (S.end (hK _ ?_))
    clear hK K
    refine Ev.ret ?_
    refine Ev.ret1 ?_
    refine ⟨?_, rfl⟩
    first
     | exact bF (fun h => by subst h; omega)
     | exact bF (fun h => by subst h; rw [hidx] at hidx2; simp only [Option.some.injEq] at hidx2; exact bun_diff ‹_› hidx2)
     | exact bT (hinv.symm.trans (List.take_of_length_le (by omega)))
  · first
  | (first | omega | contradiction)
  | refine Ev.skip ?_
    show Ev _ _ _ _
    refine Ev.seq ?_
    refine Ev.sr fun K hK => S.o q.as (S.end (hK _ ?_))
    clear hK K
    refine Ev.block ?_
    refine Ev.loopU (ι := {q : List Bundle × List Bundle // q.1 ++ q.2 = a ∧ b.take q.1.length = q.1}) [] [0, 1] (fun ⟨(pre, suf), _⟩ => [(5, .lit (.int .i64 ((pre.length : Int))))]) (fun ⟨(pre, suf), _⟩ => []) (fun ⟨(pre, suf), _⟩ => suf.length) ⟨([], a), rfl, rfl⟩ (.c (.c .n)) keep_n (slots_c (he := (by first | rfl | (simp; done) | (congr 2; omega))) (h := trivial)) ?_
    rintro ⟨⟨pre, suf⟩, hp, hinv⟩ R0 hR0
    dsimp only [List.cons_append, List.nil_append, List.length_cons, List.length_nil]
    simp only at hp hinv
    have hpl : pre.length + suf.length = (a).length := by rw [← hp, List.length_append]
    rcases suf with _ | ⟨s, suf⟩
    · rw [List.append_nil] at hp; subst pre; simp only [List.length_nil] at hpl
      refine Ev.seq ?_
      refine Ev.sr fun K hK => S.o q.mv (S.o q.mv (S.o (q.lens am_el25) (S.o q.lss (S.end (hK _ ?_)))))
      clear hK K
      refine Ev.cd (fun c2 => ?_) (fun c2 => ?_)
      · first | omega | contradiction
      · first
      | (first | omega | contradiction)
      | refine Ev.exit ?_
        refine hR0 _ _ ?_
        show Ev _ _ _ _
        refine Ev.sr fun K hK => S.o q.as (S.end (hK _ ?_))
        clear hK K
        refine Ev.ret ?_
        refine Ev.ret1 ?_
        refine ⟨?_, rfl⟩
        first
         | exact bF (fun h => by subst h; omega)
         | exact bF (fun h => by subst h; rw [hidx] at hidx2; simp only [Option.some.injEq] at hidx2; exact bun_diff ‹_› hidx2)
         | exact bT (hinv.symm.trans (List.take_of_length_le (by omega)))
    · simp only [List.length_cons] at hpl
      have hidx : (a)[pre.length]? = some s := by rw [← hp]; simp
      obtain ⟨s2, hidx2⟩ : ∃ s2, b[pre.length]? = some s2 := ⟨_, List.getElem?_eq_getElem (by omega)⟩
      refine Ev.seq ?_
      refine Ev.sr fun K hK => S.o q.mv (S.o q.mv (S.o (q.lens am_el25) (S.o q.lss (S.end (hK _ ?_)))))
      clear hK K
      refine Ev.cd (fun c3 => ?_) (fun c3 => ?_)
      · first
      | (first | omega | contradiction)
      | refine Ev.skip ?_
        show Ev _ _ _ _
        refine Ev.seq ?_
        refine Ev.block ?_
        refine Ev.sm (tbs [(0, 0), (0, 0), (2, 3), (3, 7), (0, 0), (0, 0), (6, 48), (7, 112), (8, 255)]) 9 fun K hK => M.o q.mv (M.o q.mv (M.o (q.ix am_el25 am_cl46 (hl := (by first | exact ati hidx (by omega) | exact ati hidx2 (by omega) | exact atig (by omega)))) (M.o (q.lsA [_, _, _, _] am_ag46 am_cl46) (M.o q.mv (M.o q.mv (M.o (q.ix am_el25 am_cl46 (hl := (by first | exact ati hidx (by omega) | exact ati hidx2 (by omega) | exact atig (by omega)))) (M.o (q.lsA [_, _, _, _] am_ag46 am_cl46) (M.o (q.sneq am_eq46 (am_sq46 _ _ _ _ _ _ _ _)) (M.end [] (h := S.end (hK _ ?_)))))))))))
        clear hK K
        refine Ev.c (fun c4 => ?_) (fun c4 => ?_)
        · first
        | (first | omega | contradiction)
        | refine Ev.sr fun K hK => S.o q.as (S.end (hK _ ?_))
          clear hK K
          refine Ev.ret ?_
          refine hR0 _ _ ?_
          refine Ev.ret1 ?_
          refine ⟨?_, rfl⟩
          first
           | exact bF (fun h => by subst h; omega)
           | exact bF (fun h => by subst h; rw [hidx] at hidx2; simp only [Option.some.injEq] at hidx2; exact bun_diff ‹_› hidx2)
           | exact bT (hinv.symm.trans (List.take_of_length_le (by omega)))
        · first
        | (first | omega | contradiction)
        | refine Ev.skip ?_
          show Ev _ _ _ _
          refine Ev.region_S fun K hK => S.o q.mv (S.o q.add (S.o q.as (S.end (hK _ ?_))))
          clear hK K
          refine hR0 _ _ ?_
          refine roundU [] [0, 1] ⟨(pre ++ [s], suf), by rw [← hp]; simp, ?_⟩ ?_ keep_n (slots_c (he := (by first | rfl | (simp; done) | (congr 2; omega))) (h := trivial)) (.c (.c .n))
          simp only [List.length_append, List.length_cons, List.length_nil, Nat.zero_add]
          rw [List.take_add_one, hinv, hidx2]
          simp only [Option.toList_some, List.append_cancel_left_eq, List.cons.injEq, and_true]
          exact bun_same ‹_›
          all_goals (dsimp only; simp only [List.length_cons]; omega)
      · first | omega | contradiction
end Go.Proofs.YtnbjmckhongidaaDoor
