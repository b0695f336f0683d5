/-
  demand.Envelope.
  Conditions: none.
-/
import Derived.Test.YthiockdlhehhoaaDoorEn1
import Derived.Test.YthiockdlhehhoaaDoorDm6
import Derived.Test.YthiockdlhehhoaaDoorDm2
import Derived.Test.YthiockdlhehhoaaDoorAmComp
import Derived.Shelf.Lay
import Derived.Ground.NamesProg
namespace Go.Proofs.YthiockdlhehhoaaDoor
open Go Go.AM
set_option linter.unusedSimpArgs false
set_option linter.unusedVariables false
set_option maxRecDepth 100000
set_option maxHeartbeats 2000000

theorem cmpR_take (l : List Int) : (cmpR l).take (Go.Lib.compact l).length = Go.Lib.compact l := by rw [cmpR, List.take_left]
theorem plc_in {l : List Dem} (h : ∀ d ∈ l, okDem d) {x : Int} (hx : x ∈ plc l) : -1048576 ≤ x ∧ x ≤ 1048576 := by
  obtain ⟨d, hd, s, hs, e⟩ := mem_froms.1 (((plc_spec l).2 x).1 hx)
  have := ((h d hd).2.2.2.1 s hs).1
  unfold Place at this
  omega

open Go.Shelf in
shelf_lay Lays.n189 Nm 189 at Tryd as lays189
open Go.Shelf in
shelf_lay Lays2.n20 Nm2 20 at Tryd as lays2_20
theorem sortI2 (l : List Int) (n : Nat) (hn : n = l.length) (hl : l.length ≤ 1000000) : FunR Tryd.prog 29 [.als 0 0 n] [(0, ⟨true, 3, 1, l.map intC, true⟩)] 1 (Ret (.tup []) [(0, ⟨true, 3, 1, (srt l).map intC, true⟩)]) := by
  subst hn
  exact (sortI_R lays189 ⟨_, Tryd.func29, rfl, rfl⟩ l hl).mono fun v objs ⟨l', h, h1, h2⟩ => by subst h; exact ⟨h1, h2⟩
theorem compactI2 (l : List Int) (n : Nat) (hn : n = l.length) (hl : l.length ≤ 1000000) : FunR Tryd.prog 30 [.als 0 0 n] [(0, ⟨true, 3, 1, l.map intC, true⟩)] 1 (Ret (.als 0 0 (Go.Lib.compact l).length) [(0, ⟨true, 3, 1, (cmpR l).map intC, true⟩)]) := by
  subst hn
  exact (compactI_R lays2_20 ⟨_, Tryd.func30, rfl, rfl⟩ l hl).mono fun v objs ⟨l', h, h1, h2⟩ => by subst h; exact ⟨h1, h2⟩
theorem cmpR_len (l : List Int) : (Go.Lib.compact l).length ≤ (cmpR l).length := by rw [cmpR, List.length_append]; omega
theorem demEnvelope_fun (l : List Dem) (z : Bx) (hlen : l.length ≤ 140737488355328) (hw : demW l) : Fun Tryd.prog 8 [.sh 8 (l.map Dem.c), .agg z.c] (Ret (.tup [.sh 2 ((envV l z).map pairC), .lit (.int .i64 (envE l z))]) []) := by
  refine Fun.of (nt := 102) (rs := [.tmp 4, .tmp 5]) Tryd.func8 rfl rfl rfl rfl rfl ?_
  refine Ev.sr fun K hK => S.nn (q.bx [_, _, _, _, _, _] true) (S.o q.as (S.o q.as (S.end (hK _ ?_))))
  clear hK K
  refine Ev.seq ?_
  refine Ev.sr fun K hK => S.o q.mv (S.c0 (hF := demValid_fun _ (by omega) (by assumption)) (h := S.o q.not (S.bn q.mv (fun c1 => ?_) (fun c1 => ?_))))
  · first
  | (first | omega | contradiction)
  | refine S.sk (S.sk (S.sk (S.o q.pt (S.end (hK _ ?_)))))
    clear hK K
    refine Ev.ct ?_
    obtain ⟨e1, e2⟩ := env_arg (l := l) (z := z) (by rintro ⟨h1, h2⟩; first | exact absurd h1 ‹_› | exact absurd h2 ‹_›)
    rw [e1, e2]
    refine Ev.sr fun K hK => S.o q.as (S.o q.as (S.end (hK _ ?_)))
    clear hK K
    refine Ev.weaken (Wk.nsh pairC 4 2) ?_
    refine Ev.ret ?_
    refine Ev.ret2 ?_
    refine ⟨?_, rfl⟩
    first | rfl | (rw [e1, e2]; done) | (rw [e1, e2] <;> rfl)
  · first
  | (first | omega | contradiction)
  | refine S.o (q.lvA [_, _, _, _, _, _] am_ag26 am_cl26) (S.c0 (hF := boxValid_fun _) (h := S.o q.not (S.o q.pf (S.end (hK _ ?_)))))
    clear hK K
    refine Ev.cn (fun c2 => ?_) (fun c2 => ?_)
    · first
    | (first | omega | contradiction)
    | obtain ⟨e1, e2⟩ := env_arg (l := l) (z := z) (by rintro ⟨h1, h2⟩; first | exact absurd h1 ‹_› | exact absurd h2 ‹_›)
      rw [e1, e2]
      refine Ev.sr fun K hK => S.o q.as (S.o q.as (S.end (hK _ ?_)))
      clear hK K
      refine Ev.weaken (Wk.nsh pairC 4 2) ?_
      refine Ev.ret ?_
      refine Ev.ret2 ?_
      refine ⟨?_, rfl⟩
      first | rfl | (rw [e1, e2]; done) | (rw [e1, e2] <;> rfl)
    · first
    | (first | omega | contradiction)
    | refine Ev.skip ?_
      show Ev _ _ _ _
      have hok : okDems l ∧ okBx z := ⟨‹_›, ‹_›⟩
      have hl20 := hok.1.1
      refine Ev.sr fun K hK => S.o q.as (S.end (hK _ ?_))
      clear hK K
      refine Ev.sr fun K hK => S.o q.as (S.end (hK _ ?_))
      clear hK K
      refine Ev.seq ?_
      refine Ev.sr fun K hK => S.o q.mv (S.o (q.lens am_el22) (S.o q.mv (S.end (hK _ ?_))))
      clear hK K
      refine Ev.block ?_
      refine Ev.weaken (Wk.nown Dem.c 6 42 8) ?_
      refine Ev.weaken (Wk.nown intC 7 3 1) ?_
      refine Ev.loopU (ι := {p : List (Dem) × List (Dem) // p.1 ++ p.2 = l ∧ True}) [1, 2, 0] [3, 4, 5, 29, 30] (fun ⟨(pre, suf), _⟩ => [(31, .lit (.int .i64 ((pre.length : Int)))), (6, .als 0 0 (inL pre z).length), (7, .als 1 0 (froms (inL pre z)).length)]) (fun ⟨(pre, suf), _⟩ => [(0, ⟨true, 42, 8, (inL pre z).map Dem.c, true⟩), (1, ⟨true, 3, 1, (froms (inL pre z)).map intC, true⟩), (2, ⟨false, 26, 6, [[.lit (.int .i64 (z.lx)), .lit (.int .i64 (z.ly)), .lit (.int .i64 (z.lz)), .lit (.int .i64 (z.hx)), .lit (.int .i64 (z.hy)), .lit (.int .i64 (z.hz))]], true⟩)]) (fun ⟨(pre, suf), _⟩ => suf.length) ⟨([], l), rfl, trivial⟩ (.c (.c (.c (.c (.c .n))))) (keep_c (he := (by first | rfl | (rw [inL_snoc_t ‹inB s.zone z›]; done) | (rw [inL_snoc_f ‹¬ inB s.zone z›]; done) | (simp [inL, froms]; done))) (h := (keep_c (he := (by first | rfl | (rw [inL_snoc_t ‹inB s.zone z›, froms_snoc]; done) | (rw [inL_snoc_f ‹¬ inB s.zone z›]; done) | (simp [inL, froms]; done))) (h := (keep_c (he := (by first | rfl | (simp; done))) (h := keep_n)))))) (slots_c (he := (by first | rfl | (congr 2; simp; done))) (h := (slots_c (he := (by first | rfl | (rw [inL_snoc_t ‹inB s.zone z›]; done) | (rw [inL_snoc_f ‹¬ inB s.zone z›]; done) | (simp [inL, froms]; done))) (h := (slots_c (he := (by first | rfl | (rw [inL_snoc_t ‹inB s.zone z›, froms_snoc]; done) | (rw [inL_snoc_f ‹¬ inB s.zone z›]; done) | (simp [inL, froms]; done))) (h := trivial)))))) ?_
      rintro ⟨⟨pre, suf⟩, hp, hinv⟩ R0 hR0
      dsimp only [List.cons_append, List.nil_append, List.length_cons, List.length_nil]
      simp only at hp hinv
      have hpl : pre.length + suf.length = (l).length := by rw [← hp, List.length_append]
      rcases suf with _ | ⟨s, suf⟩
      · rw [List.append_nil] at hp; simp only [List.length_nil] at hpl
        subst hp
        have hin := okTop (z := z) hok.1
        have hfl := froms_len (inL pre z) hin
        have hil := inL_len pre z
        have hsl := srt_len (froms (inL pre z))
        have hpll := plc_len (inL pre z)
        have hcl := cmpR_len (srt (froms (inL pre z)))
        refine Ev.sr fun K hK => S.o q.lss (S.end (hK _ ?_))
        clear hK K
        refine Ev.ud (fun c3 => ?_) (fun c3 => ?_)
        · first | omega | contradiction | (exfalso; simp at *; done)
        · first
        | (first | omega | contradiction)
        | refine Ev.exit ?_
          refine hR0 _ _ ?_
          show Ev _ _ _ _
          refine Ev.sr fun K hK => S.o q.mv (S.cR [1] _ [_, _, _] (hob := (keep_c (he := rfl) (h := keep_n))) (hF := sortI2 (froms (inL pre z)) _ rfl (by omega)) (hn' := below1 (by decide)) (h := S.end (hK _ ?_)))
          clear hK K
          refine Ev.weaken (Wk.frz 6 [_, _]) ?_
          refine Ev.sr fun K hK => S.o q.as (S.end (hK _ ?_))
          clear hK K
          refine Ev.sr fun K hK => S.o q.as (S.end (hK _ ?_))
          clear hK K
          refine Ev.seq ?_
          refine Ev.sr fun K hK => S.o q.mv (S.cR [1] _ [_, _] (hob := (keep_c (he := rfl) (h := keep_n))) (hF := compactI2 (srt (froms (inL pre z))) _ hsl.symm (by omega)) (hn' := below1 (by decide)) (h := ?_))
          refine SeqL.weaken (Wk.frzp (f := intC) (cmpR (srt (froms (inL pre z)))) 61 [_]) ?_
          rw [show (cmpR (srt (froms (inL pre z)))).take (Go.Lib.compact (srt (froms (inL pre z)))).length = plc (inL pre z) from cmpR_take _]
          refine S.o (q.lens am_el62) (S.o q.mv (S.end (hK _ ?_)))
          clear hK K
          refine Ev.block ?_
          refine Ev.weaken (Wk.nown pairC 12 40 2) ?_
          refine Ev.loopU (ι := {q : List Int × List Int // q.1 ++ q.2 = plc (inL pre z)}) [3] [6, 61, 62] (fun ⟨(pp, ss), _⟩ => [(63, .lit (.int .i64 ((pp.length : Int)))), (13, .lit (.int .i64 (endF (topV pre z) 0 pp))), (12, .als 0 0 (envL (topV pre z) 0 pp).length)]) (fun ⟨(pp, ss), _⟩ => [(0, ⟨true, 40, 2, (envL (topV pre z) 0 pp).map pairC, true⟩)]) (fun ⟨(pp, ss), _⟩ => ss.length) ⟨([], plc (inL pre z)), rfl⟩ (.c (.c (.c .n))) (keep_c (he := (by first | rfl | (rw [envL_snoc, if_neg hne]; rfl) | (rw [envL_snoc, if_pos heq, List.append_nil]; done))) (h := keep_n)) (slots_c (he := (by first | rfl | (congr 2; simp; done))) (h := (slots_c (he := (by first | rfl | (rw [endF_snoc]; rfl) | (rw [endF_snoc, heq]; done))) (h := (slots_c (he := (by first | rfl | (rw [envL_snoc, if_neg hne]; rfl) | (rw [envL_snoc, if_pos heq, List.append_nil]; done))) (h := trivial)))))) ?_
          rintro ⟨⟨pp, ss⟩, hpp⟩ R4 hR4
          dsimp only [List.cons_append, List.nil_append, List.length_cons, List.length_nil]
          simp only at hpp
          have hppl : pp.length + ss.length = (plc (inL pre z)).length := by rw [← hpp, List.length_append]
          have hel := envL_len (topV pre z) pp 0
          rcases ss with _ | ⟨s, ss⟩
          · rw [List.append_nil] at hpp; simp only [List.length_nil] at hppl
            subst hpp
            refine Ev.sr fun K hK => S.o q.lss (S.end (hK _ ?_))
            clear hK K
            refine Ev.ud (fun c4 => ?_) (fun c4 => ?_)
            · first | omega | contradiction | (exfalso; simp at *; done)
            · first
            | (first | omega | contradiction)
            | refine Ev.exit ?_
              refine hR4 _ _ ?_
              show Ev _ _ _ _
              refine Ev.seq ?_
              refine Ev.sr fun K hK => S.o q.mv (S.o (q.lena am_el31) (S.o q.gtr (S.end (hK _ ?_))))
              clear hK K
              refine Ev.cd (fun c5 => ?_) (fun c5 => ?_)
              · first
              | (first | omega | contradiction)
              | obtain ⟨e1, e2⟩ := env_full (l := pre) (z := z) hok (show ¬ (envL (topV pre z) 0 (plc (inL pre z))).length ≤ 200 by omega)
                rw [e1, e2]
                refine Ev.sr fun K hK => S.o q.as (S.o q.as (S.end (hK _ ?_)))
                clear hK K
                refine Ev.weaken (Wk.nsh pairC 4 2) ?_
                refine Ev.ret ?_
                refine Ev.ret2 ?_
                refine ⟨?_, rfl⟩
                first | rfl | (rw [e1, e2]; done) | (rw [e1, e2] <;> rfl)
              · first
              | (first | omega | contradiction)
              | refine Ev.skip ?_
                show Ev _ _ _ _
                obtain ⟨e1, e2⟩ := env_ok (l := pre) (z := z) hok (show (envL (topV pre z) 0 (plc (inL pre z))).length ≤ 200 by omega)
                rw [e1, e2]
                refine Ev.sr fun K hK => S.o q.mv (S.o q.as (S.o q.as (S.end (hK _ ?_))))
                clear hK K
                refine Ev.weaken (Wk.frz 4 []) ?_
                refine Ev.ret ?_
                refine Ev.ret2 ?_
                refine ⟨?_, rfl⟩
                first | rfl | (rw [e1, e2]; done) | (rw [e1, e2] <;> rfl)
          · simp only [List.length_cons] at hppl
            have hidx3 : (plc (inL pre z))[pp.length]? = some s := by rw [← hpp]; simp
            have hsp := plc_in hin (show s ∈ plc (inL pre z) by rw [← hpp]; simp)
            refine Ev.sr fun K hK => S.o q.lss (S.end (hK _ ?_))
            clear hK K
            refine Ev.ud (fun c6 => ?_) (fun c6 => ?_)
            · first
            | (first | omega | contradiction)
            | refine Ev.seq ?_
              refine Ev.block ?_
              refine Ev.sr fun K hK => S.o (q.ix am_el62 am_cl3 (hl := (by first | exact ati hidx3 (by omega) | exact atig (by omega)))) (S.o (q.ls am_ag3) (S.o q.as (S.end (hK _ ?_))))
              clear hK K
              refine Ev.sr fun K hK => S.o q.as (S.end (hK _ ?_))
              clear hK K
              refine Ev.seq ?_
              refine Ev.sr fun K hK => S.o q.mv (S.o (q.lens am_el22) (S.o q.mv (S.end (hK _ ?_))))
              clear hK K
              refine Ev.block ?_
              refine Ev.loopU (ι := {q : List Dem × List Dem // q.1 ++ q.2 = inL pre z}) [0] [6, 13, 15, 61, 62, 63, 64, 65, 66, 67, 68] (fun ⟨(pd, sd), _⟩ => [(69, .lit (.int .i64 ((pd.length : Int)))), (16, .lit (.int .i64 (topL pd s))), (12, .als 0 0 (envL (topV pre z) 0 pp).length)]) (fun ⟨(pd, sd), _⟩ => [(0, ⟨true, 40, 2, (envL (topV pre z) 0 pp).map pairC, true⟩)]) (fun ⟨(pd, sd), _⟩ => sd.length) ⟨([], inL pre z), rfl⟩ (.c (.c (.c (.c (.c (.c (.c (.c (.c (.c (.c .n))))))))))) (keep_c (he := (by first | rfl | (simp; done))) (h := keep_n)) (slots_c (he := (by first | rfl | (congr 2; simp; done))) (h := (slots_c (he := (by first | rfl | (rw [topL_snoc]; done) | exact iE (by rw [topL_snoc]))) (h := (slots_c (he := (by first | rfl | (simp; done) | (congr 2; omega))) (h := trivial)))))) ?_
              rintro ⟨⟨pd, sd⟩, hpd⟩ R6 hR6
              dsimp only [List.cons_append, List.nil_append, List.length_cons, List.length_nil]
              simp only at hpd
              have hpdl : pd.length + sd.length = (inL pre z).length := by rw [← hpd, List.length_append]
              rcases sd with _ | ⟨qd, sd⟩
              · rw [List.append_nil] at hpd; simp only [List.length_nil] at hpdl
                rw [hpd]
                refine Ev.sr fun K hK => S.o q.lss (S.end (hK _ ?_))
                clear hK K
                refine Ev.ud (fun c7 => ?_) (fun c7 => ?_)
                · first | omega | contradiction | (exfalso; simp at *; done)
                · first
                | (first | omega | contradiction)
                | refine Ev.exit ?_
                  refine hR6 _ _ ?_
                  show Ev _ _ _ _
                  refine Ev.sr fun K hK => S.o q.mv (S.o q.mv (S.o q.neq (S.end (hK _ ?_))))
                  clear hK K
                  refine Ev.cn (fun c8 => ?_) (fun c8 => ?_)
                  · first
                  | (first | omega | contradiction)
                  | have hne : ¬ topV pre z s = endF (topV pre z) 0 pp := by (show ¬ topL (inL pre z) s = endF (topV pre z) 0 pp; assumption)
                    refine Ev.region_S fun K hK => S.o q.mv (S.o q.mv (S.o q.mv (S.o (q.bd [_, _] am_ze40 am_pl40) (S.nn (q.bs [[_, _]] true am_el31 am_ze40 am_cl40) (S.ap' [_] am_el31 am_ze40 am_cl40 am_by40 (hh := head_own') (hr := (rows_lit [(s, topL (inL pre z) s)])) (h := S.o q.mv (S.o q.as (S.o q.as (S.end (hK _ ?_))))))))))
                    clear hK K
                    show Ev _ _ _ _
                    first | (have heq : topV pre z s = endF (topV pre z) 0 pp := by (show topL (inL pre z) s = endF (topV pre z) 0 pp; assumption)) | skip
                    refine Ev.region_S fun K hK => S.o q.add (S.o q.mv (S.end (hK _ ?_)))
                    clear hK K
                    refine hR4 _ _ ?_
                    refine roundU [2] [6, 61, 62] ⟨(pp ++ [s], ss), by rw [← hpp]; simp⟩ ?_ (keep_c (he := (by first | rfl | (rw [envL_snoc, if_neg hne]; rfl) | (rw [envL_snoc, if_pos heq, List.append_nil]; done))) (h := keep_n)) (slots_c (he := (by first | rfl | (congr 2; simp; done))) (h := (slots_c (he := (by first | rfl | (rw [endF_snoc]; rfl) | (rw [endF_snoc, heq]; done))) (h := (slots_c (he := (by first | rfl | (rw [envL_snoc, if_neg hne]; rfl) | (rw [envL_snoc, if_pos heq, List.append_nil]; done))) (h := trivial)))))) (.c (.c (.c .n)))
                    skip
                    all_goals (dsimp only; simp only [List.length_cons]; omega)
                  · first
                  | (first | omega | contradiction)
                  | refine Ev.skip ?_
                    show Ev _ _ _ _
                    first | (have heq : topV pre z s = endF (topV pre z) 0 pp := by (show topL (inL pre z) s = endF (topV pre z) 0 pp; assumption)) | skip
                    refine Ev.region_S fun K hK => S.o q.add (S.o q.mv (S.end (hK _ ?_)))
                    clear hK K
                    refine hR4 _ _ ?_
                    refine roundU [0] [6, 61, 62] ⟨(pp ++ [s], ss), by rw [← hpp]; simp⟩ ?_ (keep_c (he := (by first | rfl | (rw [envL_snoc, if_neg hne]; rfl) | (rw [envL_snoc, if_pos heq, List.append_nil]; done))) (h := keep_n)) (slots_c (he := (by first | rfl | (congr 2; simp; done))) (h := (slots_c (he := (by first | rfl | (rw [endF_snoc]; rfl) | (rw [endF_snoc, heq]; done))) (h := (slots_c (he := (by first | rfl | (rw [envL_snoc, if_neg hne]; rfl) | (rw [envL_snoc, if_pos heq, List.append_nil]; done))) (h := trivial)))))) (.c (.c (.c .n)))
                    skip
                    all_goals (dsimp only; simp only [List.length_cons]; omega)
              · simp only [List.length_cons] at hpdl
                have hidx4 : (inL pre z)[pd.length]? = some qd := by rw [← hpd]; simp
                have hdq : okDem qd := hin qd (by rw [← hpd]; simp)
                have hq20 := hdq.2.2.1
                have htb := topL_bd s pd (fun d hd => hin d (by rw [← hpd]; simp [hd]))
                have hab := atF_bd (y := s) (l := qd.steps) 0 hdq.2.2.2.1 (by decide) (by decide)
                refine Ev.sr fun K hK => S.o q.lss (S.end (hK _ ?_))
                clear hK K
                refine Ev.ud (fun c9 => ?_) (fun c9 => ?_)
                · first
                | (first | omega | contradiction)
                | refine Ev.seq ?_
                  refine Ev.block ?_
                  refine Ev.sr fun K hK => S.o (q.ix am_el22 am_cl42 (hl := (by first | exact ati hidx3 (by omega) | exact ati hidx4 (by omega) | exact atig (by omega)))) (S.o (q.lsA [_, _, _, _, _, _, _, _] am_ag42 am_cl42) (S.nn (q.al am_ze42) (S.sv [_, _, _, _, _, _, _, _] true [_] am_in42 am_cl42 (h := S.end (hK _ ?_)))))
                  clear hK K
                  refine Ev.sr fun K hK => S.o (q.fa 7 am_fi42_2 am_cl31) (S.o (q.lv am_ag31) (S.o q.mv (S.c0 (hF := At_fun qd.steps s (by omega)) (h := S.o q.mv (S.o q.ex (S.o q.ex (S.o q.as (S.o q.as (S.end (hK _ ?_))))))))))
                  clear hK K
                  refine Ev.seq ?_
                  rw [show atE qd.steps = 0 from if_pos hdq.2.2, show atV qd.steps s = atF 0 qd.steps s from if_pos hdq.2.2]
                  refine Ev.sr fun K hK => S.o q.mv (S.o q.neq (S.end (hK _ ?_)))
                  clear hK K
                  refine Ev.cn (fun c10 => ?_) (fun c10 => ?_)
                  · first
                  | (first | omega | contradiction)
                  | omega
                  · first
                  | (first | omega | contradiction)
                  | refine Ev.skip ?_
                    show Ev _ _ _ _
                    refine Ev.region_S fun K hK => S.o q.mv (S.o q.mv (S.o q.max (S.o q.as (S.end (hK _ ?_)))))
                    clear hK K
                    show Ev _ _ _ _
                    refine Ev.region_S fun K hK => S.o q.add (S.o q.mv (S.end (hK _ ?_)))
                    clear hK K
                    refine hR6 _ _ ?_
                    refine roundU [0] [6, 13, 15, 61, 62, 63, 64, 65, 66, 67, 68] ⟨(pd ++ [qd], sd), by rw [← hpd]; simp⟩ ?_ (keep_c (he := (by first | rfl | (simp; done))) (h := keep_n)) (slots_c (he := (by first | rfl | (congr 2; simp; done))) (h := (slots_c (he := (by first | rfl | (rw [topL_snoc]; done) | exact iE (by rw [topL_snoc]))) (h := (slots_c (he := (by first | rfl | (simp; done) | (congr 2; omega))) (h := trivial)))))) (.c (.c (.c (.c (.c (.c (.c (.c (.c (.c (.c .n)))))))))))
                    skip
                    all_goals (dsimp only; simp only [List.length_cons]; omega)
                · first | omega | contradiction | (exfalso; simp at *; done)
            · first | omega | contradiction | (exfalso; simp at *; done)
      · simp only [List.length_cons] at hpl
        have hidx : l[pre.length]? = some s := by rw [← hp]; simp
        have hds : okDem s := hok.1.2.1 s (by rw [← hp]; simp)
        have hs20 := hds.2.2.1
        have hfl := froms_len (inL pre z) (fun d hd => hok.1.2.1 d (by rw [← hp]; simp [(List.mem_filter.1 hd).1]))
        have hil := inL_len pre z
        refine Ev.sr fun K hK => S.o q.lss (S.end (hK _ ?_))
        clear hK K
        refine Ev.ud (fun c11 => ?_) (fun c11 => ?_)
        · first
        | (first | omega | contradiction)
        | refine Ev.seq ?_
          refine Ev.block ?_
          refine Ev.sr fun K hK => S.o (q.ix am_el22 am_cl42 (hl := (by first | exact ati hidx (by omega) | exact atig (by omega)))) (S.o (q.lsA [_, _, _, _, _, _, _, _] am_ag42 am_cl42) (S.nn (q.al am_ze42) (S.sv [_, _, _, _, _, _, _, _] true [_, _, _] am_in42 am_cl42 (h := S.end (hK _ ?_)))))
          clear hK K
          refine Ev.seq ?_
          refine Ev.sr fun K hK => S.o (q.fa 1 am_fi42_1 am_cl26) (S.o (q.lvA [_, _, _, _, _, _] am_ag26 am_cl26) (S.o (q.lvA [_, _, _, _, _, _] am_ag26 am_cl26) (S.c0 (hF := inside_fun s.zone z) (h := S.o q.not (S.end (hK _ ?_))))))
          clear hK K
          refine Ev.cn (fun c12 => ?_) (fun c12 => ?_)
          · first
          | (first | omega | contradiction)
          | refine Ev.exit ?_
            show Ev _ _ _ _
            refine Ev.region_S fun K hK => S.o q.add (S.o q.mv (S.end (hK _ ?_)))
            clear hK K
            refine hR0 _ _ ?_
            refine roundU [0, 1, 2] [3, 4, 5, 29, 30] ⟨(pre ++ [s], suf), by rw [← hp]; simp, ?_⟩ ?_ (keep_c (he := (by first | rfl | (rw [inL_snoc_t ‹inB s.zone z›]; done) | (rw [inL_snoc_f ‹¬ inB s.zone z›]; done) | (simp [inL, froms]; done))) (h := (keep_c (he := (by first | rfl | (rw [inL_snoc_t ‹inB s.zone z›, froms_snoc]; done) | (rw [inL_snoc_f ‹¬ inB s.zone z›]; done) | (simp [inL, froms]; done))) (h := (keep_c (he := (by first | rfl | (simp; done))) (h := keep_n)))))) (slots_c (he := (by first | rfl | (congr 2; simp; done))) (h := (slots_c (he := (by first | rfl | (rw [inL_snoc_t ‹inB s.zone z›]; done) | (rw [inL_snoc_f ‹¬ inB s.zone z›]; done) | (simp [inL, froms]; done))) (h := (slots_c (he := (by first | rfl | (rw [inL_snoc_t ‹inB s.zone z›, froms_snoc]; done) | (rw [inL_snoc_f ‹¬ inB s.zone z›]; done) | (simp [inL, froms]; done))) (h := trivial)))))) (.c (.c (.c (.c (.c .n)))))
            trivial
            all_goals (dsimp only; simp only [List.length_cons]; omega)
          · first
          | (first | omega | contradiction)
          | refine Ev.skip ?_
            show Ev _ _ _ _
            refine Ev.sr fun K hK => S.o q.mv (S.o (q.lvA [_, _, _, _, _, _, _, _] am_ag42 am_cl42) (S.nn (q.bs [[_, _, _, _, _, _, _, _]] true am_el22 am_ze42 am_cl42) (S.ap' [_, _, _, _] am_el22 am_ze42 am_cl42 am_by42 (hh := head_own') (hr := (rows_lit [s])) (h := S.o q.as (S.end (hK _ ?_))))))
            clear hK K
            refine Ev.sr fun K hK => S.o (q.fa 7 am_fi42_2 am_cl31) (S.o (q.lv am_ag31) (S.o (q.lens am_el31) (S.o q.mv (S.end (hK _ ?_)))))
            clear hK K
            refine Ev.block ?_
            refine Ev.loopU (ι := {p : List (Int × Int) × List (Int × Int) // p.1 ++ p.2 = s.steps}) [5, 1, 2] [3, 4, 5, 29, 30, 31, 32, 45, 46] (fun ⟨(pre2, suf2), _⟩ => [(47, .lit (.int .i64 ((pre2.length : Int)))), (6, .als 0 0 (inL pre z ++ [s]).length), (7, .als 1 0 (froms (inL pre z) ++ pre2.map (·.1)).length)]) (fun ⟨(pre2, suf2), _⟩ => [(0, ⟨true, 42, 8, (inL pre z ++ [s]).map Dem.c, true⟩), (1, ⟨true, 3, 1, (froms (inL pre z) ++ pre2.map (·.1)).map intC, true⟩), (2, ⟨false, 26, 6, [[.lit (.int .i64 (z.lx)), .lit (.int .i64 (z.ly)), .lit (.int .i64 (z.lz)), .lit (.int .i64 (z.hx)), .lit (.int .i64 (z.hy)), .lit (.int .i64 (z.hz))]], true⟩)]) (fun ⟨(pre2, suf2), _⟩ => suf2.length) ⟨([], s.steps), rfl⟩ (.c (.c (.c (.c (.c (.c (.c (.c (.c .n))))))))) (keep_c (he := (by first | rfl | (simp; done))) (h := (keep_c (he := (by first | rfl | (simp; done))) (h := (keep_c (he := (by first | rfl | (simp; done))) (h := keep_n)))))) (slots_c (he := (by first | rfl | (congr 2; simp; done))) (h := (slots_c (he := (by first | rfl | (simp; done) | (congr 2; omega))) (h := (slots_c (he := (by first | rfl | (simp; done))) (h := trivial)))))) ?_
            rintro ⟨⟨pre2, suf2⟩, hp2⟩ R2 hR2
            dsimp only [List.cons_append, List.nil_append, List.length_cons, List.length_nil]
            simp only at hp2
            have hpl2 : pre2.length + suf2.length = s.steps.length := by rw [← hp2, List.length_append]
            rcases suf2 with _ | ⟨⟨qx, qy⟩, suf2⟩
            · rw [List.append_nil] at hp2; simp only [List.length_nil] at hpl2
              subst hp2
              refine Ev.sr fun K hK => S.o q.lss (S.end (hK _ ?_))
              clear hK K
              refine Ev.ud (fun c13 => ?_) (fun c13 => ?_)
              · first | omega | contradiction | (exfalso; simp at *; done)
              · first
              | (first | omega | contradiction)
              | refine Ev.exit ?_
                refine hR2 _ _ ?_
                show Ev _ _ _ _
                refine Ev.region_S fun K hK => S.o q.add (S.o q.mv (S.end (hK _ ?_)))
                clear hK K
                refine hR0 _ _ ?_
                refine roundU [0, 1, 2] [3, 4, 5, 29, 30] ⟨(pre ++ [s], suf), by rw [← hp]; simp, ?_⟩ ?_ (keep_c (he := (by first | rfl | (rw [inL_snoc_t ‹inB s.zone z›]; done) | (rw [inL_snoc_f ‹¬ inB s.zone z›]; done) | (simp [inL, froms]; done))) (h := (keep_c (he := (by first | rfl | (rw [inL_snoc_t ‹inB s.zone z›, froms_snoc]; done) | (rw [inL_snoc_f ‹¬ inB s.zone z›]; done) | (simp [inL, froms]; done))) (h := (keep_c (he := (by first | rfl | (simp; done))) (h := keep_n)))))) (slots_c (he := (by first | rfl | (congr 2; simp; done))) (h := (slots_c (he := (by first | rfl | (rw [inL_snoc_t ‹inB s.zone z›]; done) | (rw [inL_snoc_f ‹¬ inB s.zone z›]; done) | (simp [inL, froms]; done))) (h := (slots_c (he := (by first | rfl | (rw [inL_snoc_t ‹inB s.zone z›, froms_snoc]; done) | (rw [inL_snoc_f ‹¬ inB s.zone z›]; done) | (simp [inL, froms]; done))) (h := trivial)))))) (.c (.c (.c (.c (.c .n)))))
                trivial
                all_goals (dsimp only; simp only [List.length_cons]; omega)
            · simp only [List.length_cons] at hpl2
              have hidx2 : s.steps[pre2.length]? = some (qx, qy) := by rw [← hp2]; simp
              refine Ev.sr fun K hK => S.o q.lss (S.end (hK _ ?_))
              clear hK K
              refine Ev.ud (fun c14 => ?_) (fun c14 => ?_)
              · first
              | (first | omega | contradiction)
              | refine Ev.seq ?_
                refine Ev.block ?_
                refine Ev.sr fun K hK => S.o (q.ix am_el31 am_cl40 (hl := (by first | exact ati hidx (by omega) | exact ati hidx2 (by omega) | exact atig (by omega)))) (S.o (q.lsA [_, _] am_ag40 am_cl40) (S.nn (q.al am_ze40) (S.sv [_, _] true [_, _, _] am_in40 am_cl40 (h := S.end (hK _ ?_)))))
                clear hK K
                refine Ev.region_S fun K hK => S.o q.mv (S.o (q.fa 0 am_fi40_0 am_cl3) (S.o (q.lv am_ag3) (S.nn (q.bs [[_]] true am_el62 am_ze3 am_cl3) (S.ap' [_, _, _, _] am_el62 am_ze3 am_cl3 am_by3 (hh := head_own') (hr := (rows_lit [(qx : Int)])) (h := S.o q.as (S.end (hK _ ?_)))))))
                clear hK K
                show Ev _ _ _ _
                refine Ev.region_S fun K hK => S.o q.add (S.o q.mv (S.end (hK _ ?_)))
                clear hK K
                refine hR2 _ _ ?_
                refine roundU [0, 5, 2] [3, 4, 5, 29, 30, 31, 32, 45, 46] ⟨(pre2 ++ [(qx, qy)], suf2), by rw [← hp2]; simp⟩ ?_ (keep_c (he := (by first | rfl | (simp; done))) (h := (keep_c (he := (by first | rfl | (simp; done))) (h := (keep_c (he := (by first | rfl | (simp; done))) (h := keep_n)))))) (slots_c (he := (by first | rfl | (congr 2; simp; done))) (h := (slots_c (he := (by first | rfl | (simp; done) | (congr 2; omega))) (h := (slots_c (he := (by first | rfl | (simp; done))) (h := trivial)))))) (.c (.c (.c (.c (.c (.c (.c (.c (.c .n)))))))))
                skip
                all_goals (dsimp only; simp only [List.length_cons]; omega)
              · first | omega | contradiction | (exfalso; simp at *; done)
        · first | omega | contradiction | (exfalso; simp at *; done)
end Go.Proofs.YthiockdlhehhoaaDoor
