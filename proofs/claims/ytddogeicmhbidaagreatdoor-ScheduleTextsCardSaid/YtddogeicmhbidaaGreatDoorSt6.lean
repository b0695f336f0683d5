/-
  The law ScheduleTexts, walked.
  Conditions: none.
-/
import Derived.Test.YtddogeicmhbidaaGreatDoorSt1
import Derived.Test.YtddogeicmhbidaaGreatDoorBk1
namespace Go.Proofs.YtddogeicmhbidaaGreatDoor
open Go Go.AM
set_option linter.unusedSimpArgs false
set_option linter.unusedVariables false
set_option maxRecDepth 100000
set_option maxHeartbeats 2000000

theorem rText_fun (l : List Bar) (hok : okSched l) : Fun Tryz.prog 14 [.sh 5 (l.map Bar.c)] (Ret (.lit (str (textP l))) []) := by
  have hll := hok.1
  refine Fun.of (nt := 20) (rs := [.tmp 2]) Tryz.func14 rfl rfl rfl rfl rfl ?_
  refine Ev.sr fun K hK => S.o q.as (S.end (hK _ ?_))
  clear hK K
  refine Ev.sr fun K hK => S.o q.as (S.end (hK _ ?_))
  clear hK K
  refine Ev.seq ?_
  refine Ev.sr fun K hK => S.o q.as (S.end (hK _ ?_))
  clear hK K
  refine Ev.block ?_
  refine Ev.loopU (ι := {p : List (Bar) × List (Bar) // p.1 ++ p.2 = l ∧ True}) [] [0, 2] (fun ⟨(pre, suf), _⟩ => [(4, .lit (.int .i64 ((pre.length : Int)))), (3, .lit (str (textP pre)))]) (fun ⟨(pre, suf), _⟩ => []) (fun ⟨(pre, suf), _⟩ => suf.length) ⟨([], l), rfl, trivial⟩ (.c (.c .n)) keep_n (slots_c (he := (by first | rfl | (congr 2; simp; done))) (h := (slots_c (he := (by first | rfl | (rw [textP_snoc, lineT]; simp only [List.append_assoc]; done))) (h := trivial)))) ?_
  rintro ⟨⟨pre, suf⟩, hp, hinv⟩ R0 hR0
  dsimp only [List.cons_append, List.nil_append, List.length_cons, List.length_nil]
  simp only at hp hinv
  have hpl : pre.length + suf.length = (l).length := by rw [← hp, List.length_append]
  rcases suf with _ | ⟨s, suf⟩
  · rw [List.append_nil] at hp; subst pre; simp only [List.length_nil] at hpl
    refine Ev.seq ?_
    refine Ev.sr fun K hK => S.o q.mv (S.o q.mv (S.o (q.lens am_el22) (S.o q.lss (S.end (hK _ ?_)))))
    clear hK K
    refine Ev.cd (fun c1 => ?_) (fun c1 => ?_)
    · first | omega | contradiction
    · first
    | (first | omega | contradiction)
    | refine Ev.exit ?_
      refine hR0 _ _ ?_
      show Ev _ _ _ _
      refine Ev.sr fun K hK => S.o q.mv (S.o q.as (S.end (hK _ ?_)))
      clear hK K
      refine Ev.ret ?_
      refine Ev.ret1 ?_
      refine ⟨?_, rfl⟩
      rfl
  · simp only [List.length_cons] at hpl
    have hidx : (l)[pre.length]? = some s := by rw [← hp]; simp
    have hsk : okBar s := hok.2.1 s (by rw [← hp]; simp)
    have hsl := line_fine hsk
    have hpt := text_fine pre (fun c hc => hok.2.1 c (by rw [← hp]; simp [hc]))
    have hjl : (joinS [32] (lineW s)).length + 1 = (lineT s).length := by rw [lineT, List.length_append]; rfl
    refine Ev.seq ?_
    refine Ev.sr fun K hK => S.o q.mv (S.o q.mv (S.o (q.lens am_el22) (S.o q.lss (S.end (hK _ ?_)))))
    clear hK K
    refine Ev.cd (fun c2 => ?_) (fun c2 => ?_)
    · first
    | (first | omega | contradiction)
    | refine Ev.skip ?_
      show Ev _ _ _ _
      refine Ev.seq ?_
      refine Ev.block ?_
      refine Ev.region_S fun K hK => S.o q.mv (S.o q.mv (S.o q.mv (S.o (q.ix am_el22 am_cl49 (hl := (by first | exact ati hidx (by omega) | exact atig (by omega)))) (S.o (q.lsA [_, _, _, _, _] am_ag49 am_cl49) (S.c0 (hF := rLine_fun s hsk) (h := S.o q.sadd (S.o q.sadd (S.o q.as (S.end (hK _ ?_))))))))))
      clear hK K
      show Ev _ _ _ _
      refine Ev.region_S fun K hK => S.o q.mv (S.o q.add (S.o q.as (S.end (hK _ ?_))))
      clear hK K
      refine hR0 _ _ ?_
      refine roundU [] [0, 2] ⟨(pre ++ [s], suf), by rw [← hp]; simp, ?_⟩ ?_ keep_n (slots_c (he := (by first | rfl | (congr 2; simp; done))) (h := (slots_c (he := (by first | rfl | (rw [textP_snoc, lineT]; simp only [List.append_assoc]; done))) (h := trivial)))) (.c (.c .n))
      trivial
      all_goals (dsimp only; simp only [List.length_cons]; omega)
    · first | omega | contradiction

theorem parseV_in (z : List UInt8) : (parseV z).length ≤ 60 ∧ ∀ x ∈ parseV z, x.dims.length ≤ 140737488355328 := by
  by_cases h : parseE z = 0
  · have h1 := (parse_back h).1
    exact ⟨h1.1, fun x hx => (okSched_w h1 x hx).2⟩
  · rw [parse_none h]
    exact ⟨by decide, fun x hx => by cases hx⟩
theorem texts_law (l : List Bar) (z : List UInt8) (hlen : l.length ≤ 140737488355328) (hz : z.length ≤ 140737488355328) : Fun Tryz.prog 4 [.sh 5 (l.map Bar.c), .lit (str z)] (Ret (.lit (.bool true)) []) := by
  obtain ⟨hpv, hpd⟩ := parseV_in z
  refine Fun.of (nt := 81) (rs := [.tmp 4]) Tryz.func4 rfl rfl rfl rfl rfl ?_
  refine Ev.sr fun K hK => S.o q.as (S.end (hK _ ?_))
  clear hK K
  refine Ev.seq ?_
  refine Ev.sr fun K hK => S.c0 (hF := awake_fun) (h := S.o q.nott (S.end (hK _ ?_)))
  clear hK K
  refine Ev.cf ?_
  refine Ev.skip ?_
  show Ev _ _ _ _
  refine Ev.seq ?_
  refine Ev.sr fun K hK => S.o q.mv (S.nn (q.bs [[_]] true am_el53 am_ze22 am_cl22) (S.c0 (hF := few_fun [l] (by simp) (fun x hx => by rw [List.mem_singleton] at hx; subst hx; exact hlen)) (h := S.o q.not (S.bn q.mv (fun c1 => ?_) (fun c1 => ?_)))))
  · first
  | (first | omega | contradiction)
  | refine S.sk (S.sk (S.sk (S.sk (S.sk (S.sk (S.sk (S.sk (S.o q.pt (S.o q.mv (S.sk (S.sk (S.sk (S.o q.pt (S.end (hK _ ?_)))))))))))))))
    clear hK K
    refine Ev.ct ?_
    refine Ev.sr fun K hK => S.o q.as (S.end (hK _ ?_))
    clear hK K
    refine Ev.ret ?_
    refine Ev.ret1 ?_
    refine ⟨?_, rfl⟩
    first | rfl | exact lawT rfl | exact lawT (by omega) | (exfalso; omega) | contradiction | exact absurd rfl ‹_› | (exfalso; simp at *; done) | (simp; done)
  · first
  | (first | omega | contradiction)
  | refine S.o q.mv (S.o (q.slen am_el9 am_un9) (S.o q.gtr (S.bd q.mv (fun c2 => ?_) (fun c2 => ?_))))
    · first
    | (first | omega | contradiction)
    | refine S.o q.mv (S.o (q.slen am_el9 am_un9) (S.o q.leq (S.o q.pt (S.o q.pf (S.bd q.mv (fun c3 => ?_) (fun c3 => ?_))))))
      · first
      | (first | omega | contradiction)
      | refine S.sk (S.sk (S.sk (S.o q.pt (S.end (hK _ ?_)))))
        clear hK K
        refine Ev.ct ?_
        refine Ev.sr fun K hK => S.o q.as (S.end (hK _ ?_))
        clear hK K
        refine Ev.ret ?_
        refine Ev.ret1 ?_
        refine ⟨?_, rfl⟩
        first | rfl | exact lawT rfl | exact lawT (by omega) | (exfalso; omega) | contradiction | exact absurd rfl ‹_› | (exfalso; simp at *; done) | (simp; done)
      · first
      | (first | omega | contradiction)
      | refine S.o q.mv (S.o (q.slen am_el9 am_un9) (S.o q.gtr (S.o q.pf (S.end (hK _ ?_)))))
        clear hK K
        refine Ev.cd (fun c4 => ?_) (fun c4 => ?_)
        · first
        | (first | omega | contradiction)
        | refine Ev.sr fun K hK => S.o q.as (S.end (hK _ ?_))
          clear hK K
          refine Ev.ret ?_
          refine Ev.ret1 ?_
          refine ⟨?_, rfl⟩
          first | rfl | exact lawT rfl | exact lawT (by omega) | (exfalso; omega) | contradiction | exact absurd rfl ‹_› | (exfalso; simp at *; done) | (simp; done)
        · first
        | (first | omega | contradiction)
        | refine Ev.skip ?_
          show Ev _ _ _ _
          have hsm : smallL l 70 := (‹∀ x ∈ [l], smallL x 70› : ∀ x ∈ [l], smallL x 70) l (by simp)
          have hw := small_w hsm
          have hl8 := hsm.1
          refine Ev.sr fun K hK => S.o q.mv (S.c0 (hF := Text_fun l hlen hw) (h := S.o q.mv (S.o q.ex (S.o q.ex (S.o q.as (S.o q.as (S.end (hK _ ?_))))))))
          clear hK K
          refine Ev.seq ?_
          refine Ev.sr fun K hK => S.o q.mv (S.c0 (hF := rschedValid_fun _ (by omega) (by assumption)) (h := S.o q.not (S.end (hK _ ?_))))
          clear hK K
          refine Ev.cn (fun c5 => ?_) (fun c5 => ?_)
          · first
          | (first | omega | contradiction)
          | have hno : ¬ okSched l := ‹_›
            have f1 : textV l = [] := if_neg hno
            have f2 : textE l = 1 := if_neg hno
            rw [f1, f2]
            refine Ev.sr fun K hK => S.o q.mv (S.o q.snes (S.bn q.mv (fun c6 => ?_) (fun c6 => ?_)))
            · first
            | (first | omega | contradiction)
            | refine S.sk (S.sk (S.o q.pt (S.end (hK _ ?_))))
              clear hK K
              refine Ev.ct ?_
              refine Ev.sr fun K hK => S.o q.as (S.end (hK _ ?_))
              clear hK K
              refine Ev.ret ?_
              refine Ev.ret1 ?_
              refine ⟨?_, rfl⟩
              first | rfl | exact lawT rfl | exact lawT (by omega) | (exfalso; omega) | contradiction | exact absurd rfl ‹_› | (exfalso; simp at *; done) | (simp; done)
            · first
            | (first | omega | contradiction)
            | refine S.o q.mv (S.o q.neq (S.o q.pf (S.end (hK _ ?_))))
              clear hK K
              refine Ev.cn (fun c7 => ?_) (fun c7 => ?_)
              · first
              | (first | omega | contradiction)
              | refine Ev.sr fun K hK => S.o q.as (S.end (hK _ ?_))
                clear hK K
                refine Ev.ret ?_
                refine Ev.ret1 ?_
                refine ⟨?_, rfl⟩
                first | rfl | exact lawT rfl | exact lawT (by omega) | (exfalso; omega) | contradiction | exact absurd rfl ‹_› | (exfalso; simp at *; done) | (simp; done)
              · first
              | (first | omega | contradiction)
              | refine Ev.skip ?_
                show Ev _ _ _ _
                refine Ev.sr fun K hK => S.o q.mv (S.c0 (hF := Parse_fun z hz) (h := S.o q.mv (S.o q.ex (S.o q.ex (S.o q.ex (S.nn (q.al am_ze40) (S.o q.as (S.sv [_, _] true [_] am_in40 am_cl40 (h := S.o q.as (S.end (hK _ ?_)))))))))))
                clear hK K
                refine Ev.sr fun K hK => S.o q.mv (S.c0 (hF := rParse_fun z hz) (h := S.o q.mv (S.o q.ex (S.o q.ex (S.o q.ex (S.nn (q.al am_ze40) (S.o q.as (S.sv [_, _] true [_, _] am_in40 am_cl40 (h := S.o q.as (S.end (hK _ ?_)))))))))))
                clear hK K
                refine Ev.sr fun K hK => S.o q.mv (S.o q.mv (S.c0 (hF := same14_fun (parseV z) (parseV z) (by omega) (by omega) hpd hpd) (h := S.bd q.mv (fun c8 => ?_) (fun c8 => ?_))))
                · first
                | (first | omega | contradiction)
                | refine S.o (q.lvA [_, _] am_ag40 am_cl40) (S.o (q.lvA [_, _] am_ag40 am_cl40) (S.o (q.seql am_eq40 (am_sq40 _ _ _ _)) (S.o q.pt (S.bb q.mv (fun c9 => ?_) (fun c9 => ?_)))))
                  · first
                  | (first | omega | contradiction)
                  | refine S.o q.mv (S.o q.mv (S.o q.eql (S.o q.pt (S.o q.as (S.end (hK _ ?_))))))
                    clear hK K
                    refine Ev.ret ?_
                    refine Ev.ret1 ?_
                    refine ⟨?_, rfl⟩
                    first | rfl | exact lawT rfl | exact lawT (by omega) | (exfalso; omega) | contradiction | exact absurd rfl ‹_› | (exfalso; simp at *; done) | (simp; done)
                  · first
                  | (first | omega | contradiction)
                  | refine S.sk (S.sk (S.sk (S.o q.pf (S.o q.as (S.end (hK _ ?_))))))
                    clear hK K
                    refine Ev.ret ?_
                    refine Ev.ret1 ?_
                    refine ⟨?_, rfl⟩
                    first | rfl | exact lawT rfl | exact lawT (by omega) | (exfalso; omega) | contradiction | exact absurd rfl ‹_› | (exfalso; simp at *; done) | (simp; done)
                · first
                | (first | omega | contradiction)
                | refine S.sk (S.sk (S.sk (S.o q.pf (S.o q.mv (S.sk (S.sk (S.sk (S.o q.pf (S.o q.as (S.end (hK _ ?_)))))))))))
                  clear hK K
                  refine Ev.ret ?_
                  refine Ev.ret1 ?_
                  refine ⟨?_, rfl⟩
                  first | rfl | exact lawT rfl | exact lawT (by omega) | (exfalso; omega) | contradiction | exact absurd rfl ‹_› | (exfalso; simp at *; done) | (simp; done)
          · first
          | (first | omega | contradiction)
          | have hok : okSched l := ‹_›
            have f1 : textV l = textP l := if_pos hok
            have f2 : textE l = 0 := if_pos hok
            rw [f1, f2]
            refine Ev.sr fun K hK => S.o q.mv (S.o q.mv (S.c0 (hF := rText_fun l hok) (h := S.o q.snes (S.bn q.mv (fun c10 => ?_) (fun c10 => ?_)))))
            · first
            | (first | omega | contradiction)
            | refine S.sk (S.sk (S.o q.pt (S.end (hK _ ?_))))
              clear hK K
              refine Ev.ct ?_
              refine Ev.sr fun K hK => S.o q.as (S.end (hK _ ?_))
              clear hK K
              refine Ev.ret ?_
              refine Ev.ret1 ?_
              refine ⟨?_, rfl⟩
              first | rfl | exact lawT rfl | exact lawT (by omega) | (exfalso; omega) | contradiction | exact absurd rfl ‹_› | (exfalso; simp at *; done) | (simp; done)
            · first
            | (first | omega | contradiction)
            | refine S.o q.mv (S.o q.neq (S.o q.pf (S.end (hK _ ?_))))
              clear hK K
              refine Ev.cn (fun c11 => ?_) (fun c11 => ?_)
              · first
              | (first | omega | contradiction)
              | refine Ev.sr fun K hK => S.o q.as (S.end (hK _ ?_))
                clear hK K
                refine Ev.ret ?_
                refine Ev.ret1 ?_
                refine ⟨?_, rfl⟩
                first | rfl | exact lawT rfl | exact lawT (by omega) | (exfalso; omega) | contradiction | exact absurd rfl ‹_› | (exfalso; simp at *; done) | (simp; done)
              · first
              | (first | omega | contradiction)
              | refine Ev.skip ?_
                show Ev _ _ _ _
                refine Ev.sr fun K hK => S.o q.mv (S.c0 (hF := Parse_fun z hz) (h := S.o q.mv (S.o q.ex (S.o q.ex (S.o q.ex (S.nn (q.al am_ze40) (S.o q.as (S.sv [_, _] true [_] am_in40 am_cl40 (h := S.o q.as (S.end (hK _ ?_)))))))))))
                clear hK K
                refine Ev.sr fun K hK => S.o q.mv (S.c0 (hF := rParse_fun z hz) (h := S.o q.mv (S.o q.ex (S.o q.ex (S.o q.ex (S.nn (q.al am_ze40) (S.o q.as (S.sv [_, _] true [_, _] am_in40 am_cl40 (h := S.o q.as (S.end (hK _ ?_)))))))))))
                clear hK K
                refine Ev.sr fun K hK => S.o q.mv (S.o q.mv (S.c0 (hF := same14_fun (parseV z) (parseV z) (by omega) (by omega) hpd hpd) (h := S.bd q.mv (fun c12 => ?_) (fun c12 => ?_))))
                · first
                | (first | omega | contradiction)
                | refine S.o (q.lvA [_, _] am_ag40 am_cl40) (S.o (q.lvA [_, _] am_ag40 am_cl40) (S.o (q.seql am_eq40 (am_sq40 _ _ _ _)) (S.o q.pt (S.bb q.mv (fun c13 => ?_) (fun c13 => ?_)))))
                  · first
                  | (first | omega | contradiction)
                  | refine S.o q.mv (S.o q.mv (S.o q.eql (S.o q.pt (S.o q.as (S.end (hK _ ?_))))))
                    clear hK K
                    refine Ev.ret ?_
                    refine Ev.ret1 ?_
                    refine ⟨?_, rfl⟩
                    first | rfl | exact lawT rfl | exact lawT (by omega) | (exfalso; omega) | contradiction | exact absurd rfl ‹_› | (exfalso; simp at *; done) | (simp; done)
                  · first
                  | (first | omega | contradiction)
                  | refine S.sk (S.sk (S.sk (S.o q.pf (S.o q.as (S.end (hK _ ?_))))))
                    clear hK K
                    refine Ev.ret ?_
                    refine Ev.ret1 ?_
                    refine ⟨?_, rfl⟩
                    first | rfl | exact lawT rfl | exact lawT (by omega) | (exfalso; omega) | contradiction | exact absurd rfl ‹_› | (exfalso; simp at *; done) | (simp; done)
                · first
                | (first | omega | contradiction)
                | refine S.sk (S.sk (S.sk (S.o q.pf (S.o q.mv (S.sk (S.sk (S.sk (S.o q.pf (S.o q.as (S.end (hK _ ?_)))))))))))
                  clear hK K
                  refine Ev.ret ?_
                  refine Ev.ret1 ?_
                  refine ⟨?_, rfl⟩
                  first | rfl | exact lawT rfl | exact lawT (by omega) | (exfalso; omega) | contradiction | exact absurd rfl ‹_› | (exfalso; simp at *; done) | (simp; done)
    · first
    | (first | omega | contradiction)
    | refine S.sk (S.sk (S.sk (S.o q.pf (S.o q.pf (S.o q.mv (S.o q.mv (S.o (q.slen am_el9 am_un9) (S.o q.gtr (S.o q.pf (S.end (hK _ ?_)))))))))))
      clear hK K
      refine Ev.cd (fun c14 => ?_) (fun c14 => ?_)
      · first
      | (first | omega | contradiction)
      | refine Ev.sr fun K hK => S.o q.as (S.end (hK _ ?_))
        clear hK K
        refine Ev.ret ?_
        refine Ev.ret1 ?_
        refine ⟨?_, rfl⟩
        first | rfl | exact lawT rfl | exact lawT (by omega) | (exfalso; omega) | contradiction | exact absurd rfl ‹_› | (exfalso; simp at *; done) | (simp; done)
      · first
      | (first | omega | contradiction)
      | refine Ev.skip ?_
        show Ev _ _ _ _
        have hsm : smallL l 70 := (‹∀ x ∈ [l], smallL x 70› : ∀ x ∈ [l], smallL x 70) l (by simp)
        have hw := small_w hsm
        have hl8 := hsm.1
        refine Ev.sr fun K hK => S.o q.mv (S.c0 (hF := Text_fun l hlen hw) (h := S.o q.mv (S.o q.ex (S.o q.ex (S.o q.as (S.o q.as (S.end (hK _ ?_))))))))
        clear hK K
        refine Ev.seq ?_
        refine Ev.sr fun K hK => S.o q.mv (S.c0 (hF := rschedValid_fun _ (by omega) (by assumption)) (h := S.o q.not (S.end (hK _ ?_))))
        clear hK K
        refine Ev.cn (fun c15 => ?_) (fun c15 => ?_)
        · first
        | (first | omega | contradiction)
        | have hno : ¬ okSched l := ‹_›
          have f1 : textV l = [] := if_neg hno
          have f2 : textE l = 1 := if_neg hno
          rw [f1, f2]
          refine Ev.sr fun K hK => S.o q.mv (S.o q.snes (S.bn q.mv (fun c16 => ?_) (fun c16 => ?_)))
          · first
          | (first | omega | contradiction)
          | refine S.sk (S.sk (S.o q.pt (S.end (hK _ ?_))))
            clear hK K
            refine Ev.ct ?_
            refine Ev.sr fun K hK => S.o q.as (S.end (hK _ ?_))
            clear hK K
            refine Ev.ret ?_
            refine Ev.ret1 ?_
            refine ⟨?_, rfl⟩
            first | rfl | exact lawT rfl | exact lawT (by omega) | (exfalso; omega) | contradiction | exact absurd rfl ‹_› | (exfalso; simp at *; done) | (simp; done)
          · first
          | (first | omega | contradiction)
          | refine S.o q.mv (S.o q.neq (S.o q.pf (S.end (hK _ ?_))))
            clear hK K
            refine Ev.cn (fun c17 => ?_) (fun c17 => ?_)
            · first
            | (first | omega | contradiction)
            | refine Ev.sr fun K hK => S.o q.as (S.end (hK _ ?_))
              clear hK K
              refine Ev.ret ?_
              refine Ev.ret1 ?_
              refine ⟨?_, rfl⟩
              first | rfl | exact lawT rfl | exact lawT (by omega) | (exfalso; omega) | contradiction | exact absurd rfl ‹_› | (exfalso; simp at *; done) | (simp; done)
            · first
            | (first | omega | contradiction)
            | refine Ev.skip ?_
              show Ev _ _ _ _
              refine Ev.sr fun K hK => S.o q.mv (S.c0 (hF := Parse_fun z hz) (h := S.o q.mv (S.o q.ex (S.o q.ex (S.o q.ex (S.nn (q.al am_ze40) (S.o q.as (S.sv [_, _] true [_] am_in40 am_cl40 (h := S.o q.as (S.end (hK _ ?_)))))))))))
              clear hK K
              refine Ev.sr fun K hK => S.o q.mv (S.c0 (hF := rParse_fun z hz) (h := S.o q.mv (S.o q.ex (S.o q.ex (S.o q.ex (S.nn (q.al am_ze40) (S.o q.as (S.sv [_, _] true [_, _] am_in40 am_cl40 (h := S.o q.as (S.end (hK _ ?_)))))))))))
              clear hK K
              refine Ev.sr fun K hK => S.o q.mv (S.o q.mv (S.c0 (hF := same14_fun (parseV z) (parseV z) (by omega) (by omega) hpd hpd) (h := S.bd q.mv (fun c18 => ?_) (fun c18 => ?_))))
              · first
              | (first | omega | contradiction)
              | refine S.o (q.lvA [_, _] am_ag40 am_cl40) (S.o (q.lvA [_, _] am_ag40 am_cl40) (S.o (q.seql am_eq40 (am_sq40 _ _ _ _)) (S.o q.pt (S.bb q.mv (fun c19 => ?_) (fun c19 => ?_)))))
                · first
                | (first | omega | contradiction)
                | refine S.o q.mv (S.o q.mv (S.o q.eql (S.o q.pt (S.o q.as (S.end (hK _ ?_))))))
                  clear hK K
                  refine Ev.ret ?_
                  refine Ev.ret1 ?_
                  refine ⟨?_, rfl⟩
                  first | rfl | exact lawT rfl | exact lawT (by omega) | (exfalso; omega) | contradiction | exact absurd rfl ‹_› | (exfalso; simp at *; done) | (simp; done)
                · first
                | (first | omega | contradiction)
                | refine S.sk (S.sk (S.sk (S.o q.pf (S.o q.as (S.end (hK _ ?_))))))
                  clear hK K
                  refine Ev.ret ?_
                  refine Ev.ret1 ?_
                  refine ⟨?_, rfl⟩
                  first | rfl | exact lawT rfl | exact lawT (by omega) | (exfalso; omega) | contradiction | exact absurd rfl ‹_› | (exfalso; simp at *; done) | (simp; done)
              · first
              | (first | omega | contradiction)
              | refine S.sk (S.sk (S.sk (S.o q.pf (S.o q.mv (S.sk (S.sk (S.sk (S.o q.pf (S.o q.as (S.end (hK _ ?_)))))))))))
                clear hK K
                refine Ev.ret ?_
                refine Ev.ret1 ?_
                refine ⟨?_, rfl⟩
                first | rfl | exact lawT rfl | exact lawT (by omega) | (exfalso; omega) | contradiction | exact absurd rfl ‹_› | (exfalso; simp at *; done) | (simp; done)
        · first
        | (first | omega | contradiction)
        | have hok : okSched l := ‹_›
          have f1 : textV l = textP l := if_pos hok
          have f2 : textE l = 0 := if_pos hok
          rw [f1, f2]
          refine Ev.sr fun K hK => S.o q.mv (S.o q.mv (S.c0 (hF := rText_fun l hok) (h := S.o q.snes (S.bn q.mv (fun c20 => ?_) (fun c20 => ?_)))))
          · first
          | (first | omega | contradiction)
          | refine S.sk (S.sk (S.o q.pt (S.end (hK _ ?_))))
            clear hK K
            refine Ev.ct ?_
            refine Ev.sr fun K hK => S.o q.as (S.end (hK _ ?_))
            clear hK K
            refine Ev.ret ?_
            refine Ev.ret1 ?_
            refine ⟨?_, rfl⟩
            first | rfl | exact lawT rfl | exact lawT (by omega) | (exfalso; omega) | contradiction | exact absurd rfl ‹_› | (exfalso; simp at *; done) | (simp; done)
          · first
          | (first | omega | contradiction)
          | refine S.o q.mv (S.o q.neq (S.o q.pf (S.end (hK _ ?_))))
            clear hK K
            refine Ev.cn (fun c21 => ?_) (fun c21 => ?_)
            · first
            | (first | omega | contradiction)
            | refine Ev.sr fun K hK => S.o q.as (S.end (hK _ ?_))
              clear hK K
              refine Ev.ret ?_
              refine Ev.ret1 ?_
              refine ⟨?_, rfl⟩
              first | rfl | exact lawT rfl | exact lawT (by omega) | (exfalso; omega) | contradiction | exact absurd rfl ‹_› | (exfalso; simp at *; done) | (simp; done)
            · first
            | (first | omega | contradiction)
            | refine Ev.skip ?_
              show Ev _ _ _ _
              refine Ev.sr fun K hK => S.o q.mv (S.c0 (hF := Parse_fun z hz) (h := S.o q.mv (S.o q.ex (S.o q.ex (S.o q.ex (S.nn (q.al am_ze40) (S.o q.as (S.sv [_, _] true [_] am_in40 am_cl40 (h := S.o q.as (S.end (hK _ ?_)))))))))))
              clear hK K
              refine Ev.sr fun K hK => S.o q.mv (S.c0 (hF := rParse_fun z hz) (h := S.o q.mv (S.o q.ex (S.o q.ex (S.o q.ex (S.nn (q.al am_ze40) (S.o q.as (S.sv [_, _] true [_, _] am_in40 am_cl40 (h := S.o q.as (S.end (hK _ ?_)))))))))))
              clear hK K
              refine Ev.sr fun K hK => S.o q.mv (S.o q.mv (S.c0 (hF := same14_fun (parseV z) (parseV z) (by omega) (by omega) hpd hpd) (h := S.bd q.mv (fun c22 => ?_) (fun c22 => ?_))))
              · first
              | (first | omega | contradiction)
              | refine S.o (q.lvA [_, _] am_ag40 am_cl40) (S.o (q.lvA [_, _] am_ag40 am_cl40) (S.o (q.seql am_eq40 (am_sq40 _ _ _ _)) (S.o q.pt (S.bb q.mv (fun c23 => ?_) (fun c23 => ?_)))))
                · first
                | (first | omega | contradiction)
                | refine S.o q.mv (S.o q.mv (S.o q.eql (S.o q.pt (S.o q.as (S.end (hK _ ?_))))))
                  clear hK K
                  refine Ev.ret ?_
                  refine Ev.ret1 ?_
                  refine ⟨?_, rfl⟩
                  first | rfl | exact lawT rfl | exact lawT (by omega) | (exfalso; omega) | contradiction | exact absurd rfl ‹_› | (exfalso; simp at *; done) | (simp; done)
                · first
                | (first | omega | contradiction)
                | refine S.sk (S.sk (S.sk (S.o q.pf (S.o q.as (S.end (hK _ ?_))))))
                  clear hK K
                  refine Ev.ret ?_
                  refine Ev.ret1 ?_
                  refine ⟨?_, rfl⟩
                  first | rfl | exact lawT rfl | exact lawT (by omega) | (exfalso; omega) | contradiction | exact absurd rfl ‹_› | (exfalso; simp at *; done) | (simp; done)
              · first
              | (first | omega | contradiction)
              | refine S.sk (S.sk (S.sk (S.o q.pf (S.o q.mv (S.sk (S.sk (S.sk (S.o q.pf (S.o q.as (S.end (hK _ ?_)))))))))))
                clear hK K
                refine Ev.ret ?_
                refine Ev.ret1 ?_
                refine ⟨?_, rfl⟩
                first | rfl | exact lawT rfl | exact lawT (by omega) | (exfalso; omega) | contradiction | exact absurd rfl ‹_› | (exfalso; simp at *; done) | (simp; done)
end Go.Proofs.YtddogeicmhbidaaGreatDoor
