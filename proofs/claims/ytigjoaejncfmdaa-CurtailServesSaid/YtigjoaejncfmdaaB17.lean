/-
  The law CurtailServes, walked.
  Conditions: none.
-/
import Derived.Test.YtigjoaejncfmdaaB16
namespace Go.Proofs.Ytigjoaejncfmdaa
open Go Go.AM
set_option linter.unusedSimpArgs false
set_option linter.unusedVariables false
set_option maxRecDepth 100000
set_option maxHeartbeats 1000000

theorem atF_need (y : Int) : ∀ (l : List (Int × Int)) (v : Int), atF v l y = l.foldl (fun v s => if s.1 ≤ y then s.2 else v) v
  | [], _ => rfl
  | s :: l, v => by rw [atF, List.foldl_cons]; exact atF_need y l _
theorem At2_fun {l : List (Int × Int)} (y : Int) (h : OKSteps l) : Fun Try.prog 25 [.sh 2 (l.map stepC), .lit (.int .i64 y)] (Ret (.tup [.lit (.int .i64 (needAt l y)), .lit (.int .i64 0)]) []) := by
  have h1 := At_fun l y
  rw [show atV l y = needAt l y from (if_pos h).trans (atF_need y l 0), show atE l = 0 from if_pos h] at h1
  exact h1
theorem Area2_fun {d : Int} (h : d ∈ sizes) : Fun Try.prog 26 [.lit (.int .i64 d)] (Ret (.tup [.lit (.int .i64 (areaOf d)), .lit (.int .i64 0)]) []) := by
  have h1 := Area_fun d
  rw [show areaN d = areaOf d from if_pos h, show errN d = 0 from if_pos h] at h1
  exact h1
theorem chk_ne {l : List (Int × Int)} {d a : Int} {bars : List (Int × Int)} (h : ¬ chkE l d a bars = 0) : chkV l d a bars = false := decide_eq_false fun h2 => h h2.1
theorem chk_eq {l : List (Int × Int)} {d a : Int} {bars : List (Int × Int)} (h : chkE l d a bars = 0) : givenE l d a = 0 ∧ barsE bars = 0 := by
  unfold chkE at h
  by_cases hg : givenE l d a = 0
  · rw [if_pos hg] at h; exact ⟨hg, h⟩
  · rw [if_neg hg] at h; exact absurd h hg
theorem chk_all {l : List (Int × Int)} {d a : Int} {bars : List (Int × Int)} (hA : 0 ≤ areaOf d) (h : chkV l d a bars = true) (x : Int) : okAt l bars a (areaOf d) x := (checkP_iff hA).1 (of_decide_eq_true h).2 x
theorem serves_law (l : List (Int × Int)) (d a : Int) (bars : List (Int × Int)) (x : Int) (hl0 : l.length ≤ 140737488355328) (hb0 : bars.length ≤ 140737488355328) : Fun Try.prog 9 [.sh 2 (l.map stepC), .lit (.int .i64 d), .lit (.int .i64 a), .sh 2 (bars.map stepC), .lit (.int .i64 x)] (Ret (.lit (.bool true)) []) := by
  refine Fun.of (nt := 98) (rs := [.tmp 10]) Try.func9 rfl rfl rfl rfl rfl ?_
  refine Ev.sr fun K hK => S.o q.as (S.end (hK _ ?_))
  clear hK K
  refine Ev.seq ?_
  refine Ev.sr fun K hK => S.c0 (hF := awake_fun) (h := S.o q.nott (S.end (hK _ ?_)))
  clear hK K
  refine Ev.cf ?_
  refine Ev.skip ?_
  show Ev _ _ _ _
  refine Ev.seq ?_
  refine Ev.sr fun K hK => S.o q.mv (S.c0 (hF := large_fun _ (by omega)) (h := S.bd q.mv (fun c1 => ?_) (fun c1 => ?_)))
  · first
  | (first | omega | contradiction)
  | refine S.sk (S.sk (S.sk (S.o q.pt (S.o q.mv (S.sk (S.sk (S.o q.pt (S.o q.mv (S.sk (S.sk (S.o q.pt (S.end (hK _ ?_)))))))))))))
    clear hK K
    refine Ev.ct ?_
    refine Ev.sr fun K hK => S.o q.as (S.end (hK _ ?_))
    clear hK K
    refine Ev.ret ?_
    refine Ev.ret1 ?_
    refine ⟨?_, rfl⟩
    first
     | rfl
     | exact lawT (chk_all (by omega) (nb_t ‹_›) x)
     | exact lawT (by omega)
     | (exfalso; omega)
  · first
  | (first | omega | contradiction)
  | refine S.o q.mv (S.o (q.lens am_el25) (S.o q.gtr (S.o q.pf (S.bd q.mv (fun c2 => ?_) (fun c2 => ?_)))))
    · first
    | (first | omega | contradiction)
    | refine S.sk (S.sk (S.o q.pt (S.o q.mv (S.sk (S.sk (S.o q.pt (S.end (hK _ ?_))))))))
      clear hK K
      refine Ev.ct ?_
      refine Ev.sr fun K hK => S.o q.as (S.end (hK _ ?_))
      clear hK K
      refine Ev.ret ?_
      refine Ev.ret1 ?_
      refine ⟨?_, rfl⟩
      first
       | rfl
       | exact lawT (chk_all (by omega) (nb_t ‹_›) x)
       | exact lawT (by omega)
       | (exfalso; omega)
    · first
    | (first | omega | contradiction)
    | refine S.o q.mv (S.o q.lss (S.o q.pf (S.bd q.mv (fun c3 => ?_) (fun c3 => ?_))))
      · first
      | (first | omega | contradiction)
      | refine S.sk (S.sk (S.o q.pt (S.end (hK _ ?_))))
        clear hK K
        refine Ev.ct ?_
        refine Ev.sr fun K hK => S.o q.as (S.end (hK _ ?_))
        clear hK K
        refine Ev.ret ?_
        refine Ev.ret1 ?_
        refine ⟨?_, rfl⟩
        first
         | rfl
         | exact lawT (chk_all (by omega) (nb_t ‹_›) x)
         | exact lawT (by omega)
         | (exfalso; omega)
      · first
      | (first | omega | contradiction)
      | refine S.o q.mv (S.o q.gtr (S.o q.pf (S.end (hK _ ?_))))
        clear hK K
        refine Ev.cd (fun c4 => ?_) (fun c4 => ?_)
        · first
        | (first | omega | contradiction)
        | refine Ev.sr fun K hK => S.o q.as (S.end (hK _ ?_))
          clear hK K
          refine Ev.ret ?_
          refine Ev.ret1 ?_
          refine ⟨?_, rfl⟩
          first
           | rfl
           | exact lawT (chk_all (by omega) (nb_t ‹_›) x)
           | exact lawT (by omega)
           | (exfalso; omega)
        · first
        | (first | omega | contradiction)
        | refine Ev.skip ?_
          show Ev _ _ _ _
          refine Ev.sr fun K hK => S.o q.mv (S.o q.mv (S.o q.mv (S.o q.mv (S.c0 (hF := Check_fun _ _ _ _ (by omega)) (h := S.o q.mv (S.o q.ex (S.o q.ex (S.o q.as (S.o q.as (S.end (hK _ ?_)))))))))))
          clear hK K
          refine Ev.seq ?_
          refine Ev.sr fun K hK => S.o q.mv (S.o q.neq (S.end (hK _ ?_)))
          clear hK K
          refine Ev.cn (fun c5 => ?_) (fun c5 => ?_)
          · first
          | (first | omega | contradiction)
          | rw [chk_ne (by omega)]
            refine Ev.sr fun K hK => S.o q.mv (S.o q.not (S.o q.as (S.end (hK _ ?_))))
            clear hK K
            refine Ev.ret ?_
            refine Ev.ret1 ?_
            refine ⟨?_, rfl⟩
            first
             | rfl
             | exact lawT (chk_all (by omega) (nb_t ‹_›) x)
             | exact lawT (by omega)
             | (exfalso; omega)
          · first
          | (first | omega | contradiction)
          | refine Ev.skip ?_
            show Ev _ _ _ _
            obtain ⟨hg, hb⟩ := chk_eq (l := l) (d := d) (a := a) (bars := bars) (by omega)
            obtain ⟨hs1, hs2, hlast, hz, ha0, ha1, hA0, hA1⟩ := givenZ hg
            obtain ⟨hbl, hbo, _⟩ := bars_ok hb
            have hst : OKSteps l := ⟨hs1, hs2⟩
            refine Ev.sr fun K hK => S.o q.mv (S.o q.mv (S.c0 (hF := At2_fun x hst) (h := S.o q.mv (S.o q.ex (S.o q.ex (S.o q.as (S.o q.as (S.end (hK _ ?_)))))))))
            clear hK K
            refine Ev.sr fun K hK => S.o q.mv (S.c0 (hF := Area2_fun hz) (h := S.o q.mv (S.o q.ex (S.o q.ex (S.o q.as (S.o q.as (S.end (hK _ ?_))))))))
            clear hK K
            refine Ev.seq ?_
            refine Ev.sr fun K hK => S.o q.mv (S.o q.neq (S.bn q.mv (fun c6 => ?_) (fun c6 => ?_)))
            · first
            | (first | omega | contradiction)
            | refine S.sk (S.sk (S.o q.pt (S.end (hK _ ?_))))
              clear hK K
              refine Ev.ct ?_
              refine Ev.sr fun K hK => S.o q.as (S.end (hK _ ?_))
              clear hK K
              refine Ev.ret ?_
              refine Ev.ret1 ?_
              refine ⟨?_, rfl⟩
              first
               | rfl
               | exact lawT (chk_all (by omega) (nb_t ‹_›) x)
               | exact lawT (by omega)
               | (exfalso; omega)
            · first
            | (first | omega | contradiction)
            | refine S.o q.mv (S.o q.neq (S.o q.pf (S.end (hK _ ?_))))
              clear hK K
              refine Ev.cn (fun c7 => ?_) (fun c7 => ?_)
              · first
              | (first | omega | contradiction)
              | refine Ev.sr fun K hK => S.o q.as (S.end (hK _ ?_))
                clear hK K
                refine Ev.ret ?_
                refine Ev.ret1 ?_
                refine ⟨?_, rfl⟩
                first
                 | rfl
                 | exact lawT (chk_all (by omega) (nb_t ‹_›) x)
                 | exact lawT (by omega)
                 | (exfalso; omega)
              · first
              | (first | omega | contradiction)
              | refine Ev.skip ?_
                show Ev _ _ _ _
                refine Ev.sr fun K hK => S.o q.as (S.end (hK _ ?_))
                clear hK K
                refine Ev.seq ?_
                refine Ev.sr fun K hK => S.o q.mv (S.o (q.lens am_el25) (S.o q.mv (S.end (hK _ ?_))))
                clear hK K
                refine Ev.block ?_
                refine Ev.loopU (ι := {p : List (Int × Int) × List (Int × Int) // p.1 ++ p.2 = bars ∧ True}) [] [2, 4, 10, 11, 13, 15, 66, 67] (fun ⟨(pre, suf), _⟩ => [(68, .lit (.int .i64 ((pre.length : Int)))), (17, .lit (.int .i64 (serveAt pre a x)))]) (fun ⟨(pre, suf), _⟩ => []) (fun ⟨(pre, suf), _⟩ => suf.length) ⟨([], bars), rfl, trivial⟩ (.c (.c (.c (.c (.c (.c (.c (.c .n)))))))) keep_n (slots_c (he := (by first | rfl | (congr 2; simp; done))) (h := (slots_c (he := (by first | rfl | exact iE (serve_yes (by omega) (by omega)) | exact iE (serve_no (by omega)))) (h := trivial)))) ?_
                rintro ⟨⟨pre, suf⟩, hp, hinv⟩ R0 hR0
                dsimp only [List.cons_append, List.nil_append, List.length_cons, List.length_nil]
                simp only at hp hinv
                have hpl : pre.length + suf.length = (bars).length := by rw [← hp, List.length_append]
                rcases suf with _ | ⟨s, suf⟩
                · rw [List.append_nil] at hp; subst pre; simp only [List.length_nil] at hpl
                  refine Ev.sr fun K hK => S.o q.lss (S.end (hK _ ?_))
                  clear hK K
                  refine Ev.ud (fun c8 => ?_) (fun c8 => ?_)
                  · first | omega | contradiction
                  · first
                  | (first | omega | contradiction)
                  | refine Ev.exit ?_
                    refine hR0 _ _ ?_
                    show Ev _ _ _ _
                    obtain ⟨hv1, hv2⟩ := serveAt_nn a x bars
                    obtain ⟨hm1, hm2⟩ := mul_bd (K := 1000) (A := 125664) hv1 (by omega) (by omega : 0 ≤ areaOf d) hA1
                    refine Ev.sr fun K hK => S.o q.mv (S.o q.not (S.bb q.mv (fun c9 => ?_) (fun c9 => ?_)))
                    · first
                    | (first | omega | contradiction)
                    | refine S.sk (S.sk (S.sk (S.sk (S.sk (S.o q.pt (S.o q.as (S.end (hK _ ?_))))))))
                      clear hK K
                      refine Ev.ret ?_
                      refine Ev.ret1 ?_
                      refine ⟨?_, rfl⟩
                      first
                       | rfl
                       | exact lawT (chk_all (by omega) (nb_t ‹_›) x)
                       | exact lawT (by omega)
                       | (exfalso; omega)
                    · first
                    | (first | omega | contradiction)
                    | refine S.o q.mv (S.o q.mv (S.o (q.mul (h1 := by omega) (h2 := by omega)) (S.o q.mv (S.o q.geq (S.o q.pf (S.o q.as (S.end (hK _ ?_))))))))
                      clear hK K
                      refine Ev.ret ?_
                      refine Ev.ret1 ?_
                      refine ⟨?_, rfl⟩
                      first
                       | rfl
                       | exact lawT (chk_all (by omega) (nb_t ‹_›) x)
                       | exact lawT (by omega)
                       | (exfalso; omega)
                · simp only [List.length_cons] at hpl
                  have hidx : (bars)[pre.length]? = some s := by rw [← hp]; simp
                  have hsok := hbo s (by rw [← hp]; simp)
                  unfold barOk at hsok
                  have hsb := serveAt_nn a x pre
                  refine Ev.sr fun K hK => S.o q.lss (S.end (hK _ ?_))
                  clear hK K
                  refine Ev.ud (fun c10 => ?_) (fun c10 => ?_)
                  · first
                  | (first | omega | contradiction)
                  | refine Ev.seq ?_
                    refine Ev.block ?_
                    refine Ev.sr fun K hK => S.o (q.ix am_el25 am_cl36 (hl := (by first | exact ati hidx (by omega) | exact atig (by omega)))) (S.o (q.lsA [_, _] am_ag36 am_cl36) (S.nn (q.al am_ze36) (S.sv [_, _] true [] am_in36 am_cl36 (h := S.end (hK _ ?_)))))
                    clear hK K
                    refine Ev.sr fun K hK => S.o (q.fa 0 am_fi36_0 am_cl3) (S.o (q.lv am_ag3) (S.o q.mv (S.o q.add (S.o q.mv (S.o q.leq (S.bd q.mv (fun c11 => ?_) (fun c11 => ?_)))))))
                    · first
                    | (first | omega | contradiction)
                    | refine S.o q.mv (S.o (q.fa 1 am_fi36_1 am_cl3) (S.o (q.lv am_ag3) (S.o q.mv (S.o q.sub (S.o q.lss (S.o q.pt (S.end (hK _ ?_))))))))
                      clear hK K
                      refine Ev.cd (fun c12 => ?_) (fun c12 => ?_)
                      · first
                      | (first | omega | contradiction)
                      | refine Ev.region_S fun K hK => S.o q.mv (S.o q.add (S.o q.as (S.end (hK _ ?_))))
                        clear hK K
                        show Ev _ _ _ _
                        refine Ev.region_S fun K hK => S.o q.add (S.o q.mv (S.end (hK _ ?_)))
                        clear hK K
                        refine hR0 _ _ ?_
                        refine roundU [] [2, 4, 10, 11, 13, 15, 66, 67] ⟨(pre ++ [s], suf), by rw [← hp]; simp, ?_⟩ ?_ keep_n (slots_c (he := (by first | rfl | (congr 2; simp; done))) (h := (slots_c (he := (by first | rfl | exact iE (serve_yes (by omega) (by omega)) | exact iE (serve_no (by omega)))) (h := trivial)))) (.c (.c (.c (.c (.c (.c (.c (.c .n))))))))
                        trivial
                        all_goals (dsimp only; simp only [List.length_cons]; omega)
                      · first
                      | (first | omega | contradiction)
                      | refine Ev.skip ?_
                        show Ev _ _ _ _
                        refine Ev.region_S fun K hK => S.o q.add (S.o q.mv (S.end (hK _ ?_)))
                        clear hK K
                        refine hR0 _ _ ?_
                        refine roundU [] [2, 4, 10, 11, 13, 15, 66, 67] ⟨(pre ++ [s], suf), by rw [← hp]; simp, ?_⟩ ?_ keep_n (slots_c (he := (by first | rfl | (congr 2; simp; done))) (h := (slots_c (he := (by first | rfl | exact iE (serve_yes (by omega) (by omega)) | exact iE (serve_no (by omega)))) (h := trivial)))) (.c (.c (.c (.c (.c (.c (.c (.c .n))))))))
                        trivial
                        all_goals (dsimp only; simp only [List.length_cons]; omega)
                    · first
                    | (first | omega | contradiction)
                    | refine S.sk (S.sk (S.sk (S.sk (S.sk (S.sk (S.o q.pf (S.end (hK _ ?_))))))))
                      clear hK K
                      refine Ev.cf ?_
                      refine Ev.skip ?_
                      show Ev _ _ _ _
                      refine Ev.region_S fun K hK => S.o q.add (S.o q.mv (S.end (hK _ ?_)))
                      clear hK K
                      refine hR0 _ _ ?_
                      refine roundU [] [2, 4, 10, 11, 13, 15, 66, 67] ⟨(pre ++ [s], suf), by rw [← hp]; simp, ?_⟩ ?_ keep_n (slots_c (he := (by first | rfl | (congr 2; simp; done))) (h := (slots_c (he := (by first | rfl | exact iE (serve_yes (by omega) (by omega)) | exact iE (serve_no (by omega)))) (h := trivial)))) (.c (.c (.c (.c (.c (.c (.c (.c .n))))))))
                      trivial
                      all_goals (dsimp only; simp only [List.length_cons]; omega)
                  · first | omega | contradiction
end Go.Proofs.Ytigjoaejncfmdaa
