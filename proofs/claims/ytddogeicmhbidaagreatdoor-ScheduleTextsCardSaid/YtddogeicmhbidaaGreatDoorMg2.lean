/-
  Layer 14: Find, Total, Merge.
  Conditions: none.
-/
import Derived.Test.YtddogeicmhbidaaGreatDoorMg1
namespace Go.Proofs.YtddogeicmhbidaaGreatDoor
open Go Go.AM
set_option linter.unusedSimpArgs false
set_option linter.unusedVariables false
set_option maxRecDepth 100000
set_option maxHeartbeats 1000000

def okS (l : List Bar) : Int := if okSched l then 0 else 1
def findV (l : List Bar) (mk : List UInt8) : Int := if okSched l then (if markI l mk < 0 then 0 else markI l mk) else 0
def findE (l : List Bar) (mk : List UInt8) : Int := if okSched l then (if markI l mk < 0 then 9 else 0) else 1

def cntT (l : List Bar) : Int := (l.map fun b => b.count).sum
def totalV (l : List Bar) : Int := if okSched l then cntT l else 0


theorem merge_fun (a b : List Bar) (hal : a.length ≤ 140737488355328) (hbl : b.length ≤ 140737488355328) (hwa : schedW a) (hwb : schedW b) : Fun Tryz.prog 20 [.sh 5 (a.map Bar.c), .sh 5 (b.map Bar.c)] (Ret (.tup [.sh 5 ((mergeV a b).map Bar.c), .lit (.int .i64 (mergeE a b))]) []) := by
  refine Fun.of (nt := 94) (rs := [.tmp 4, .tmp 5]) Tryz.func20 rfl rfl rfl rfl rfl ?_
  refine Ev.sr fun K hK => S.o q.as (S.o q.as (S.end (hK _ ?_)))
  clear hK K
  refine Ev.seq ?_
  refine Ev.sr fun K hK => S.o q.mv (S.c0 (hF := schedValid_fun _ (by omega) (by assumption)) (h := S.o q.not (S.bn q.mv (fun c1 => ?_) (fun c1 => ?_))))
  · first
  | (first | omega | contradiction)
  | refine S.sk (S.sk (S.sk (S.o q.pt (S.end (hK _ ?_)))))
    clear hK K
    refine Ev.ct ?_
    refine Ev.sr fun K hK => S.o q.as (S.o q.as (S.end (hK _ ?_)))
    clear hK K
    refine Ev.weaken (Wk.nsh Bar.c 4 5) ?_
    refine Ev.ret ?_
    refine Ev.ret2 ?_
    refine ⟨?_, rfl⟩
    first
     | (rw [(me1 (fun h => absurd h.1 ‹_›)).1, (me1 (fun h => absurd h.1 ‹_›)).2]; done)
     | (rw [(me1 (fun h => absurd h.2 ‹_›)).1, (me1 (fun h => absurd h.2 ‹_›)).2]; done)
     | (rw [(me19 hab hbad).1, (me19 hab hbad).2]; done)
     | (rw [(me5 hab hinv ‹_›).1, (me5 hab hinv ‹_›).2]; done)
     | (rw [(me4 hab hinv ‹_› (by omega)).1, (me4 hab hinv ‹_› (by omega)).2]; done)
     | (rw [(me0 hab hinv ‹_› (by omega)).1, (me0 hab hinv ‹_› (by omega)).2]; done)
  · first
  | (first | omega | contradiction)
  | refine S.o q.mv (S.c0 (hF := schedValid_fun _ (by omega) (by assumption)) (h := S.o q.not (S.o q.pf (S.end (hK _ ?_)))))
    clear hK K
    refine Ev.cn (fun c2 => ?_) (fun c2 => ?_)
    · first
    | (first | omega | contradiction)
    | refine Ev.sr fun K hK => S.o q.as (S.o q.as (S.end (hK _ ?_)))
      clear hK K
      refine Ev.weaken (Wk.nsh Bar.c 4 5) ?_
      refine Ev.ret ?_
      refine Ev.ret2 ?_
      refine ⟨?_, rfl⟩
      first
       | (rw [(me1 (fun h => absurd h.1 ‹_›)).1, (me1 (fun h => absurd h.1 ‹_›)).2]; done)
       | (rw [(me1 (fun h => absurd h.2 ‹_›)).1, (me1 (fun h => absurd h.2 ‹_›)).2]; done)
       | (rw [(me19 hab hbad).1, (me19 hab hbad).2]; done)
       | (rw [(me5 hab hinv ‹_›).1, (me5 hab hinv ‹_›).2]; done)
       | (rw [(me4 hab hinv ‹_› (by omega)).1, (me4 hab hinv ‹_› (by omega)).2]; done)
       | (rw [(me0 hab hinv ‹_› (by omega)).1, (me0 hab hinv ‹_› (by omega)).2]; done)
    · first
    | (first | omega | contradiction)
    | refine Ev.skip ?_
      show Ev _ _ _ _
      have ha : okSched a := ‹_›
      have hb : okSched b := ‹_›
      have hab : okSched a ∧ okSched b := ⟨ha, hb⟩
      have ha60 := ha.1
      have hb60 := hb.1
      have hfl := mfin ha hb
      refine Ev.sr fun K hK => S.o q.as (S.end (hK _ ?_))
      clear hK K
      refine Ev.seq ?_
      refine Ev.sr fun K hK => S.o q.mv (S.o (q.lens am_el22) (S.o q.mv (S.end (hK _ ?_))))
      clear hK K
      refine Ev.block ?_
      refine Ev.weaken (Wk.nown Bar.c 6 49 5) ?_
      refine Ev.loopU (ι := {p : List (Bar) × List (Bar) // p.1 ++ p.2 = a ∧ True}) [0] [0, 1, 4, 5, 23, 24] (fun ⟨(pre, suf), _⟩ => [(25, .lit (.int .i64 ((pre.length : Int)))), (6, .als 0 0 (pre).length)]) (fun ⟨(pre, suf), _⟩ => [(0, ⟨true, 49, 5, (pre).map Bar.c, true⟩)]) (fun ⟨(pre, suf), _⟩ => suf.length) ⟨([], a), rfl, trivial⟩ (.c (.c (.c (.c (.c (.c .n)))))) (keep_c (he := (by first | rfl | (simp; done))) (h := keep_n)) (slots_c (he := (by first | rfl | (congr 2; simp; done))) (h := (slots_c (he := (by first | rfl | (simp; done) | (congr 2; omega))) (h := trivial)))) ?_
      rintro ⟨⟨pre, suf⟩, hp, hinv⟩ R0 hR0
      dsimp only [List.cons_append, List.nil_append, List.length_cons, List.length_nil]
      simp only at hp hinv
      have hpl : pre.length + suf.length = (a).length := by rw [← hp, List.length_append]
      rcases suf with _ | ⟨s, suf⟩
      · rw [List.append_nil] at hp; subst pre; simp only [List.length_nil] at hpl
        refine Ev.sr fun K hK => S.o q.lss (S.end (hK _ ?_))
        clear hK K
        refine Ev.ud (fun c3 => ?_) (fun c3 => ?_)
        · first | omega | contradiction
        · first
        | (first | omega | contradiction)
        | refine Ev.exit ?_
          refine hR0 _ _ ?_
          show Ev _ _ _ _
          refine Ev.sr fun K hK => S.o q.as (S.end (hK _ ?_))
          clear hK K
          refine Ev.seq ?_
          refine Ev.sr fun K hK => S.o q.mv (S.o (q.lens am_el22) (S.o q.mv (S.end (hK _ ?_))))
          clear hK K
          refine Ev.block ?_
          refine Ev.loopU (ι := {q : List Bar × List Bar // q.1 ++ q.2 = b ∧ ¬ ∃ x ∈ q.1, badM a x}) [0] [0, 1, 23, 24, 25, 26, 35, 36] (fun ⟨(pre, suf), _⟩ => [(37, .lit (.int .i64 ((pre.length : Int)))), (9, .lit (.bool (decide (bigM a pre)))), (6, .als 0 0 (mergeL a pre).length)]) (fun ⟨(pre, suf), _⟩ => [(0, ⟨true, 49, 5, (mergeL a pre).map Bar.c, true⟩)]) (fun ⟨(pre, suf), _⟩ => suf.length) ⟨([], b), rfl, (by rintro ⟨x, hx, _⟩; cases hx)⟩ (.c (.c (.c (.c (.c (.c (.c (.c .n)))))))) (keep_c (he := (by first | rfl | (rw [mergeL_new ‹_›]; done) | (rw [hyS]; done))) (h := keep_n)) (slots_c (he := (by first | rfl | (congr 2; simp; done))) (h := (slots_c (he := (by first | rfl | exact bF (bigM_nil a) | exact dI (big_none ‹_›).symm | exact bT ((big_at hym hyk hyu).2 (.inl ‹_›)) | exact dI ((big_at hym hyk hyu).trans ⟨fun h => h.resolve_left ‹_›, .inr⟩).symm)) (h := (slots_c (he := (by first | rfl | (rw [mergeL_new ‹_›]; done) | (rw [← hyS]; simp; done) | (congr 1; rw [← hyS, List.length_set]; done))) (h := trivial)))))) ?_
          rintro ⟨⟨pre, suf⟩, hp, hinv⟩ R2 hR2
          dsimp only [List.cons_append, List.nil_append, List.length_cons, List.length_nil]
          simp only at hp hinv
          have hpl : pre.length + suf.length = (b).length := by rw [← hp, List.length_append]
          rcases suf with _ | ⟨s, suf⟩
          · rw [List.append_nil] at hp; subst pre; simp only [List.length_nil] at hpl
            refine Ev.sr fun K hK => S.o q.lss (S.end (hK _ ?_))
            clear hK K
            refine Ev.ud (fun c4 => ?_) (fun c4 => ?_)
            · first | omega | contradiction
            · first
            | (first | omega | contradiction)
            | refine Ev.exit ?_
              refine hR2 _ _ ?_
              show Ev _ _ _ _
              refine Ev.seq ?_
              refine Ev.block ?_
              refine Ev.sr fun K hK => S.o q.mv (S.o q.as (S.end (hK _ ?_)))
              clear hK K
              refine Ev.cd (fun c5 => ?_) (fun c5 => ?_)
              · first
              | (first | omega | contradiction)
              | refine Ev.sr fun K hK => S.o q.as (S.o q.as (S.end (hK _ ?_)))
                clear hK K
                refine Ev.weaken (Wk.nsh Bar.c 4 5) ?_
                refine Ev.ret ?_
                refine Ev.ret2 ?_
                refine ⟨?_, rfl⟩
                first
                 | (rw [(me1 (fun h => absurd h.1 ‹_›)).1, (me1 (fun h => absurd h.1 ‹_›)).2]; done)
                 | (rw [(me1 (fun h => absurd h.2 ‹_›)).1, (me1 (fun h => absurd h.2 ‹_›)).2]; done)
                 | (rw [(me19 hab hbad).1, (me19 hab hbad).2]; done)
                 | (rw [(me5 hab hinv ‹_›).1, (me5 hab hinv ‹_›).2]; done)
                 | (rw [(me4 hab hinv ‹_› (by omega)).1, (me4 hab hinv ‹_› (by omega)).2]; done)
                 | (rw [(me0 hab hinv ‹_› (by omega)).1, (me0 hab hinv ‹_› (by omega)).2]; done)
              · first
              | (first | omega | contradiction)
              | refine Ev.sr fun K hK => S.o q.mv (S.o (q.lena am_el22) (S.o q.gtr (S.o q.as (S.end (hK _ ?_)))))
                clear hK K
                refine Ev.cd (fun c6 => ?_) (fun c6 => ?_)
                · first
                | (first | omega | contradiction)
                | refine Ev.sr fun K hK => S.o q.as (S.o q.as (S.end (hK _ ?_)))
                  clear hK K
                  refine Ev.weaken (Wk.nsh Bar.c 4 5) ?_
                  refine Ev.ret ?_
                  refine Ev.ret2 ?_
                  refine ⟨?_, rfl⟩
                  first
                   | (rw [(me1 (fun h => absurd h.1 ‹_›)).1, (me1 (fun h => absurd h.1 ‹_›)).2]; done)
                   | (rw [(me1 (fun h => absurd h.2 ‹_›)).1, (me1 (fun h => absurd h.2 ‹_›)).2]; done)
                   | (rw [(me19 hab hbad).1, (me19 hab hbad).2]; done)
                   | (rw [(me5 hab hinv ‹_›).1, (me5 hab hinv ‹_›).2]; done)
                   | (rw [(me4 hab hinv ‹_› (by omega)).1, (me4 hab hinv ‹_› (by omega)).2]; done)
                   | (rw [(me0 hab hinv ‹_› (by omega)).1, (me0 hab hinv ‹_› (by omega)).2]; done)
                · first
                | (first | omega | contradiction)
                | refine Ev.skip ?_
                  show Ev _ _ _ _
                  refine Ev.sr fun K hK => S.o q.mv (S.o q.as (S.o q.as (S.end (hK _ ?_))))
                  clear hK K
                  refine Ev.weaken (Wk.frz 4 []) ?_
                  refine Ev.ret ?_
                  refine Ev.ret2 ?_
                  refine ⟨?_, rfl⟩
                  first
                   | (rw [(me1 (fun h => absurd h.1 ‹_›)).1, (me1 (fun h => absurd h.1 ‹_›)).2]; done)
                   | (rw [(me1 (fun h => absurd h.2 ‹_›)).1, (me1 (fun h => absurd h.2 ‹_›)).2]; done)
                   | (rw [(me19 hab hbad).1, (me19 hab hbad).2]; done)
                   | (rw [(me5 hab hinv ‹_›).1, (me5 hab hinv ‹_›).2]; done)
                   | (rw [(me4 hab hinv ‹_› (by omega)).1, (me4 hab hinv ‹_› (by omega)).2]; done)
                   | (rw [(me0 hab hinv ‹_› (by omega)).1, (me0 hab hinv ‹_› (by omega)).2]; done)
          · simp only [List.length_cons] at hpl
            have hidx : b[pre.length]? = some s := by rw [← hp]; simp
            obtain ⟨hmg, hmd, hsok, hml⟩ := mround ha hb hp
            have hsc := hsok.2.2.1
            have hsc2 := hsok.2.2.2.1
            have hsd3 := hsok.2.2.2.2.2.1
            have hsd4 := (dims_eq s.code).2.2.1
            refine Ev.sr fun K hK => S.o q.lss (S.end (hK _ ?_))
            clear hK K
            refine Ev.ud (fun c7 => ?_) (fun c7 => ?_)
            · first
            | (first | omega | contradiction)
            | refine Ev.seq ?_
              refine Ev.block ?_
              refine Ev.sr fun K hK => S.o (q.ix am_el22 am_cl49 (hl := (by first | exact ati hya (by omega) | exact ati hyo (by omega) | exact ati hyset (by omega) | exact ati hidx (by omega) | exact atig (by omega)))) (S.o (q.lsA [_, _, _, _, _] am_ag49 am_cl49) (S.nn (q.al am_ze49) (S.sv [_, _, _, _, _] true [_] am_in49 am_cl49 (h := S.end (hK _ ?_)))))
              clear hK K
              have hsw : s.w := hwb s (by rw [← hp]; simp)
              refine Ev.sr fun K hK => S.o q.mv (S.o (q.fa 0 am_fi49_0 am_cl9) (S.o (q.lv am_ag9) (S.c0 (hF := schedIndex_fun _ _ (by omega)) (h := S.o q.as (S.end (hK _ ?_))))))
              clear hK K
              refine Ev.seq ?_
              refine Ev.sr fun K hK => S.o q.mv (S.o q.lss (S.end (hK _ ?_)))
              clear hK K
              refine Ev.cd (fun c8 => ?_) (fun c8 => ?_)
              · first
              | (first | omega | contradiction)
              | refine Ev.sr fun K hK => S.o q.mv (S.o (q.lvA [_, _, _, _, _] am_ag49 am_cl49) (S.c0 (hF := copyOf_fun _ (by omega)) (h := S.nn (q.bs [[_, _, _, _, _]] true am_el22 am_ze49 am_cl49) (S.ap' [_, _] am_el22 am_ze49 am_cl49 am_by49 (hh := head_own') (hr := (rows_lit [(⟨_, _, _, _, _⟩ : Bar)])) (h := S.o q.as (S.end (hK _ ?_)))))))
                clear hK K
                refine Ev.exit ?_
                show Ev _ _ _ _
                refine Ev.region_S fun K hK => S.o q.add (S.o q.mv (S.end (hK _ ?_)))
                clear hK K
                refine hR2 _ _ ?_
                refine roundU [3] [0, 1, 23, 24, 25, 26, 35, 36] ⟨(pre ++ [s], suf), by rw [← hp]; simp, ?_⟩ ?_ (keep_c (he := (by first | rfl | (rw [mergeL_new ‹_›]; done) | (rw [hyS]; done))) (h := keep_n)) (slots_c (he := (by first | rfl | (congr 2; simp; done))) (h := (slots_c (he := (by first | rfl | exact bF (bigM_nil a) | exact dI (big_none ‹_›).symm | exact bT ((big_at hym hyk hyu).2 (.inl ‹_›)) | exact dI ((big_at hym hyk hyu).trans ⟨fun h => h.resolve_left ‹_›, .inr⟩).symm)) (h := (slots_c (he := (by first | rfl | (rw [mergeL_new ‹_›]; done) | (rw [← hyS]; simp; done) | (congr 1; rw [← hyS, List.length_set]; done))) (h := trivial)))))) (.c (.c (.c (.c (.c (.c (.c (.c .n))))))))
                exact bad_snoc hinv (by first | exact bad_none ‹_› | exact bad_at hyu (hsameD))
                all_goals (dsimp only; simp only [List.length_cons]; omega)
              · first
              | (first | omega | contradiction)
              | refine Ev.skip ?_
                show Ev _ _ _ _
                refine Ev.seq ?_
                obtain ⟨y, hya, hym, hyok, hyk, hyo, hyS, hyset, hyu⟩ := mround_at ha hb hp ‹_›
                have hylt := (List.getElem?_eq_some_iff.1 hyo).1
                have hyw : y.w := hwa y hym
                have hyc := hyok.2.2.1
                have hyc2 := hyok.2.2.2.1
                refine Ev.sm (tbs [(0, 0), (0, 0), (2, 3), (3, 7), (0, 0), (5, 31), (6, 63), (7, 127), (7, 127), (8, 255), (10, 1023)]) 10 fun K hK => M.o q.mv (M.o q.mv (M.o (q.ix am_el22 am_cl49 (hl := (by first | exact ati hya (by omega) | exact ati hyo (by omega) | exact ati hyset (by omega) | exact ati hidx (by omega) | exact atig (by omega)))) (M.o (q.lsA [_, _, _, _, _] am_ag49 am_cl49) (M.o (q.lvA [_, _, _, _, _] am_ag49 am_cl49) (M.c0 (hF := same_fun _ _ (by assumption) (by assumption)) (h := M.o q.mv (M.o q.ex (M.o q.ex (M.o q.as (M.end [_, _] (h := S.o q.as (S.end (hK _ ?_)))))))))))))
                clear hK K
                refine Ev.sr fun K hK => S.o q.mv (S.o q.neq (S.bn q.mv (fun c9 => ?_) (fun c9 => ?_)))
                · first
                | (first | omega | contradiction)
                | refine S.sk (S.sk (S.o q.pt (S.end (hK _ ?_))))
                  clear hK K
                  refine Ev.ct ?_
                  have hbad : ∃ x ∈ b, badM a x := ⟨s, by rw [← hp]; simp, y, hym, hyk, fun h => by first | (exfalso; have h5 : sameE y s = 0 := if_pos ⟨hyok, hsok⟩; contradiction) | exact absurd (⟨hyok, hsok, h⟩ : sameV y s) ‹_›⟩
                  refine Ev.sr fun K hK => S.o q.as (S.o q.as (S.end (hK _ ?_)))
                  clear hK K
                  refine Ev.weaken (Wk.nsh Bar.c 4 5) ?_
                  refine Ev.ret ?_
                  refine hR2 _ _ ?_
                  refine Ev.ret2 ?_
                  refine ⟨?_, rfl⟩
                  first
                   | (rw [(me1 (fun h => absurd h.1 ‹_›)).1, (me1 (fun h => absurd h.1 ‹_›)).2]; done)
                   | (rw [(me1 (fun h => absurd h.2 ‹_›)).1, (me1 (fun h => absurd h.2 ‹_›)).2]; done)
                   | (rw [(me19 hab hbad).1, (me19 hab hbad).2]; done)
                   | (rw [(me5 hab hinv ‹_›).1, (me5 hab hinv ‹_›).2]; done)
                   | (rw [(me4 hab hinv ‹_› (by omega)).1, (me4 hab hinv ‹_› (by omega)).2]; done)
                   | (rw [(me0 hab hinv ‹_› (by omega)).1, (me0 hab hinv ‹_› (by omega)).2]; done)
                · first
                | (first | omega | contradiction)
                | refine S.o q.mv (S.o q.not (S.o q.pf (S.end (hK _ ?_))))
                  clear hK K
                  refine Ev.cn (fun c10 => ?_) (fun c10 => ?_)
                  · first
                  | (first | omega | contradiction)
                  | have hbad : ∃ x ∈ b, badM a x := ⟨s, by rw [← hp]; simp, y, hym, hyk, fun h => by first | (exfalso; have h5 : sameE y s = 0 := if_pos ⟨hyok, hsok⟩; contradiction) | exact absurd (⟨hyok, hsok, h⟩ : sameV y s) ‹_›⟩
                    refine Ev.sr fun K hK => S.o q.as (S.o q.as (S.end (hK _ ?_)))
                    clear hK K
                    refine Ev.weaken (Wk.nsh Bar.c 4 5) ?_
                    refine Ev.ret ?_
                    refine hR2 _ _ ?_
                    refine Ev.ret2 ?_
                    refine ⟨?_, rfl⟩
                    first
                     | (rw [(me1 (fun h => absurd h.1 ‹_›)).1, (me1 (fun h => absurd h.1 ‹_›)).2]; done)
                     | (rw [(me1 (fun h => absurd h.2 ‹_›)).1, (me1 (fun h => absurd h.2 ‹_›)).2]; done)
                     | (rw [(me19 hab hbad).1, (me19 hab hbad).2]; done)
                     | (rw [(me5 hab hinv ‹_›).1, (me5 hab hinv ‹_›).2]; done)
                     | (rw [(me4 hab hinv ‹_› (by omega)).1, (me4 hab hinv ‹_› (by omega)).2]; done)
                     | (rw [(me0 hab hinv ‹_› (by omega)).1, (me0 hab hinv ‹_› (by omega)).2]; done)
                  · first
                  | (first | omega | contradiction)
                  | refine Ev.skip ?_
                    show Ev _ _ _ _
                    have hsameD : sameD y s := (‹sameV y s› : sameV y s).2.2
                    refine Ev.sm (tbs [(0, 0), (0, 0), (2, 3), (3, 7), (4, 15), (0, 0), (6, 32), (7, 127), (8, 255), (9, 511), (10, 1023)]) 10 fun K hK => M.o q.mv (M.o q.mv (M.o (q.ia am_el22 am_cl49) (M.o (q.fa 2 am_fi49_2 am_cl3) (M.o (q.lx am_ag3 (hl := (by first | exact at_ hya (by omega) | exact at_ hyo (by omega) | exact at_ hyset (by omega) | exact at_ hidx (by omega) | exact at_g (by omega)))) (M.o (q.fa 2 am_fi49_2 am_cl3) (M.o (q.lv am_ag3) (M.o q.add (M.o (q.ia am_el22 am_cl49) (M.o (q.fa 2 am_fi49_2 am_cl3) (M.end [_, _] (h := S.sx (y.addC s.count) [_] am_in3 am_cl3 (hl := (by first | exact at_ hya (by omega) | exact at_ hyo (by omega) | exact at_ hyset (by omega) | exact at_ hidx (by omega) | exact at_g (by omega))) (h := S.end (hK _ ?_)))))))))))))
                    clear hK K
                    refine Ev.region_S fun K hK => S.o q.mv (S.bd q.mv (fun c11 => ?_) (fun c11 => ?_))
                    · first
                    | (first | omega | contradiction)
                    | refine S.sk (S.sk (S.sk (S.sk (S.sk (S.sk (S.o q.pt (S.o q.as (S.end (hK _ ?_)))))))))
                      clear hK K
                      show Ev _ _ _ _
                      refine Ev.region_S fun K hK => S.o q.add (S.o q.mv (S.end (hK _ ?_)))
                      clear hK K
                      refine hR2 _ _ ?_
                      refine roundU [0] [0, 1, 23, 24, 25, 26, 35, 36] ⟨(pre ++ [s], suf), by rw [← hp]; simp, ?_⟩ ?_ (keep_c (he := (by first | rfl | (rw [mergeL_new ‹_›]; done) | (rw [hyS]; done))) (h := keep_n)) (slots_c (he := (by first | rfl | (congr 2; simp; done))) (h := (slots_c (he := (by first | rfl | exact bF (bigM_nil a) | exact dI (big_none ‹_›).symm | exact bT ((big_at hym hyk hyu).2 (.inl ‹_›)) | exact dI ((big_at hym hyk hyu).trans ⟨fun h => h.resolve_left ‹_›, .inr⟩).symm)) (h := (slots_c (he := (by first | rfl | (rw [mergeL_new ‹_›]; done) | (rw [← hyS]; simp; done) | (congr 1; rw [← hyS, List.length_set]; done))) (h := trivial)))))) (.c (.c (.c (.c (.c (.c (.c (.c .n))))))))
                      exact bad_snoc hinv (by first | exact bad_none ‹_› | exact bad_at hyu (hsameD))
                      all_goals (dsimp only; simp only [List.length_cons]; omega)
                    · first
                    | (first | omega | contradiction)
                    | refine S.o q.mv (S.o q.mv (S.o (q.ia am_el22 am_cl49) (S.o (q.fa 2 am_fi49_2 am_cl3) (S.o (q.lx am_ag3 (hl := (by first | exact at_ hya (by omega) | exact at_ hyo (by omega) | exact at_ hyset (by omega) | exact at_ hidx (by omega) | exact at_g (by omega)))) (S.o q.gtr (S.o q.pf (S.o q.as (S.end (hK _ ?_)))))))))
                      clear hK K
                      show Ev _ _ _ _
                      refine Ev.region_S fun K hK => S.o q.add (S.o q.mv (S.end (hK _ ?_)))
                      clear hK K
                      refine hR2 _ _ ?_
                      refine roundU [0] [0, 1, 23, 24, 25, 26, 35, 36] ⟨(pre ++ [s], suf), by rw [← hp]; simp, ?_⟩ ?_ (keep_c (he := (by first | rfl | (rw [mergeL_new ‹_›]; done) | (rw [hyS]; done))) (h := keep_n)) (slots_c (he := (by first | rfl | (congr 2; simp; done))) (h := (slots_c (he := (by first | rfl | exact bF (bigM_nil a) | exact dI (big_none ‹_›).symm | exact bT ((big_at hym hyk hyu).2 (.inl ‹_›)) | exact dI ((big_at hym hyk hyu).trans ⟨fun h => h.resolve_left ‹_›, .inr⟩).symm)) (h := (slots_c (he := (by first | rfl | (rw [mergeL_new ‹_›]; done) | (rw [← hyS]; simp; done) | (congr 1; rw [← hyS, List.length_set]; done))) (h := trivial)))))) (.c (.c (.c (.c (.c (.c (.c (.c .n))))))))
                      exact bad_snoc hinv (by first | exact bad_none ‹_› | exact bad_at hyu (hsameD))
                      all_goals (dsimp only; simp only [List.length_cons]; omega)
            · first | omega | contradiction
      · simp only [List.length_cons] at hpl
        have hidx : (a)[pre.length]? = some s := by rw [← hp]; simp
        have hsd := hwa s (by rw [← hp]; simp)
        have hsd2 := (okBar_w (ha.2.1 s (by rw [← hp]; simp))).2
        have hsd3 := (ha.2.1 s (by rw [← hp]; simp)).2.2.2.2.2.1
        have hsd4 := (dims_eq s.code).2.2.1
        refine Ev.sr fun K hK => S.o q.lss (S.end (hK _ ?_))
        clear hK K
        refine Ev.ud (fun c12 => ?_) (fun c12 => ?_)
        · first
        | (first | omega | contradiction)
        | refine Ev.seq ?_
          refine Ev.block ?_
          refine Ev.sr fun K hK => S.o (q.ix am_el22 am_cl49 (hl := (by first | exact ati hya (by omega) | exact ati hyo (by omega) | exact ati hyset (by omega) | exact ati hidx (by omega) | exact atig (by omega)))) (S.o (q.lsA [_, _, _, _, _] am_ag49 am_cl49) (S.nn (q.al am_ze49) (S.sv [_, _, _, _, _] true [_] am_in49 am_cl49 (h := S.end (hK _ ?_)))))
          clear hK K
          refine Ev.region_S fun K hK => S.o q.mv (S.o (q.lvA [_, _, _, _, _] am_ag49 am_cl49) (S.c0 (hF := copyOf_fun _ (by omega)) (h := S.nn (q.bs [[_, _, _, _, _]] true am_el22 am_ze49 am_cl49) (S.ap' [_, _] am_el22 am_ze49 am_cl49 am_by49 (hh := head_own') (hr := (rows_lit [(⟨_, _, _, _, _⟩ : Bar)])) (h := S.o q.as (S.end (hK _ ?_)))))))
          clear hK K
          show Ev _ _ _ _
          refine Ev.region_S fun K hK => S.o q.add (S.o q.mv (S.end (hK _ ?_)))
          clear hK K
          refine hR0 _ _ ?_
          refine roundU [3] [0, 1, 4, 5, 23, 24] ⟨(pre ++ [s], suf), by rw [← hp]; simp, ?_⟩ ?_ (keep_c (he := (by first | rfl | (simp; done))) (h := keep_n)) (slots_c (he := (by first | rfl | (congr 2; simp; done))) (h := (slots_c (he := (by first | rfl | (simp; done) | (congr 2; omega))) (h := trivial)))) (.c (.c (.c (.c (.c (.c .n))))))
          trivial
          all_goals (dsimp only; simp only [List.length_cons]; omega)
        · first | omega | contradiction
end Go.Proofs.YtddogeicmhbidaaGreatDoor
