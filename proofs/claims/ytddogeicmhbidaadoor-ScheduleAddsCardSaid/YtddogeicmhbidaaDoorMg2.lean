/-
  Layer 14: Find, Total, Merge.
  Conditions: none.
-/
import Derived.Test.YtddogeicmhbidaaDoorMg1
namespace Go.Proofs.YtddogeicmhbidaaDoor
open Go Go.AM
set_option linter.unusedSimpArgs false
set_option linter.unusedVariables false
set_option maxRecDepth 100000
set_option maxHeartbeats 1000000

def okS (l : List Bar) : Int := if okSched l then 0 else 1
def findV (l : List Bar) (mk : List UInt8) : Int := if okSched l then (if markI l mk < 0 then 0 else markI l mk) else 0
def findE (l : List Bar) (mk : List UInt8) : Int := if okSched l then (if markI l mk < 0 then 9 else 0) else 1
theorem sfind_fun (l : List Bar) (mk : List UInt8) (hlen : l.length ≤ 140737488355328) (hw : schedW l) : Fun Tryd.prog 19 [.sh 5 (l.map Bar.c), .lit (str mk)] (Ret (.tup [.lit (.int .i64 (findV l mk)), .lit (.int .i64 (findE l mk))]) []) := by
  refine Fun.of (nt := 16) (rs := [.tmp 4, .tmp 5]) Tryd.func19 rfl rfl rfl rfl rfl ?_
  refine Ev.sr fun K hK => S.o q.as (S.o q.as (S.end (hK _ ?_)))
  clear hK K
  refine Ev.seq ?_
  refine Ev.sr fun K hK => S.o q.mv (S.c0 (hF := schedValid_fun _ (by omega) (by assumption)) (h := S.o q.not (S.end (hK _ ?_))))
  clear hK K
  refine Ev.cn (fun c1 => ?_) (fun c1 => ?_)
  · first
  | (first | omega | contradiction)
  | refine Ev.sr fun K hK => S.o q.as (S.o q.as (S.end (hK _ ?_)))
    clear hK K
    refine Ev.ret ?_
    refine Ev.ret2 ?_
    refine ⟨?_, rfl⟩
    first
     | (rw [show findV l mk = 0 from if_neg ‹_›, show findE l mk = 1 from if_neg ‹_›]; done)
     | (rw [show findV l mk = 0 from (if_pos ‹_›).trans (if_pos ‹_›), show findE l mk = 9 from (if_pos ‹_›).trans (if_pos ‹_›)]; done)
     | (rw [show findV l mk = markI l mk from (if_pos ‹_›).trans (if_neg ‹_›), show findE l mk = 0 from (if_pos ‹_›).trans (if_neg ‹_›)]; done)
  · first
  | (first | omega | contradiction)
  | refine Ev.skip ?_
    show Ev _ _ _ _
    refine Ev.sr fun K hK => S.o q.mv (S.o q.mv (S.c0 (hF := schedIndex_fun _ _ (by omega)) (h := S.o q.as (S.end (hK _ ?_)))))
    clear hK K
    refine Ev.seq ?_
    refine Ev.sr fun K hK => S.o q.mv (S.o q.lss (S.end (hK _ ?_)))
    clear hK K
    refine Ev.cd (fun c2 => ?_) (fun c2 => ?_)
    · first
    | (first | omega | contradiction)
    | refine Ev.sr fun K hK => S.o q.as (S.o q.as (S.end (hK _ ?_)))
      clear hK K
      refine Ev.ret ?_
      refine Ev.ret2 ?_
      refine ⟨?_, rfl⟩
      first
       | (rw [show findV l mk = 0 from if_neg ‹_›, show findE l mk = 1 from if_neg ‹_›]; done)
       | (rw [show findV l mk = 0 from (if_pos ‹_›).trans (if_pos ‹_›), show findE l mk = 9 from (if_pos ‹_›).trans (if_pos ‹_›)]; done)
       | (rw [show findV l mk = markI l mk from (if_pos ‹_›).trans (if_neg ‹_›), show findE l mk = 0 from (if_pos ‹_›).trans (if_neg ‹_›)]; done)
    · first
    | (first | omega | contradiction)
    | refine Ev.skip ?_
      show Ev _ _ _ _
      refine Ev.sr fun K hK => S.o q.mv (S.o q.as (S.o q.as (S.end (hK _ ?_))))
      clear hK K
      refine Ev.ret ?_
      refine Ev.ret2 ?_
      refine ⟨?_, rfl⟩
      first
       | (rw [show findV l mk = 0 from if_neg ‹_›, show findE l mk = 1 from if_neg ‹_›]; done)
       | (rw [show findV l mk = 0 from (if_pos ‹_›).trans (if_pos ‹_›), show findE l mk = 9 from (if_pos ‹_›).trans (if_pos ‹_›)]; done)
       | (rw [show findV l mk = markI l mk from (if_pos ‹_›).trans (if_neg ‹_›), show findE l mk = 0 from (if_pos ‹_›).trans (if_neg ‹_›)]; done)

def cntT (l : List Bar) : Int := (l.map fun b => b.count).sum
theorem cntT_snoc (l : List Bar) (s : Bar) : cntT (l ++ [s]) = cntT l + s.count := by simp [cntT]
theorem cntT_bd : ∀ l : List Bar, (∀ b ∈ l, okBar b) → 0 ≤ cntT l ∧ cntT l ≤ 1000 * l.length := by
  refine snoc_ind (fun _ => by simp [cntT]) ?_
  intro l s ih h
  obtain ⟨i1, i2⟩ := ih fun b hb => h b (by simp [hb])
  have h3 := (h s (by simp)).2.2.1
  have h4 := (h s (by simp)).2.2.2.1
  rw [cntT_snoc, List.length_append, List.length_singleton]
  omega
def totalV (l : List Bar) : Int := if okSched l then cntT l else 0
theorem stotal_fun (l : List Bar) (hlen : l.length ≤ 140737488355328) (hw : schedW l) : Fun Tryd.prog 13 [.sh 5 (l.map Bar.c)] (Ret (.tup [.lit (.int .i64 (totalV l)), .lit (.int .i64 (okS l))]) []) := by
  refine Fun.of (nt := 22) (rs := [.tmp 2, .tmp 3]) Tryd.func13 rfl rfl rfl rfl rfl ?_
  refine Ev.sr fun K hK => S.o q.as (S.o q.as (S.end (hK _ ?_)))
  clear hK K
  refine Ev.seq ?_
  refine Ev.sr fun K hK => S.o q.mv (S.c0 (hF := schedValid_fun _ (by omega) (by assumption)) (h := S.o q.not (S.end (hK _ ?_))))
  clear hK K
  refine Ev.cn (fun c1 => ?_) (fun c1 => ?_)
  · first
  | (first | omega | contradiction)
  | refine Ev.sr fun K hK => S.o q.as (S.o q.as (S.end (hK _ ?_)))
    clear hK K
    refine Ev.ret ?_
    refine Ev.ret2 ?_
    refine ⟨?_, rfl⟩
    first
     | (rw [show totalV l = 0 from if_neg ‹_›, show okS l = 1 from if_neg ‹_›]; done)
     | (rw [show totalV l = cntT l from if_pos hok, show okS l = 0 from if_pos hok]; done)
  · first
  | (first | omega | contradiction)
  | refine Ev.skip ?_
    show Ev _ _ _ _
    have hok : okSched l := ‹_›
    have hll := hok.1
    refine Ev.sr fun K hK => S.o q.as (S.end (hK _ ?_))
    clear hK K
    refine Ev.seq ?_
    refine Ev.sr fun K hK => S.o q.mv (S.o (q.lens am_el22) (S.o q.mv (S.end (hK _ ?_))))
    clear hK K
    refine Ev.block ?_
    refine Ev.loopU (ι := {p : List (Bar) × List (Bar) // p.1 ++ p.2 = l ∧ True}) [] [2, 3, 10, 11] (fun ⟨(pre, suf), _⟩ => [(12, .lit (.int .i64 ((pre.length : Int)))), (4, .lit (.int .i64 (cntT pre)))]) (fun ⟨(pre, suf), _⟩ => []) (fun ⟨(pre, suf), _⟩ => suf.length) ⟨([], l), rfl, trivial⟩ (.c (.c (.c (.c .n)))) keep_n (slots_c (he := (by first | rfl | (congr 2; simp; done))) (h := (slots_c (he := (by first | rfl | exact iE (by rw [cntT_snoc]))) (h := trivial)))) ?_
    rintro ⟨⟨pre, suf⟩, hp, hinv⟩ R0 hR0
    dsimp only [List.cons_append, List.nil_append, List.length_cons, List.length_nil]
    simp only at hp hinv
    have hpl : pre.length + suf.length = (l).length := by rw [← hp, List.length_append]
    rcases suf with _ | ⟨s, suf⟩
    · rw [List.append_nil] at hp; subst pre; simp only [List.length_nil] at hpl
      refine Ev.sr fun K hK => S.o q.lss (S.end (hK _ ?_))
      clear hK K
      refine Ev.ud (fun c2 => ?_) (fun c2 => ?_)
      · first | omega | contradiction
      · first
      | (first | omega | contradiction)
      | refine Ev.exit ?_
        refine hR0 _ _ ?_
        show Ev _ _ _ _
        refine Ev.sr fun K hK => S.o q.mv (S.o q.as (S.o q.as (S.end (hK _ ?_))))
        clear hK K
        refine Ev.ret ?_
        refine Ev.ret2 ?_
        refine ⟨?_, rfl⟩
        first
         | (rw [show totalV l = 0 from if_neg ‹_›, show okS l = 1 from if_neg ‹_›]; done)
         | (rw [show totalV l = cntT l from if_pos hok, show okS l = 0 from if_pos hok]; done)
    · simp only [List.length_cons] at hpl
      have hidx : (l)[pre.length]? = some s := by rw [← hp]; simp
      have hsok : okBar s := hok.2.1 s (by rw [← hp]; simp)
      obtain ⟨t1, t2⟩ := cntT_bd pre (fun x hx => hok.2.1 x (by rw [← hp]; simp [hx]))
      have hsc := hsok.2.2.1
      have hsc2 := hsok.2.2.2.1
      refine Ev.sr fun K hK => S.o q.lss (S.end (hK _ ?_))
      clear hK K
      refine Ev.ud (fun c3 => ?_) (fun c3 => ?_)
      · first
      | (first | omega | contradiction)
      | refine Ev.seq ?_
        refine Ev.block ?_
        refine Ev.sr fun K hK => S.o (q.ix am_el22 am_cl38 (hl := (by first | exact ati hidx (by omega) | exact atig (by omega)))) (S.o (q.lsA [_, _, _, _, _] am_ag38 am_cl38) (S.nn (q.al am_ze38) (S.sv [_, _, _, _, _] true [] am_in38 am_cl38 (h := S.end (hK _ ?_)))))
        clear hK K
        refine Ev.region_S fun K hK => S.o q.mv (S.o (q.fa 2 am_fi38_2 am_cl3) (S.o (q.lv am_ag3) (S.o q.add (S.o q.as (S.end (hK _ ?_))))))
        clear hK K
        show Ev _ _ _ _
        refine Ev.region_S fun K hK => S.o q.add (S.o q.mv (S.end (hK _ ?_)))
        clear hK K
        refine hR0 _ _ ?_
        refine roundU [] [2, 3, 10, 11] ⟨(pre ++ [s], suf), by rw [← hp]; simp, ?_⟩ ?_ keep_n (slots_c (he := (by first | rfl | (congr 2; simp; done))) (h := (slots_c (he := (by first | rfl | exact iE (by rw [cntT_snoc]))) (h := trivial)))) (.c (.c (.c (.c .n))))
        trivial
        all_goals (dsimp only; simp only [List.length_cons]; omega)
      · first | omega | contradiction
theorem rtotal14_fun (l : List Bar) (hok : okSched l) : Fun Tryd.prog 21 [.sh 5 (l.map Bar.c)] (Ret (.lit (.int .i64 (cntT l))) []) := by
  have hll := hok.1
  refine Fun.of (nt := 19) (rs := [.tmp 2]) Tryd.func21 rfl rfl rfl rfl rfl ?_
  refine Ev.sr fun K hK => S.o q.as (S.end (hK _ ?_))
  clear hK K
  refine Ev.sr fun K hK => S.o q.as (S.end (hK _ ?_))
  clear hK K
  refine Ev.seq ?_
  refine Ev.sr fun K hK => S.o q.as (S.end (hK _ ?_))
  clear hK K
  refine Ev.block ?_
  refine Ev.loopU (ι := {p : List (Bar) × List (Bar) // p.1 ++ p.2 = l ∧ True}) [] [0, 2] (fun ⟨(pre, suf), _⟩ => [(4, .lit (.int .i64 ((pre.length : Int)))), (3, .lit (.int .i64 (cntT pre)))]) (fun ⟨(pre, suf), _⟩ => []) (fun ⟨(pre, suf), _⟩ => suf.length) ⟨([], l), rfl, trivial⟩ (.c (.c .n)) keep_n (slots_c (he := (by first | rfl | (congr 2; simp; done))) (h := (slots_c (he := (by first | rfl | exact iE (by rw [cntT_snoc]))) (h := trivial)))) ?_
  rintro ⟨⟨pre, suf⟩, hp, hinv⟩ R0 hR0
  dsimp only [List.cons_append, List.nil_append, List.length_cons, List.length_nil]
  simp only at hp hinv
  have hpl : pre.length + suf.length = (l).length := by rw [← hp, List.length_append]
  rcases suf with _ | ⟨s, suf⟩
  · rw [List.append_nil] at hp; subst pre; simp only [List.length_nil] at hpl
    refine Ev.seq ?_
    refine Ev.sr fun K hK => S.o q.mv (S.o q.mv (S.o (q.lens am_el22) (S.o q.lss (S.end (hK _ ?_)))))
    clear hK K
    refine Ev.cd (fun c1 => ?_) (fun c1 => ?_)
    · first | omega | contradiction
    · first
    | (first | omega | contradiction)
    | refine Ev.exit ?_
      refine hR0 _ _ ?_
      show Ev _ _ _ _
      refine Ev.sr fun K hK => S.o q.mv (S.o q.as (S.end (hK _ ?_)))
      clear hK K
      refine Ev.ret ?_
      refine Ev.ret1 ?_
      refine ⟨?_, rfl⟩
      rfl
  · simp only [List.length_cons] at hpl
    have hidx : (l)[pre.length]? = some s := by rw [← hp]; simp
    have hsok : okBar s := hok.2.1 s (by rw [← hp]; simp)
    obtain ⟨t1, t2⟩ := cntT_bd pre (fun x hx => hok.2.1 x (by rw [← hp]; simp [hx]))
    have hsc := hsok.2.2.1
    have hsc2 := hsok.2.2.2.1
    refine Ev.seq ?_
    refine Ev.sr fun K hK => S.o q.mv (S.o q.mv (S.o (q.lens am_el22) (S.o q.lss (S.end (hK _ ?_)))))
    clear hK K
    refine Ev.cd (fun c2 => ?_) (fun c2 => ?_)
    · first
    | (first | omega | contradiction)
    | refine Ev.skip ?_
      show Ev _ _ _ _
      refine Ev.seq ?_
      refine Ev.block ?_
      refine Ev.region_S fun K hK => S.o q.mv (S.o q.mv (S.o q.mv (S.o (q.ix am_el22 am_cl38 (hl := (by first | exact ati hidx (by omega) | exact atig (by omega)))) (S.o (q.fs 2 am_fi38_2 am_cl3) (S.o (q.ls am_ag3) (S.o q.add (S.o q.as (S.end (hK _ ?_)))))))))
      clear hK K
      show Ev _ _ _ _
      refine Ev.region_S fun K hK => S.o q.mv (S.o q.add (S.o q.as (S.end (hK _ ?_))))
      clear hK K
      refine hR0 _ _ ?_
      refine roundU [] [0, 2] ⟨(pre ++ [s], suf), by rw [← hp]; simp, ?_⟩ ?_ keep_n (slots_c (he := (by first | rfl | (congr 2; simp; done))) (h := (slots_c (he := (by first | rfl | exact iE (by rw [cntT_snoc]))) (h := trivial)))) (.c (.c .n))
      trivial
      all_goals (dsimp only; simp only [List.length_cons]; omega)
    · first | omega | contradiction

theorem merge_fun (a b : List Bar) (hal : a.length ≤ 140737488355328) (hbl : b.length ≤ 140737488355328) (hwa : schedW a) (hwb : schedW b) : Fun Tryd.prog 9 [.sh 5 (a.map Bar.c), .sh 5 (b.map Bar.c)] (Ret (.tup [.sh 5 ((mergeV a b).map Bar.c), .lit (.int .i64 (mergeE a b))]) []) := by
  refine Fun.of (nt := 94) (rs := [.tmp 4, .tmp 5]) Tryd.func9 rfl rfl rfl rfl rfl ?_
  refine Ev.sr fun K hK => S.o q.as (S.o q.as (S.end (hK _ ?_)))
  clear hK K
  refine Ev.seq ?_
  refine Ev.sr fun K hK => S.o q.mv (S.c0 (hF := schedValid_fun _ (by omega) (by assumption)) (h := S.o q.not (S.bn q.mv (fun c1 => ?_) (fun c1 => ?_))))
  · first
  | (first | omega | contradiction)
  | refine S.sk (S.sk (S.sk (S.o q.pt (S.end (hK _ ?_)))))
    clear hK K
    refine Ev.ct ?_
    refine Ev.sr fun K hK => S.o q.as (S.o q.as (S.end (hK _ ?_)))
    clear hK K
    refine Ev.weaken (Wk.nsh Bar.c 4 5) ?_
    refine Ev.ret ?_
    refine Ev.ret2 ?_
    refine ⟨?_, rfl⟩
    first
     | (rw [(me1 (fun h => absurd h.1 ‹_›)).1, (me1 (fun h => absurd h.1 ‹_›)).2]; done)
     | (rw [(me1 (fun h => absurd h.2 ‹_›)).1, (me1 (fun h => absurd h.2 ‹_›)).2]; done)
     | (rw [(me19 hab hbad).1, (me19 hab hbad).2]; done)
     | (rw [(me5 hab hinv ‹_›).1, (me5 hab hinv ‹_›).2]; done)
     | (rw [(me4 hab hinv ‹_› (by omega)).1, (me4 hab hinv ‹_› (by omega)).2]; done)
     | (rw [(me0 hab hinv ‹_› (by omega)).1, (me0 hab hinv ‹_› (by omega)).2]; done)
  · first
  | (first | omega | contradiction)
  | refine S.o q.mv (S.c0 (hF := schedValid_fun _ (by omega) (by assumption)) (h := S.o q.not (S.o q.pf (S.end (hK _ ?_)))))
    clear hK K
    refine Ev.cn (fun c2 => ?_) (fun c2 => ?_)
    · first
    | (first | omega | contradiction)
    | refine Ev.sr fun K hK => S.o q.as (S.o q.as (S.end (hK _ ?_)))
      clear hK K
      refine Ev.weaken (Wk.nsh Bar.c 4 5) ?_
      refine Ev.ret ?_
      refine Ev.ret2 ?_
      refine ⟨?_, rfl⟩
      first
       | (rw [(me1 (fun h => absurd h.1 ‹_›)).1, (me1 (fun h => absurd h.1 ‹_›)).2]; done)
       | (rw [(me1 (fun h => absurd h.2 ‹_›)).1, (me1 (fun h => absurd h.2 ‹_›)).2]; done)
       | (rw [(me19 hab hbad).1, (me19 hab hbad).2]; done)
       | (rw [(me5 hab hinv ‹_›).1, (me5 hab hinv ‹_›).2]; done)
       | (rw [(me4 hab hinv ‹_› (by omega)).1, (me4 hab hinv ‹_› (by omega)).2]; done)
       | (rw [(me0 hab hinv ‹_› (by omega)).1, (me0 hab hinv ‹_› (by omega)).2]; done)
    · first
    | (first | omega | contradiction)
    | refine Ev.skip ?_
      show Ev _ _ _ _
      have ha : okSched a := ‹_›
      have hb : okSched b := ‹_›
      have hab : okSched a ∧ okSched b := ⟨ha, hb⟩
      have ha60 := ha.1
      have hb60 := hb.1
      have hfl := mfin ha hb
      refine Ev.sr fun K hK => S.o q.as (S.end (hK _ ?_))
      clear hK K
      refine Ev.seq ?_
      refine Ev.sr fun K hK => S.o q.mv (S.o (q.lens am_el22) (S.o q.mv (S.end (hK _ ?_))))
      clear hK K
      refine Ev.block ?_
      refine Ev.weaken (Wk.nown Bar.c 6 38 5) ?_
      refine Ev.loopU (ι := {p : List (Bar) × List (Bar) // p.1 ++ p.2 = a ∧ True}) [0] [0, 1, 4, 5, 23, 24] (fun ⟨(pre, suf), _⟩ => [(25, .lit (.int .i64 ((pre.length : Int)))), (6, .als 0 0 (pre).length)]) (fun ⟨(pre, suf), _⟩ => [(0, ⟨true, 38, 5, (pre).map Bar.c, true⟩)]) (fun ⟨(pre, suf), _⟩ => suf.length) ⟨([], a), rfl, trivial⟩ (.c (.c (.c (.c (.c (.c .n)))))) (keep_c (he := (by first | rfl | (simp; done))) (h := keep_n)) (slots_c (he := (by first | rfl | (congr 2; simp; done))) (h := (slots_c (he := (by first | rfl | (simp; done) | (congr 2; omega))) (h := trivial)))) ?_
      rintro ⟨⟨pre, suf⟩, hp, hinv⟩ R0 hR0
      dsimp only [List.cons_append, List.nil_append, List.length_cons, List.length_nil]
      simp only at hp hinv
      have hpl : pre.length + suf.length = (a).length := by rw [← hp, List.length_append]
      rcases suf with _ | ⟨s, suf⟩
      · rw [List.append_nil] at hp; subst pre; simp only [List.length_nil] at hpl
        refine Ev.sr fun K hK => S.o q.lss (S.end (hK _ ?_))
        clear hK K
        refine Ev.ud (fun c3 => ?_) (fun c3 => ?_)
        · first | omega | contradiction
        · first
        | (first | omega | contradiction)
        | refine Ev.exit ?_
          refine hR0 _ _ ?_
          show Ev _ _ _ _
          refine Ev.sr fun K hK => S.o q.as (S.end (hK _ ?_))
          clear hK K
          refine Ev.seq ?_
          refine Ev.sr fun K hK => S.o q.mv (S.o (q.lens am_el22) (S.o q.mv (S.end (hK _ ?_))))
          clear hK K
          refine Ev.block ?_
          refine Ev.loopU (ι := {q : List Bar × List Bar // q.1 ++ q.2 = b ∧ ¬ ∃ x ∈ q.1, badM a x}) [0] [0, 1, 23, 24, 25, 26, 35, 36] (fun ⟨(pre, suf), _⟩ => [(37, .lit (.int .i64 ((pre.length : Int)))), (9, .lit (.bool (decide (bigM a pre)))), (6, .als 0 0 (mergeL a pre).length)]) (fun ⟨(pre, suf), _⟩ => [(0, ⟨true, 38, 5, (mergeL a pre).map Bar.c, true⟩)]) (fun ⟨(pre, suf), _⟩ => suf.length) ⟨([], b), rfl, (by rintro ⟨x, hx, _⟩; cases hx)⟩ (.c (.c (.c (.c (.c (.c (.c (.c .n)))))))) (keep_c (he := (by first | rfl | (rw [mergeL_new ‹_›]; done) | (rw [hyS]; done))) (h := keep_n)) (slots_c (he := (by first | rfl | (congr 2; simp; done))) (h := (slots_c (he := (by first | rfl | exact bF (bigM_nil a) | exact dI (big_none ‹_›).symm | exact bT ((big_at hym hyk hyu).2 (.inl ‹_›)) | exact dI ((big_at hym hyk hyu).trans ⟨fun h => h.resolve_left ‹_›, .inr⟩).symm)) (h := (slots_c (he := (by first | rfl | (rw [mergeL_new ‹_›]; done) | (rw [← hyS]; simp; done) | (congr 1; rw [← hyS, List.length_set]; done))) (h := trivial)))))) ?_
          rintro ⟨⟨pre, suf⟩, hp, hinv⟩ R2 hR2
          dsimp only [List.cons_append, List.nil_append, List.length_cons, List.length_nil]
          simp only at hp hinv
          have hpl : pre.length + suf.length = (b).length := by rw [← hp, List.length_append]
          rcases suf with _ | ⟨s, suf⟩
          · rw [List.append_nil] at hp; subst pre; simp only [List.length_nil] at hpl
            refine Ev.sr fun K hK => S.o q.lss (S.end (hK _ ?_))
            clear hK K
            refine Ev.ud (fun c4 => ?_) (fun c4 => ?_)
            · first | omega | contradiction
            · first
            | (first | omega | contradiction)
            | refine Ev.exit ?_
              refine hR2 _ _ ?_
              show Ev _ _ _ _
              refine Ev.seq ?_
              refine Ev.block ?_
              refine Ev.sr fun K hK => S.o q.mv (S.o q.as (S.end (hK _ ?_)))
              clear hK K
              refine Ev.cd (fun c5 => ?_) (fun c5 => ?_)
              · first
              | (first | omega | contradiction)
              | refine Ev.sr fun K hK => S.o q.as (S.o q.as (S.end (hK _ ?_)))
                clear hK K
                refine Ev.weaken (Wk.nsh Bar.c 4 5) ?_
                refine Ev.ret ?_
                refine Ev.ret2 ?_
                refine ⟨?_, rfl⟩
                first
                 | (rw [(me1 (fun h => absurd h.1 ‹_›)).1, (me1 (fun h => absurd h.1 ‹_›)).2]; done)
                 | (rw [(me1 (fun h => absurd h.2 ‹_›)).1, (me1 (fun h => absurd h.2 ‹_›)).2]; done)
                 | (rw [(me19 hab hbad).1, (me19 hab hbad).2]; done)
                 | (rw [(me5 hab hinv ‹_›).1, (me5 hab hinv ‹_›).2]; done)
                 | (rw [(me4 hab hinv ‹_› (by omega)).1, (me4 hab hinv ‹_› (by omega)).2]; done)
                 | (rw [(me0 hab hinv ‹_› (by omega)).1, (me0 hab hinv ‹_› (by omega)).2]; done)
              · first
              | (first | omega | contradiction)
              | refine Ev.sr fun K hK => S.o q.mv (S.o (q.lena am_el22) (S.o q.gtr (S.o q.as (S.end (hK _ ?_)))))
                clear hK K
                refine Ev.cd (fun c6 => ?_) (fun c6 => ?_)
                · first
                | (first | omega | contradiction)
                | refine Ev.sr fun K hK => S.o q.as (S.o q.as (S.end (hK _ ?_)))
                  clear hK K
                  refine Ev.weaken (Wk.nsh Bar.c 4 5) ?_
                  refine Ev.ret ?_
                  refine Ev.ret2 ?_
                  refine ⟨?_, rfl⟩
                  first
                   | (rw [(me1 (fun h => absurd h.1 ‹_›)).1, (me1 (fun h => absurd h.1 ‹_›)).2]; done)
                   | (rw [(me1 (fun h => absurd h.2 ‹_›)).1, (me1 (fun h => absurd h.2 ‹_›)).2]; done)
                   | (rw [(me19 hab hbad).1, (me19 hab hbad).2]; done)
                   | (rw [(me5 hab hinv ‹_›).1, (me5 hab hinv ‹_›).2]; done)
                   | (rw [(me4 hab hinv ‹_› (by omega)).1, (me4 hab hinv ‹_› (by omega)).2]; done)
                   | (rw [(me0 hab hinv ‹_› (by omega)).1, (me0 hab hinv ‹_› (by omega)).2]; done)
                · first
                | (first | omega | contradiction)
                | refine Ev.skip ?_
                  show Ev _ _ _ _
                  refine Ev.sr fun K hK => S.o q.mv (S.o q.as (S.o q.as (S.end (hK _ ?_))))
                  clear hK K
                  refine Ev.weaken (Wk.frz 4 []) ?_
                  refine Ev.ret ?_
                  refine Ev.ret2 ?_
                  refine ⟨?_, rfl⟩
                  first
                   | (rw [(me1 (fun h => absurd h.1 ‹_›)).1, (me1 (fun h => absurd h.1 ‹_›)).2]; done)
                   | (rw [(me1 (fun h => absurd h.2 ‹_›)).1, (me1 (fun h => absurd h.2 ‹_›)).2]; done)
                   | (rw [(me19 hab hbad).1, (me19 hab hbad).2]; done)
                   | (rw [(me5 hab hinv ‹_›).1, (me5 hab hinv ‹_›).2]; done)
                   | (rw [(me4 hab hinv ‹_› (by omega)).1, (me4 hab hinv ‹_› (by omega)).2]; done)
                   | (rw [(me0 hab hinv ‹_› (by omega)).1, (me0 hab hinv ‹_› (by omega)).2]; done)
          · simp only [List.length_cons] at hpl
            have hidx : b[pre.length]? = some s := by rw [← hp]; simp
            obtain ⟨hmg, hmd, hsok, hml⟩ := mround ha hb hp
            have hsc := hsok.2.2.1
            have hsc2 := hsok.2.2.2.1
            have hsd3 := hsok.2.2.2.2.2.1
            have hsd4 := (dims_eq s.code).2.2.1
            refine Ev.sr fun K hK => S.o q.lss (S.end (hK _ ?_))
            clear hK K
            refine Ev.ud (fun c7 => ?_) (fun c7 => ?_)
            · first
            | (first | omega | contradiction)
            | refine Ev.seq ?_
              refine Ev.block ?_
              refine Ev.sr fun K hK => S.o (q.ix am_el22 am_cl38 (hl := (by first | exact ati hya (by omega) | exact ati hyo (by omega) | exact ati hyset (by omega) | exact ati hidx (by omega) | exact atig (by omega)))) (S.o (q.lsA [_, _, _, _, _] am_ag38 am_cl38) (S.nn (q.al am_ze38) (S.sv [_, _, _, _, _] true [_] am_in38 am_cl38 (h := S.end (hK _ ?_)))))
              clear hK K
              have hsw : s.w := hwb s (by rw [← hp]; simp)
              refine Ev.sr fun K hK => S.o q.mv (S.o (q.fa 0 am_fi38_0 am_cl9) (S.o (q.lv am_ag9) (S.c0 (hF := schedIndex_fun _ _ (by omega)) (h := S.o q.as (S.end (hK _ ?_))))))
              clear hK K
              refine Ev.seq ?_
              refine Ev.sr fun K hK => S.o q.mv (S.o q.lss (S.end (hK _ ?_)))
              clear hK K
              refine Ev.cd (fun c8 => ?_) (fun c8 => ?_)
              · first
              | (first | omega | contradiction)
              | refine Ev.sr fun K hK => S.o q.mv (S.o (q.lvA [_, _, _, _, _] am_ag38 am_cl38) (S.c0 (hF := copyOf_fun _ (by omega)) (h := S.nn (q.bs [[_, _, _, _, _]] true am_el22 am_ze38 am_cl38) (S.ap' [_, _] am_el22 am_ze38 am_cl38 am_by38 (hh := head_own') (hr := (rows_lit [(⟨_, _, _, _, _⟩ : Bar)])) (h := S.o q.as (S.end (hK _ ?_)))))))
                clear hK K
                refine Ev.exit ?_
                show Ev _ _ _ _
                refine Ev.region_S fun K hK => S.o q.add (S.o q.mv (S.end (hK _ ?_)))
                clear hK K
                refine hR2 _ _ ?_
                refine roundU [3] [0, 1, 23, 24, 25, 26, 35, 36] ⟨(pre ++ [s], suf), by rw [← hp]; simp, ?_⟩ ?_ (keep_c (he := (by first | rfl | (rw [mergeL_new ‹_›]; done) | (rw [hyS]; done))) (h := keep_n)) (slots_c (he := (by first | rfl | (congr 2; simp; done))) (h := (slots_c (he := (by first | rfl | exact bF (bigM_nil a) | exact dI (big_none ‹_›).symm | exact bT ((big_at hym hyk hyu).2 (.inl ‹_›)) | exact dI ((big_at hym hyk hyu).trans ⟨fun h => h.resolve_left ‹_›, .inr⟩).symm)) (h := (slots_c (he := (by first | rfl | (rw [mergeL_new ‹_›]; done) | (rw [← hyS]; simp; done) | (congr 1; rw [← hyS, List.length_set]; done))) (h := trivial)))))) (.c (.c (.c (.c (.c (.c (.c (.c .n))))))))
                exact bad_snoc hinv (by first | exact bad_none ‹_› | exact bad_at hyu (hsameD))
                all_goals (dsimp only; simp only [List.length_cons]; omega)
              · first
              | (first | omega | contradiction)
              | refine Ev.skip ?_
                show Ev _ _ _ _
                refine Ev.seq ?_
                obtain ⟨y, hya, hym, hyok, hyk, hyo, hyS, hyset, hyu⟩ := mround_at ha hb hp ‹_›
                have hylt := (List.getElem?_eq_some_iff.1 hyo).1
                have hyw : y.w := hwa y hym
                have hyc := hyok.2.2.1
                have hyc2 := hyok.2.2.2.1
                refine Ev.sm (tbs [(0, 0), (0, 0), (2, 3), (3, 7), (0, 0), (5, 31), (6, 63), (7, 127), (7, 127), (8, 255), (10, 1023)]) 10 fun K hK => M.o q.mv (M.o q.mv (M.o (q.ix am_el22 am_cl38 (hl := (by first | exact ati hya (by omega) | exact ati hyo (by omega) | exact ati hyset (by omega) | exact ati hidx (by omega) | exact atig (by omega)))) (M.o (q.lsA [_, _, _, _, _] am_ag38 am_cl38) (M.o (q.lvA [_, _, _, _, _] am_ag38 am_cl38) (M.c0 (hF := same_fun _ _ (by assumption) (by assumption)) (h := M.o q.mv (M.o q.ex (M.o q.ex (M.o q.as (M.end [_, _] (h := S.o q.as (S.end (hK _ ?_)))))))))))))
                clear hK K
                refine Ev.sr fun K hK => S.o q.mv (S.o q.neq (S.bn q.mv (fun c9 => ?_) (fun c9 => ?_)))
                · first
                | (first | omega | contradiction)
                | refine S.sk (S.sk (S.o q.pt (S.end (hK _ ?_))))
                  clear hK K
                  refine Ev.ct ?_
                  have hbad : ∃ x ∈ b, badM a x := ⟨s, by rw [← hp]; simp, y, hym, hyk, fun h => by first | (exfalso; have h5 : sameE y s = 0 := if_pos ⟨hyok, hsok⟩; contradiction) | exact absurd (⟨hyok, hsok, h⟩ : sameV y s) ‹_›⟩
                  refine Ev.sr fun K hK => S.o q.as (S.o q.as (S.end (hK _ ?_)))
                  clear hK K
                  refine Ev.weaken (Wk.nsh Bar.c 4 5) ?_
                  refine Ev.ret ?_
                  refine hR2 _ _ ?_
                  refine Ev.ret2 ?_
                  refine ⟨?_, rfl⟩
                  first
                   | (rw [(me1 (fun h => absurd h.1 ‹_›)).1, (me1 (fun h => absurd h.1 ‹_›)).2]; done)
                   | (rw [(me1 (fun h => absurd h.2 ‹_›)).1, (me1 (fun h => absurd h.2 ‹_›)).2]; done)
                   | (rw [(me19 hab hbad).1, (me19 hab hbad).2]; done)
                   | (rw [(me5 hab hinv ‹_›).1, (me5 hab hinv ‹_›).2]; done)
                   | (rw [(me4 hab hinv ‹_› (by omega)).1, (me4 hab hinv ‹_› (by omega)).2]; done)
                   | (rw [(me0 hab hinv ‹_› (by omega)).1, (me0 hab hinv ‹_› (by omega)).2]; done)
                · first
                | (first | omega | contradiction)
                | refine S.o q.mv (S.o q.not (S.o q.pf (S.end (hK _ ?_))))
                  clear hK K
                  refine Ev.cn (fun c10 => ?_) (fun c10 => ?_)
                  · first
                  | (first | omega | contradiction)
                  | have hbad : ∃ x ∈ b, badM a x := ⟨s, by rw [← hp]; simp, y, hym, hyk, fun h => by first | (exfalso; have h5 : sameE y s = 0 := if_pos ⟨hyok, hsok⟩; contradiction) | exact absurd (⟨hyok, hsok, h⟩ : sameV y s) ‹_›⟩
                    refine Ev.sr fun K hK => S.o q.as (S.o q.as (S.end (hK _ ?_)))
                    clear hK K
                    refine Ev.weaken (Wk.nsh Bar.c 4 5) ?_
                    refine Ev.ret ?_
                    refine hR2 _ _ ?_
                    refine Ev.ret2 ?_
                    refine ⟨?_, rfl⟩
                    first
                     | (rw [(me1 (fun h => absurd h.1 ‹_›)).1, (me1 (fun h => absurd h.1 ‹_›)).2]; done)
                     | (rw [(me1 (fun h => absurd h.2 ‹_›)).1, (me1 (fun h => absurd h.2 ‹_›)).2]; done)
                     | (rw [(me19 hab hbad).1, (me19 hab hbad).2]; done)
                     | (rw [(me5 hab hinv ‹_›).1, (me5 hab hinv ‹_›).2]; done)
                     | (rw [(me4 hab hinv ‹_› (by omega)).1, (me4 hab hinv ‹_› (by omega)).2]; done)
                     | (rw [(me0 hab hinv ‹_› (by omega)).1, (me0 hab hinv ‹_› (by omega)).2]; done)
                  · first
                  | (first | omega | contradiction)
                  | refine Ev.skip ?_
                    show Ev _ _ _ _
                    have hsameD : sameD y s := (‹sameV y s› : sameV y s).2.2
                    refine Ev.sm (tbs [(0, 0), (0, 0), (2, 3), (3, 7), (4, 15), (0, 0), (6, 32), (7, 127), (8, 255), (9, 511), (10, 1023)]) 10 fun K hK => M.o q.mv (M.o q.mv (M.o (q.ia am_el22 am_cl38) (M.o (q.fa 2 am_fi38_2 am_cl3) (M.o (q.lx am_ag3 (hl := (by first | exact at_ hya (by omega) | exact at_ hyo (by omega) | exact at_ hyset (by omega) | exact at_ hidx (by omega) | exact at_g (by omega)))) (M.o (q.fa 2 am_fi38_2 am_cl3) (M.o (q.lv am_ag3) (M.o q.add (M.o (q.ia am_el22 am_cl38) (M.o (q.fa 2 am_fi38_2 am_cl3) (M.end [_, _] (h := S.sx (y.addC s.count) [_] am_in3 am_cl3 (hl := (by first | exact at_ hya (by omega) | exact at_ hyo (by omega) | exact at_ hyset (by omega) | exact at_ hidx (by omega) | exact at_g (by omega))) (h := S.end (hK _ ?_)))))))))))))
                    clear hK K
                    refine Ev.region_S fun K hK => S.o q.mv (S.bd q.mv (fun c11 => ?_) (fun c11 => ?_))
                    · first
                    | (first | omega | contradiction)
                    | refine S.sk (S.sk (S.sk (S.sk (S.sk (S.sk (S.o q.pt (S.o q.as (S.end (hK _ ?_)))))))))
                      clear hK K
                      show Ev _ _ _ _
                      refine Ev.region_S fun K hK => S.o q.add (S.o q.mv (S.end (hK _ ?_)))
                      clear hK K
                      refine hR2 _ _ ?_
                      refine roundU [0] [0, 1, 23, 24, 25, 26, 35, 36] ⟨(pre ++ [s], suf), by rw [← hp]; simp, ?_⟩ ?_ (keep_c (he := (by first | rfl | (rw [mergeL_new ‹_›]; done) | (rw [hyS]; done))) (h := keep_n)) (slots_c (he := (by first | rfl | (congr 2; simp; done))) (h := (slots_c (he := (by first | rfl | exact bF (bigM_nil a) | exact dI (big_none ‹_›).symm | exact bT ((big_at hym hyk hyu).2 (.inl ‹_›)) | exact dI ((big_at hym hyk hyu).trans ⟨fun h => h.resolve_left ‹_›, .inr⟩).symm)) (h := (slots_c (he := (by first | rfl | (rw [mergeL_new ‹_›]; done) | (rw [← hyS]; simp; done) | (congr 1; rw [← hyS, List.length_set]; done))) (h := trivial)))))) (.c (.c (.c (.c (.c (.c (.c (.c .n))))))))
                      exact bad_snoc hinv (by first | exact bad_none ‹_› | exact bad_at hyu (hsameD))
                      all_goals (dsimp only; simp only [List.length_cons]; omega)
                    · first
                    | (first | omega | contradiction)
                    | refine S.o q.mv (S.o q.mv (S.o (q.ia am_el22 am_cl38) (S.o (q.fa 2 am_fi38_2 am_cl3) (S.o (q.lx am_ag3 (hl := (by first | exact at_ hya (by omega) | exact at_ hyo (by omega) | exact at_ hyset (by omega) | exact at_ hidx (by omega) | exact at_g (by omega)))) (S.o q.gtr (S.o q.pf (S.o q.as (S.end (hK _ ?_)))))))))
                      clear hK K
                      show Ev _ _ _ _
                      refine Ev.region_S fun K hK => S.o q.add (S.o q.mv (S.end (hK _ ?_)))
                      clear hK K
                      refine hR2 _ _ ?_
                      refine roundU [0] [0, 1, 23, 24, 25, 26, 35, 36] ⟨(pre ++ [s], suf), by rw [← hp]; simp, ?_⟩ ?_ (keep_c (he := (by first | rfl | (rw [mergeL_new ‹_›]; done) | (rw [hyS]; done))) (h := keep_n)) (slots_c (he := (by first | rfl | (congr 2; simp; done))) (h := (slots_c (he := (by first | rfl | exact bF (bigM_nil a) | exact dI (big_none ‹_›).symm | exact bT ((big_at hym hyk hyu).2 (.inl ‹_›)) | exact dI ((big_at hym hyk hyu).trans ⟨fun h => h.resolve_left ‹_›, .inr⟩).symm)) (h := (slots_c (he := (by first | rfl | (rw [mergeL_new ‹_›]; done) | (rw [← hyS]; simp; done) | (congr 1; rw [← hyS, List.length_set]; done))) (h := trivial)))))) (.c (.c (.c (.c (.c (.c (.c (.c .n))))))))
                      exact bad_snoc hinv (by first | exact bad_none ‹_› | exact bad_at hyu (hsameD))
                      all_goals (dsimp only; simp only [List.length_cons]; omega)
            · first | omega | contradiction
      · simp only [List.length_cons] at hpl
        have hidx : (a)[pre.length]? = some s := by rw [← hp]; simp
        have hsd := hwa s (by rw [← hp]; simp)
        have hsd2 := (okBar_w (ha.2.1 s (by rw [← hp]; simp))).2
        have hsd3 := (ha.2.1 s (by rw [← hp]; simp)).2.2.2.2.2.1
        have hsd4 := (dims_eq s.code).2.2.1
        refine Ev.sr fun K hK => S.o q.lss (S.end (hK _ ?_))
        clear hK K
        refine Ev.ud (fun c12 => ?_) (fun c12 => ?_)
        · first
        | (first | omega | contradiction)
        | refine Ev.seq ?_
          refine Ev.block ?_
          refine Ev.sr fun K hK => S.o (q.ix am_el22 am_cl38 (hl := (by first | exact ati hya (by omega) | exact ati hyo (by omega) | exact ati hyset (by omega) | exact ati hidx (by omega) | exact atig (by omega)))) (S.o (q.lsA [_, _, _, _, _] am_ag38 am_cl38) (S.nn (q.al am_ze38) (S.sv [_, _, _, _, _] true [_] am_in38 am_cl38 (h := S.end (hK _ ?_)))))
          clear hK K
          refine Ev.region_S fun K hK => S.o q.mv (S.o (q.lvA [_, _, _, _, _] am_ag38 am_cl38) (S.c0 (hF := copyOf_fun _ (by omega)) (h := S.nn (q.bs [[_, _, _, _, _]] true am_el22 am_ze38 am_cl38) (S.ap' [_, _] am_el22 am_ze38 am_cl38 am_by38 (hh := head_own') (hr := (rows_lit [(⟨_, _, _, _, _⟩ : Bar)])) (h := S.o q.as (S.end (hK _ ?_)))))))
          clear hK K
          show Ev _ _ _ _
          refine Ev.region_S fun K hK => S.o q.add (S.o q.mv (S.end (hK _ ?_)))
          clear hK K
          refine hR0 _ _ ?_
          refine roundU [3] [0, 1, 4, 5, 23, 24] ⟨(pre ++ [s], suf), by rw [← hp]; simp, ?_⟩ ?_ (keep_c (he := (by first | rfl | (simp; done))) (h := keep_n)) (slots_c (he := (by first | rfl | (congr 2; simp; done))) (h := (slots_c (he := (by first | rfl | (simp; done) | (congr 2; omega))) (h := trivial)))) (.c (.c (.c (.c (.c (.c .n))))))
          trivial
          all_goals (dsimp only; simp only [List.length_cons]; omega)
        · first | omega | contradiction
end Go.Proofs.YtddogeicmhbidaaDoor
namespace Go.Proofs.YtddogeicmhbidaaDoor
open Go Go.AM
set_option linter.unusedSimpArgs false
set_option linter.unusedVariables false
set_option maxRecDepth 100000
set_option maxHeartbeats 1000000

theorem copy14o_fun (l : List Bar) (hl : l.length ≤ 1000) (hd : ∀ b ∈ l, b.dims.length ≤ 1000000) : Fun Tryd.prog 14 [.sh 5 (l.map Bar.c)] (Ret (.als 0 0 l.length) [(0, ⟨true, 38, 5, l.map Bar.c, true⟩)]) := by
  refine Fun.of (nt := 29) (rs := [.tmp 2]) Tryd.func14 rfl rfl rfl rfl rfl ?_
  refine Ev.sr fun K hK => S.o q.as (S.end (hK _ ?_))
  clear hK K
  refine Ev.sr fun K hK => S.o q.as (S.end (hK _ ?_))
  clear hK K
  refine Ev.seq ?_
  refine Ev.sr fun K hK => S.o q.as (S.end (hK _ ?_))
  clear hK K
  refine Ev.block ?_
  refine Ev.weaken (Wk.nown Bar.c 3 38 5) ?_
  refine Ev.loopU (ι := {p : List (Bar) × List (Bar) // p.1 ++ p.2 = l ∧ True}) [0] [0, 2] (fun ⟨(pre, suf), _⟩ => [(4, .lit (.int .i64 ((pre.length : Int)))), (3, .als 0 0 (pre).length)]) (fun ⟨(pre, suf), _⟩ => [(0, ⟨true, 38, 5, (pre).map Bar.c, true⟩)]) (fun ⟨(pre, suf), _⟩ => suf.length) ⟨([], l), rfl, trivial⟩ (.c (.c .n)) (keep_c (he := (by first | rfl | (simp; done))) (h := keep_n)) (slots_c (he := (by first | rfl | (congr 2; simp; done))) (h := (slots_c (he := (by first | rfl | (simp; done) | (congr 2; omega))) (h := trivial)))) ?_
  rintro ⟨⟨pre, suf⟩, hp, hinv⟩ R0 hR0
  dsimp only [List.cons_append, List.nil_append, List.length_cons, List.length_nil]
  simp only at hp hinv
  have hpl : pre.length + suf.length = (l).length := by rw [← hp, List.length_append]
  rcases suf with _ | ⟨s, suf⟩
  · rw [List.append_nil] at hp; subst pre; simp only [List.length_nil] at hpl
    refine Ev.seq ?_
    refine Ev.sr fun K hK => S.o q.mv (S.o q.mv (S.o (q.lens am_el22) (S.o q.lss (S.end (hK _ ?_)))))
    clear hK K
    refine Ev.cd (fun c1 => ?_) (fun c1 => ?_)
    · first
    | (first | omega | contradiction)
    | refine Ev.skip ?_
      show Ev _ _ _ _
      refine Ev.seq ?_
      refine Ev.block ?_
      refine Ev.sr fun K hK => S.o q.mv (S.o q.mv (S.o (q.ix am_el22 am_cl38 (hl := (by first | exact atig (by omega)))) (S.o (q.lsA [_, _, _, _, _] am_ag38 am_cl38) (S.nn (q.al am_ze38) (S.sv [_, _, _, _, _] true [_] am_in38 am_cl38 (h := S.end (hK _ ?_)))))))
      clear hK K
      refine Ev.sr fun K hK => S.nn (v := .als 2 0 ([] : List (Int)).length) (o := ⟨true, 3, 1, ([] : List (Int)).map intC, true⟩) (q.bs [] true am_el36 am_ze3 am_cl3) (S.o q.mv (S.o q.mv (S.o (q.ix am_el22 am_cl38 (hl := (by first | exact atig (by omega)))) (S.o (q.fs 4 am_fi38_4 am_cl36) (S.o (q.ls am_ag36) (S.ap' [_, _] am_el36 am_ze3 am_cl3 am_by3 (hh := head_own') (hr := rows_sh) (h := S.o (q.fa 4 am_fi38_4 am_cl36) ?_)))))))
      refine SeqL.weaken (Wk.frz 22 [_, _]) ?_
      refine S.sv [_, _, _, _, _] true [_] am_in36 am_cl36 (h := S.end (hK _ ?_))
      clear hK K
      refine Ev.region_S fun K hK => S.o q.mv (S.o (q.lvA [_, _, _, _, _] am_ag38 am_cl38) (S.nn (q.bs [[_, _, _, _, _]] true am_el22 am_ze38 am_cl38) (S.ap' [_, _] am_el22 am_ze38 am_cl38 am_by38 (hh := head_own') (hr := (rows_lit [s])) (h := S.o q.as (S.end (hK _ ?_))))))
      clear hK K
      show Ev _ _ _ _
      refine Ev.region_S fun K hK => S.o q.mv (S.o q.add (S.o q.as (S.end (hK _ ?_))))
      clear hK K
      refine hR0 _ _ ?_
      refine roundU [5] [0, 2] ⟨(pre ++ [s], suf), by rw [← hp]; simp, ?_⟩ ?_ (keep_c (he := (by first | rfl | (simp; done))) (h := keep_n)) (slots_c (he := (by first | rfl | (congr 2; simp; done))) (h := (slots_c (he := (by first | rfl | (simp; done) | (congr 2; omega))) (h := trivial)))) (.c (.c .n))
      trivial
      all_goals (dsimp only; simp only [List.length_cons]; omega)
    · first
    | (first | omega | contradiction)
    | refine Ev.exit ?_
      refine hR0 _ _ ?_
      show Ev _ _ _ _
      refine Ev.sr fun K hK => S.o q.mv (S.o q.as (S.end (hK _ ?_)))
      clear hK K
      refine Ev.ret ?_
      refine Ev.own1 ?_
      refine ⟨?_, ?_⟩
      all_goals rfl
  · simp only [List.length_cons] at hpl
    have hidx : (l)[pre.length]? = some s := by rw [← hp]; simp
    have hsd := hd s (by rw [← hp]; simp)
    refine Ev.seq ?_
    refine Ev.sr fun K hK => S.o q.mv (S.o q.mv (S.o (q.lens am_el22) (S.o q.lss (S.end (hK _ ?_)))))
    clear hK K
    refine Ev.cd (fun c2 => ?_) (fun c2 => ?_)
    · first
    | (first | omega | contradiction)
    | refine Ev.skip ?_
      show Ev _ _ _ _
      refine Ev.seq ?_
      refine Ev.block ?_
      refine Ev.sr fun K hK => S.o q.mv (S.o q.mv (S.o (q.ix am_el22 am_cl38 (hl := (by first | exact ati hidx (by omega) | exact atig (by omega)))) (S.o (q.lsA [_, _, _, _, _] am_ag38 am_cl38) (S.nn (q.al am_ze38) (S.sv [_, _, _, _, _] true [_] am_in38 am_cl38 (h := S.end (hK _ ?_)))))))
      clear hK K
      refine Ev.sr fun K hK => S.nn (v := .als 2 0 ([] : List (Int)).length) (o := ⟨true, 3, 1, ([] : List (Int)).map intC, true⟩) (q.bs [] true am_el36 am_ze3 am_cl3) (S.o q.mv (S.o q.mv (S.o (q.ix am_el22 am_cl38 (hl := (by first | exact ati hidx (by omega) | exact atig (by omega)))) (S.o (q.fs 4 am_fi38_4 am_cl36) (S.o (q.ls am_ag36) (S.ap' [_, _] am_el36 am_ze3 am_cl3 am_by3 (hh := head_own') (hr := rows_sh) (h := S.o (q.fa 4 am_fi38_4 am_cl36) ?_)))))))
      refine SeqL.weaken (Wk.frz 22 [_, _]) ?_
      refine S.sv [_, _, _, _, _] true [_] am_in36 am_cl36 (h := S.end (hK _ ?_))
      clear hK K
      refine Ev.region_S fun K hK => S.o q.mv (S.o (q.lvA [_, _, _, _, _] am_ag38 am_cl38) (S.nn (q.bs [[_, _, _, _, _]] true am_el22 am_ze38 am_cl38) (S.ap' [_, _] am_el22 am_ze38 am_cl38 am_by38 (hh := head_own') (hr := (rows_lit [s])) (h := S.o q.as (S.end (hK _ ?_))))))
      clear hK K
      show Ev _ _ _ _
      refine Ev.region_S fun K hK => S.o q.mv (S.o q.add (S.o q.as (S.end (hK _ ?_))))
      clear hK K
      refine hR0 _ _ ?_
      refine roundU [5] [0, 2] ⟨(pre ++ [s], suf), by rw [← hp]; simp, ?_⟩ ?_ (keep_c (he := (by first | rfl | (simp; done))) (h := keep_n)) (slots_c (he := (by first | rfl | (congr 2; simp; done))) (h := (slots_c (he := (by first | rfl | (simp; done) | (congr 2; omega))) (h := trivial)))) (.c (.c .n))
      trivial
      all_goals (dsimp only; simp only [List.length_cons]; omega)
    · first
    | (first | omega | contradiction)
    | refine Ev.exit ?_
      refine hR0 _ _ ?_
      show Ev _ _ _ _
      refine Ev.sr fun K hK => S.o q.mv (S.o q.as (S.end (hK _ ?_)))
      clear hK K
      refine Ev.ret ?_
      refine Ev.own1 ?_
      refine ⟨?_, ?_⟩
      all_goals rfl

theorem one_at {T : Type} {pre suf l : List T} {s : T} (hp : pre ++ s :: suf = l) : (l.drop ((pre.length : Int)).toNat).take (((pre.length : Int) + 1).toNat - ((pre.length : Int)).toNat) = [s] := by
  subst hp
  have e1 : ((pre.length : Int)).toNat = pre.length := by omega
  have e2 : ((pre.length : Int) + 1).toNat - pre.length = 1 := by omega
  rw [e1, e2, List.drop_left]
  rfl
theorem rmerge_fun (a b : List Bar) (ha : okSched a) (hb : okSched b) : Fun Tryd.prog 11 [.sh 5 (a.map Bar.c), .sh 5 (b.map Bar.c)] (Ret (.tup [.sh 5 ((mergeV a b).map Bar.c), .lit (.int .i64 (mergeE a b))]) []) := by
  have hab : okSched a ∧ okSched b := ⟨ha, hb⟩
  have ha60 := ha.1
  have hb60 := hb.1
  have hfl := mfin ha hb
  have had : ∀ x ∈ a, x.dims.length ≤ 1000000 := fun x hx => by have h1 := (ha.2.1 x hx).2.2.2.2.2.1; have h2 := (dims_eq x.code).2.2.1; omega
  refine Fun.of (nt := 74) (rs := [.tmp 4, .tmp 5]) Tryd.func11 rfl rfl rfl rfl rfl ?_
  refine Ev.sr fun K hK => S.o q.as (S.o q.as (S.end (hK _ ?_)))
  clear hK K
  refine Ev.sr fun K hK => S.o q.as (S.end (hK _ ?_))
  clear hK K
  refine Ev.sr fun K hK => S.o q.mv (S.c1 (hF := copy14o_fun _ (by omega) had) (h := S.o q.as (S.end (hK _ ?_))))
  clear hK K
  refine Ev.seq ?_
  refine Ev.sr fun K hK => S.o q.as (S.end (hK _ ?_))
  clear hK K
  refine Ev.block ?_
  refine Ev.loopU (ι := {q : List Bar × List Bar // q.1 ++ q.2 = b ∧ ¬ ∃ x ∈ q.1, badM a x}) [0] [0, 1] (fun ⟨(pre, suf), _⟩ => [(8, .lit (.int .i64 ((pre.length : Int)))), (6, .lit (.bool (decide (bigM a pre)))), (7, .als 0 0 (mergeL a pre).length)]) (fun ⟨(pre, suf), _⟩ => [(0, ⟨true, 38, 5, (mergeL a pre).map Bar.c, true⟩)]) (fun ⟨(pre, suf), _⟩ => suf.length) ⟨([], b), rfl, (by rintro ⟨x, hx, _⟩; cases hx)⟩ (.c (.c .n)) (keep_c (he := (by first | rfl | (rw [mergeL_new ‹_›]; done) | (rw [hyS]; done))) (h := keep_n)) (slots_c (he := (by first | rfl | (congr 2; simp; done))) (h := (slots_c (he := (by first | rfl | exact bF (bigM_nil a) | exact dI (big_none ‹_›).symm | exact bT ((big_at hym hyk hyu).2 (.inl ‹_›)) | exact dI ((big_at hym hyk hyu).trans ⟨fun h => h.resolve_left ‹_›, .inr⟩).symm)) (h := (slots_c (he := (by first | rfl | (rw [mergeL_new ‹_›]; done) | (rw [← hyS]; simp; done) | (congr 1; rw [← hyS, List.length_set]; done))) (h := trivial)))))) ?_
  rintro ⟨⟨pre, suf⟩, hp, hinv⟩ R0 hR0
  dsimp only [List.cons_append, List.nil_append, List.length_cons, List.length_nil]
  simp only at hp hinv
  have hpl : pre.length + suf.length = (b).length := by rw [← hp, List.length_append]
  rcases suf with _ | ⟨s, suf⟩
  · rw [List.append_nil] at hp; subst pre; simp only [List.length_nil] at hpl
    refine Ev.seq ?_
    refine Ev.sr fun K hK => S.o q.mv (S.o q.mv (S.o (q.lens am_el22) (S.o q.lss (S.end (hK _ ?_)))))
    clear hK K
    refine Ev.cd (fun c1 => ?_) (fun c1 => ?_)
    · first | omega | contradiction
    · first
    | (first | omega | contradiction)
    | refine Ev.exit ?_
      refine hR0 _ _ ?_
      show Ev _ _ _ _
      refine Ev.seq ?_
      refine Ev.sr fun K hK => S.o q.mv (S.end (hK _ ?_))
      clear hK K
      refine Ev.cd (fun c2 => ?_) (fun c2 => ?_)
      · first
      | (first | omega | contradiction)
      | refine Ev.sr fun K hK => S.o q.as (S.o q.as (S.end (hK _ ?_)))
        clear hK K
        refine Ev.weaken (Wk.nsh Bar.c 4 5) ?_
        refine Ev.ret ?_
        refine Ev.ret2 ?_
        refine ⟨?_, rfl⟩
        first
         | (rw [(me19 hab hbad).1, (me19 hab hbad).2]; done)
         | (rw [(me5 hab hinv ‹_›).1, (me5 hab hinv ‹_›).2]; done)
         | (rw [(me4 hab hinv ‹_› (by omega)).1, (me4 hab hinv ‹_› (by omega)).2]; done)
         | (rw [(me0 hab hinv ‹_› (by omega)).1, (me0 hab hinv ‹_› (by omega)).2]; done)
      · first
      | (first | omega | contradiction)
      | refine Ev.skip ?_
        show Ev _ _ _ _
        refine Ev.seq ?_
        refine Ev.sr fun K hK => S.o q.mv (S.o (q.lena am_el22) (S.o q.gtr (S.end (hK _ ?_))))
        clear hK K
        refine Ev.cd (fun c3 => ?_) (fun c3 => ?_)
        · first
        | (first | omega | contradiction)
        | refine Ev.sr fun K hK => S.o q.as (S.o q.as (S.end (hK _ ?_)))
          clear hK K
          refine Ev.weaken (Wk.nsh Bar.c 4 5) ?_
          refine Ev.ret ?_
          refine Ev.ret2 ?_
          refine ⟨?_, rfl⟩
          first
           | (rw [(me19 hab hbad).1, (me19 hab hbad).2]; done)
           | (rw [(me5 hab hinv ‹_›).1, (me5 hab hinv ‹_›).2]; done)
           | (rw [(me4 hab hinv ‹_› (by omega)).1, (me4 hab hinv ‹_› (by omega)).2]; done)
           | (rw [(me0 hab hinv ‹_› (by omega)).1, (me0 hab hinv ‹_› (by omega)).2]; done)
        · first
        | (first | omega | contradiction)
        | refine Ev.skip ?_
          show Ev _ _ _ _
          refine Ev.sr fun K hK => S.o q.mv (S.o q.as (S.o q.as (S.end (hK _ ?_))))
          clear hK K
          refine Ev.weaken (Wk.frz 4 []) ?_
          refine Ev.ret ?_
          refine Ev.ret2 ?_
          refine ⟨?_, rfl⟩
          first
           | (rw [(me19 hab hbad).1, (me19 hab hbad).2]; done)
           | (rw [(me5 hab hinv ‹_›).1, (me5 hab hinv ‹_›).2]; done)
           | (rw [(me4 hab hinv ‹_› (by omega)).1, (me4 hab hinv ‹_› (by omega)).2]; done)
           | (rw [(me0 hab hinv ‹_› (by omega)).1, (me0 hab hinv ‹_› (by omega)).2]; done)
  · simp only [List.length_cons] at hpl
    have hidx : b[pre.length]? = some s := by rw [← hp]; simp
    obtain ⟨hmg, hmd, hsok, hml⟩ := mround ha hb hp
    have hsc := hsok.2.2.1
    have hsc2 := hsok.2.2.2.1
    have hsd3 := hsok.2.2.2.2.2.1
    have hsd4 := (dims_eq s.code).2.2.1
    refine Ev.seq ?_
    refine Ev.sr fun K hK => S.o q.mv (S.o q.mv (S.o (q.lens am_el22) (S.o q.lss (S.end (hK _ ?_)))))
    clear hK K
    refine Ev.cd (fun c4 => ?_) (fun c4 => ?_)
    · first
    | (first | omega | contradiction)
    | refine Ev.skip ?_
      show Ev _ _ _ _
      refine Ev.seq ?_
      refine Ev.block ?_
      refine Ev.sr fun K hK => S.o q.mv (S.o q.mv (S.o q.mv (S.o (q.ix am_el22 am_cl38 (hl := (by first | exact ati hya (by omega) | exact ati hyo (by omega) | exact ati hyset (by omega) | exact ati hidx (by omega) | exact atig (by omega)))) (S.o (q.fs 0 am_fi38_0 am_cl9) (S.o (q.ls am_ag9) (S.c0 (hF := rfind_fun _ _ (by omega)) (h := S.o q.as (S.end (hK _ ?_)))))))))
      clear hK K
      refine Ev.seq ?_
      refine Ev.sr fun K hK => S.o q.mv (S.o q.lss (S.end (hK _ ?_)))
      clear hK K
      refine Ev.cd (fun c5 => ?_) (fun c5 => ?_)
      · first
      | (first | omega | contradiction)
      | refine Ev.sr fun K hK => S.o q.mv (S.o q.mv (S.o q.mv (S.o q.mv (S.o q.add (S.o (q.sh am_el22 am_cl38) ?_)))))
        rw [one_at hp]
        refine S.c0 (hF := copy14_fun [s] (by simp) (fun x hx => by rw [List.mem_singleton] at hx; subst hx; omega)) (h := S.ap' [] am_el22 am_ze38 am_cl38 am_by38 (hh := head_own') (hr := rows_sh) (h := S.o q.as (S.end (hK _ ?_))))
        clear hK K
        refine Ev.exit ?_
        show Ev _ _ _ _
        refine Ev.region_S fun K hK => S.o q.mv (S.o q.add (S.o q.as (S.end (hK _ ?_))))
        clear hK K
        refine hR0 _ _ ?_
        refine roundU [1] [0, 1] ⟨(pre ++ [s], suf), by rw [← hp]; simp, ?_⟩ ?_ (keep_c (he := (by first | rfl | (rw [mergeL_new ‹_›]; done) | (rw [hyS]; done))) (h := keep_n)) (slots_c (he := (by first | rfl | (congr 2; simp; done))) (h := (slots_c (he := (by first | rfl | exact bF (bigM_nil a) | exact dI (big_none ‹_›).symm | exact bT ((big_at hym hyk hyu).2 (.inl ‹_›)) | exact dI ((big_at hym hyk hyu).trans ⟨fun h => h.resolve_left ‹_›, .inr⟩).symm)) (h := (slots_c (he := (by first | rfl | (rw [mergeL_new ‹_›]; done) | (rw [← hyS]; simp; done) | (congr 1; rw [← hyS, List.length_set]; done))) (h := trivial)))))) (.c (.c .n))
        exact bad_snoc hinv (by first | exact bad_none ‹_› | exact bad_at hyu (hsameD))
        all_goals (dsimp only; simp only [List.length_cons]; omega)
      · first
      | (first | omega | contradiction)
      | refine Ev.skip ?_
        show Ev _ _ _ _
        refine Ev.seq ?_
        obtain ⟨y, hya, hym, hyok, hyk, hyo, hyS, hyset, hyu⟩ := mround_at ha hb hp ‹_›
        have hylt := (List.getElem?_eq_some_iff.1 hyo).1
        have hyla := (List.getElem?_eq_some_iff.1 hya).1
        have hyc := hyok.2.2.1
        have hyc2 := hyok.2.2.2.1
        have hyd3 := hyok.2.2.2.2.2.1
        have hyd4 := (dims_eq y.code).2.2.1
        refine Ev.sm (tbs [(0, 0), (0, 0), (2, 3), (3, 7), (0, 0), (0, 0), (6, 48), (7, 112), (8, 255), (9, 511)]) 10 fun K hK => M.o q.mv (M.o q.mv (M.o (q.ix am_el22 am_cl38 (hl := (by first | exact ati hya (by omega) | exact ati hyo (by omega) | exact ati hyset (by omega) | exact ati hidx (by omega) | exact atig (by omega)))) (M.o (q.lsA [_, _, _, _, _] am_ag38 am_cl38) (M.o q.mv (M.o q.mv (M.o (q.ix am_el22 am_cl38 (hl := (by first | exact ati hya (by omega) | exact ati hyo (by omega) | exact ati hyset (by omega) | exact ati hidx (by omega) | exact atig (by omega)))) (M.o (q.lsA [_, _, _, _, _] am_ag38 am_cl38) (M.c0 (hF := rsame_fun _ _ (by omega) (by omega)) (h := M.o q.not (M.end [_] (h := S.end (hK _ ?_))))))))))))
        clear hK K
        refine Ev.cn (fun c6 => ?_) (fun c6 => ?_)
        · first
        | (first | omega | contradiction)
        | have hbad : ∃ x ∈ b, badM a x := ⟨s, by rw [← hp]; simp, y, hym, hyk, ‹_›⟩
          refine Ev.sr fun K hK => S.o q.as (S.o q.as (S.end (hK _ ?_)))
          clear hK K
          refine Ev.weaken (Wk.nsh Bar.c 4 5) ?_
          refine Ev.ret ?_
          refine hR0 _ _ ?_
          refine Ev.ret2 ?_
          refine ⟨?_, rfl⟩
          first
           | (rw [(me19 hab hbad).1, (me19 hab hbad).2]; done)
           | (rw [(me5 hab hinv ‹_›).1, (me5 hab hinv ‹_›).2]; done)
           | (rw [(me4 hab hinv ‹_› (by omega)).1, (me4 hab hinv ‹_› (by omega)).2]; done)
           | (rw [(me0 hab hinv ‹_› (by omega)).1, (me0 hab hinv ‹_› (by omega)).2]; done)
        · first
        | (first | omega | contradiction)
        | refine Ev.skip ?_
          show Ev _ _ _ _
          have hsameD : sameD y s := ‹_›
          refine Ev.sm (tbs [(0, 0), (0, 0), (0, 0), (0, 0), (4, 12), (5, 28), (6, 60), (0, 0), (0, 0), (9, 384), (10, 896), (11, 1920), (12, 4092), (13, 8191), (14, 16383), (15, 32767)]) 15 fun K hK => M.o q.mv (M.o q.mv (M.o q.mv (M.o q.mv (M.o (q.ix am_el22 am_cl38 (hl := (by first | exact ati hya (by omega) | exact ati hyo (by omega) | exact ati hyset (by omega) | exact ati hidx (by omega) | exact atig (by omega)))) (M.o (q.fs 2 am_fi38_2 am_cl3) (M.o (q.ls am_ag3) (M.o q.mv (M.o q.mv (M.o (q.ix am_el22 am_cl38 (hl := (by first | exact ati hya (by omega) | exact ati hyo (by omega) | exact ati hyset (by omega) | exact ati hidx (by omega) | exact atig (by omega)))) (M.o (q.fs 2 am_fi38_2 am_cl3) (M.o (q.ls am_ag3) (M.o q.add (M.o (q.ia am_el22 am_cl38) (M.o (q.fa 2 am_fi38_2 am_cl3) (M.end [_] (h := S.sx (y.addC s.count) [] am_in3 am_cl3 (hl := (by first | exact at_ hya (by omega) | exact at_ hyo (by omega) | exact at_ hyset (by omega) | exact at_ hidx (by omega) | exact at_g (by omega))) (h := S.end (hK _ ?_))))))))))))))))))
          clear hK K
          refine Ev.region_S fun K hK => S.o q.mv (S.bd q.mv (fun c7 => ?_) (fun c7 => ?_))
          · first
          | (first | omega | contradiction)
          | refine S.sk (S.sk (S.sk (S.sk (S.sk (S.sk (S.o q.pt (S.o q.as (S.end (hK _ ?_)))))))))
            clear hK K
            show Ev _ _ _ _
            refine Ev.region_S fun K hK => S.o q.mv (S.o q.add (S.o q.as (S.end (hK _ ?_))))
            clear hK K
            refine hR0 _ _ ?_
            refine roundU [0] [0, 1] ⟨(pre ++ [s], suf), by rw [← hp]; simp, ?_⟩ ?_ (keep_c (he := (by first | rfl | (rw [mergeL_new ‹_›]; done) | (rw [hyS]; done))) (h := keep_n)) (slots_c (he := (by first | rfl | (congr 2; simp; done))) (h := (slots_c (he := (by first | rfl | exact bF (bigM_nil a) | exact dI (big_none ‹_›).symm | exact bT ((big_at hym hyk hyu).2 (.inl ‹_›)) | exact dI ((big_at hym hyk hyu).trans ⟨fun h => h.resolve_left ‹_›, .inr⟩).symm)) (h := (slots_c (he := (by first | rfl | (rw [mergeL_new ‹_›]; done) | (rw [← hyS]; simp; done) | (congr 1; rw [← hyS, List.length_set]; done))) (h := trivial)))))) (.c (.c .n))
            exact bad_snoc hinv (by first | exact bad_none ‹_› | exact bad_at hyu (hsameD))
            all_goals (dsimp only; simp only [List.length_cons]; omega)
          · first
          | (first | omega | contradiction)
          | refine S.o q.mv (S.o q.mv (S.o (q.ia am_el22 am_cl38) (S.o (q.fa 2 am_fi38_2 am_cl3) (S.o (q.lx am_ag3 (hl := (by first | exact at_ hya (by omega) | exact at_ hyo (by omega) | exact at_ hyset (by omega) | exact at_ hidx (by omega) | exact at_g (by omega)))) (S.o q.gtr (S.o q.pf (S.o q.as (S.end (hK _ ?_)))))))))
            clear hK K
            show Ev _ _ _ _
            refine Ev.region_S fun K hK => S.o q.mv (S.o q.add (S.o q.as (S.end (hK _ ?_))))
            clear hK K
            refine hR0 _ _ ?_
            refine roundU [0] [0, 1] ⟨(pre ++ [s], suf), by rw [← hp]; simp, ?_⟩ ?_ (keep_c (he := (by first | rfl | (rw [mergeL_new ‹_›]; done) | (rw [hyS]; done))) (h := keep_n)) (slots_c (he := (by first | rfl | (congr 2; simp; done))) (h := (slots_c (he := (by first | rfl | exact bF (bigM_nil a) | exact dI (big_none ‹_›).symm | exact bT ((big_at hym hyk hyu).2 (.inl ‹_›)) | exact dI ((big_at hym hyk hyu).trans ⟨fun h => h.resolve_left ‹_›, .inr⟩).symm)) (h := (slots_c (he := (by first | rfl | (rw [mergeL_new ‹_›]; done) | (rw [← hyS]; simp; done) | (congr 1; rw [← hyS, List.length_set]; done))) (h := trivial)))))) (.c (.c .n))
            exact bad_snoc hinv (by first | exact bad_none ‹_› | exact bad_at hyu (hsameD))
            all_goals (dsimp only; simp only [List.length_cons]; omega)
    · first | omega | contradiction
end Go.Proofs.YtddogeicmhbidaaDoor
