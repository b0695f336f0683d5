/-
  Layer 41: the reference, comparing.
  Conditions: none.
-/
import Derived.Test.YtccddakkegelkaaRev2
namespace Go.Proofs.Ytccddakkegelkaa
open Go Go.AM
set_option linter.unusedSimpArgs false
set_option linter.unusedVariables false
set_option maxRecDepth 100000
set_option maxHeartbeats 1000000

theorem rsame_fun (x y : Bar) (hx : x.dims.length ≤ 140737488355328) (hy : y.dims.length ≤ 140737488355328) : Fun Try.prog 71 [.agg x.c, .agg y.c] (Ret (.lit (.bool (decide (sameD x y)))) []) := by
  refine Fun.of (nt := 45) (rs := [.tmp 4]) Try.func71 rfl rfl rfl rfl rfl ?_
  refine Ev.sr fun K hK => S.nn (q.bx [_, _, _, _, _] true) (S.nn (q.bx [_, _, _, _, _] true) (S.o q.as (S.end (hK _ ?_))))
  clear hK K
  refine Ev.seq ?_
  refine Ev.sr fun K hK => S.o (q.fa 1 am_fi43_1 am_cl3) (S.o (q.lv am_ag3) (S.o (q.fa 1 am_fi43_1 am_cl3) (S.o (q.lv am_ag3) (S.o q.neq (S.bn q.mv (fun c1 => ?_) (fun c1 => ?_))))))
  · first
  | (first | omega | contradiction)
  | refine S.sk (S.sk (S.sk (S.sk (S.sk (S.o q.pt (S.o q.mv (S.sk (S.sk (S.sk (S.sk (S.sk (S.sk (S.sk (S.o q.pt (S.end (hK _ ?_))))))))))))))))
    clear hK K
    refine Ev.ct ?_
    refine Ev.sr fun K hK => S.o q.as (S.end (hK _ ?_))
    clear hK K
    refine Ev.ret ?_
    refine Ev.ret1 ?_
    refine ⟨?_, rfl⟩
    first
     | exact bF (fun h => by have h1 := h.1; have h2 := h.2.1; have h3 := congrArg List.length h.2.2; omega)
     | exact bF (fun h => by have h3 := h.2.2; rw [h3] at hidx; rw [hidx] at hidx2; simp only [Option.some.injEq] at hidx2; omega)
     | exact bT ⟨by omega, by omega, hinv.symm.trans (List.take_of_length_le (by omega))⟩
  · first
  | (first | omega | contradiction)
  | refine S.o (q.fa 3 am_fi43_3 am_cl3) (S.o (q.lv am_ag3) (S.o (q.fa 3 am_fi43_3 am_cl3) (S.o (q.lv am_ag3) (S.o q.neq (S.o q.pf (S.bn q.mv (fun c2 => ?_) (fun c2 => ?_)))))))
    · first
    | (first | omega | contradiction)
    | refine S.sk (S.sk (S.sk (S.sk (S.sk (S.sk (S.sk (S.o q.pt (S.end (hK _ ?_)))))))))
      clear hK K
      refine Ev.ct ?_
      refine Ev.sr fun K hK => S.o q.as (S.end (hK _ ?_))
      clear hK K
      refine Ev.ret ?_
      refine Ev.ret1 ?_
      refine ⟨?_, rfl⟩
      first
       | exact bF (fun h => by have h1 := h.1; have h2 := h.2.1; have h3 := congrArg List.length h.2.2; omega)
       | exact bF (fun h => by have h3 := h.2.2; rw [h3] at hidx; rw [hidx] at hidx2; simp only [Option.some.injEq] at hidx2; omega)
       | exact bT ⟨by omega, by omega, hinv.symm.trans (List.take_of_length_le (by omega))⟩
    · first
    | (first | omega | contradiction)
    | refine S.o (q.fa 4 am_fi43_4 am_cl41) (S.o (q.lv am_ag41) (S.o (q.lens am_el41) (S.o (q.fa 4 am_fi43_4 am_cl41) (S.o (q.lv am_ag41) (S.o (q.lens am_el41) (S.o q.neq (S.o q.pf (S.end (hK _ ?_)))))))))
      clear hK K
      refine Ev.cn (fun c3 => ?_) (fun c3 => ?_)
      · first
      | (first | omega | contradiction)
      | refine Ev.sr fun K hK => S.o q.as (S.end (hK _ ?_))
        clear hK K
        refine Ev.ret ?_
        refine Ev.ret1 ?_
        refine ⟨?_, rfl⟩
        first
         | exact bF (fun h => by have h1 := h.1; have h2 := h.2.1; have h3 := congrArg List.length h.2.2; omega)
         | exact bF (fun h => by have h3 := h.2.2; rw [h3] at hidx; rw [hidx] at hidx2; simp only [Option.some.injEq] at hidx2; omega)
         | exact bT ⟨by omega, by omega, hinv.symm.trans (List.take_of_length_le (by omega))⟩
      · first
      | (first | omega | contradiction)
      | refine Ev.skip ?_
        show Ev _ _ _ _
        refine Ev.seq ?_
        refine Ev.sr fun K hK => S.o q.as (S.end (hK _ ?_))
        clear hK K
        refine Ev.block ?_
        refine Ev.loopU (ι := {q : List Int × List Int // q.1 ++ q.2 = x.dims ∧ y.dims.take q.1.length = q.1}) [0, 1] [2, 3] (fun ⟨(pre, suf), _⟩ => [(5, .lit (.int .i64 ((pre.length : Int))))]) (fun ⟨(pre, suf), _⟩ => [(0, ⟨false, 43, 5, [[.lit (str (x.mark)), .lit (.int .i64 (x.size)), .lit (.int .i64 (x.count)), .lit (.int .i64 (x.code)), .sh 1 ((x.dims).map intC)]], true⟩), (1, ⟨false, 43, 5, [[.lit (str (y.mark)), .lit (.int .i64 (y.size)), .lit (.int .i64 (y.count)), .lit (.int .i64 (y.code)), .sh 1 ((y.dims).map intC)]], true⟩)]) (fun ⟨(pre, suf), _⟩ => suf.length) ⟨([], x.dims), rfl, rfl⟩ (.c (.c .n)) (keep_c (he := (by first | rfl | (simp; done))) (h := (keep_c (he := (by first | rfl | (simp; done))) (h := keep_n)))) (slots_c (he := (by first | rfl | (simp; done) | (congr 2; omega))) (h := trivial)) ?_
        rintro ⟨⟨pre, suf⟩, hp, hinv⟩ R0 hR0
        dsimp only [List.cons_append, List.nil_append, List.length_cons, List.length_nil]
        simp only at hp hinv
        have hpl : pre.length + suf.length = (x.dims).length := by rw [← hp, List.length_append]
        rcases suf with _ | ⟨s, suf⟩
        · rw [List.append_nil] at hp; have hpd := congrArg List.length hp; rw [hp] at hinv; simp only [List.length_nil] at hpl
          refine Ev.seq ?_
          refine Ev.sr fun K hK => S.o q.mv (S.o (q.fa 4 am_fi43_4 am_cl41) (S.o (q.lv am_ag41) (S.o (q.lens am_el41) (S.o q.lss (S.end (hK _ ?_))))))
          clear hK K
          refine Ev.cd (fun c4 => ?_) (fun c4 => ?_)
          · first
          | (first | omega | contradiction)
          | refine Ev.skip ?_
            show Ev _ _ _ _
            refine Ev.seq ?_
            refine Ev.block ?_
            refine Ev.sm (tbs [(0, 0), (1, 1), (0, 0), (3, 7), (4, 15), (0, 0), (6, 32), (0, 0), (8, 224), (9, 480), (10, 1023)]) 11 fun K hK => M.o (q.fa 4 am_fi43_4 am_cl41) (M.o (q.lv am_ag41) (M.o q.mv (M.o (q.ix am_el41 am_cl3 (hl := (by first | exact atig (by omega)))) (M.o (q.ls am_ag3) (M.o (q.fa 4 am_fi43_4 am_cl41) (M.o (q.lv am_ag41) (M.o q.mv (M.o (q.ix am_el41 am_cl3 (hl := (by first | exact atig (by omega)))) (M.o (q.ls am_ag3) (M.o q.neq (M.end [_, _] (h := S.end (hK _ ?_)))))))))))))
            clear hK K
            refine Ev.cn (fun c5 => ?_) (fun c5 => ?_)
            · first
            | (first | omega | contradiction)
            | refine Ev.sr fun K hK => S.o q.as (S.end (hK _ ?_))
              clear hK K
              refine Ev.ret ?_
              refine hR0 _ _ ?_
              refine Ev.ret1 ?_
              refine ⟨?_, rfl⟩
              first
               | exact bF (fun h => by have h1 := h.1; have h2 := h.2.1; have h3 := congrArg List.length h.2.2; omega)
               | exact bF (fun h => by have h3 := h.2.2; rw [h3] at hidx; rw [hidx] at hidx2; simp only [Option.some.injEq] at hidx2; omega)
               | exact bT ⟨by omega, by omega, hinv.symm.trans (List.take_of_length_le (by omega))⟩
            · first
            | (first | omega | contradiction)
            | refine Ev.skip ?_
              show Ev _ _ _ _
              refine Ev.region_S fun K hK => S.o q.mv (S.o q.add (S.o q.as (S.end (hK _ ?_))))
              clear hK K
              refine hR0 _ _ ?_
              refine roundU [0, 1] [2, 3] ⟨(pre ++ [s], suf), by rw [← hp]; simp, ?_⟩ ?_ (keep_c (he := (by first | rfl | (simp; done))) (h := (keep_c (he := (by first | rfl | (simp; done))) (h := keep_n)))) (slots_c (he := (by first | rfl | (simp; done) | (congr 2; omega))) (h := trivial)) (.c (.c .n))
              simp only [List.length_append, List.length_cons, List.length_nil, Nat.zero_add]
              rw [List.take_add_one, hinv, hidx2]
              simp only [Option.toList_some, List.append_cancel_left_eq, List.cons.injEq, and_true]
              omega
              all_goals (dsimp only; simp only [List.length_cons]; omega)
          · first
          | (first | omega | contradiction)
          | refine Ev.exit ?_
            refine hR0 _ _ ?_
            show Ev _ _ _ _
            refine Ev.sr fun K hK => S.o q.as (S.end (hK _ ?_))
            clear hK K
            refine Ev.ret ?_
            refine Ev.ret1 ?_
            refine ⟨?_, rfl⟩
            first
             | exact bF (fun h => by have h1 := h.1; have h2 := h.2.1; have h3 := congrArg List.length h.2.2; omega)
             | exact bF (fun h => by have h3 := h.2.2; rw [h3] at hidx; rw [hidx] at hidx2; simp only [Option.some.injEq] at hidx2; omega)
             | exact bT ⟨by omega, by omega, hinv.symm.trans (List.take_of_length_le (by omega))⟩
        · simp only [List.length_cons] at hpl
          have hidx : x.dims[pre.length]? = some s := by rw [← hp]; simp
          obtain ⟨s2, hidx2⟩ : ∃ s2, y.dims[pre.length]? = some s2 := ⟨_, List.getElem?_eq_getElem (by omega)⟩
          refine Ev.seq ?_
          refine Ev.sr fun K hK => S.o q.mv (S.o (q.fa 4 am_fi43_4 am_cl41) (S.o (q.lv am_ag41) (S.o (q.lens am_el41) (S.o q.lss (S.end (hK _ ?_))))))
          clear hK K
          refine Ev.cd (fun c6 => ?_) (fun c6 => ?_)
          · first
          | (first | omega | contradiction)
          | refine Ev.skip ?_
            show Ev _ _ _ _
            refine Ev.seq ?_
            refine Ev.block ?_
            refine Ev.sm (tbs [(0, 0), (1, 1), (0, 0), (3, 7), (4, 15), (0, 0), (6, 32), (0, 0), (8, 224), (9, 480), (10, 1023)]) 11 fun K hK => M.o (q.fa 4 am_fi43_4 am_cl41) (M.o (q.lv am_ag41) (M.o q.mv (M.o (q.ix am_el41 am_cl3 (hl := (by first | exact ati hidx (by omega) | exact ati hidx2 (by omega) | exact atig (by omega)))) (M.o (q.ls am_ag3) (M.o (q.fa 4 am_fi43_4 am_cl41) (M.o (q.lv am_ag41) (M.o q.mv (M.o (q.ix am_el41 am_cl3 (hl := (by first | exact ati hidx (by omega) | exact ati hidx2 (by omega) | exact atig (by omega)))) (M.o (q.ls am_ag3) (M.o q.neq (M.end [_, _] (h := S.end (hK _ ?_)))))))))))))
            clear hK K
            refine Ev.cn (fun c7 => ?_) (fun c7 => ?_)
            · first
            | (first | omega | contradiction)
            | refine Ev.sr fun K hK => S.o q.as (S.end (hK _ ?_))
              clear hK K
              refine Ev.ret ?_
              refine hR0 _ _ ?_
              refine Ev.ret1 ?_
              refine ⟨?_, rfl⟩
              first
               | exact bF (fun h => by have h1 := h.1; have h2 := h.2.1; have h3 := congrArg List.length h.2.2; omega)
               | exact bF (fun h => by have h3 := h.2.2; rw [h3] at hidx; rw [hidx] at hidx2; simp only [Option.some.injEq] at hidx2; omega)
               | exact bT ⟨by omega, by omega, hinv.symm.trans (List.take_of_length_le (by omega))⟩
            · first
            | (first | omega | contradiction)
            | refine Ev.skip ?_
              show Ev _ _ _ _
              refine Ev.region_S fun K hK => S.o q.mv (S.o q.add (S.o q.as (S.end (hK _ ?_))))
              clear hK K
              refine hR0 _ _ ?_
              refine roundU [0, 1] [2, 3] ⟨(pre ++ [s], suf), by rw [← hp]; simp, ?_⟩ ?_ (keep_c (he := (by first | rfl | (simp; done))) (h := (keep_c (he := (by first | rfl | (simp; done))) (h := keep_n)))) (slots_c (he := (by first | rfl | (simp; done) | (congr 2; omega))) (h := trivial)) (.c (.c .n))
              simp only [List.length_append, List.length_cons, List.length_nil, Nat.zero_add]
              rw [List.take_add_one, hinv, hidx2]
              simp only [Option.toList_some, List.append_cancel_left_eq, List.cons.injEq, and_true]
              omega
              all_goals (dsimp only; simp only [List.length_cons]; omega)
          · first
          | (first | omega | contradiction)
          | refine Ev.exit ?_
            refine hR0 _ _ ?_
            show Ev _ _ _ _
            refine Ev.sr fun K hK => S.o q.as (S.end (hK _ ?_))
            clear hK K
            refine Ev.ret ?_
            refine Ev.ret1 ?_
            refine ⟨?_, rfl⟩
            first
             | exact bF (fun h => by have h1 := h.1; have h2 := h.2.1; have h3 := congrArg List.length h.2.2; omega)
             | exact bF (fun h => by have h3 := h.2.2; rw [h3] at hidx; rw [hidx] at hidx2; simp only [Option.some.injEq] at hidx2; omega)
             | exact bT ⟨by omega, by omega, hinv.symm.trans (List.take_of_length_le (by omega))⟩
theorem requal_fun (x y : Bar) (hx : x.dims.length ≤ 140737488355328) (hy : y.dims.length ≤ 140737488355328) : Fun Try.prog 41 [.agg x.c, .agg y.c] (Ret (.lit (.bool (decide (x.mark = y.mark ∧ x.count = y.count ∧ sameD x y)))) []) := by
  refine Fun.of (nt := 22) (rs := [.tmp 4]) Try.func41 rfl rfl rfl rfl rfl ?_
  refine Ev.sr fun K hK => S.nn (q.bx [_, _, _, _, _] true) (S.nn (q.bx [_, _, _, _, _] true) (S.o q.as (S.end (hK _ ?_))))
  clear hK K
  refine Ev.sr fun K hK => S.o (q.fa 0 am_fi43_0 am_cl9) (S.o (q.lv am_ag9) (S.o (q.fa 0 am_fi43_0 am_cl9) (S.o (q.lv am_ag9) (S.o q.seqs (S.bd q.mv (fun c1 => ?_) (fun c1 => ?_))))))
  · first
  | (first | omega | contradiction)
  | refine S.o (q.fa 2 am_fi43_2 am_cl3) (S.o (q.lv am_ag3) (S.o (q.fa 2 am_fi43_2 am_cl3) (S.o (q.lv am_ag3) (S.o q.eql (S.o q.pt (S.bd q.mv (fun c2 => ?_) (fun c2 => ?_)))))))
    · first
    | (first | omega | contradiction)
    | refine S.o (q.lvA [_, _, _, _, _] am_ag43 am_cl43) (S.o (q.lvA [_, _, _, _, _] am_ag43 am_cl43) (S.c0 (hF := rsame_fun _ _ (by omega) (by omega)) (h := S.o q.pt (S.o q.as (S.end (hK _ ?_))))))
      clear hK K
      refine Ev.ret ?_
      refine Ev.ret1 ?_
      refine ⟨?_, rfl⟩
      first
       | exact bF (fun h => absurd h.1 ‹_›)
       | exact bF (fun h => by have h1 := h.2.1; omega)
       | (refine dI ⟨fun h => ⟨‹_›, by omega, h⟩, fun h => h.2.2⟩)
    · first
    | (first | omega | contradiction)
    | refine S.sk (S.sk (S.sk (S.o q.pf (S.o q.as (S.end (hK _ ?_))))))
      clear hK K
      refine Ev.ret ?_
      refine Ev.ret1 ?_
      refine ⟨?_, rfl⟩
      first
       | exact bF (fun h => absurd h.1 ‹_›)
       | exact bF (fun h => by have h1 := h.2.1; omega)
       | (refine dI ⟨fun h => ⟨‹_›, by omega, h⟩, fun h => h.2.2⟩)
  · first
  | (first | omega | contradiction)
  | refine S.sk (S.sk (S.sk (S.sk (S.sk (S.o q.pf (S.o q.mv (S.sk (S.sk (S.sk (S.o q.pf (S.o q.as (S.end (hK _ ?_)))))))))))))
    clear hK K
    refine Ev.ret ?_
    refine Ev.ret1 ?_
    refine ⟨?_, rfl⟩
    first
     | exact bF (fun h => absurd h.1 ‹_›)
     | exact bF (fun h => by have h1 := h.2.1; omega)
     | (refine dI ⟨fun h => ⟨‹_›, by omega, h⟩, fun h => h.2.2⟩)
theorem kind_1r {b : List Bar} {s y : Bar} (hy : barAt b s.mark = some y) (h : s.mark = y.mark ∧ s.count = y.count ∧ sameD s y) : kindOf b s = 1 := by rw [kindOf, hy]; exact if_pos ⟨h.2.2, h.2.1⟩
theorem kind_2r {b : List Bar} {s y : Bar} (hy : barAt b s.mark = some y) (hm : y.mark = s.mark) (h : ¬ (s.mark = y.mark ∧ s.count = y.count ∧ sameD s y)) : kindOf b s = 2 := by rw [kindOf, hy]; exact if_neg fun h1 => h ⟨hm.symm, h1.2, h1.1⟩

theorem rCompare_fun (a b : List Bar) (ha : okSched a) (hb : okSched b) : Fun Try.prog 15 [.sh 5 (a.map Bar.c), .sh 5 (b.map Bar.c)] (Ret (.sh 2 ((cmpP a b).map findC)) []) := by
  have hal := ha.1
  have hbl := hb.1
  refine Fun.of (nt := 68) (rs := [.tmp 4]) Try.func15 rfl rfl rfl rfl rfl ?_
  refine Ev.sr fun K hK => S.o q.as (S.end (hK _ ?_))
  clear hK K
  refine Ev.sr fun K hK => S.o q.as (S.end (hK _ ?_))
  clear hK K
  refine Ev.seq ?_
  refine Ev.sr fun K hK => S.o q.as (S.end (hK _ ?_))
  clear hK K
  refine Ev.block ?_
  refine Ev.weaken (Wk.nown findC 5 36 2) ?_
  refine Ev.loopU (ι := {p : List (Bar) × List (Bar) // p.1 ++ p.2 = a ∧ True}) [0] [0, 1, 4] (fun ⟨(pre, suf), _⟩ => [(6, .lit (.int .i64 ((pre.length : Int)))), (5, .als 0 0 (pre.map (cK b)).length)]) (fun ⟨(pre, suf), _⟩ => [(0, ⟨true, 36, 2, (pre.map (cK b)).map findC, true⟩)]) (fun ⟨(pre, suf), _⟩ => suf.length) ⟨([], a), rfl, trivial⟩ (.c (.c (.c .n))) (keep_c (he := (by first | rfl | exact cmp_snoc (kind_4 (by omega)) | exact cmp_snoc (kind_1r hy ‹_›) | exact cmp_snoc (kind_2r hy hyk ‹_›))) (h := keep_n)) (slots_c (he := (by first | rfl | (congr 2; simp; done))) (h := (slots_c (he := (by first | rfl | (congr 1; simp; done))) (h := trivial)))) ?_
  rintro ⟨⟨pre, suf⟩, hp, hinv⟩ R0 hR0
  dsimp only [List.cons_append, List.nil_append, List.length_cons, List.length_nil]
  simp only at hp hinv
  have hpl : pre.length + suf.length = (a).length := by rw [← hp, List.length_append]
  rcases suf with _ | ⟨s, suf⟩
  · rw [List.append_nil] at hp; subst pre; simp only [List.length_nil] at hpl
    refine Ev.seq ?_
    refine Ev.sr fun K hK => S.o q.mv (S.o q.mv (S.o (q.lens am_el22) (S.o q.lss (S.end (hK _ ?_)))))
    clear hK K
    refine Ev.cd (fun c1 => ?_) (fun c1 => ?_)
    · first
    | (first | omega | contradiction)
    | refine Ev.skip ?_
      show Ev _ _ _ _
      refine Ev.seq ?_
      refine Ev.block ?_
      refine Ev.sr fun K hK => S.o q.mv (S.o q.mv (S.o q.mv (S.o (q.ix am_el22 am_cl43 (hl := (by first | exact ati hyi (by omega) | exact atig (by omega)))) (S.o (q.fs 0 am_fi43_0 am_cl9) (S.o (q.ls am_ag9) (S.c0 (hF := rfind_fun _ _ (by omega)) (h := S.o q.as (S.end (hK _ ?_)))))))))
      clear hK K
      refine Ev.sr fun K hK => S.o q.as (S.end (hK _ ?_))
      clear hK K
      refine Ev.seq ?_
      refine Ev.sr fun K hK => S.o q.mv (S.o q.geq (S.end (hK _ ?_)))
      clear hK K
      refine Ev.cd (fun c2 => ?_) (fun c2 => ?_)
      · first
      | (first | omega | contradiction)
      | obtain ⟨y, hy, hyi, hym, hyk⟩ := barAt_some ‹0 ≤ markI b s.mark›
        have hyok : okBar y := hb.2.1 y hym
        obtain ⟨hy1, hy2⟩ := okBar_w hyok
        refine Ev.sr fun K hK => S.o q.as (S.end (hK _ ?_))
        clear hK K
        refine Ev.sm (tbs [(0, 0), (0, 0), (2, 3), (3, 7), (0, 0), (0, 0), (6, 48), (7, 112), (8, 255)]) 9 fun K hK => M.o q.mv (M.o q.mv (M.o (q.ix am_el22 am_cl43 (hl := (by first | exact ati hyi (by omega) | exact atig (by omega)))) (M.o (q.lsA [_, _, _, _, _] am_ag43 am_cl43) (M.o q.mv (M.o q.mv (M.o (q.ix am_el22 am_cl43 (hl := (by first | exact ati hyi (by omega) | exact atig (by omega)))) (M.o (q.lsA [_, _, _, _, _] am_ag43 am_cl43) (M.c0 (hF := requal_fun _ _ (by omega) (by omega)) (h := M.end [_] (h := S.end (hK _ ?_)))))))))))
        clear hK K
        refine Ev.cd (fun c3 => ?_) (fun c3 => ?_)
        · first
        | (first | omega | contradiction)
        | refine Ev.region_S fun K hK => S.o q.as (S.end (hK _ ?_))
          clear hK K
          show Ev _ _ _ _
          refine Ev.region_S fun K hK => S.o q.mv (S.o q.mv (S.o q.mv (S.o q.mv (S.o (q.ix am_el22 am_cl43 (hl := (by first | exact ati hyi (by omega) | exact atig (by omega)))) (S.o (q.fs 0 am_fi43_0 am_cl9) (S.o (q.ls am_ag9) (S.o (q.bd [_, _] am_ze36 am_pl36) (S.nn (q.bs [[_, _]] true am_el25 am_ze36 am_cl36) (S.ap' [_] am_el25 am_ze36 am_cl36 am_by36 (hh := head_own') (hr := (rows_lit [(⟨_, _⟩ : Int × List UInt8)])) (h := S.o q.as (S.end (hK _ ?_))))))))))))
          clear hK K
          show Ev _ _ _ _
          refine Ev.region_S fun K hK => S.o q.mv (S.o q.add (S.o q.as (S.end (hK _ ?_))))
          clear hK K
          refine hR0 _ _ ?_
          refine roundU [38] [0, 1, 4] ⟨(pre ++ [s], suf), by rw [← hp]; simp, ?_⟩ ?_ (keep_c (he := (by first | rfl | exact cmp_snoc (kind_4 (by omega)) | exact cmp_snoc (kind_1r hy ‹_›) | exact cmp_snoc (kind_2r hy hyk ‹_›))) (h := keep_n)) (slots_c (he := (by first | rfl | (congr 2; simp; done))) (h := (slots_c (he := (by first | rfl | (congr 1; simp; done))) (h := trivial)))) (.c (.c (.c .n)))
          trivial
          all_goals (dsimp only; simp only [List.length_cons]; omega)
        · first
        | (first | omega | contradiction)
        | refine Ev.skip ?_
          show Ev _ _ _ _
          refine Ev.region_S fun K hK => S.o q.mv (S.o q.mv (S.o q.mv (S.o q.mv (S.o (q.ix am_el22 am_cl43 (hl := (by first | exact ati hyi (by omega) | exact atig (by omega)))) (S.o (q.fs 0 am_fi43_0 am_cl9) (S.o (q.ls am_ag9) (S.o (q.bd [_, _] am_ze36 am_pl36) (S.nn (q.bs [[_, _]] true am_el25 am_ze36 am_cl36) (S.ap' [_] am_el25 am_ze36 am_cl36 am_by36 (hh := head_own') (hr := (rows_lit [(⟨_, _⟩ : Int × List UInt8)])) (h := S.o q.as (S.end (hK _ ?_))))))))))))
          clear hK K
          show Ev _ _ _ _
          refine Ev.region_S fun K hK => S.o q.mv (S.o q.add (S.o q.as (S.end (hK _ ?_))))
          clear hK K
          refine hR0 _ _ ?_
          refine roundU [38] [0, 1, 4] ⟨(pre ++ [s], suf), by rw [← hp]; simp, ?_⟩ ?_ (keep_c (he := (by first | rfl | exact cmp_snoc (kind_4 (by omega)) | exact cmp_snoc (kind_1r hy ‹_›) | exact cmp_snoc (kind_2r hy hyk ‹_›))) (h := keep_n)) (slots_c (he := (by first | rfl | (congr 2; simp; done))) (h := (slots_c (he := (by first | rfl | (congr 1; simp; done))) (h := trivial)))) (.c (.c (.c .n)))
          trivial
          all_goals (dsimp only; simp only [List.length_cons]; omega)
      · first
      | (first | omega | contradiction)
      | refine Ev.skip ?_
        show Ev _ _ _ _
        refine Ev.region_S fun K hK => S.o q.mv (S.o q.mv (S.o q.mv (S.o q.mv (S.o (q.ix am_el22 am_cl43 (hl := (by first | exact ati hyi (by omega) | exact atig (by omega)))) (S.o (q.fs 0 am_fi43_0 am_cl9) (S.o (q.ls am_ag9) (S.o (q.bd [_, _] am_ze36 am_pl36) (S.nn (q.bs [[_, _]] true am_el25 am_ze36 am_cl36) (S.ap' [_] am_el25 am_ze36 am_cl36 am_by36 (hh := head_own') (hr := (rows_lit [(⟨_, _⟩ : Int × List UInt8)])) (h := S.o q.as (S.end (hK _ ?_))))))))))))
        clear hK K
        show Ev _ _ _ _
        refine Ev.region_S fun K hK => S.o q.mv (S.o q.add (S.o q.as (S.end (hK _ ?_))))
        clear hK K
        refine hR0 _ _ ?_
        refine roundU [2] [0, 1, 4] ⟨(pre ++ [s], suf), by rw [← hp]; simp, ?_⟩ ?_ (keep_c (he := (by first | rfl | exact cmp_snoc (kind_4 (by omega)) | exact cmp_snoc (kind_1r hy ‹_›) | exact cmp_snoc (kind_2r hy hyk ‹_›))) (h := keep_n)) (slots_c (he := (by first | rfl | (congr 2; simp; done))) (h := (slots_c (he := (by first | rfl | (congr 1; simp; done))) (h := trivial)))) (.c (.c (.c .n)))
        trivial
        all_goals (dsimp only; simp only [List.length_cons]; omega)
    · first
    | (first | omega | contradiction)
    | refine Ev.exit ?_
      refine hR0 _ _ ?_
      show Ev _ _ _ _
      refine Ev.seq ?_
      refine Ev.sr fun K hK => S.o q.as (S.end (hK _ ?_))
      clear hK K
      refine Ev.block ?_
      refine Ev.loopU (ι := {q : List Bar × List Bar // q.1 ++ q.2 = b}) [0] [0, 1, 4, 6, 10, 11, 12, 13] (fun ⟨(pre2, suf2), _⟩ => [(9, .lit (.int .i64 ((pre2.length : Int)))), (5, .als 0 0 (a.map (cK b) ++ (pre2.filter (newP a)).map addK).length)]) (fun ⟨(pre2, suf2), _⟩ => [(0, ⟨true, 36, 2, (a.map (cK b) ++ (pre2.filter (newP a)).map addK).map findC, true⟩)]) (fun ⟨(pre2, suf2), _⟩ => suf2.length) ⟨([], b), rfl⟩ (.c (.c (.c (.c (.c (.c (.c (.c .n)))))))) (keep_c (he := (by first | rfl | (simp; done) | exact add_snoc (by omega) | exact add_skip (by omega))) (h := keep_n)) (slots_c (he := (by first | rfl | (congr 2; simp; done))) (h := (slots_c (he := (by first | rfl | (congr 1; rw [List.filter_nil]; simp; done) | (congr 1; rw [add_snoc_n (by omega)]; simp; done) | (rw [add_skip_n (by omega)]))) (h := trivial)))) ?_
      rintro ⟨⟨pre2, suf2⟩, hp2⟩ R2 hR2
      dsimp only [List.cons_append, List.nil_append, List.length_cons, List.length_nil]
      simp only at hp2
      have hpl2 : pre2.length + suf2.length = b.length := by rw [← hp2, List.length_append]
      have hfl := filter_le (newP a) pre2
      rcases suf2 with _ | ⟨s, suf2⟩
      · rw [List.append_nil] at hp2; subst hp2; simp only [List.length_nil] at hpl2
        refine Ev.seq ?_
        refine Ev.sr fun K hK => S.o q.mv (S.o q.mv (S.o (q.lens am_el22) (S.o q.lss (S.end (hK _ ?_)))))
        clear hK K
        refine Ev.cd (fun c4 => ?_) (fun c4 => ?_)
        · first
        | (first | omega | contradiction)
        | refine Ev.skip ?_
          show Ev _ _ _ _
          refine Ev.seq ?_
          refine Ev.block ?_
          refine Ev.sr fun K hK => S.o q.mv (S.o q.mv (S.o q.mv (S.o (q.ix am_el22 am_cl43 (hl := (by first | exact ati hyi (by omega) | exact atig (by omega)))) (S.o (q.fs 0 am_fi43_0 am_cl9) (S.o (q.ls am_ag9) (S.c0 (hF := rfind_fun _ _ (by omega)) (h := S.o q.lss (S.end (hK _ ?_)))))))))
          clear hK K
          refine Ev.cd (fun c5 => ?_) (fun c5 => ?_)
          · first
          | (first | omega | contradiction)
          | refine Ev.region_S fun K hK => S.o q.mv (S.o q.mv (S.o q.mv (S.o (q.ix am_el22 am_cl43 (hl := (by first | exact ati hyi (by omega) | exact atig (by omega)))) (S.o (q.fs 0 am_fi43_0 am_cl9) (S.o (q.ls am_ag9) (S.o (q.bd [_, _] am_ze36 am_pl36) (S.nn (q.bs [[_, _]] true am_el25 am_ze36 am_cl36) (S.ap' [_] am_el25 am_ze36 am_cl36 am_by36 (hh := head_own') (hr := (rows_lit [(⟨_, _⟩ : Int × List UInt8)])) (h := S.o q.as (S.end (hK _ ?_)))))))))))
            clear hK K
            show Ev _ _ _ _
            refine Ev.region_S fun K hK => S.o q.mv (S.o q.add (S.o q.as (S.end (hK _ ?_))))
            clear hK K
            refine hR2 _ _ ?_
            refine roundU [2] [0, 1, 4, 6, 10, 11, 12, 13] ⟨(pre2 ++ [s], suf2), by rw [← hp2]; simp⟩ ?_ (keep_c (he := (by first | rfl | (simp; done) | exact add_snoc (by omega) | exact add_skip (by omega))) (h := keep_n)) (slots_c (he := (by first | rfl | (congr 2; simp; done))) (h := (slots_c (he := (by first | rfl | (congr 1; rw [List.filter_nil]; simp; done) | (congr 1; rw [add_snoc_n (by omega)]; simp; done) | (rw [add_skip_n (by omega)]))) (h := trivial)))) (.c (.c (.c (.c (.c (.c (.c (.c .n))))))))
            skip
            all_goals (dsimp only; simp only [List.length_cons]; omega)
          · first
          | (first | omega | contradiction)
          | refine Ev.skip ?_
            show Ev _ _ _ _
            refine Ev.region_S fun K hK => S.o q.mv (S.o q.add (S.o q.as (S.end (hK _ ?_))))
            clear hK K
            refine hR2 _ _ ?_
            refine roundU [0] [0, 1, 4, 6, 10, 11, 12, 13] ⟨(pre2 ++ [s], suf2), by rw [← hp2]; simp⟩ ?_ (keep_c (he := (by first | rfl | (simp; done) | exact add_snoc (by omega) | exact add_skip (by omega))) (h := keep_n)) (slots_c (he := (by first | rfl | (congr 2; simp; done))) (h := (slots_c (he := (by first | rfl | (congr 1; rw [List.filter_nil]; simp; done) | (congr 1; rw [add_snoc_n (by omega)]; simp; done) | (rw [add_skip_n (by omega)]))) (h := trivial)))) (.c (.c (.c (.c (.c (.c (.c (.c .n))))))))
            skip
            all_goals (dsimp only; simp only [List.length_cons]; omega)
        · first
        | (first | omega | contradiction)
        | refine Ev.exit ?_
          refine hR2 _ _ ?_
          show Ev _ _ _ _
          refine Ev.sr fun K hK => S.o q.mv (S.o q.as (S.end (hK _ ?_)))
          clear hK K
          refine Ev.weaken (Wk.frz 4 []) ?_
          refine Ev.ret ?_
          refine Ev.ret1 ?_
          refine ⟨?_, rfl⟩
          rfl
      · simp only [List.length_cons] at hpl2
        have hidx2 : b[pre2.length]? = some s := by rw [← hp2]; simp
        refine Ev.seq ?_
        refine Ev.sr fun K hK => S.o q.mv (S.o q.mv (S.o (q.lens am_el22) (S.o q.lss (S.end (hK _ ?_)))))
        clear hK K
        refine Ev.cd (fun c6 => ?_) (fun c6 => ?_)
        · first
        | (first | omega | contradiction)
        | refine Ev.skip ?_
          show Ev _ _ _ _
          refine Ev.seq ?_
          refine Ev.block ?_
          refine Ev.sr fun K hK => S.o q.mv (S.o q.mv (S.o q.mv (S.o (q.ix am_el22 am_cl43 (hl := (by first | exact ati hyi (by omega) | exact ati hidx2 (by omega) | exact atig (by omega)))) (S.o (q.fs 0 am_fi43_0 am_cl9) (S.o (q.ls am_ag9) (S.c0 (hF := rfind_fun _ _ (by omega)) (h := S.o q.lss (S.end (hK _ ?_)))))))))
          clear hK K
          refine Ev.cd (fun c7 => ?_) (fun c7 => ?_)
          · first
          | (first | omega | contradiction)
          | refine Ev.region_S fun K hK => S.o q.mv (S.o q.mv (S.o q.mv (S.o (q.ix am_el22 am_cl43 (hl := (by first | exact ati hyi (by omega) | exact ati hidx2 (by omega) | exact atig (by omega)))) (S.o (q.fs 0 am_fi43_0 am_cl9) (S.o (q.ls am_ag9) (S.o (q.bd [_, _] am_ze36 am_pl36) (S.nn (q.bs [[_, _]] true am_el25 am_ze36 am_cl36) (S.ap' [_] am_el25 am_ze36 am_cl36 am_by36 (hh := head_own') (hr := (rows_lit [(⟨_, _⟩ : Int × List UInt8)])) (h := S.o q.as (S.end (hK _ ?_)))))))))))
            clear hK K
            show Ev _ _ _ _
            refine Ev.region_S fun K hK => S.o q.mv (S.o q.add (S.o q.as (S.end (hK _ ?_))))
            clear hK K
            refine hR2 _ _ ?_
            refine roundU [2] [0, 1, 4, 6, 10, 11, 12, 13] ⟨(pre2 ++ [s], suf2), by rw [← hp2]; simp⟩ ?_ (keep_c (he := (by first | rfl | (simp; done) | exact add_snoc (by omega) | exact add_skip (by omega))) (h := keep_n)) (slots_c (he := (by first | rfl | (congr 2; simp; done))) (h := (slots_c (he := (by first | rfl | (congr 1; rw [List.filter_nil]; simp; done) | (congr 1; rw [add_snoc_n (by omega)]; simp; done) | (rw [add_skip_n (by omega)]))) (h := trivial)))) (.c (.c (.c (.c (.c (.c (.c (.c .n))))))))
            skip
            all_goals (dsimp only; simp only [List.length_cons]; omega)
          · first
          | (first | omega | contradiction)
          | refine Ev.skip ?_
            show Ev _ _ _ _
            refine Ev.region_S fun K hK => S.o q.mv (S.o q.add (S.o q.as (S.end (hK _ ?_))))
            clear hK K
            refine hR2 _ _ ?_
            refine roundU [0] [0, 1, 4, 6, 10, 11, 12, 13] ⟨(pre2 ++ [s], suf2), by rw [← hp2]; simp⟩ ?_ (keep_c (he := (by first | rfl | (simp; done) | exact add_snoc (by omega) | exact add_skip (by omega))) (h := keep_n)) (slots_c (he := (by first | rfl | (congr 2; simp; done))) (h := (slots_c (he := (by first | rfl | (congr 1; rw [List.filter_nil]; simp; done) | (congr 1; rw [add_snoc_n (by omega)]; simp; done) | (rw [add_skip_n (by omega)]))) (h := trivial)))) (.c (.c (.c (.c (.c (.c (.c (.c .n))))))))
            skip
            all_goals (dsimp only; simp only [List.length_cons]; omega)
        · first
        | (first | omega | contradiction)
        | refine Ev.exit ?_
          refine hR2 _ _ ?_
          show Ev _ _ _ _
          refine Ev.sr fun K hK => S.o q.mv (S.o q.as (S.end (hK _ ?_)))
          clear hK K
          refine Ev.weaken (Wk.frz 4 []) ?_
          refine Ev.ret ?_
          refine Ev.ret1 ?_
          refine ⟨?_, rfl⟩
          rfl
  · simp only [List.length_cons] at hpl
    have hidx : (a)[pre.length]? = some s := by rw [← hp]; simp
    have hsok : okBar s := ha.2.1 s (by rw [← hp]; simp)
    obtain ⟨hs1, hs2⟩ := okBar_w hsok
    refine Ev.seq ?_
    refine Ev.sr fun K hK => S.o q.mv (S.o q.mv (S.o (q.lens am_el22) (S.o q.lss (S.end (hK _ ?_)))))
    clear hK K
    refine Ev.cd (fun c8 => ?_) (fun c8 => ?_)
    · first
    | (first | omega | contradiction)
    | refine Ev.skip ?_
      show Ev _ _ _ _
      refine Ev.seq ?_
      refine Ev.block ?_
      refine Ev.sr fun K hK => S.o q.mv (S.o q.mv (S.o q.mv (S.o (q.ix am_el22 am_cl43 (hl := (by first | exact ati hyi (by omega) | exact ati hidx (by omega) | exact atig (by omega)))) (S.o (q.fs 0 am_fi43_0 am_cl9) (S.o (q.ls am_ag9) (S.c0 (hF := rfind_fun _ _ (by omega)) (h := S.o q.as (S.end (hK _ ?_)))))))))
      clear hK K
      refine Ev.sr fun K hK => S.o q.as (S.end (hK _ ?_))
      clear hK K
      refine Ev.seq ?_
      refine Ev.sr fun K hK => S.o q.mv (S.o q.geq (S.end (hK _ ?_)))
      clear hK K
      refine Ev.cd (fun c9 => ?_) (fun c9 => ?_)
      · first
      | (first | omega | contradiction)
      | obtain ⟨y, hy, hyi, hym, hyk⟩ := barAt_some ‹0 ≤ markI b s.mark›
        have hyok : okBar y := hb.2.1 y hym
        obtain ⟨hy1, hy2⟩ := okBar_w hyok
        refine Ev.sr fun K hK => S.o q.as (S.end (hK _ ?_))
        clear hK K
        refine Ev.sm (tbs [(0, 0), (0, 0), (2, 3), (3, 7), (0, 0), (0, 0), (6, 48), (7, 112), (8, 255)]) 9 fun K hK => M.o q.mv (M.o q.mv (M.o (q.ix am_el22 am_cl43 (hl := (by first | exact ati hyi (by omega) | exact ati hidx (by omega) | exact atig (by omega)))) (M.o (q.lsA [_, _, _, _, _] am_ag43 am_cl43) (M.o q.mv (M.o q.mv (M.o (q.ix am_el22 am_cl43 (hl := (by first | exact ati hyi (by omega) | exact ati hidx (by omega) | exact atig (by omega)))) (M.o (q.lsA [_, _, _, _, _] am_ag43 am_cl43) (M.c0 (hF := requal_fun _ _ (by omega) (by omega)) (h := M.end [_] (h := S.end (hK _ ?_)))))))))))
        clear hK K
        refine Ev.cd (fun c10 => ?_) (fun c10 => ?_)
        · first
        | (first | omega | contradiction)
        | refine Ev.region_S fun K hK => S.o q.as (S.end (hK _ ?_))
          clear hK K
          show Ev _ _ _ _
          refine Ev.region_S fun K hK => S.o q.mv (S.o q.mv (S.o q.mv (S.o q.mv (S.o (q.ix am_el22 am_cl43 (hl := (by first | exact ati hyi (by omega) | exact ati hidx (by omega) | exact atig (by omega)))) (S.o (q.fs 0 am_fi43_0 am_cl9) (S.o (q.ls am_ag9) (S.o (q.bd [_, _] am_ze36 am_pl36) (S.nn (q.bs [[_, _]] true am_el25 am_ze36 am_cl36) (S.ap' [_] am_el25 am_ze36 am_cl36 am_by36 (hh := head_own') (hr := (rows_lit [(⟨_, _⟩ : Int × List UInt8)])) (h := S.o q.as (S.end (hK _ ?_))))))))))))
          clear hK K
          show Ev _ _ _ _
          refine Ev.region_S fun K hK => S.o q.mv (S.o q.add (S.o q.as (S.end (hK _ ?_))))
          clear hK K
          refine hR0 _ _ ?_
          refine roundU [38] [0, 1, 4] ⟨(pre ++ [s], suf), by rw [← hp]; simp, ?_⟩ ?_ (keep_c (he := (by first | rfl | exact cmp_snoc (kind_4 (by omega)) | exact cmp_snoc (kind_1r hy ‹_›) | exact cmp_snoc (kind_2r hy hyk ‹_›))) (h := keep_n)) (slots_c (he := (by first | rfl | (congr 2; simp; done))) (h := (slots_c (he := (by first | rfl | (congr 1; simp; done))) (h := trivial)))) (.c (.c (.c .n)))
          trivial
          all_goals (dsimp only; simp only [List.length_cons]; omega)
        · first
        | (first | omega | contradiction)
        | refine Ev.skip ?_
          show Ev _ _ _ _
          refine Ev.region_S fun K hK => S.o q.mv (S.o q.mv (S.o q.mv (S.o q.mv (S.o (q.ix am_el22 am_cl43 (hl := (by first | exact ati hyi (by omega) | exact ati hidx (by omega) | exact atig (by omega)))) (S.o (q.fs 0 am_fi43_0 am_cl9) (S.o (q.ls am_ag9) (S.o (q.bd [_, _] am_ze36 am_pl36) (S.nn (q.bs [[_, _]] true am_el25 am_ze36 am_cl36) (S.ap' [_] am_el25 am_ze36 am_cl36 am_by36 (hh := head_own') (hr := (rows_lit [(⟨_, _⟩ : Int × List UInt8)])) (h := S.o q.as (S.end (hK _ ?_))))))))))))
          clear hK K
          show Ev _ _ _ _
          refine Ev.region_S fun K hK => S.o q.mv (S.o q.add (S.o q.as (S.end (hK _ ?_))))
          clear hK K
          refine hR0 _ _ ?_
          refine roundU [38] [0, 1, 4] ⟨(pre ++ [s], suf), by rw [← hp]; simp, ?_⟩ ?_ (keep_c (he := (by first | rfl | exact cmp_snoc (kind_4 (by omega)) | exact cmp_snoc (kind_1r hy ‹_›) | exact cmp_snoc (kind_2r hy hyk ‹_›))) (h := keep_n)) (slots_c (he := (by first | rfl | (congr 2; simp; done))) (h := (slots_c (he := (by first | rfl | (congr 1; simp; done))) (h := trivial)))) (.c (.c (.c .n)))
          trivial
          all_goals (dsimp only; simp only [List.length_cons]; omega)
      · first
      | (first | omega | contradiction)
      | refine Ev.skip ?_
        show Ev _ _ _ _
        refine Ev.region_S fun K hK => S.o q.mv (S.o q.mv (S.o q.mv (S.o q.mv (S.o (q.ix am_el22 am_cl43 (hl := (by first | exact ati hyi (by omega) | exact ati hidx (by omega) | exact atig (by omega)))) (S.o (q.fs 0 am_fi43_0 am_cl9) (S.o (q.ls am_ag9) (S.o (q.bd [_, _] am_ze36 am_pl36) (S.nn (q.bs [[_, _]] true am_el25 am_ze36 am_cl36) (S.ap' [_] am_el25 am_ze36 am_cl36 am_by36 (hh := head_own') (hr := (rows_lit [(⟨_, _⟩ : Int × List UInt8)])) (h := S.o q.as (S.end (hK _ ?_))))))))))))
        clear hK K
        show Ev _ _ _ _
        refine Ev.region_S fun K hK => S.o q.mv (S.o q.add (S.o q.as (S.end (hK _ ?_))))
        clear hK K
        refine hR0 _ _ ?_
        refine roundU [2] [0, 1, 4] ⟨(pre ++ [s], suf), by rw [← hp]; simp, ?_⟩ ?_ (keep_c (he := (by first | rfl | exact cmp_snoc (kind_4 (by omega)) | exact cmp_snoc (kind_1r hy ‹_›) | exact cmp_snoc (kind_2r hy hyk ‹_›))) (h := keep_n)) (slots_c (he := (by first | rfl | (congr 2; simp; done))) (h := (slots_c (he := (by first | rfl | (congr 1; simp; done))) (h := trivial)))) (.c (.c (.c .n)))
        trivial
        all_goals (dsimp only; simp only [List.length_cons]; omega)
    · first
    | (first | omega | contradiction)
    | refine Ev.exit ?_
      refine hR0 _ _ ?_
      show Ev _ _ _ _
      refine Ev.seq ?_
      refine Ev.sr fun K hK => S.o q.as (S.end (hK _ ?_))
      clear hK K
      refine Ev.block ?_
      refine Ev.loopU (ι := {q : List Bar × List Bar // q.1 ++ q.2 = b}) [0] [0, 1, 4, 6, 10, 11, 12, 13] (fun ⟨(pre2, suf2), _⟩ => [(9, .lit (.int .i64 ((pre2.length : Int)))), (5, .als 0 0 (a.map (cK b) ++ (pre2.filter (newP a)).map addK).length)]) (fun ⟨(pre2, suf2), _⟩ => [(0, ⟨true, 36, 2, (a.map (cK b) ++ (pre2.filter (newP a)).map addK).map findC, true⟩)]) (fun ⟨(pre2, suf2), _⟩ => suf2.length) ⟨([], b), rfl⟩ (.c (.c (.c (.c (.c (.c (.c (.c .n)))))))) (keep_c (he := (by first | rfl | (simp; done) | exact add_snoc (by omega) | exact add_skip (by omega))) (h := keep_n)) (slots_c (he := (by first | rfl | (congr 2; simp; done))) (h := (slots_c (he := (by first | rfl | (congr 1; rw [List.filter_nil]; simp; done) | (congr 1; rw [add_snoc_n (by omega)]; simp; done) | (rw [add_skip_n (by omega)]))) (h := trivial)))) ?_
      rintro ⟨⟨pre2, suf2⟩, hp2⟩ R2 hR2
      dsimp only [List.cons_append, List.nil_append, List.length_cons, List.length_nil]
      simp only at hp2
      have hpl2 : pre2.length + suf2.length = b.length := by rw [← hp2, List.length_append]
      have hfl := filter_le (newP a) pre2
      rcases suf2 with _ | ⟨s, suf2⟩
      · rw [List.append_nil] at hp2; subst hp2; simp only [List.length_nil] at hpl2
        refine Ev.seq ?_
        refine Ev.sr fun K hK => S.o q.mv (S.o q.mv (S.o (q.lens am_el22) (S.o q.lss (S.end (hK _ ?_)))))
        clear hK K
        refine Ev.cd (fun c11 => ?_) (fun c11 => ?_)
        · first
        | (first | omega | contradiction)
        | refine Ev.skip ?_
          show Ev _ _ _ _
          refine Ev.seq ?_
          refine Ev.block ?_
          refine Ev.sr fun K hK => S.o q.mv (S.o q.mv (S.o q.mv (S.o (q.ix am_el22 am_cl43 (hl := (by first | exact ati hyi (by omega) | exact ati hidx (by omega) | exact atig (by omega)))) (S.o (q.fs 0 am_fi43_0 am_cl9) (S.o (q.ls am_ag9) (S.c0 (hF := rfind_fun _ _ (by omega)) (h := S.o q.lss (S.end (hK _ ?_)))))))))
          clear hK K
          refine Ev.cd (fun c12 => ?_) (fun c12 => ?_)
          · first
          | (first | omega | contradiction)
          | refine Ev.region_S fun K hK => S.o q.mv (S.o q.mv (S.o q.mv (S.o (q.ix am_el22 am_cl43 (hl := (by first | exact ati hyi (by omega) | exact ati hidx (by omega) | exact atig (by omega)))) (S.o (q.fs 0 am_fi43_0 am_cl9) (S.o (q.ls am_ag9) (S.o (q.bd [_, _] am_ze36 am_pl36) (S.nn (q.bs [[_, _]] true am_el25 am_ze36 am_cl36) (S.ap' [_] am_el25 am_ze36 am_cl36 am_by36 (hh := head_own') (hr := (rows_lit [(⟨_, _⟩ : Int × List UInt8)])) (h := S.o q.as (S.end (hK _ ?_)))))))))))
            clear hK K
            show Ev _ _ _ _
            refine Ev.region_S fun K hK => S.o q.mv (S.o q.add (S.o q.as (S.end (hK _ ?_))))
            clear hK K
            refine hR2 _ _ ?_
            refine roundU [2] [0, 1, 4, 6, 10, 11, 12, 13] ⟨(pre2 ++ [s], suf2), by rw [← hp2]; simp⟩ ?_ (keep_c (he := (by first | rfl | (simp; done) | exact add_snoc (by omega) | exact add_skip (by omega))) (h := keep_n)) (slots_c (he := (by first | rfl | (congr 2; simp; done))) (h := (slots_c (he := (by first | rfl | (congr 1; rw [List.filter_nil]; simp; done) | (congr 1; rw [add_snoc_n (by omega)]; simp; done) | (rw [add_skip_n (by omega)]))) (h := trivial)))) (.c (.c (.c (.c (.c (.c (.c (.c .n))))))))
            skip
            all_goals (dsimp only; simp only [List.length_cons]; omega)
          · first
          | (first | omega | contradiction)
          | refine Ev.skip ?_
            show Ev _ _ _ _
            refine Ev.region_S fun K hK => S.o q.mv (S.o q.add (S.o q.as (S.end (hK _ ?_))))
            clear hK K
            refine hR2 _ _ ?_
            refine roundU [0] [0, 1, 4, 6, 10, 11, 12, 13] ⟨(pre2 ++ [s], suf2), by rw [← hp2]; simp⟩ ?_ (keep_c (he := (by first | rfl | (simp; done) | exact add_snoc (by omega) | exact add_skip (by omega))) (h := keep_n)) (slots_c (he := (by first | rfl | (congr 2; simp; done))) (h := (slots_c (he := (by first | rfl | (congr 1; rw [List.filter_nil]; simp; done) | (congr 1; rw [add_snoc_n (by omega)]; simp; done) | (rw [add_skip_n (by omega)]))) (h := trivial)))) (.c (.c (.c (.c (.c (.c (.c (.c .n))))))))
            skip
            all_goals (dsimp only; simp only [List.length_cons]; omega)
        · first
        | (first | omega | contradiction)
        | refine Ev.exit ?_
          refine hR2 _ _ ?_
          show Ev _ _ _ _
          refine Ev.sr fun K hK => S.o q.mv (S.o q.as (S.end (hK _ ?_)))
          clear hK K
          refine Ev.weaken (Wk.frz 4 []) ?_
          refine Ev.ret ?_
          refine Ev.ret1 ?_
          refine ⟨?_, rfl⟩
          rfl
      · simp only [List.length_cons] at hpl2
        have hidx2 : b[pre2.length]? = some s := by rw [← hp2]; simp
        refine Ev.seq ?_
        refine Ev.sr fun K hK => S.o q.mv (S.o q.mv (S.o (q.lens am_el22) (S.o q.lss (S.end (hK _ ?_)))))
        clear hK K
        refine Ev.cd (fun c13 => ?_) (fun c13 => ?_)
        · first
        | (first | omega | contradiction)
        | refine Ev.skip ?_
          show Ev _ _ _ _
          refine Ev.seq ?_
          refine Ev.block ?_
          refine Ev.sr fun K hK => S.o q.mv (S.o q.mv (S.o q.mv (S.o (q.ix am_el22 am_cl43 (hl := (by first | exact ati hyi (by omega) | exact ati hidx (by omega) | exact ati hidx2 (by omega) | exact atig (by omega)))) (S.o (q.fs 0 am_fi43_0 am_cl9) (S.o (q.ls am_ag9) (S.c0 (hF := rfind_fun _ _ (by omega)) (h := S.o q.lss (S.end (hK _ ?_)))))))))
          clear hK K
          refine Ev.cd (fun c14 => ?_) (fun c14 => ?_)
          · first
          | (first | omega | contradiction)
          | refine Ev.region_S fun K hK => S.o q.mv (S.o q.mv (S.o q.mv (S.o (q.ix am_el22 am_cl43 (hl := (by first | exact ati hyi (by omega) | exact ati hidx (by omega) | exact ati hidx2 (by omega) | exact atig (by omega)))) (S.o (q.fs 0 am_fi43_0 am_cl9) (S.o (q.ls am_ag9) (S.o (q.bd [_, _] am_ze36 am_pl36) (S.nn (q.bs [[_, _]] true am_el25 am_ze36 am_cl36) (S.ap' [_] am_el25 am_ze36 am_cl36 am_by36 (hh := head_own') (hr := (rows_lit [(⟨_, _⟩ : Int × List UInt8)])) (h := S.o q.as (S.end (hK _ ?_)))))))))))
            clear hK K
            show Ev _ _ _ _
            refine Ev.region_S fun K hK => S.o q.mv (S.o q.add (S.o q.as (S.end (hK _ ?_))))
            clear hK K
            refine hR2 _ _ ?_
            refine roundU [2] [0, 1, 4, 6, 10, 11, 12, 13] ⟨(pre2 ++ [s], suf2), by rw [← hp2]; simp⟩ ?_ (keep_c (he := (by first | rfl | (simp; done) | exact add_snoc (by omega) | exact add_skip (by omega))) (h := keep_n)) (slots_c (he := (by first | rfl | (congr 2; simp; done))) (h := (slots_c (he := (by first | rfl | (congr 1; rw [List.filter_nil]; simp; done) | (congr 1; rw [add_snoc_n (by omega)]; simp; done) | (rw [add_skip_n (by omega)]))) (h := trivial)))) (.c (.c (.c (.c (.c (.c (.c (.c .n))))))))
            skip
            all_goals (dsimp only; simp only [List.length_cons]; omega)
          · first
          | (first | omega | contradiction)
          | refine Ev.skip ?_
            show Ev _ _ _ _
            refine Ev.region_S fun K hK => S.o q.mv (S.o q.add (S.o q.as (S.end (hK _ ?_))))
            clear hK K
            refine hR2 _ _ ?_
            refine roundU [0] [0, 1, 4, 6, 10, 11, 12, 13] ⟨(pre2 ++ [s], suf2), by rw [← hp2]; simp⟩ ?_ (keep_c (he := (by first | rfl | (simp; done) | exact add_snoc (by omega) | exact add_skip (by omega))) (h := keep_n)) (slots_c (he := (by first | rfl | (congr 2; simp; done))) (h := (slots_c (he := (by first | rfl | (congr 1; rw [List.filter_nil]; simp; done) | (congr 1; rw [add_snoc_n (by omega)]; simp; done) | (rw [add_skip_n (by omega)]))) (h := trivial)))) (.c (.c (.c (.c (.c (.c (.c (.c .n))))))))
            skip
            all_goals (dsimp only; simp only [List.length_cons]; omega)
        · first
        | (first | omega | contradiction)
        | refine Ev.exit ?_
          refine hR2 _ _ ?_
          show Ev _ _ _ _
          refine Ev.sr fun K hK => S.o q.mv (S.o q.as (S.end (hK _ ?_)))
          clear hK K
          refine Ev.weaken (Wk.frz 4 []) ?_
          refine Ev.ret ?_
          refine Ev.ret1 ?_
          refine ⟨?_, rfl⟩
          rfl
end Go.Proofs.Ytccddakkegelkaa
