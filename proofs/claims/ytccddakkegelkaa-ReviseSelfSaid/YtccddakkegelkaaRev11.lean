/-
  Layer 14: the reference, equality.
  Conditions: none.
-/
import Derived.Test.YtccddakkegelkaaSched
namespace Go.Proofs.Ytccddakkegelkaa
open Go Go.AM
set_option linter.unusedSimpArgs false
set_option linter.unusedVariables false
set_option maxRecDepth 100000
set_option maxHeartbeats 1000000

instance : DecidableEq Bar := fun x y => decidable_of_iff (x.mark = y.mark ∧ x.size = y.size ∧ x.count = y.count ∧ x.code = y.code ∧ x.dims = y.dims) (by cases x; cases y; simp)
theorem bars_take {a b : List Bar} (h : b.take a.length = a) (hl : a.length = b.length) : a = b := h.symm.trans (List.take_of_length_le (by omega))
theorem bar_eq {x y : Bar} (h1 : x.mark = y.mark) (h2 : x.size = y.size) (h3 : x.count = y.count) (h4 : x.code = y.code) (h5 : x.dims = y.dims) : x = y := by
  cases x; cases y; simp only at h1 h2 h3 h4 h5; subst h1 h2 h3 h4 h5; rfl
theorem same14_fun (a b : List Bar) (ha : a.length ≤ 140737488355328) (hb : b.length ≤ 140737488355328) (hwa : ∀ x ∈ a, x.dims.length ≤ 140737488355328) (hwb : ∀ x ∈ b, x.dims.length ≤ 140737488355328) : Fun Try.prog 28 [.sh 5 (a.map Bar.c), .sh 5 (b.map Bar.c)] (Ret (.lit (.bool (decide (a = b)))) []) := by
  refine Fun.of (nt := 81) (rs := [.tmp 4]) Try.func28 rfl rfl rfl rfl rfl ?_
  refine Ev.sr fun K hK => S.o q.as (S.end (hK _ ?_))
  clear hK K
  refine Ev.seq ?_
  refine Ev.sr fun K hK => S.o q.mv (S.o (q.lens am_el22) (S.o q.mv (S.o (q.lens am_el22) (S.o q.neq (S.end (hK _ ?_))))))
  clear hK K
  refine Ev.cn (fun c1 => ?_) (fun c1 => ?_)
  · first
  | (first | omega | contradiction)
  | refine Ev.sr fun K hK => S.o q.as (S.end (hK _ ?_))
    clear hK K
    refine Ev.ret ?_
    refine Ev.ret1 ?_
    refine ⟨?_, rfl⟩
    first
     | exact bF (fun h => by have h1 := congrArg List.length h; omega)
     | exact bF (fun h => by have he := hxy h; subst he; first | contradiction | omega)
     | exact bF (fun h => by have he := hxy h; subst he; rw [hidk] at hidk2; simp only [Option.some.injEq] at hidk2; omega)
     | exact bT (bars_take hinv (by omega))
  · first
  | (first | omega | contradiction)
  | refine Ev.skip ?_
    show Ev _ _ _ _
    refine Ev.seq ?_
    refine Ev.sr fun K hK => S.o q.as (S.end (hK _ ?_))
    clear hK K
    refine Ev.block ?_
    refine Ev.loopU (ι := {q : List Bar × List Bar // q.1 ++ q.2 = a ∧ b.take q.1.length = q.1}) [] [0, 1] (fun ⟨(pre, suf), _⟩ => [(5, .lit (.int .i64 ((pre.length : Int))))]) (fun ⟨(pre, suf), _⟩ => []) (fun ⟨(pre, suf), _⟩ => suf.length) ⟨([], a), rfl, rfl⟩ (.c (.c .n)) keep_n (slots_c (he := (by first | rfl | (simp; done) | (congr 2; omega))) (h := trivial)) ?_
    rintro ⟨⟨pre, suf⟩, hp, hinv⟩ R0 hR0
    dsimp only [List.cons_append, List.nil_append, List.length_cons, List.length_nil]
    simp only at hp hinv
    have hpl : pre.length + suf.length = (a).length := by rw [← hp, List.length_append]
    rcases suf with _ | ⟨s, suf⟩
    · rw [List.append_nil] at hp; subst pre; simp only [List.length_nil] at hpl
      refine Ev.seq ?_
      refine Ev.sr fun K hK => S.o q.mv (S.o q.mv (S.o (q.lens am_el22) (S.o q.lss (S.end (hK _ ?_)))))
      clear hK K
      refine Ev.cd (fun c2 => ?_) (fun c2 => ?_)
      · first
      | (first | omega | contradiction)
      | refine Ev.skip ?_
        show Ev _ _ _ _
        refine Ev.seq ?_
        refine Ev.block ?_
        refine Ev.sl (tbs [(0, 0), (0, 0), (2, 3), (3, 7), (0, 0), (0, 0), (6, 48), (7, 112), (0, 0), (0, 0), (10, 783), (11, 2047)]) 10 fun K hK => M.o q.mv (M.o q.mv (M.o (q.ix am_el22 am_cl43 (hl := (by first | exact atig (by omega)))) (M.o (q.lsA [_, _, _, _, _] am_ag43 am_cl43) (M.o q.mv (M.o q.mv (M.o (q.ix am_el22 am_cl43 (hl := (by first | exact atig (by omega)))) (M.o (q.lsA [_, _, _, _, _] am_ag43 am_cl43) (M.nn [_] (q.al am_ze43) (h := M.nn [_, _] (q.al am_ze43) (h := M.late [_, _, _, _, _] true [_, _] am_in43 am_cl43 (h := S.sv [_, _, _, _, _] true [_] am_in43 am_cl43 (h := S.end (hK _ ?_)))))))))))))
        clear hK K
        refine Ev.seq ?_
        refine Ev.sr fun K hK => S.o (q.fa 0 am_fi43_0 am_cl9) (S.o (q.lv am_ag9) (S.o (q.fa 0 am_fi43_0 am_cl9) (S.o (q.lv am_ag9) (S.o q.snes (S.bn q.mv (fun c3 => ?_) (fun c3 => ?_))))))
        · first
        | (first | omega | contradiction)
        | refine S.sk (S.sk (S.sk (S.sk (S.sk (S.o q.pt (S.o q.mv (S.sk (S.sk (S.sk (S.sk (S.sk (S.o q.pt (S.o q.mv (S.sk (S.sk (S.sk (S.sk (S.sk (S.o q.pt (S.o q.mv (S.sk (S.sk (S.sk (S.sk (S.sk (S.sk (S.sk (S.o q.pt (S.end (hK _ ?_))))))))))))))))))))))))))))))
          clear hK K
          refine Ev.ct ?_
          refine Ev.sr fun K hK => S.o q.as (S.end (hK _ ?_))
          clear hK K
          refine Ev.ret ?_
          refine hR0 _ _ ?_
          refine Ev.ret1 ?_
          refine ⟨?_, rfl⟩
          first
           | exact bF (fun h => by have h1 := congrArg List.length h; omega)
           | exact bF (fun h => by have he := hxy h; subst he; first | contradiction | omega)
           | exact bF (fun h => by have he := hxy h; subst he; rw [hidk] at hidk2; simp only [Option.some.injEq] at hidk2; omega)
           | exact bT (bars_take hinv (by omega))
        · first
        | (first | omega | contradiction)
        | refine S.o (q.fa 1 am_fi43_1 am_cl3) (S.o (q.lv am_ag3) (S.o (q.fa 1 am_fi43_1 am_cl3) (S.o (q.lv am_ag3) (S.o q.neq (S.o q.pf (S.bn q.mv (fun c4 => ?_) (fun c4 => ?_)))))))
          · first
          | (first | omega | contradiction)
          | refine S.sk (S.sk (S.sk (S.sk (S.sk (S.o q.pt (S.o q.mv (S.sk (S.sk (S.sk (S.sk (S.sk (S.o q.pt (S.o q.mv (S.sk (S.sk (S.sk (S.sk (S.sk (S.sk (S.sk (S.o q.pt (S.end (hK _ ?_)))))))))))))))))))))))
            clear hK K
            refine Ev.ct ?_
            refine Ev.sr fun K hK => S.o q.as (S.end (hK _ ?_))
            clear hK K
            refine Ev.ret ?_
            refine hR0 _ _ ?_
            refine Ev.ret1 ?_
            refine ⟨?_, rfl⟩
            first
             | exact bF (fun h => by have h1 := congrArg List.length h; omega)
             | exact bF (fun h => by have he := hxy h; subst he; first | contradiction | omega)
             | exact bF (fun h => by have he := hxy h; subst he; rw [hidk] at hidk2; simp only [Option.some.injEq] at hidk2; omega)
             | exact bT (bars_take hinv (by omega))
          · first
          | (first | omega | contradiction)
          | refine S.o (q.fa 2 am_fi43_2 am_cl3) (S.o (q.lv am_ag3) (S.o (q.fa 2 am_fi43_2 am_cl3) (S.o (q.lv am_ag3) (S.o q.neq (S.o q.pf (S.bn q.mv (fun c5 => ?_) (fun c5 => ?_)))))))
            · first
            | (first | omega | contradiction)
            | refine S.sk (S.sk (S.sk (S.sk (S.sk (S.o q.pt (S.o q.mv (S.sk (S.sk (S.sk (S.sk (S.sk (S.sk (S.sk (S.o q.pt (S.end (hK _ ?_))))))))))))))))
              clear hK K
              refine Ev.ct ?_
              refine Ev.sr fun K hK => S.o q.as (S.end (hK _ ?_))
              clear hK K
              refine Ev.ret ?_
              refine hR0 _ _ ?_
              refine Ev.ret1 ?_
              refine ⟨?_, rfl⟩
              first
               | exact bF (fun h => by have h1 := congrArg List.length h; omega)
               | exact bF (fun h => by have he := hxy h; subst he; first | contradiction | omega)
               | exact bF (fun h => by have he := hxy h; subst he; rw [hidk] at hidk2; simp only [Option.some.injEq] at hidk2; omega)
               | exact bT (bars_take hinv (by omega))
            · first
            | (first | omega | contradiction)
            | refine S.o (q.fa 3 am_fi43_3 am_cl3) (S.o (q.lv am_ag3) (S.o (q.fa 3 am_fi43_3 am_cl3) (S.o (q.lv am_ag3) (S.o q.neq (S.o q.pf (S.bn q.mv (fun c6 => ?_) (fun c6 => ?_)))))))
              · first
              | (first | omega | contradiction)
              | refine S.sk (S.sk (S.sk (S.sk (S.sk (S.sk (S.sk (S.o q.pt (S.end (hK _ ?_)))))))))
                clear hK K
                refine Ev.ct ?_
                refine Ev.sr fun K hK => S.o q.as (S.end (hK _ ?_))
                clear hK K
                refine Ev.ret ?_
                refine hR0 _ _ ?_
                refine Ev.ret1 ?_
                refine ⟨?_, rfl⟩
                first
                 | exact bF (fun h => by have h1 := congrArg List.length h; omega)
                 | exact bF (fun h => by have he := hxy h; subst he; first | contradiction | omega)
                 | exact bF (fun h => by have he := hxy h; subst he; rw [hidk] at hidk2; simp only [Option.some.injEq] at hidk2; omega)
                 | exact bT (bars_take hinv (by omega))
              · first
              | (first | omega | contradiction)
              | refine S.o (q.fa 4 am_fi43_4 am_cl41) (S.o (q.lv am_ag41) (S.o (q.lens am_el41) (S.o (q.fa 4 am_fi43_4 am_cl41) (S.o (q.lv am_ag41) (S.o (q.lens am_el41) (S.o q.neq (S.o q.pf (S.end (hK _ ?_)))))))))
                clear hK K
                refine Ev.cn (fun c7 => ?_) (fun c7 => ?_)
                · first
                | (first | omega | contradiction)
                | refine Ev.sr fun K hK => S.o q.as (S.end (hK _ ?_))
                  clear hK K
                  refine Ev.ret ?_
                  refine hR0 _ _ ?_
                  refine Ev.ret1 ?_
                  refine ⟨?_, rfl⟩
                  first
                   | exact bF (fun h => by have h1 := congrArg List.length h; omega)
                   | exact bF (fun h => by have he := hxy h; subst he; first | contradiction | omega)
                   | exact bF (fun h => by have he := hxy h; subst he; rw [hidk] at hidk2; simp only [Option.some.injEq] at hidk2; omega)
                   | exact bT (bars_take hinv (by omega))
                · first
                | (first | omega | contradiction)
                | refine Ev.skip ?_
                  show Ev _ _ _ _
                  refine Ev.sr fun K hK => S.o q.as (S.end (hK _ ?_))
                  clear hK K
                  refine Ev.block ?_
                  refine Ev.loopU (ι := {q : List Int × List Int // q.1 ++ q.2 = s.dims ∧ s2.dims.take q.1.length = q.1}) [32, 36] [0, 1, 5, 6, 7, 14, 15, 16, 17, 20, 21, 22, 23, 24, 25, 26, 27, 28, 29, 30, 31, 32, 33, 34, 35, 36, 37, 38, 39, 40, 41, 42, 43, 44, 45, 46, 47, 48, 49, 50, 51, 52, 53, 54, 55, 56, 57, 58, 59, 60, 61, 62] (fun ⟨(prek, sufk), _⟩ => [(8, .lit (.int .i64 ((prek.length : Int))))]) (fun ⟨(prek, sufk), _⟩ => [(0, ⟨false, 43, 5, [[.lit (str (s.mark)), .lit (.int .i64 (s.size)), .lit (.int .i64 (s.count)), .lit (.int .i64 (s.code)), .sh 1 ((s.dims).map intC)]], true⟩), (1, ⟨false, 43, 5, [[.lit (str (s2.mark)), .lit (.int .i64 (s2.size)), .lit (.int .i64 (s2.count)), .lit (.int .i64 (s2.code)), .sh 1 ((s2.dims).map intC)]], true⟩)]) (fun ⟨(prek, sufk), _⟩ => sufk.length) ⟨([], s.dims), rfl, rfl⟩ (.c (.c (.c (.c (.c (.c (.c (.c (.c (.c (.c (.c (.c (.c (.c (.c (.c (.c (.c (.c (.c (.c (.c (.c (.c (.c (.c (.c (.c (.c (.c (.c (.c (.c (.c (.c (.c (.c (.c (.c (.c (.c (.c (.c (.c (.c (.c (.c (.c (.c (.c (.c .n)))))))))))))))))))))))))))))))))))))))))))))))))))) (keep_c (he := (by first | rfl | (simp; done))) (h := (keep_c (he := (by first | rfl | (simp; done))) (h := keep_n)))) (slots_c (he := (by first | rfl | (simp; done) | (congr 2; omega))) (h := trivial)) ?_
                  rintro ⟨⟨prek, sufk⟩, hpk, hinvk⟩ R2 hR2
                  dsimp only [List.cons_append, List.nil_append, List.length_cons, List.length_nil]
                  simp only at hpk hinvk
                  have hplk : prek.length + sufk.length = s.dims.length := by rw [← hpk, List.length_append]
                  rcases sufk with _ | ⟨sk, sufk⟩
                  · rw [List.append_nil] at hpk; have hpd := congrArg List.length hpk; rw [hpk] at hinvk; simp only [List.length_nil] at hplk
                    refine Ev.seq ?_
                    refine Ev.sr fun K hK => S.o q.mv (S.o (q.fa 4 am_fi43_4 am_cl41) (S.o (q.lv am_ag41) (S.o (q.lens am_el41) (S.o q.lss (S.end (hK _ ?_))))))
                    clear hK K
                    refine Ev.cd (fun c8 => ?_) (fun c8 => ?_)
                    · first
                    | (first | omega | contradiction)
                    | refine Ev.skip ?_
                      show Ev _ _ _ _
                      refine Ev.seq ?_
                      refine Ev.block ?_
                      refine Ev.sm (tbs [(0, 0), (1, 1), (0, 0), (3, 7), (4, 15), (0, 0), (6, 32), (0, 0), (8, 224), (9, 480), (10, 1023)]) 11 fun K hK => M.o (q.fa 4 am_fi43_4 am_cl41) (M.o (q.lv am_ag41) (M.o q.mv (M.o (q.ix am_el41 am_cl3 (hl := (by first | exact atig (by omega)))) (M.o (q.ls am_ag3) (M.o (q.fa 4 am_fi43_4 am_cl41) (M.o (q.lv am_ag41) (M.o q.mv (M.o (q.ix am_el41 am_cl3 (hl := (by first | exact atig (by omega)))) (M.o (q.ls am_ag3) (M.o q.neq (M.end [_, _] (h := S.end (hK _ ?_)))))))))))))
                      clear hK K
                      refine Ev.cn (fun c9 => ?_) (fun c9 => ?_)
                      · first
                      | (first | omega | contradiction)
                      | refine Ev.sr fun K hK => S.o q.as (S.end (hK _ ?_))
                        clear hK K
                        refine Ev.ret ?_
                        refine hR2 _ _ ?_
                        refine hR0 _ _ ?_
                        refine Ev.ret1 ?_
                        refine ⟨?_, rfl⟩
                        first
                         | exact bF (fun h => by have h1 := congrArg List.length h; omega)
                         | exact bF (fun h => by have he := hxy h; subst he; first | contradiction | omega)
                         | exact bF (fun h => by have he := hxy h; subst he; rw [hidk] at hidk2; simp only [Option.some.injEq] at hidk2; omega)
                         | exact bT (bars_take hinv (by omega))
                      · first
                      | (first | omega | contradiction)
                      | refine Ev.skip ?_
                        show Ev _ _ _ _
                        refine Ev.region_S fun K hK => S.o q.mv (S.o q.add (S.o q.as (S.end (hK _ ?_))))
                        clear hK K
                        refine hR2 _ _ ?_
                        refine roundU [0, 1] [0, 1, 5, 6, 7, 14, 15, 16, 17, 20, 21, 22, 23, 24, 25, 26, 27, 28, 29, 30, 31, 32, 33, 34, 35, 36, 37, 38, 39, 40, 41, 42, 43, 44, 45, 46, 47, 48, 49, 50, 51, 52, 53, 54, 55, 56, 57, 58, 59, 60, 61, 62] ⟨(prek ++ [sk], sufk), by rw [← hpk]; simp, ?_⟩ ?_ (keep_c (he := (by first | rfl | (simp; done))) (h := (keep_c (he := (by first | rfl | (simp; done))) (h := keep_n)))) (slots_c (he := (by first | rfl | (simp; done) | (congr 2; omega))) (h := trivial)) (.c (.c (.c (.c (.c (.c (.c (.c (.c (.c (.c (.c (.c (.c (.c (.c (.c (.c (.c (.c (.c (.c (.c (.c (.c (.c (.c (.c (.c (.c (.c (.c (.c (.c (.c (.c (.c (.c (.c (.c (.c (.c (.c (.c (.c (.c (.c (.c (.c (.c (.c (.c .n))))))))))))))))))))))))))))))))))))))))))))))))))))
                        simp only [List.length_append, List.length_cons, List.length_nil, Nat.zero_add]
                        rw [List.take_add_one, hinvk, hidk2]
                        simp only [Option.toList_some, List.append_cancel_left_eq, List.cons.injEq, and_true]
                        omega
                        all_goals (dsimp only; simp only [List.length_cons]; omega)
                    · first
                    | (first | omega | contradiction)
                    | refine Ev.exit ?_
                      refine hR2 _ _ ?_
                      show Ev _ _ _ _
                      have hfin : s = s2 := bar_eq (by first | assumption | omega) (by omega) (by omega) (by omega) (hinvk.symm.trans (List.take_of_length_le (by omega)))
                      refine Ev.region_S fun K hK => S.o q.mv (S.o q.add (S.o q.as (S.end (hK _ ?_))))
                      clear hK K
                      refine hR0 _ _ ?_
                      refine roundU [] [0, 1] ⟨(pre ++ [s], suf), by rw [← hp]; simp, ?_⟩ ?_ keep_n (slots_c (he := (by first | rfl | (simp; done) | (congr 2; omega))) (h := trivial)) (.c (.c .n))
                      simp only [List.length_append, List.length_cons, List.length_nil, Nat.zero_add]
                      rw [List.take_add_one, hinv, hidx2, hfin]
                      rfl
                      all_goals (dsimp only; simp only [List.length_cons]; omega)
                  · simp only [List.length_cons] at hplk
                    have hidk : s.dims[prek.length]? = some sk := by rw [← hpk]; simp
                    obtain ⟨sk2, hidk2⟩ : ∃ sk2, s2.dims[prek.length]? = some sk2 := ⟨_, List.getElem?_eq_getElem (by omega)⟩
                    refine Ev.seq ?_
                    refine Ev.sr fun K hK => S.o q.mv (S.o (q.fa 4 am_fi43_4 am_cl41) (S.o (q.lv am_ag41) (S.o (q.lens am_el41) (S.o q.lss (S.end (hK _ ?_))))))
                    clear hK K
                    refine Ev.cd (fun c10 => ?_) (fun c10 => ?_)
                    · first
                    | (first | omega | contradiction)
                    | refine Ev.skip ?_
                      show Ev _ _ _ _
                      refine Ev.seq ?_
                      refine Ev.block ?_
                      refine Ev.sm (tbs [(0, 0), (1, 1), (0, 0), (3, 7), (4, 15), (0, 0), (6, 32), (0, 0), (8, 224), (9, 480), (10, 1023)]) 11 fun K hK => M.o (q.fa 4 am_fi43_4 am_cl41) (M.o (q.lv am_ag41) (M.o q.mv (M.o (q.ix am_el41 am_cl3 (hl := (by first | exact ati hidk (by omega) | exact ati hidk2 (by omega) | exact atig (by omega)))) (M.o (q.ls am_ag3) (M.o (q.fa 4 am_fi43_4 am_cl41) (M.o (q.lv am_ag41) (M.o q.mv (M.o (q.ix am_el41 am_cl3 (hl := (by first | exact ati hidk (by omega) | exact ati hidk2 (by omega) | exact atig (by omega)))) (M.o (q.ls am_ag3) (M.o q.neq (M.end [_, _] (h := S.end (hK _ ?_)))))))))))))
                      clear hK K
                      refine Ev.cn (fun c11 => ?_) (fun c11 => ?_)
                      · first
                      | (first | omega | contradiction)
                      | refine Ev.sr fun K hK => S.o q.as (S.end (hK _ ?_))
                        clear hK K
                        refine Ev.ret ?_
                        refine hR2 _ _ ?_
                        refine hR0 _ _ ?_
                        refine Ev.ret1 ?_
                        refine ⟨?_, rfl⟩
                        first
                         | exact bF (fun h => by have h1 := congrArg List.length h; omega)
                         | exact bF (fun h => by have he := hxy h; subst he; first | contradiction | omega)
                         | exact bF (fun h => by have he := hxy h; subst he; rw [hidk] at hidk2; simp only [Option.some.injEq] at hidk2; omega)
                         | exact bT (bars_take hinv (by omega))
                      · first
                      | (first | omega | contradiction)
                      | refine Ev.skip ?_
                        show Ev _ _ _ _
                        refine Ev.region_S fun K hK => S.o q.mv (S.o q.add (S.o q.as (S.end (hK _ ?_))))
                        clear hK K
                        refine hR2 _ _ ?_
                        refine roundU [0, 1] [0, 1, 5, 6, 7, 14, 15, 16, 17, 20, 21, 22, 23, 24, 25, 26, 27, 28, 29, 30, 31, 32, 33, 34, 35, 36, 37, 38, 39, 40, 41, 42, 43, 44, 45, 46, 47, 48, 49, 50, 51, 52, 53, 54, 55, 56, 57, 58, 59, 60, 61, 62] ⟨(prek ++ [sk], sufk), by rw [← hpk]; simp, ?_⟩ ?_ (keep_c (he := (by first | rfl | (simp; done))) (h := (keep_c (he := (by first | rfl | (simp; done))) (h := keep_n)))) (slots_c (he := (by first | rfl | (simp; done) | (congr 2; omega))) (h := trivial)) (.c (.c (.c (.c (.c (.c (.c (.c (.c (.c (.c (.c (.c (.c (.c (.c (.c (.c (.c (.c (.c (.c (.c (.c (.c (.c (.c (.c (.c (.c (.c (.c (.c (.c (.c (.c (.c (.c (.c (.c (.c (.c (.c (.c (.c (.c (.c (.c (.c (.c (.c (.c .n))))))))))))))))))))))))))))))))))))))))))))))))))))
                        simp only [List.length_append, List.length_cons, List.length_nil, Nat.zero_add]
                        rw [List.take_add_one, hinvk, hidk2]
                        simp only [Option.toList_some, List.append_cancel_left_eq, List.cons.injEq, and_true]
                        omega
                        all_goals (dsimp only; simp only [List.length_cons]; omega)
                    · first
                    | (first | omega | contradiction)
                    | refine Ev.exit ?_
                      refine hR2 _ _ ?_
                      show Ev _ _ _ _
                      have hfin : s = s2 := bar_eq (by first | assumption | omega) (by omega) (by omega) (by omega) (hinvk.symm.trans (List.take_of_length_le (by omega)))
                      refine Ev.region_S fun K hK => S.o q.mv (S.o q.add (S.o q.as (S.end (hK _ ?_))))
                      clear hK K
                      refine hR0 _ _ ?_
                      refine roundU [] [0, 1] ⟨(pre ++ [s], suf), by rw [← hp]; simp, ?_⟩ ?_ keep_n (slots_c (he := (by first | rfl | (simp; done) | (congr 2; omega))) (h := trivial)) (.c (.c .n))
                      simp only [List.length_append, List.length_cons, List.length_nil, Nat.zero_add]
                      rw [List.take_add_one, hinv, hidx2, hfin]
                      rfl
                      all_goals (dsimp only; simp only [List.length_cons]; omega)
      · first
      | (first | omega | contradiction)
      | refine Ev.exit ?_
        refine hR0 _ _ ?_
        show Ev _ _ _ _
        refine Ev.sr fun K hK => S.o q.as (S.end (hK _ ?_))
        clear hK K
        refine Ev.ret ?_
        refine Ev.ret1 ?_
        refine ⟨?_, rfl⟩
        first
         | exact bF (fun h => by have h1 := congrArg List.length h; omega)
         | exact bF (fun h => by have he := hxy h; subst he; first | contradiction | omega)
         | exact bF (fun h => by have he := hxy h; subst he; rw [hidk] at hidk2; simp only [Option.some.injEq] at hidk2; omega)
         | exact bT (bars_take hinv (by omega))
    · simp only [List.length_cons] at hpl
      have hidx : (a)[pre.length]? = some s := by rw [← hp]; simp
      obtain ⟨s2, hidx2⟩ : ∃ s2, b[pre.length]? = some s2 := ⟨_, List.getElem?_eq_getElem (by omega)⟩
      have hxy : a = b → s = s2 := fun h => by rw [h, hidx2] at hidx; simp only [Option.some.injEq] at hidx; exact hidx.symm
      have hs1 := hwa s (by rw [← hp]; simp)
      have hs2 := hwb s2 (List.mem_of_getElem? hidx2)
      refine Ev.seq ?_
      refine Ev.sr fun K hK => S.o q.mv (S.o q.mv (S.o (q.lens am_el22) (S.o q.lss (S.end (hK _ ?_)))))
      clear hK K
      refine Ev.cd (fun c12 => ?_) (fun c12 => ?_)
      · first
      | (first | omega | contradiction)
      | refine Ev.skip ?_
        show Ev _ _ _ _
        refine Ev.seq ?_
        refine Ev.block ?_
        refine Ev.sl (tbs [(0, 0), (0, 0), (2, 3), (3, 7), (0, 0), (0, 0), (6, 48), (7, 112), (0, 0), (0, 0), (10, 783), (11, 2047)]) 10 fun K hK => M.o q.mv (M.o q.mv (M.o (q.ix am_el22 am_cl43 (hl := (by first | exact ati hidx (by omega) | exact ati hidx2 (by omega) | exact atig (by omega)))) (M.o (q.lsA [_, _, _, _, _] am_ag43 am_cl43) (M.o q.mv (M.o q.mv (M.o (q.ix am_el22 am_cl43 (hl := (by first | exact ati hidx (by omega) | exact ati hidx2 (by omega) | exact atig (by omega)))) (M.o (q.lsA [_, _, _, _, _] am_ag43 am_cl43) (M.nn [_] (q.al am_ze43) (h := M.nn [_, _] (q.al am_ze43) (h := M.late [_, _, _, _, _] true [_, _] am_in43 am_cl43 (h := S.sv [_, _, _, _, _] true [_] am_in43 am_cl43 (h := S.end (hK _ ?_)))))))))))))
        clear hK K
        refine Ev.seq ?_
        refine Ev.sr fun K hK => S.o (q.fa 0 am_fi43_0 am_cl9) (S.o (q.lv am_ag9) (S.o (q.fa 0 am_fi43_0 am_cl9) (S.o (q.lv am_ag9) (S.o q.snes (S.bn q.mv (fun c13 => ?_) (fun c13 => ?_))))))
        · first
        | (first | omega | contradiction)
        | refine S.sk (S.sk (S.sk (S.sk (S.sk (S.o q.pt (S.o q.mv (S.sk (S.sk (S.sk (S.sk (S.sk (S.o q.pt (S.o q.mv (S.sk (S.sk (S.sk (S.sk (S.sk (S.o q.pt (S.o q.mv (S.sk (S.sk (S.sk (S.sk (S.sk (S.sk (S.sk (S.o q.pt (S.end (hK _ ?_))))))))))))))))))))))))))))))
          clear hK K
          refine Ev.ct ?_
          refine Ev.sr fun K hK => S.o q.as (S.end (hK _ ?_))
          clear hK K
          refine Ev.ret ?_
          refine hR0 _ _ ?_
          refine Ev.ret1 ?_
          refine ⟨?_, rfl⟩
          first
           | exact bF (fun h => by have h1 := congrArg List.length h; omega)
           | exact bF (fun h => by have he := hxy h; subst he; first | contradiction | omega)
           | exact bF (fun h => by have he := hxy h; subst he; rw [hidk] at hidk2; simp only [Option.some.injEq] at hidk2; omega)
           | exact bT (bars_take hinv (by omega))
        · first
        | (first | omega | contradiction)
        | refine S.o (q.fa 1 am_fi43_1 am_cl3) (S.o (q.lv am_ag3) (S.o (q.fa 1 am_fi43_1 am_cl3) (S.o (q.lv am_ag3) (S.o q.neq (S.o q.pf (S.bn q.mv (fun c14 => ?_) (fun c14 => ?_)))))))
          · first
          | (first | omega | contradiction)
          | refine S.sk (S.sk (S.sk (S.sk (S.sk (S.o q.pt (S.o q.mv (S.sk (S.sk (S.sk (S.sk (S.sk (S.o q.pt (S.o q.mv (S.sk (S.sk (S.sk (S.sk (S.sk (S.sk (S.sk (S.o q.pt (S.end (hK _ ?_)))))))))))))))))))))))
            clear hK K
            refine Ev.ct ?_
            refine Ev.sr fun K hK => S.o q.as (S.end (hK _ ?_))
            clear hK K
            refine Ev.ret ?_
            refine hR0 _ _ ?_
            refine Ev.ret1 ?_
            refine ⟨?_, rfl⟩
            first
             | exact bF (fun h => by have h1 := congrArg List.length h; omega)
             | exact bF (fun h => by have he := hxy h; subst he; first | contradiction | omega)
             | exact bF (fun h => by have he := hxy h; subst he; rw [hidk] at hidk2; simp only [Option.some.injEq] at hidk2; omega)
             | exact bT (bars_take hinv (by omega))
          · first
          | (first | omega | contradiction)
          | refine S.o (q.fa 2 am_fi43_2 am_cl3) (S.o (q.lv am_ag3) (S.o (q.fa 2 am_fi43_2 am_cl3) (S.o (q.lv am_ag3) (S.o q.neq (S.o q.pf (S.bn q.mv (fun c15 => ?_) (fun c15 => ?_)))))))
            · first
            | (first | omega | contradiction)
            | refine S.sk (S.sk (S.sk (S.sk (S.sk (S.o q.pt (S.o q.mv (S.sk (S.sk (S.sk (S.sk (S.sk (S.sk (S.sk (S.o q.pt (S.end (hK _ ?_))))))))))))))))
              clear hK K
              refine Ev.ct ?_
              refine Ev.sr fun K hK => S.o q.as (S.end (hK _ ?_))
              clear hK K
              refine Ev.ret ?_
              refine hR0 _ _ ?_
              refine Ev.ret1 ?_
              refine ⟨?_, rfl⟩
              first
               | exact bF (fun h => by have h1 := congrArg List.length h; omega)
               | exact bF (fun h => by have he := hxy h; subst he; first | contradiction | omega)
               | exact bF (fun h => by have he := hxy h; subst he; rw [hidk] at hidk2; simp only [Option.some.injEq] at hidk2; omega)
               | exact bT (bars_take hinv (by omega))
            · first
            | (first | omega | contradiction)
            | refine S.o (q.fa 3 am_fi43_3 am_cl3) (S.o (q.lv am_ag3) (S.o (q.fa 3 am_fi43_3 am_cl3) (S.o (q.lv am_ag3) (S.o q.neq (S.o q.pf (S.bn q.mv (fun c16 => ?_) (fun c16 => ?_)))))))
              · first
              | (first | omega | contradiction)
              | refine S.sk (S.sk (S.sk (S.sk (S.sk (S.sk (S.sk (S.o q.pt (S.end (hK _ ?_)))))))))
                clear hK K
                refine Ev.ct ?_
                refine Ev.sr fun K hK => S.o q.as (S.end (hK _ ?_))
                clear hK K
                refine Ev.ret ?_
                refine hR0 _ _ ?_
                refine Ev.ret1 ?_
                refine ⟨?_, rfl⟩
                first
                 | exact bF (fun h => by have h1 := congrArg List.length h; omega)
                 | exact bF (fun h => by have he := hxy h; subst he; first | contradiction | omega)
                 | exact bF (fun h => by have he := hxy h; subst he; rw [hidk] at hidk2; simp only [Option.some.injEq] at hidk2; omega)
                 | exact bT (bars_take hinv (by omega))
              · first
              | (first | omega | contradiction)
              | refine S.o (q.fa 4 am_fi43_4 am_cl41) (S.o (q.lv am_ag41) (S.o (q.lens am_el41) (S.o (q.fa 4 am_fi43_4 am_cl41) (S.o (q.lv am_ag41) (S.o (q.lens am_el41) (S.o q.neq (S.o q.pf (S.end (hK _ ?_)))))))))
                clear hK K
                refine Ev.cn (fun c17 => ?_) (fun c17 => ?_)
                · first
                | (first | omega | contradiction)
                | refine Ev.sr fun K hK => S.o q.as (S.end (hK _ ?_))
                  clear hK K
                  refine Ev.ret ?_
                  refine hR0 _ _ ?_
                  refine Ev.ret1 ?_
                  refine ⟨?_, rfl⟩
                  first
                   | exact bF (fun h => by have h1 := congrArg List.length h; omega)
                   | exact bF (fun h => by have he := hxy h; subst he; first | contradiction | omega)
                   | exact bF (fun h => by have he := hxy h; subst he; rw [hidk] at hidk2; simp only [Option.some.injEq] at hidk2; omega)
                   | exact bT (bars_take hinv (by omega))
                · first
                | (first | omega | contradiction)
                | refine Ev.skip ?_
                  show Ev _ _ _ _
                  refine Ev.sr fun K hK => S.o q.as (S.end (hK _ ?_))
                  clear hK K
                  refine Ev.block ?_
                  refine Ev.loopU (ι := {q : List Int × List Int // q.1 ++ q.2 = s.dims ∧ s2.dims.take q.1.length = q.1}) [32, 36] [0, 1, 5, 6, 7, 14, 15, 16, 17, 20, 21, 22, 23, 24, 25, 26, 27, 28, 29, 30, 31, 32, 33, 34, 35, 36, 37, 38, 39, 40, 41, 42, 43, 44, 45, 46, 47, 48, 49, 50, 51, 52, 53, 54, 55, 56, 57, 58, 59, 60, 61, 62] (fun ⟨(prek, sufk), _⟩ => [(8, .lit (.int .i64 ((prek.length : Int))))]) (fun ⟨(prek, sufk), _⟩ => [(0, ⟨false, 43, 5, [[.lit (str (s.mark)), .lit (.int .i64 (s.size)), .lit (.int .i64 (s.count)), .lit (.int .i64 (s.code)), .sh 1 ((s.dims).map intC)]], true⟩), (1, ⟨false, 43, 5, [[.lit (str (s2.mark)), .lit (.int .i64 (s2.size)), .lit (.int .i64 (s2.count)), .lit (.int .i64 (s2.code)), .sh 1 ((s2.dims).map intC)]], true⟩)]) (fun ⟨(prek, sufk), _⟩ => sufk.length) ⟨([], s.dims), rfl, rfl⟩ (.c (.c (.c (.c (.c (.c (.c (.c (.c (.c (.c (.c (.c (.c (.c (.c (.c (.c (.c (.c (.c (.c (.c (.c (.c (.c (.c (.c (.c (.c (.c (.c (.c (.c (.c (.c (.c (.c (.c (.c (.c (.c (.c (.c (.c (.c (.c (.c (.c (.c (.c (.c .n)))))))))))))))))))))))))))))))))))))))))))))))))))) (keep_c (he := (by first | rfl | (simp; done))) (h := (keep_c (he := (by first | rfl | (simp; done))) (h := keep_n)))) (slots_c (he := (by first | rfl | (simp; done) | (congr 2; omega))) (h := trivial)) ?_
                  rintro ⟨⟨prek, sufk⟩, hpk, hinvk⟩ R2 hR2
                  dsimp only [List.cons_append, List.nil_append, List.length_cons, List.length_nil]
                  simp only at hpk hinvk
                  have hplk : prek.length + sufk.length = s.dims.length := by rw [← hpk, List.length_append]
                  rcases sufk with _ | ⟨sk, sufk⟩
                  · rw [List.append_nil] at hpk; have hpd := congrArg List.length hpk; rw [hpk] at hinvk; simp only [List.length_nil] at hplk
                    refine Ev.seq ?_
                    refine Ev.sr fun K hK => S.o q.mv (S.o (q.fa 4 am_fi43_4 am_cl41) (S.o (q.lv am_ag41) (S.o (q.lens am_el41) (S.o q.lss (S.end (hK _ ?_))))))
                    clear hK K
                    refine Ev.cd (fun c18 => ?_) (fun c18 => ?_)
                    · first
                    | (first | omega | contradiction)
                    | refine Ev.skip ?_
                      show Ev _ _ _ _
                      refine Ev.seq ?_
                      refine Ev.block ?_
                      refine Ev.sm (tbs [(0, 0), (1, 1), (0, 0), (3, 7), (4, 15), (0, 0), (6, 32), (0, 0), (8, 224), (9, 480), (10, 1023)]) 11 fun K hK => M.o (q.fa 4 am_fi43_4 am_cl41) (M.o (q.lv am_ag41) (M.o q.mv (M.o (q.ix am_el41 am_cl3 (hl := (by first | exact ati hidx (by omega) | exact ati hidx2 (by omega) | exact atig (by omega)))) (M.o (q.ls am_ag3) (M.o (q.fa 4 am_fi43_4 am_cl41) (M.o (q.lv am_ag41) (M.o q.mv (M.o (q.ix am_el41 am_cl3 (hl := (by first | exact ati hidx (by omega) | exact ati hidx2 (by omega) | exact atig (by omega)))) (M.o (q.ls am_ag3) (M.o q.neq (M.end [_, _] (h := S.end (hK _ ?_)))))))))))))
                      clear hK K
                      refine Ev.cn (fun c19 => ?_) (fun c19 => ?_)
                      · first
                      | (first | omega | contradiction)
                      | refine Ev.sr fun K hK => S.o q.as (S.end (hK _ ?_))
                        clear hK K
                        refine Ev.ret ?_
                        refine hR2 _ _ ?_
                        refine hR0 _ _ ?_
                        refine Ev.ret1 ?_
                        refine ⟨?_, rfl⟩
                        first
                         | exact bF (fun h => by have h1 := congrArg List.length h; omega)
                         | exact bF (fun h => by have he := hxy h; subst he; first | contradiction | omega)
                         | exact bF (fun h => by have he := hxy h; subst he; rw [hidk] at hidk2; simp only [Option.some.injEq] at hidk2; omega)
                         | exact bT (bars_take hinv (by omega))
                      · first
                      | (first | omega | contradiction)
                      | refine Ev.skip ?_
                        show Ev _ _ _ _
                        refine Ev.region_S fun K hK => S.o q.mv (S.o q.add (S.o q.as (S.end (hK _ ?_))))
                        clear hK K
                        refine hR2 _ _ ?_
                        refine roundU [0, 1] [0, 1, 5, 6, 7, 14, 15, 16, 17, 20, 21, 22, 23, 24, 25, 26, 27, 28, 29, 30, 31, 32, 33, 34, 35, 36, 37, 38, 39, 40, 41, 42, 43, 44, 45, 46, 47, 48, 49, 50, 51, 52, 53, 54, 55, 56, 57, 58, 59, 60, 61, 62] ⟨(prek ++ [sk], sufk), by rw [← hpk]; simp, ?_⟩ ?_ (keep_c (he := (by first | rfl | (simp; done))) (h := (keep_c (he := (by first | rfl | (simp; done))) (h := keep_n)))) (slots_c (he := (by first | rfl | (simp; done) | (congr 2; omega))) (h := trivial)) (.c (.c (.c (.c (.c (.c (.c (.c (.c (.c (.c (.c (.c (.c (.c (.c (.c (.c (.c (.c (.c (.c (.c (.c (.c (.c (.c (.c (.c (.c (.c (.c (.c (.c (.c (.c (.c (.c (.c (.c (.c (.c (.c (.c (.c (.c (.c (.c (.c (.c (.c (.c .n))))))))))))))))))))))))))))))))))))))))))))))))))))
                        simp only [List.length_append, List.length_cons, List.length_nil, Nat.zero_add]
                        rw [List.take_add_one, hinvk, hidk2]
                        simp only [Option.toList_some, List.append_cancel_left_eq, List.cons.injEq, and_true]
                        omega
                        all_goals (dsimp only; simp only [List.length_cons]; omega)
                    · first
                    | (first | omega | contradiction)
                    | refine Ev.exit ?_
                      refine hR2 _ _ ?_
                      show Ev _ _ _ _
                      have hfin : s = s2 := bar_eq (by first | assumption | omega) (by omega) (by omega) (by omega) (hinvk.symm.trans (List.take_of_length_le (by omega)))
                      refine Ev.region_S fun K hK => S.o q.mv (S.o q.add (S.o q.as (S.end (hK _ ?_))))
                      clear hK K
                      refine hR0 _ _ ?_
                      refine roundU [] [0, 1] ⟨(pre ++ [s], suf), by rw [← hp]; simp, ?_⟩ ?_ keep_n (slots_c (he := (by first | rfl | (simp; done) | (congr 2; omega))) (h := trivial)) (.c (.c .n))
                      simp only [List.length_append, List.length_cons, List.length_nil, Nat.zero_add]
                      rw [List.take_add_one, hinv, hidx2, hfin]
                      rfl
                      all_goals (dsimp only; simp only [List.length_cons]; omega)
                  · simp only [List.length_cons] at hplk
                    have hidk : s.dims[prek.length]? = some sk := by rw [← hpk]; simp
                    obtain ⟨sk2, hidk2⟩ : ∃ sk2, s2.dims[prek.length]? = some sk2 := ⟨_, List.getElem?_eq_getElem (by omega)⟩
                    refine Ev.seq ?_
                    refine Ev.sr fun K hK => S.o q.mv (S.o (q.fa 4 am_fi43_4 am_cl41) (S.o (q.lv am_ag41) (S.o (q.lens am_el41) (S.o q.lss (S.end (hK _ ?_))))))
                    clear hK K
                    refine Ev.cd (fun c20 => ?_) (fun c20 => ?_)
                    · first
                    | (first | omega | contradiction)
                    | refine Ev.skip ?_
                      show Ev _ _ _ _
                      refine Ev.seq ?_
                      refine Ev.block ?_
                      refine Ev.sm (tbs [(0, 0), (1, 1), (0, 0), (3, 7), (4, 15), (0, 0), (6, 32), (0, 0), (8, 224), (9, 480), (10, 1023)]) 11 fun K hK => M.o (q.fa 4 am_fi43_4 am_cl41) (M.o (q.lv am_ag41) (M.o q.mv (M.o (q.ix am_el41 am_cl3 (hl := (by first | exact ati hidx (by omega) | exact ati hidx2 (by omega) | exact ati hidk (by omega) | exact ati hidk2 (by omega) | exact atig (by omega)))) (M.o (q.ls am_ag3) (M.o (q.fa 4 am_fi43_4 am_cl41) (M.o (q.lv am_ag41) (M.o q.mv (M.o (q.ix am_el41 am_cl3 (hl := (by first | exact ati hidx (by omega) | exact ati hidx2 (by omega) | exact ati hidk (by omega) | exact ati hidk2 (by omega) | exact atig (by omega)))) (M.o (q.ls am_ag3) (M.o q.neq (M.end [_, _] (h := S.end (hK _ ?_)))))))))))))
                      clear hK K
                      refine Ev.cn (fun c21 => ?_) (fun c21 => ?_)
                      · first
                      | (first | omega | contradiction)
                      | refine Ev.sr fun K hK => S.o q.as (S.end (hK _ ?_))
                        clear hK K
                        refine Ev.ret ?_
                        refine hR2 _ _ ?_
                        refine hR0 _ _ ?_
                        refine Ev.ret1 ?_
                        refine ⟨?_, rfl⟩
                        first
                         | exact bF (fun h => by have h1 := congrArg List.length h; omega)
                         | exact bF (fun h => by have he := hxy h; subst he; first | contradiction | omega)
                         | exact bF (fun h => by have he := hxy h; subst he; rw [hidk] at hidk2; simp only [Option.some.injEq] at hidk2; omega)
                         | exact bT (bars_take hinv (by omega))
                      · first
                      | (first | omega | contradiction)
                      | refine Ev.skip ?_
                        show Ev _ _ _ _
                        refine Ev.region_S fun K hK => S.o q.mv (S.o q.add (S.o q.as (S.end (hK _ ?_))))
                        clear hK K
                        refine hR2 _ _ ?_
                        refine roundU [0, 1] [0, 1, 5, 6, 7, 14, 15, 16, 17, 20, 21, 22, 23, 24, 25, 26, 27, 28, 29, 30, 31, 32, 33, 34, 35, 36, 37, 38, 39, 40, 41, 42, 43, 44, 45, 46, 47, 48, 49, 50, 51, 52, 53, 54, 55, 56, 57, 58, 59, 60, 61, 62] ⟨(prek ++ [sk], sufk), by rw [← hpk]; simp, ?_⟩ ?_ (keep_c (he := (by first | rfl | (simp; done))) (h := (keep_c (he := (by first | rfl | (simp; done))) (h := keep_n)))) (slots_c (he := (by first | rfl | (simp; done) | (congr 2; omega))) (h := trivial)) (.c (.c (.c (.c (.c (.c (.c (.c (.c (.c (.c (.c (.c (.c (.c (.c (.c (.c (.c (.c (.c (.c (.c (.c (.c (.c (.c (.c (.c (.c (.c (.c (.c (.c (.c (.c (.c (.c (.c (.c (.c (.c (.c (.c (.c (.c (.c (.c (.c (.c (.c (.c .n))))))))))))))))))))))))))))))))))))))))))))))))))))
                        simp only [List.length_append, List.length_cons, List.length_nil, Nat.zero_add]
                        rw [List.take_add_one, hinvk, hidk2]
                        simp only [Option.toList_some, List.append_cancel_left_eq, List.cons.injEq, and_true]
                        omega
                        all_goals (dsimp only; simp only [List.length_cons]; omega)
                    · first
                    | (first | omega | contradiction)
                    | refine Ev.exit ?_
                      refine hR2 _ _ ?_
                      show Ev _ _ _ _
                      have hfin : s = s2 := bar_eq (by first | assumption | omega) (by omega) (by omega) (by omega) (hinvk.symm.trans (List.take_of_length_le (by omega)))
                      refine Ev.region_S fun K hK => S.o q.mv (S.o q.add (S.o q.as (S.end (hK _ ?_))))
                      clear hK K
                      refine hR0 _ _ ?_
                      refine roundU [] [0, 1] ⟨(pre ++ [s], suf), by rw [← hp]; simp, ?_⟩ ?_ keep_n (slots_c (he := (by first | rfl | (simp; done) | (congr 2; omega))) (h := trivial)) (.c (.c .n))
                      simp only [List.length_append, List.length_cons, List.length_nil, Nat.zero_add]
                      rw [List.take_add_one, hinv, hidx2, hfin]
                      rfl
                      all_goals (dsimp only; simp only [List.length_cons]; omega)
      · first
      | (first | omega | contradiction)
      | refine Ev.exit ?_
        refine hR0 _ _ ?_
        show Ev _ _ _ _
        refine Ev.sr fun K hK => S.o q.as (S.end (hK _ ?_))
        clear hK K
        refine Ev.ret ?_
        refine Ev.ret1 ?_
        refine ⟨?_, rfl⟩
        first
         | exact bF (fun h => by have h1 := congrArg List.length h; omega)
         | exact bF (fun h => by have he := hxy h; subst he; first | contradiction | omega)
         | exact bF (fun h => by have he := hxy h; subst he; rw [hidk] at hidk2; simp only [Option.some.injEq] at hidk2; omega)
         | exact bT (bars_take hinv (by omega))
end Go.Proofs.Ytccddakkegelkaa
