/-
  The example of the chapter.
  Conditions: none.
-/
import Derived.Test.YtckahagagfmpbaaSo4
import Derived.Test.YtckahagagfmpbaaSo5
namespace Go.Proofs.Ytckahagagfmpbaa
open Go Go.AM
set_option linter.unusedSimpArgs false
set_option linter.unusedVariables false
set_option maxRecDepth 100000
set_option maxHeartbeats 1000000
theorem eqPc_fun (a b : List (Int × Int)) (ha : a.length ≤ 140737488355328) (hb : b.length ≤ 140737488355328) : Fun Try.prog 30 [.sh 2 (a.map pairC), .sh 2 (b.map pairC)] (Ret (.lit (.bool (decide (a = b)))) []) := by
  refine Fun.of (nt := 26) (rs := [.tmp 4]) Try.func30 rfl rfl rfl rfl rfl ?_
  refine Ev.sr fun K hK => S.o q.as (S.end (hK _ ?_))
  clear hK K
  refine Ev.seq ?_
  refine Ev.sr fun K hK => S.o q.mv (S.o (q.lens am_el23) (S.o q.mv (S.o (q.lens am_el23) (S.o q.neq (S.end (hK _ ?_))))))
  clear hK K
  refine Ev.cn (fun c1 => ?_) (fun c1 => ?_)
  · first
  | (first | omega | contradiction)
  | refine Ev.sr fun K hK => S.o q.as (S.end (hK _ ?_))
    clear hK K
    refine Ev.ret ?_
    refine Ev.ret1 ?_
    refine ⟨?_, rfl⟩
    first
     | exact bF (fun h => by subst h; omega)
     | exact bF (fun h => by subst h; rw [hidx] at hidx2; cases hidx2; simp at *)
     | exact bT (hinv.symm.trans (List.take_of_length_le (by omega)))
  · first
  | (first | omega | contradiction)
  | refine Ev.skip ?_
    show Ev _ _ _ _
    refine Ev.seq ?_
    refine Ev.sr fun K hK => S.o q.mv (S.o (q.lens am_el23) (S.o q.mv (S.end (hK _ ?_))))
    clear hK K
    refine Ev.block ?_
    refine Ev.loopU (ι := {q : List (Int × Int) × List (Int × Int) // q.1 ++ q.2 = a ∧ b.take q.1.length = q.1}) [] [0, 1, 12] (fun ⟨(pre, suf), _⟩ => [(13, .lit (.int .i64 ((pre.length : Int))))]) (fun ⟨(pre, suf), _⟩ => []) (fun ⟨(pre, suf), _⟩ => suf.length) ⟨([], a), rfl, rfl⟩ (.c (.c (.c .n))) keep_n (slots_c (he := (by first | rfl | (simp; done) | (congr 2; omega))) (h := trivial)) ?_
    rintro ⟨⟨pre, suf⟩, hp, hinv⟩ R0 hR0
    dsimp only [List.cons_append, List.nil_append, List.length_cons, List.length_nil]
    simp only at hp hinv
    have hpl : pre.length + suf.length = (a).length := by rw [← hp, List.length_append]
    rcases suf with _ | ⟨s, suf⟩
    · rw [List.append_nil] at hp; subst hp; simp only [List.length_nil] at hpl
      refine Ev.sr fun K hK => S.o q.lss (S.end (hK _ ?_))
      clear hK K
      refine Ev.ud (fun c2 => ?_) (fun c2 => ?_)
      · first
      | (first | omega | contradiction)
      | refine Ev.seq ?_
        refine Ev.block ?_
        refine Ev.sr fun K hK => S.o q.mv (S.o q.as (S.end (hK _ ?_)))
        clear hK K
        refine Ev.sm (tbs [(0, 0), (0, 0), (2, 3), (3, 7), (0, 0), (0, 0), (6, 48), (7, 112), (8, 255)]) 9 fun K hK => M.o q.mv (M.o q.mv (M.o (q.ix am_el23 am_cl40 (hl := (by first | exact atig (by omega)))) (M.o (q.lsA [_, _] am_ag40 am_cl40) (M.o q.mv (M.o q.mv (M.o (q.ix am_el23 am_cl40 (hl := (by first | exact atig (by omega)))) (M.o (q.lsA [_, _] am_ag40 am_cl40) (M.o (q.sneq am_eq40 (am_sq40 _ _ _ _)) (M.end [] (h := S.end (hK _ ?_)))))))))))
        clear hK K
        refine Ev.c (fun c3 => ?_) (fun c3 => ?_)
        · first
        | (first | omega | contradiction)
        | refine Ev.sr fun K hK => S.o q.as (S.end (hK _ ?_))
          clear hK K
          refine Ev.ret ?_
          refine hR0 _ _ ?_
          refine Ev.ret1 ?_
          refine ⟨?_, rfl⟩
          first
           | exact bF (fun h => by subst h; omega)
           | exact bF (fun h => by subst h; rw [hidx] at hidx2; cases hidx2; simp at *)
           | exact bT (hinv.symm.trans (List.take_of_length_le (by omega)))
        · first
        | (first | omega | contradiction)
        | refine Ev.skip ?_
          show Ev _ _ _ _
          refine Ev.region_S fun K hK => S.o q.add (S.o q.mv (S.end (hK _ ?_)))
          clear hK K
          refine hR0 _ _ ?_
          refine roundU [] [0, 1, 12] ⟨(pre ++ [s], suf), by rw [← hp]; simp, ?_⟩ ?_ keep_n (slots_c (he := (by first | rfl | (simp; done) | (congr 2; omega))) (h := trivial)) (.c (.c (.c .n)))
          simp only [List.length_append, List.length_cons, List.length_nil, Nat.zero_add]
          rw [List.take_add_one, hinv, hidx2]
          simp at *
          obtain ⟨x1, x2⟩ := s
          obtain ⟨y1, y2⟩ := s2
          simp_all
          all_goals (dsimp only; simp only [List.length_cons]; omega)
      · first
      | (first | omega | contradiction)
      | refine Ev.exit ?_
        refine hR0 _ _ ?_
        show Ev _ _ _ _
        refine Ev.sr fun K hK => S.o q.as (S.end (hK _ ?_))
        clear hK K
        refine Ev.ret ?_
        refine Ev.ret1 ?_
        refine ⟨?_, rfl⟩
        first
         | exact bF (fun h => by subst h; omega)
         | exact bF (fun h => by subst h; rw [hidx] at hidx2; cases hidx2; simp at *)
         | exact bT (hinv.symm.trans (List.take_of_length_le (by omega)))
    · simp only [List.length_cons] at hpl
      have hidx : (a)[pre.length]? = some s := by rw [← hp]; simp
      obtain ⟨s2, hidx2⟩ : ∃ s2, b[pre.length]? = some s2 := ⟨_, List.getElem?_eq_getElem (by omega)⟩
      refine Ev.sr fun K hK => S.o q.lss (S.end (hK _ ?_))
      clear hK K
      refine Ev.ud (fun c4 => ?_) (fun c4 => ?_)
      · first
      | (first | omega | contradiction)
      | refine Ev.seq ?_
        refine Ev.block ?_
        refine Ev.sr fun K hK => S.o q.mv (S.o q.as (S.end (hK _ ?_)))
        clear hK K
        refine Ev.sm (tbs [(0, 0), (0, 0), (2, 3), (3, 7), (0, 0), (0, 0), (6, 48), (7, 112), (8, 255)]) 9 fun K hK => M.o q.mv (M.o q.mv (M.o (q.ix am_el23 am_cl40 (hl := (by first | exact ati hidx (by omega) | exact ati hidx2 (by omega) | exact atig (by omega)))) (M.o (q.lsA [_, _] am_ag40 am_cl40) (M.o q.mv (M.o q.mv (M.o (q.ix am_el23 am_cl40 (hl := (by first | exact ati hidx (by omega) | exact ati hidx2 (by omega) | exact atig (by omega)))) (M.o (q.lsA [_, _] am_ag40 am_cl40) (M.o (q.sneq am_eq40 (am_sq40 _ _ _ _)) (M.end [] (h := S.end (hK _ ?_)))))))))))
        clear hK K
        refine Ev.c (fun c5 => ?_) (fun c5 => ?_)
        · first
        | (first | omega | contradiction)
        | refine Ev.sr fun K hK => S.o q.as (S.end (hK _ ?_))
          clear hK K
          refine Ev.ret ?_
          refine hR0 _ _ ?_
          refine Ev.ret1 ?_
          refine ⟨?_, rfl⟩
          first
           | exact bF (fun h => by subst h; omega)
           | exact bF (fun h => by subst h; rw [hidx] at hidx2; cases hidx2; simp at *)
           | exact bT (hinv.symm.trans (List.take_of_length_le (by omega)))
        · first
        | (first | omega | contradiction)
        | refine Ev.skip ?_
          show Ev _ _ _ _
          refine Ev.region_S fun K hK => S.o q.add (S.o q.mv (S.end (hK _ ?_)))
          clear hK K
          refine hR0 _ _ ?_
          refine roundU [] [0, 1, 12] ⟨(pre ++ [s], suf), by rw [← hp]; simp, ?_⟩ ?_ keep_n (slots_c (he := (by first | rfl | (simp; done) | (congr 2; omega))) (h := trivial)) (.c (.c (.c .n)))
          simp only [List.length_append, List.length_cons, List.length_nil, Nat.zero_add]
          rw [List.take_add_one, hinv, hidx2]
          simp at *
          obtain ⟨x1, x2⟩ := s
          obtain ⟨y1, y2⟩ := s2
          simp_all
          all_goals (dsimp only; simp only [List.length_cons]; omega)
      · first
      | (first | omega | contradiction)
      | refine Ev.exit ?_
        refine hR0 _ _ ?_
        show Ev _ _ _ _
        refine Ev.sr fun K hK => S.o q.as (S.end (hK _ ?_))
        clear hK K
        refine Ev.ret ?_
        refine Ev.ret1 ?_
        refine ⟨?_, rfl⟩
        first
         | exact bF (fun h => by subst h; omega)
         | exact bF (fun h => by subst h; rw [hidx] at hidx2; cases hidx2; simp at *)
         | exact bT (hinv.symm.trans (List.take_of_length_le (by omega)))
theorem rSame_fun (a b : List (Int × Int)) (ha : a.length ≤ 140737488355328) (hb : b.length ≤ 140737488355328) : Fun Try.prog 28 [.sh 2 (a.map pairC), .sh 2 (b.map pairC)] (Ret (.lit (.bool (decide (a = b)))) []) := by
  refine Fun.of (nt := 26) (rs := [.tmp 4]) Try.func28 rfl rfl rfl rfl rfl ?_
  refine Ev.sr fun K hK => S.o q.as (S.end (hK _ ?_))
  clear hK K
  refine Ev.seq ?_
  refine Ev.sr fun K hK => S.o q.mv (S.o (q.lens am_el23) (S.o q.mv (S.o (q.lens am_el23) (S.o q.neq (S.end (hK _ ?_))))))
  clear hK K
  refine Ev.cn (fun c1 => ?_) (fun c1 => ?_)
  · first
  | (first | omega | contradiction)
  | refine Ev.sr fun K hK => S.o q.as (S.end (hK _ ?_))
    clear hK K
    refine Ev.ret ?_
    refine Ev.ret1 ?_
    refine ⟨?_, rfl⟩
    first
     | exact bF (fun h => by subst h; omega)
     | exact bF (fun h => by subst h; rw [hidx] at hidx2; cases hidx2; simp at *)
     | exact bT (hinv.symm.trans (List.take_of_length_le (by omega)))
  · first
  | (first | omega | contradiction)
  | refine Ev.skip ?_
    show Ev _ _ _ _
    refine Ev.seq ?_
    refine Ev.sr fun K hK => S.o q.as (S.end (hK _ ?_))
    clear hK K
    refine Ev.block ?_
    refine Ev.loopU (ι := {q : List (Int × Int) × List (Int × Int) // q.1 ++ q.2 = a ∧ b.take q.1.length = q.1}) [] [0, 1] (fun ⟨(pre, suf), _⟩ => [(5, .lit (.int .i64 ((pre.length : Int))))]) (fun ⟨(pre, suf), _⟩ => []) (fun ⟨(pre, suf), _⟩ => suf.length) ⟨([], a), rfl, rfl⟩ (.c (.c .n)) keep_n (slots_c (he := (by first | rfl | (simp; done) | (congr 2; omega))) (h := trivial)) ?_
    rintro ⟨⟨pre, suf⟩, hp, hinv⟩ R0 hR0
    dsimp only [List.cons_append, List.nil_append, List.length_cons, List.length_nil]
    simp only at hp hinv
    have hpl : pre.length + suf.length = (a).length := by rw [← hp, List.length_append]
    rcases suf with _ | ⟨s, suf⟩
    · rw [List.append_nil] at hp; subst pre; simp only [List.length_nil] at hpl
      refine Ev.seq ?_
      refine Ev.sr fun K hK => S.o q.mv (S.o q.mv (S.o (q.lens am_el23) (S.o q.lss (S.end (hK _ ?_)))))
      clear hK K
      refine Ev.cd (fun c2 => ?_) (fun c2 => ?_)
      · first
      | (first | omega | contradiction)
      | refine Ev.skip ?_
        show Ev _ _ _ _
        refine Ev.seq ?_
        refine Ev.block ?_
        refine Ev.sm (tbs [(0, 0), (0, 0), (2, 3), (3, 7), (0, 0), (0, 0), (6, 48), (7, 112), (8, 255)]) 9 fun K hK => M.o q.mv (M.o q.mv (M.o (q.ix am_el23 am_cl40 (hl := (by first | exact atig (by omega)))) (M.o (q.lsA [_, _] am_ag40 am_cl40) (M.o q.mv (M.o q.mv (M.o (q.ix am_el23 am_cl40 (hl := (by first | exact atig (by omega)))) (M.o (q.lsA [_, _] am_ag40 am_cl40) (M.o (q.sneq am_eq40 (am_sq40 _ _ _ _)) (M.end [] (h := S.end (hK _ ?_)))))))))))
        clear hK K
        refine Ev.c (fun c3 => ?_) (fun c3 => ?_)
        · first
        | (first | omega | contradiction)
        | refine Ev.sr fun K hK => S.o q.as (S.end (hK _ ?_))
          clear hK K
          refine Ev.ret ?_
          refine hR0 _ _ ?_
          refine Ev.ret1 ?_
          refine ⟨?_, rfl⟩
          first
           | exact bF (fun h => by subst h; omega)
           | exact bF (fun h => by subst h; rw [hidx] at hidx2; cases hidx2; simp at *)
           | exact bT (hinv.symm.trans (List.take_of_length_le (by omega)))
        · first
        | (first | omega | contradiction)
        | refine Ev.skip ?_
          show Ev _ _ _ _
          refine Ev.region_S fun K hK => S.o q.mv (S.o q.add (S.o q.as (S.end (hK _ ?_))))
          clear hK K
          refine hR0 _ _ ?_
          refine roundU [] [0, 1] ⟨(pre ++ [s], suf), by rw [← hp]; simp, ?_⟩ ?_ keep_n (slots_c (he := (by first | rfl | (simp; done) | (congr 2; omega))) (h := trivial)) (.c (.c .n))
          simp only [List.length_append, List.length_cons, List.length_nil, Nat.zero_add]
          rw [List.take_add_one, hinv, hidx2]
          simp at *
          obtain ⟨x1, x2⟩ := s
          obtain ⟨y1, y2⟩ := s2
          simp_all
          all_goals (dsimp only; simp only [List.length_cons]; omega)
      · first
      | (first | omega | contradiction)
      | refine Ev.exit ?_
        refine hR0 _ _ ?_
        show Ev _ _ _ _
        refine Ev.sr fun K hK => S.o q.as (S.end (hK _ ?_))
        clear hK K
        refine Ev.ret ?_
        refine Ev.ret1 ?_
        refine ⟨?_, rfl⟩
        first
         | exact bF (fun h => by subst h; omega)
         | exact bF (fun h => by subst h; rw [hidx] at hidx2; cases hidx2; simp at *)
         | exact bT (hinv.symm.trans (List.take_of_length_le (by omega)))
    · simp only [List.length_cons] at hpl
      have hidx : (a)[pre.length]? = some s := by rw [← hp]; simp
      obtain ⟨s2, hidx2⟩ : ∃ s2, b[pre.length]? = some s2 := ⟨_, List.getElem?_eq_getElem (by omega)⟩
      refine Ev.seq ?_
      refine Ev.sr fun K hK => S.o q.mv (S.o q.mv (S.o (q.lens am_el23) (S.o q.lss (S.end (hK _ ?_)))))
      clear hK K
      refine Ev.cd (fun c4 => ?_) (fun c4 => ?_)
      · first
      | (first | omega | contradiction)
      | refine Ev.skip ?_
        show Ev _ _ _ _
        refine Ev.seq ?_
        refine Ev.block ?_
        refine Ev.sm (tbs [(0, 0), (0, 0), (2, 3), (3, 7), (0, 0), (0, 0), (6, 48), (7, 112), (8, 255)]) 9 fun K hK => M.o q.mv (M.o q.mv (M.o (q.ix am_el23 am_cl40 (hl := (by first | exact ati hidx (by omega) | exact ati hidx2 (by omega) | exact atig (by omega)))) (M.o (q.lsA [_, _] am_ag40 am_cl40) (M.o q.mv (M.o q.mv (M.o (q.ix am_el23 am_cl40 (hl := (by first | exact ati hidx (by omega) | exact ati hidx2 (by omega) | exact atig (by omega)))) (M.o (q.lsA [_, _] am_ag40 am_cl40) (M.o (q.sneq am_eq40 (am_sq40 _ _ _ _)) (M.end [] (h := S.end (hK _ ?_)))))))))))
        clear hK K
        refine Ev.c (fun c5 => ?_) (fun c5 => ?_)
        · first
        | (first | omega | contradiction)
        | refine Ev.sr fun K hK => S.o q.as (S.end (hK _ ?_))
          clear hK K
          refine Ev.ret ?_
          refine hR0 _ _ ?_
          refine Ev.ret1 ?_
          refine ⟨?_, rfl⟩
          first
           | exact bF (fun h => by subst h; omega)
           | exact bF (fun h => by subst h; rw [hidx] at hidx2; cases hidx2; simp at *)
           | exact bT (hinv.symm.trans (List.take_of_length_le (by omega)))
        · first
        | (first | omega | contradiction)
        | refine Ev.skip ?_
          show Ev _ _ _ _
          refine Ev.region_S fun K hK => S.o q.mv (S.o q.add (S.o q.as (S.end (hK _ ?_))))
          clear hK K
          refine hR0 _ _ ?_
          refine roundU [] [0, 1] ⟨(pre ++ [s], suf), by rw [← hp]; simp, ?_⟩ ?_ keep_n (slots_c (he := (by first | rfl | (simp; done) | (congr 2; omega))) (h := trivial)) (.c (.c .n))
          simp only [List.length_append, List.length_cons, List.length_nil, Nat.zero_add]
          rw [List.take_add_one, hinv, hidx2]
          simp at *
          obtain ⟨x1, x2⟩ := s
          obtain ⟨y1, y2⟩ := s2
          simp_all
          all_goals (dsimp only; simp only [List.length_cons]; omega)
      · first
      | (first | omega | contradiction)
      | refine Ev.exit ?_
        refine hR0 _ _ ?_
        show Ev _ _ _ _
        refine Ev.sr fun K hK => S.o q.as (S.end (hK _ ?_))
        clear hK K
        refine Ev.ret ?_
        refine Ev.ret1 ?_
        refine ⟨?_, rfl⟩
        first
         | exact bF (fun h => by subst h; omega)
         | exact bF (fun h => by subst h; rw [hidx] at hidx2; cases hidx2; simp at *)
         | exact bT (hinv.symm.trans (List.take_of_length_le (by omega)))

theorem rMerge_fun (a b : List (Int × Int)) (ha : okOrd a) (hb : okOrd b) : Fun Try.prog 29 [.sh 2 (a.map pairC), .sh 2 (b.map pairC)] (Ret (.tup [.sh 2 ((mgV1 (a ++ b)).map pairC), .lit (.int .i64 (mgE1 (a ++ b)))]) []) := by
  obtain ⟨hok2, hln2⟩ := ok2 ha hb
  have hal := ha.1
  have hbl := hb.1
  have hsl := shV_len hok2
  refine Fun.of (nt := 24) (rs := [.tmp 4, .tmp 5]) Try.func29 rfl rfl rfl rfl rfl ?_
  refine Ev.sr fun K hK => S.o q.as (S.o q.as (S.end (hK _ ?_)))
  clear hK K
  refine Ev.sr fun K hK => S.nn (v := .als 0 0 ([] : List (Int × Int)).length) (o := ⟨true, 40, 2, ([] : List (Int × Int)).map pairC, true⟩) (q.bs [] true am_el23 am_ze40 am_cl40) (S.o q.mv (S.ap' [] am_el23 am_ze40 am_cl40 am_by40 (hh := head_own') (hr := rows_sh) (h := S.o q.mv (S.ap' [] am_el23 am_ze40 am_cl40 am_by40 (hh := head_own') (hr := rows_sh) (h := ?_)))))
  refine SeqL.weaken (Wk.frz 13 []) ?_
  refine S.c0 (hF := rShort_fun (a ++ b) hok2 hln2) (h := S.o q.mv (S.o q.ex (S.o q.ex (S.o q.as (S.o q.as (S.end (hK _ ?_)))))))
  clear hK K
  refine Ev.seq ?_
  refine Ev.sr fun K hK => S.o q.mv (S.o q.neq (S.end (hK _ ?_)))
  clear hK K
  refine Ev.cn (fun c1 => ?_) (fun c1 => ?_)
  · first
  | (first | omega | contradiction)
  | refine Ev.sr fun K hK => S.o q.mv (S.o q.as (S.o q.as (S.end (hK _ ?_))))
    clear hK K
    refine Ev.weaken (Wk.nsh pairC 4 2) ?_
    refine Ev.ret ?_
    refine Ev.ret2 ?_
    refine ⟨?_, rfl⟩
    first
     | (rw [(mg_bad ‹_›).1, (mg_bad ‹_›).2]; done)
     | (rw [(mg_full (by omega) (by omega)).1, (mg_full (by omega) (by omega)).2]; done)
     | (rw [(mg_good (by omega) (by omega)).1, (mg_good (by omega) (by omega)).2]; done)
  · first
  | (first | omega | contradiction)
  | refine Ev.skip ?_
    show Ev _ _ _ _
    refine Ev.seq ?_
    refine Ev.sr fun K hK => S.o q.mv (S.o (q.lens am_el23) (S.o q.gtr (S.end (hK _ ?_))))
    clear hK K
    refine Ev.cd (fun c2 => ?_) (fun c2 => ?_)
    · first
    | (first | omega | contradiction)
    | refine Ev.sr fun K hK => S.o q.as (S.o q.as (S.end (hK _ ?_)))
      clear hK K
      refine Ev.weaken (Wk.nsh pairC 4 2) ?_
      refine Ev.ret ?_
      refine Ev.ret2 ?_
      refine ⟨?_, rfl⟩
      first
       | (rw [(mg_bad ‹_›).1, (mg_bad ‹_›).2]; done)
       | (rw [(mg_full (by omega) (by omega)).1, (mg_full (by omega) (by omega)).2]; done)
       | (rw [(mg_good (by omega) (by omega)).1, (mg_good (by omega) (by omega)).2]; done)
    · first
    | (first | omega | contradiction)
    | refine Ev.skip ?_
      show Ev _ _ _ _
      refine Ev.sr fun K hK => S.o q.mv (S.o q.as (S.o q.as (S.end (hK _ ?_))))
      clear hK K
      refine Ev.ret ?_
      refine Ev.ret2 ?_
      refine ⟨?_, rfl⟩
      first
       | (rw [(mg_bad ‹_›).1, (mg_bad ‹_›).2]; done)
       | (rw [(mg_full (by omega) (by omega)).1, (mg_full (by omega) (by omega)).2]; done)
       | (rw [(mg_good (by omega) (by omega)).1, (mg_good (by omega) (by omega)).2]; done)
theorem indexValPcs (g : FuncId) (p : List (Int × Int) → Bool) (l : List (List (Int × Int))) (hg : ∀ s ∈ l, Fun Try.prog g [(pcsC s).headD .top] (Ret (.lit (.bool (p s))) [])) (hlen : l.length ≤ 140737488355328) :
    Fun Try.prog 53 [.sh 1 (l.map pcsC), .fn (.func g) [] []] (Ret (.lit (.int .i64 (idxP p l 0))) []) := by
  refine Fun.of (nt := 19) (rs := [.tmp 4]) Try.func53 rfl rfl rfl rfl rfl ?_
  refine Ev.sr fun K hK => S.o q.as (S.end (hK _ ?_))
  clear hK K
  refine Ev.seq ?_
  refine Ev.sr fun K hK => S.o q.mv (S.o (q.lens am_el59) (S.o q.mv (S.end (hK _ ?_))))
  clear hK K
  refine Ev.block ?_
  refine Ev.loopU (ι := {q : List (List (Int × Int)) × List (List (Int × Int)) // q.1 ++ q.2 = l ∧ ∀ x ∈ q.1, p x = false}) [] [0, 1, 7] (fun ⟨(pre, suf), _⟩ => [(8, .lit (.int .i64 ((pre.length : Int))))]) (fun ⟨(pre, suf), _⟩ => []) (fun ⟨(pre, suf), _⟩ => suf.length) ⟨([], l), rfl, fun x hx => by simp at hx⟩ (.c (.c (.c .n))) keep_n (slots_c (he := (by first | rfl | (simp; done) | (congr 2; omega))) (h := trivial)) ?_
  rintro ⟨⟨pre, suf⟩, hp, hinv⟩ R0 hR0
  dsimp only [List.cons_append, List.nil_append, List.length_cons, List.length_nil]
  simp only at hp hinv
  have hpl : pre.length + suf.length = (l).length := by rw [← hp, List.length_append]
  rcases suf with _ | ⟨s, suf⟩
  · rw [List.append_nil] at hp; subst hp; simp only [List.length_nil] at hpl
    refine Ev.sr fun K hK => S.o q.lss (S.end (hK _ ?_))
    clear hK K
    refine Ev.ud (fun c1 => ?_) (fun c1 => ?_)
    · first | omega | contradiction
    · first
    | (first | omega | contradiction)
    | refine Ev.exit ?_
      refine hR0 _ _ ?_
      show Ev _ _ _ _
      refine Ev.sr fun K hK => S.o q.as (S.end (hK _ ?_))
      clear hK K
      refine Ev.ret ?_
      refine Ev.ret1 ?_
      refine ⟨?_, rfl⟩
      first | (congr 2; rw [← hp, idxP_append p pre _ 0 hinv, idxP, if_pos ‹_›]; omega) | (congr 2; rw [idxP_none p pre 0 hinv])
  · simp only [List.length_cons] at hpl
    have hidx : (l)[pre.length]? = some s := by rw [← hp]; simp
    refine Ev.sr fun K hK => S.o q.lss (S.end (hK _ ?_))
    clear hK K
    refine Ev.ud (fun c2 => ?_) (fun c2 => ?_)
    · first
    | (first | omega | contradiction)
    | refine Ev.seq ?_
      refine Ev.block ?_
      refine Ev.sr fun K hK => S.o q.mv (S.o q.as (S.end (hK _ ?_)))
      clear hK K
      refine Ev.sr fun K hK => S.o q.mv (S.o q.mv (S.o q.mv (S.o (q.ix am_el59 am_cl23 (hl := (by first | exact ati hidx (by omega) | exact atig (by omega)))) (S.o (q.ls am_ag23) (S.c0 (hF := hg s (by rw [← hp]; simp)) (h := S.end (hK _ ?_)))))))
      clear hK K
      refine Ev.c (fun c3 => ?_) (fun c3 => ?_)
      · first
      | (first | omega | contradiction)
      | refine Ev.sr fun K hK => S.o q.mv (S.o q.as (S.end (hK _ ?_)))
        clear hK K
        refine Ev.ret ?_
        refine hR0 _ _ ?_
        refine Ev.ret1 ?_
        refine ⟨?_, rfl⟩
        first | (congr 2; rw [← hp, idxP_append p pre _ 0 hinv, idxP, if_pos ‹_›]; omega) | (congr 2; rw [idxP_none p pre 0 hinv])
      · first
      | (first | omega | contradiction)
      | refine Ev.skip ?_
        show Ev _ _ _ _
        refine Ev.region_S fun K hK => S.o q.add (S.o q.mv (S.end (hK _ ?_)))
        clear hK K
        refine hR0 _ _ ?_
        refine roundU [] [0, 1, 7] ⟨(pre ++ [s], suf), by rw [← hp]; simp, ?_⟩ ?_ keep_n (slots_c (he := (by first | rfl | (simp; done) | (congr 2; omega))) (h := trivial)) (.c (.c (.c .n)))
        intro x hx; simp only [List.mem_append, List.mem_singleton] at hx; rcases hx with hx | rfl
        · exact hinv x hx
        · assumption
        all_goals (dsimp only; simp only [List.length_cons]; omega)
    · first | omega | contradiction
theorem containsValPcs (g : FuncId) (p : List (Int × Int) → Bool) (l : List (List (Int × Int))) (hg : ∀ s ∈ l, Fun Try.prog g [(pcsC s).headD .top] (Ret (.lit (.bool (p s))) [])) (hlen : l.length ≤ 140737488355328) :
    Fun Try.prog 38 [.sh 1 (l.map pcsC), .fn (.func g) [] []] (Ret (.lit (.bool (decide (∃ x ∈ l, p x = true)))) []) := by
  have hd : (decide (∃ x ∈ l, p x = true)) = decide (0 ≤ idxP p l 0) := by simp only [idxP_nonneg p l 0 (Int.le_refl _)]
  rw [hd]
  refine Fun.of (nt := 9) (rs := [.tmp 4]) Try.func38 rfl rfl rfl rfl rfl ?_
  refine Ev.sr fun K hK => S.o q.as (S.end (hK _ ?_))
  clear hK K
  refine Ev.sr fun K hK => S.o q.mv (S.o q.mv (S.c0 (hF := indexValPcs g p l hg hlen) (h := S.o q.geq (S.o q.as (S.end (hK _ ?_))))))
  clear hK K
  refine Ev.ret ?_
  refine Ev.ret1 ?_
  refine ⟨?_, rfl⟩
  rfl

theorem few1_fun (x : List (Int × Int)) (hx : x.length ≤ 140737488355328) : Fun Try.prog 39 [.sh 2 (x.map pairC)] (Ret (.lit (.bool (decide (220 < (x.length : Int))))) []) := by
  refine Fun.of (nt := 6) (rs := [.tmp 2]) Try.func39 rfl rfl rfl rfl rfl ?_
  refine Ev.sr fun K hK => S.o q.as (S.end (hK _ ?_))
  clear hK K
  refine Ev.sr fun K hK => S.o q.mv (S.o (q.lens am_el23) (S.o q.gtr (S.o q.as (S.end (hK _ ?_)))))
  clear hK K
  refine Ev.ret ?_
  refine Ev.ret1 ?_
  refine ⟨?_, rfl⟩
  rfl

theorem few_eq (ls : List (List (Int × Int))) : (!decide (∃ x ∈ ls, decide (220 < (x.length : Int)) = true)) = decide (∀ x ∈ ls, x.length ≤ 220) := by
  by_cases h : ∀ x ∈ ls, x.length ≤ 220
  · rw [decide_eq_true h, decide_eq_false]
    · rfl
    · rintro ⟨x, hx, e⟩
      have := h x hx
      have := of_decide_eq_true e
      omega
  · rw [decide_eq_false h, decide_eq_true]
    · rfl
    · exact Classical.byContradiction fun h' => h fun x hx => Classical.byContradiction fun h2 => h' ⟨x, hx, decide_eq_true (by omega)⟩
theorem few_fun (ls : List (List (Int × Int))) (hn : ls.length ≤ 100) (hl : ∀ x ∈ ls, x.length ≤ 140737488355328) : Fun Try.prog 10 [.sh 1 (ls.map pcsC)] (Ret (.lit (.bool (decide (∀ x ∈ ls, x.length ≤ 220)))) []) := by
  refine Fun.of (nt := 6) (rs := [.tmp 2]) Try.func10 rfl rfl rfl rfl rfl ?_
  refine Ev.sr fun K hK => S.o q.as (S.end (hK _ ?_))
  clear hK K
  refine Ev.sr fun K hK => S.o q.mv (S.c0 (hF := containsValPcs _ (fun x => decide (220 < (x.length : Int))) ls (fun s hs => few1_fun s (hl s hs)) (by omega)) (h := S.o q.not (S.o q.as (S.end (hK _ ?_)))))
  clear hK K
  refine Ev.ret ?_
  refine Ev.ret1 ?_
  refine ⟨?_, rfl⟩
  (rw [few_eq]; done)

def exO : List (Int × Int) := [(300, 2), (500, 1), (300, 3)]
theorem example_fun : Fun Try.prog 37 [] (Ret (.sh 2 (exO.map pairC)) []) := by
  refine Fun.of (nt := 5) (rs := [.tmp 0]) Try.func37 rfl rfl rfl rfl rfl ?_
  refine Ev.sr fun K hK => S.o q.as (S.end (hK _ ?_))
  clear hK K
  refine Ev.sr fun K hK => S.o (q.bd [_, _] am_ze40 am_pl40) (S.o (q.bd [_, _] am_ze40 am_pl40) (S.o (q.bd [_, _] am_ze40 am_pl40) (S.nn (q.bs [[_, _], [_, _], [_, _]] true am_el23 am_ze40 am_cl40) (S.o q.as (S.end (hK _ ?_))))))
  clear hK K
  refine Ev.weaken (Wk.frzl (f := pairC) [(⟨_, _⟩ : Int × Int), (⟨_, _⟩ : Int × Int), (⟨_, _⟩ : Int × Int)] 0 []) ?_
  refine Ev.ret ?_
  refine Ev.ret1 ?_
  refine ⟨?_, rfl⟩
  rfl

theorem ex_ok : okOrd exO := by decide
theorem ex_sk : skP exO = [(500, 1), (300, 5)] := by
  have a1 : skMax exO 1048577 = 500 := by decide
  have a2 : skMax exO 500 = 300 := by decide
  have a3 : skMax exO 300 = 0 := by decide
  have c1 : skCnt exO 500 = 1 := by decide
  have c2 : skCnt exO 300 = 5 := by decide
  rw [skP, skAt_cons (by rw [a1]; decide), a1, c1, skAt_cons (by rw [a2]; decide), a2, c2, skAt_nil a3]
theorem ex_sh : (if okOrd exO then shV exO else []) = [(500, 1), (300, 5)] ∧ (if okOrd exO then shE exO else 1) = 0 := by
  have hg : ∀ p ∈ skP exO, p.2 ≤ 1000000 := by rw [ex_sk]; decide
  rw [if_pos ex_ok, if_pos ex_ok, (shV_good hg).1, (shV_good hg).2, ex_sk]
  exact ⟨rfl, rfl⟩
theorem exShort_fun : Fun Try.prog 25 [.sh 2 (exO.map pairC)] (Ret (.tup [.sh 2 ([((500 : Int), (1 : Int)), (300, 5)].map pairC), .lit (.int .i64 0)]) []) := by
  have h := stShort_fun exO (by decide)
  rwa [ex_sh.1, ex_sh.2] at h
theorem exTotal_fun : Fun Try.prog 12 [.sh 2 (exO.map pairC)] (Ret (.tup [.lit (.int .i64 2000), .lit (.int .i64 0)]) []) := by
  have h := stTotal_fun exO (by decide)
  rwa [show tlV exO = 2000 by decide, show tlE exO = 0 by decide] at h
theorem exFits_fun : Fun Try.prog 11 [.sh 2 ([((500 : Int), (-1 : Int))].map pairC), .sh 2 (exO.map pairC)] (Ret (.tup [.lit (.bool true), .lit (.int .i64 0)]) []) := by
  have h := stFits_fun [(500, -1)] exO (by decide) (by decide)
  rwa [show decide (fitV [(500, -1)] exO) = true by decide, show fitE [(500, -1)] exO = 0 by decide] at h
theorem exNot_fun : Fun Try.prog 11 [.sh 2 ([((499 : Int), (-1 : Int))].map pairC), .sh 2 (exO.map pairC)] (Ret (.tup [.lit (.bool false), .lit (.int .i64 0)]) []) := by
  have h := stFits_fun [(499, -1)] exO (by decide) (by decide)
  rwa [show decide (fitV [(499, -1)] exO) = false by decide, show fitE [(499, -1)] exO = 0 by decide] at h
theorem awake_fun : Fun Try.prog 9 [] (Ret (.lit (.bool true)) []) := by
  refine Fun.of (nt := 65) (rs := [.tmp 0]) Try.func9 rfl rfl rfl rfl rfl ?_
  refine Ev.sr fun K hK => S.o q.as (S.end (hK _ ?_))
  clear hK K
  refine Ev.sr fun K hK => S.c0 (hF := example_fun) (h := S.c0 (hF := exShort_fun) (h := S.o q.mv (S.o q.ex (S.o q.ex (S.o q.as (S.o q.as (S.end (hK _ ?_))))))))
  clear hK K
  refine Ev.sr fun K hK => S.c0 (hF := example_fun) (h := S.c0 (hF := exTotal_fun) (h := S.o q.mv (S.o q.ex (S.o q.ex (S.o q.as (S.o q.as (S.end (hK _ ?_))))))))
  clear hK K
  refine Ev.sr fun K hK => S.o (q.bd [_, _] am_ze37 am_pl37) (S.nn (q.bs [[_, _]] true am_el22 am_ze37 am_cl37) (S.c0 (hF := example_fun) (h := ?_)))
  refine SeqL.weaken (Wk.frzl (f := pairC) [(500, -1)] 21 []) ?_
  refine S.c0 (hF := exFits_fun) (h := S.o q.mv (S.o q.ex (S.o q.ex (S.o q.as (S.o q.as (S.end (hK _ ?_)))))))
  clear hK K
  refine Ev.sr fun K hK => S.o (q.bd [_, _] am_ze37 am_pl37) (S.nn (q.bs [[_, _]] true am_el22 am_ze37 am_cl37) (S.c0 (hF := example_fun) (h := ?_)))
  refine SeqL.weaken (Wk.frzl (f := pairC) [(499, -1)] 28 []) ?_
  refine S.c0 (hF := exNot_fun) (h := S.o q.mv (S.o q.ex (S.o q.ex (S.o q.as (S.o q.as (S.end (hK _ ?_)))))))
  clear hK K
  refine Ev.sr fun K hK => S.o q.mv (S.o q.eql (S.bd q.mv (fun c1 => ?_) (fun c1 => ?_)))
  · first
  | (first | omega | contradiction)
  | refine S.o q.mv (S.o (q.bd [_, _] am_ze40 am_pl40) (S.o (q.bd [_, _] am_ze40 am_pl40) (S.nn (q.bs [[_, _], [_, _]] true am_el23 am_ze40 am_cl40) (S.c0 (hF := eqPc_fun [(500, 1), (300, 5)] [(500, 1), (300, 5)] (by decide) (by decide)) (h := S.o q.pt (S.bd q.mv (fun c2 => ?_) (fun c2 => ?_)))))))
    · first
    | (first | omega | contradiction)
    | refine S.o q.mv (S.o q.eql (S.o q.pt (S.bd q.mv (fun c3 => ?_) (fun c3 => ?_))))
      · first
      | (first | omega | contradiction)
      | refine S.o q.mv (S.o q.eql (S.o q.pt (S.bd q.mv (fun c4 => ?_) (fun c4 => ?_))))
        · first
        | (first | omega | contradiction)
        | refine S.o q.mv (S.o q.eql (S.o q.pt (S.bd q.mv (fun c5 => ?_) (fun c5 => ?_))))
          · first
          | (first | omega | contradiction)
          | refine S.o q.mv (S.o q.pt (S.o q.mv (S.o q.mv (S.o q.eql (S.o q.pt (S.bd q.mv (fun c6 => ?_) (fun c6 => ?_)))))))
            · first
            | (first | omega | contradiction)
            | refine S.o q.mv (S.o q.notf (S.o q.pt (S.o q.as (S.end (hK _ ?_)))))
              clear hK K
              refine Ev.ret ?_
              refine Ev.ret1 ?_
              refine ⟨?_, rfl⟩
              first | rfl | exact lawT rfl | (exfalso; omega) | contradiction | (exfalso; simp [exO] at *; done)
            · first
            | (first | omega | contradiction)
            | refine S.sk (S.sk (S.o q.pf (S.o q.as (S.end (hK _ ?_)))))
              clear hK K
              refine Ev.ret ?_
              refine Ev.ret1 ?_
              refine ⟨?_, rfl⟩
              first | rfl | exact lawT rfl | (exfalso; omega) | contradiction | (exfalso; simp [exO] at *; done)
          · first
          | (first | omega | contradiction)
          | refine S.sk (S.o q.pf (S.o q.mv (S.sk (S.sk (S.o q.pf (S.o q.mv (S.sk (S.sk (S.o q.pf (S.o q.as (S.end (hK _ ?_))))))))))))
            clear hK K
            refine Ev.ret ?_
            refine Ev.ret1 ?_
            refine ⟨?_, rfl⟩
            first | rfl | exact lawT rfl | (exfalso; omega) | contradiction | (exfalso; simp [exO] at *; done)
        · first
        | (first | omega | contradiction)
        | refine S.sk (S.sk (S.o q.pf (S.o q.mv (S.sk (S.o q.pf (S.o q.mv (S.sk (S.sk (S.o q.pf (S.o q.mv (S.sk (S.sk (S.o q.pf (S.o q.as (S.end (hK _ ?_))))))))))))))))
          clear hK K
          refine Ev.ret ?_
          refine Ev.ret1 ?_
          refine ⟨?_, rfl⟩
          first | rfl | exact lawT rfl | (exfalso; omega) | contradiction | (exfalso; simp [exO] at *; done)
      · first
      | (first | omega | contradiction)
      | refine S.sk (S.sk (S.o q.pf (S.o q.mv (S.sk (S.sk (S.o q.pf (S.o q.mv (S.sk (S.o q.pf (S.o q.mv (S.sk (S.sk (S.o q.pf (S.o q.mv (S.sk (S.sk (S.o q.pf (S.o q.as (S.end (hK _ ?_))))))))))))))))))))
        clear hK K
        refine Ev.ret ?_
        refine Ev.ret1 ?_
        refine ⟨?_, rfl⟩
        first | rfl | exact lawT rfl | (exfalso; omega) | contradiction | (exfalso; simp [exO] at *; done)
    · first
    | (first | omega | contradiction)
    | refine S.sk (S.sk (S.o q.pf (S.o q.mv (S.sk (S.sk (S.o q.pf (S.o q.mv (S.sk (S.sk (S.o q.pf (S.o q.mv (S.sk (S.o q.pf (S.o q.mv (S.sk (S.sk (S.o q.pf (S.o q.mv (S.sk (S.sk (S.o q.pf (S.o q.as (S.end (hK _ ?_))))))))))))))))))))))))
      clear hK K
      refine Ev.ret ?_
      refine Ev.ret1 ?_
      refine ⟨?_, rfl⟩
      first | rfl | exact lawT rfl | (exfalso; omega) | contradiction | (exfalso; simp [exO] at *; done)
  · first
  | (first | omega | contradiction)
  | refine S.sk (S.sk (S.sk (S.sk (S.sk (S.o q.pf (S.o q.mv (S.sk (S.sk (S.o q.pf (S.o q.mv (S.sk (S.sk (S.o q.pf (S.o q.mv (S.sk (S.sk (S.o q.pf (S.o q.mv (S.sk (S.o q.pf (S.o q.mv (S.sk (S.sk (S.o q.pf (S.o q.mv (S.sk (S.sk (S.o q.pf (S.o q.as (S.end (hK _ ?_)))))))))))))))))))))))))))))))
    clear hK K
    refine Ev.ret ?_
    refine Ev.ret1 ?_
    refine ⟨?_, rfl⟩
    first | rfl | exact lawT rfl | (exfalso; omega) | contradiction | (exfalso; simp [exO] at *; done)
end Go.Proofs.Ytckahagagfmpbaa
