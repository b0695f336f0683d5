/-
  Tags: the example, walked.
  Conditions: none.
-/
import Derived.Test.YthpjfkmhpoeojaaDoorTg8
import Derived.Test.YthpjfkmhpoeojaaDoorTg7
import Derived.Test.YthpjfkmhpoeojaaDoorAmArr
namespace Go.Proofs.YthpjfkmhpoeojaaDoor
open Go Go.AM
set_option linter.unusedSimpArgs false
set_option linter.unusedVariables false
set_option maxRecDepth 100000
set_option maxHeartbeats 1000000
theorem eqStr_fun (a b : List (List UInt8)) (ha : a.length ≤ 140737488355328) (hb : b.length ≤ 140737488355328) : Fun Tryd.prog 15 [.sh 1 (a.map strC), .sh 1 (b.map strC)] (Ret (.lit (.bool (decide (a = b)))) []) := by
  refine Fun.of (nt := 26) (rs := [.tmp 4]) Tryd.func15 rfl rfl rfl rfl rfl ?_
  refine Ev.sr fun K hK => S.o q.as (S.end (hK _ ?_))
  clear hK K
  refine Ev.seq ?_
  refine Ev.sr fun K hK => S.o q.mv (S.o (q.lens am_el28) (S.o q.mv (S.o (q.lens am_el28) (S.o q.neq (S.end (hK _ ?_))))))
  clear hK K
  refine Ev.cn (fun c1 => ?_) (fun c1 => ?_)
  · first
  | (first | omega | contradiction)
  | refine Ev.sr fun K hK => S.o q.as (S.end (hK _ ?_))
    clear hK K
    refine Ev.ret ?_
    refine Ev.ret1 ?_
    refine ⟨?_, rfl⟩
    first
     | exact bF (fun h => by subst h; omega)
     | exact bF (fun h => by subst h; rw [hidx] at hidx2; simp only [Option.some.injEq] at hidx2; first | contradiction | exact absurd hidx2 ‹_› | exact absurd hidx2.symm ‹_›)
     | exact bT (hinv.symm.trans (List.take_of_length_le (by omega)))
  · first
  | (first | omega | contradiction)
  | refine Ev.skip ?_
    show Ev _ _ _ _
    refine Ev.seq ?_
    refine Ev.sr fun K hK => S.o q.mv (S.o (q.lens am_el28) (S.o q.mv (S.end (hK _ ?_))))
    clear hK K
    refine Ev.block ?_
    refine Ev.loopU (ι := {q : List (List UInt8) × List (List UInt8) // q.1 ++ q.2 = a ∧ b.take q.1.length = q.1}) [] [0, 1, 12] (fun ⟨(pre, suf), _⟩ => [(13, .lit (.int .i64 ((pre.length : Int))))]) (fun ⟨(pre, suf), _⟩ => []) (fun ⟨(pre, suf), _⟩ => suf.length) ⟨([], a), rfl, rfl⟩ (.c (.c (.c .n))) keep_n (slots_c (he := (by first | rfl | (simp; done) | (congr 2; omega))) (h := trivial)) ?_
    rintro ⟨⟨pre, suf⟩, hp, hinv⟩ R0 hR0
    dsimp only [List.cons_append, List.nil_append, List.length_cons, List.length_nil]
    simp only at hp hinv
    have hpl : pre.length + suf.length = (a).length := by rw [← hp, List.length_append]
    rcases suf with _ | ⟨s, suf⟩
    · rw [List.append_nil] at hp; subst hp; simp only [List.length_nil] at hpl
      refine Ev.sr fun K hK => S.o q.lss (S.end (hK _ ?_))
      clear hK K
      refine Ev.ud (fun c2 => ?_) (fun c2 => ?_)
      · first
      | (first | omega | contradiction)
      | refine Ev.seq ?_
        refine Ev.block ?_
        refine Ev.sr fun K hK => S.o q.mv (S.o q.as (S.end (hK _ ?_)))
        clear hK K
        refine Ev.sm (tbs [(0, 0), (0, 0), (2, 3), (3, 7), (0, 0), (0, 0), (6, 48), (7, 112), (8, 255)]) 9 fun K hK => M.o q.mv (M.o q.mv (M.o (q.ix am_el28 am_cl9 (hl := (by first | exact atig (by omega)))) (M.o (q.ls am_ag9) (M.o q.mv (M.o q.mv (M.o (q.ix am_el28 am_cl9 (hl := (by first | exact atig (by omega)))) (M.o (q.ls am_ag9) (M.o q.snes (M.end [] (h := S.end (hK _ ?_)))))))))))
        clear hK K
        refine Ev.cn (fun c3 => ?_) (fun c3 => ?_)
        · first
        | (first | omega | contradiction)
        | refine Ev.sr fun K hK => S.o q.as (S.end (hK _ ?_))
          clear hK K
          refine Ev.ret ?_
          refine hR0 _ _ ?_
          refine Ev.ret1 ?_
          refine ⟨?_, rfl⟩
          first
           | exact bF (fun h => by subst h; omega)
           | exact bF (fun h => by subst h; rw [hidx] at hidx2; simp only [Option.some.injEq] at hidx2; first | contradiction | exact absurd hidx2 ‹_› | exact absurd hidx2.symm ‹_›)
           | exact bT (hinv.symm.trans (List.take_of_length_le (by omega)))
        · first
        | (first | omega | contradiction)
        | refine Ev.skip ?_
          show Ev _ _ _ _
          refine Ev.region_S fun K hK => S.o q.add (S.o q.mv (S.end (hK _ ?_)))
          clear hK K
          refine hR0 _ _ ?_
          refine roundU [] [0, 1, 12] ⟨(pre ++ [s], suf), by rw [← hp]; simp, ?_⟩ ?_ keep_n (slots_c (he := (by first | rfl | (simp; done) | (congr 2; omega))) (h := trivial)) (.c (.c (.c .n)))
          simp only [List.length_append, List.length_cons, List.length_nil, Nat.zero_add]
          rw [List.take_add_one, hinv, hidx2]
          simp only [Option.toList_some, List.append_cancel_left_eq, List.cons.injEq, and_true]
          first | assumption | (symm; assumption)
          all_goals (dsimp only; simp only [List.length_cons]; omega)
      · first
      | (first | omega | contradiction)
      | refine Ev.exit ?_
        refine hR0 _ _ ?_
        show Ev _ _ _ _
        refine Ev.sr fun K hK => S.o q.as (S.end (hK _ ?_))
        clear hK K
        refine Ev.ret ?_
        refine Ev.ret1 ?_
        refine ⟨?_, rfl⟩
        first
         | exact bF (fun h => by subst h; omega)
         | exact bF (fun h => by subst h; rw [hidx] at hidx2; simp only [Option.some.injEq] at hidx2; first | contradiction | exact absurd hidx2 ‹_› | exact absurd hidx2.symm ‹_›)
         | exact bT (hinv.symm.trans (List.take_of_length_le (by omega)))
    · simp only [List.length_cons] at hpl
      have hidx : (a)[pre.length]? = some s := by rw [← hp]; simp
      obtain ⟨s2, hidx2⟩ : ∃ s2, b[pre.length]? = some s2 := ⟨_, List.getElem?_eq_getElem (by omega)⟩
      refine Ev.sr fun K hK => S.o q.lss (S.end (hK _ ?_))
      clear hK K
      refine Ev.ud (fun c4 => ?_) (fun c4 => ?_)
      · first
      | (first | omega | contradiction)
      | refine Ev.seq ?_
        refine Ev.block ?_
        refine Ev.sr fun K hK => S.o q.mv (S.o q.as (S.end (hK _ ?_)))
        clear hK K
        refine Ev.sm (tbs [(0, 0), (0, 0), (2, 3), (3, 7), (0, 0), (0, 0), (6, 48), (7, 112), (8, 255)]) 9 fun K hK => M.o q.mv (M.o q.mv (M.o (q.ix am_el28 am_cl9 (hl := (by first | exact ati hidx (by omega) | exact ati hidx2 (by omega) | exact atig (by omega)))) (M.o (q.ls am_ag9) (M.o q.mv (M.o q.mv (M.o (q.ix am_el28 am_cl9 (hl := (by first | exact ati hidx (by omega) | exact ati hidx2 (by omega) | exact atig (by omega)))) (M.o (q.ls am_ag9) (M.o q.snes (M.end [] (h := S.end (hK _ ?_)))))))))))
        clear hK K
        refine Ev.cn (fun c5 => ?_) (fun c5 => ?_)
        · first
        | (first | omega | contradiction)
        | refine Ev.sr fun K hK => S.o q.as (S.end (hK _ ?_))
          clear hK K
          refine Ev.ret ?_
          refine hR0 _ _ ?_
          refine Ev.ret1 ?_
          refine ⟨?_, rfl⟩
          first
           | exact bF (fun h => by subst h; omega)
           | exact bF (fun h => by subst h; rw [hidx] at hidx2; simp only [Option.some.injEq] at hidx2; first | contradiction | exact absurd hidx2 ‹_› | exact absurd hidx2.symm ‹_›)
           | exact bT (hinv.symm.trans (List.take_of_length_le (by omega)))
        · first
        | (first | omega | contradiction)
        | refine Ev.skip ?_
          show Ev _ _ _ _
          refine Ev.region_S fun K hK => S.o q.add (S.o q.mv (S.end (hK _ ?_)))
          clear hK K
          refine hR0 _ _ ?_
          refine roundU [] [0, 1, 12] ⟨(pre ++ [s], suf), by rw [← hp]; simp, ?_⟩ ?_ keep_n (slots_c (he := (by first | rfl | (simp; done) | (congr 2; omega))) (h := trivial)) (.c (.c (.c .n)))
          simp only [List.length_append, List.length_cons, List.length_nil, Nat.zero_add]
          rw [List.take_add_one, hinv, hidx2]
          simp only [Option.toList_some, List.append_cancel_left_eq, List.cons.injEq, and_true]
          first | assumption | (symm; assumption)
          all_goals (dsimp only; simp only [List.length_cons]; omega)
      · first
      | (first | omega | contradiction)
      | refine Ev.exit ?_
        refine hR0 _ _ ?_
        show Ev _ _ _ _
        refine Ev.sr fun K hK => S.o q.as (S.end (hK _ ?_))
        clear hK K
        refine Ev.ret ?_
        refine Ev.ret1 ?_
        refine ⟨?_, rfl⟩
        first
         | exact bF (fun h => by subst h; omega)
         | exact bF (fun h => by subst h; rw [hidx] at hidx2; simp only [Option.some.injEq] at hidx2; first | contradiction | exact absurd hidx2 ‹_› | exact absurd hidx2.symm ‹_›)
         | exact bT (hinv.symm.trans (List.take_of_length_le (by omega)))
theorem new_fun : Fun Tryd.prog 18 [] (Ret (.adr 0 0 0) [(0, ⟨false, 76, 1, [[.lit (.slice none 0 0)]], true⟩)]) := by
  refine Fun.of (nt := 3) (rs := [.tmp 0]) Tryd.func18 rfl rfl rfl rfl rfl ?_
  refine Ev.sr fun K hK => S.o q.as (S.end (hK _ ?_))
  clear hK K
  refine Ev.sr fun K hK => S.o (q.bd [_] am_ze76 am_pl76) (S.nn (q.bx [_] true) (S.o q.as (S.end (hK _ ?_))))
  clear hK K
  refine Ev.ret ?_
  refine Ev.retg [0] (res_t res_n) ?_
  refine ⟨?_, ?_⟩
  all_goals rfl
theorem line_fun (mk : List UInt8) (n : Int) : Fun Tryd.prog 30 [.lit (str mk), .lit (.int .i64 n)] (Ret (.agg (Bar.c ⟨mk, 10, 2, 0, [n]⟩)) []) := by
  refine Fun.of (nt := 9) (rs := [.cell 4 67]) Tryd.func30 rfl rfl rfl rfl rfl ?_
  refine Ev.sr fun K hK => S.nn (q.al am_ze67) (S.end (hK _ ?_))
  clear hK K
  refine Ev.sr fun K hK => S.o q.mv (S.o q.mv (S.nn (q.bs [[_]] true am_el65 am_ze3 am_cl3) (SeqL.weaken (Wk.frzl (f := intC) [_] 7 [_]) (S.o (q.bd [_, _, _, _, _] am_ze67 am_pl67) (S.sv [_, _, _, _, _] true [] am_in67 am_cl67 (h := S.end (hK _ ?_)))))))
  clear hK K
  refine Ev.ret ?_
  refine Ev.retv1 (res_c [_, _, _, _, _] am_ag67 am_cl67 res_n) ?_
  refine ⟨?_, rfl⟩
  rfl
theorem exIssueR : FunR Tryd.prog 19 [.adr 0 0 0, .sh 4 (exI.map Bundle.c)] [(0, ⟨false, 76, 1, [[.als 1 0 (([] : List Ent)).length]], false⟩), (1, ⟨true, 78, 5, (([] : List Ent)).map Ent.c, true⟩)] 2 (Ret (.lit (.int .i64 0)) [(0, ⟨false, 76, 1, [[.als 2 0 (exE).length]], false⟩), (2, ⟨true, 78, 5, (exE).map Ent.c, true⟩)]) := by
  have h := issueR [] exI (by decide) (by decide) ex_bw
  rwa [ex_isu.1, ex_isu.2] at h
theorem exReviseR : FunR Tryd.prog 11 [.adr 0 0 0, .sh 5 ([exA, exB1].map Bar.c), .sh 5 ([exA, exB2].map Bar.c), .lit (.int .i64 1099511627776)] [(0, ⟨false, 76, 1, [[.als 1 0 (exE).length]], false⟩), (1, ⟨true, 78, 5, (exE).map Ent.c, true⟩)] 2 (Ret (.tup [.sh 1 ([([116, 50] : List UInt8)].map strC), .sh 1 ([([116, 51] : List UInt8)].map strC), .lit (.int .i64 0)]) [(0, ⟨false, 76, 1, [[.als 2 0 (revV exE [exA, exB1] [exA, exB2] 1099511627776).length]], false⟩), (2, ⟨true, 78, 5, (revV exE [exA, exB1] [exA, exB2] 1099511627776).map Ent.c, true⟩)]) := by
  have h := reviseR exE [exA, exB1] [exA, exB2] 1099511627776 (by decide) (by decide) (by decide) ex_w.1 ex_w.2
  rwa [ex_rev.1, ex_rev.2.1, ex_rev.2.2] at h
theorem awake_fun : Fun Tryd.prog 6 [] (Ret (.lit (.bool true)) []) := by
  refine Fun.of (nt := 40) (rs := [.tmp 0]) Tryd.func6 rfl rfl rfl rfl rfl ?_
  refine Ev.sr fun K hK => S.o q.as (S.end (hK _ ?_))
  clear hK K
  refine Ev.sr fun K hK => S.c1g (hF := new_fun) (h := S.o q.as (S.end (hK _ ?_)))
  clear hK K
  refine Ev.seq ?_
  refine Ev.weaken (Wk.nilv (f := Ent.c) 0 0 78 5 []) ?_
  refine Ev.sr fun K hK => S.o q.mv (S.peqa (by kernel_rfl : Tryd.prog.underlying 27 = some (.pointer 76)) (h := S.o q.mv (S.o q.mv (S.o (q.bd [_, _, _, _] am_ze38 am_pl38) (S.o (q.bd [_, _, _, _] am_ze38 am_pl38) (S.nn (q.bs [[_, _, _, _], [_, _, _, _]] true am_el31 am_ze38 am_cl38) ?_))))))
  refine SeqL.weaken (Wk.frzl (f := Bundle.c) exI 12 [_, _]) ?_
  refine S.cR [0, 1] 4 [_, _] (hob := (keep_d (he := rfl) (h := (keep_c (he := rfl) (h := keep_n))))) (hF := exIssueR) (hn' := belowL rfl rfl) (h := S.o q.neq (S.o q.pf (S.end (hK _ ?_))))
  clear hK K
  refine Ev.cn (fun c1 => ?_) (fun c1 => ?_)
  · first
  | (first | omega | contradiction)
  | refine Ev.sr fun K hK => S.o q.as (S.end (hK _ ?_))
    clear hK K
    refine Ev.ret ?_
    refine Ev.ret1 ?_
    refine ⟨?_, rfl⟩
    first | rfl | exact lawT rfl | exact lawT (by decide) | (exfalso; omega) | contradiction | (exfalso; simp at *; done)
  · first
  | (first | omega | contradiction)
  | refine Ev.skip ?_
    show Ev _ _ _ _
    refine Ev.sr fun K hK => S.o q.mv (S.c0 (hF := line_fun _ _) (h := S.c0 (hF := line_fun _ _) (h := S.nn (q.bs [[_, _, _, _, _], [_, _, _, _, _]] true am_el23 am_ze67 am_cl67) ?_)))
    refine SeqL.weaken (Wk.frzl (f := Bar.c) [exA, exB1] 20 [_, _]) ?_
    refine S.c0 (hF := line_fun _ _) (h := S.c0 (hF := line_fun _ _) (h := S.nn (q.bs [[_, _, _, _, _], [_, _, _, _, _]] true am_el23 am_ze67 am_cl67) ?_))
    refine SeqL.weaken (Wk.frzl (f := Bar.c) [exA, exB2] 23 [_, _]) ?_
    refine S.cR [0, 3] 7 [_, _] (hob := (keep_d (he := rfl) (h := (keep_c (he := rfl) (h := keep_n))))) (hF := exReviseR) (hn' := belowL rfl rfl) (h := S.o q.mv (S.o q.ex (S.o q.ex (S.o q.ex (S.o q.as (S.o q.as (S.o q.as (S.end (hK _ ?_)))))))))
    clear hK K
    refine Ev.sr fun K hK => S.o q.mv (S.o q.eql (S.bd q.mv (fun c2 => ?_) (fun c2 => ?_)))
    · first
    | (first | omega | contradiction)
    | refine S.o q.mv (S.nn (q.bs [[_]] true am_el28 am_ze9 am_cl9) ?_)
      refine SeqL.weaken (Wk.frzl (f := strC) [([116, 50] : List UInt8)] 32 [_, _]) ?_
      refine S.c0 (hF := eqStr_fun [[116, 50]] [[116, 50]] (by decide) (by decide)) (h := S.o q.pt (S.bd q.mv (fun c3 => ?_) (fun c3 => ?_)))
      · first
      | (first | omega | contradiction)
      | refine S.o q.mv (S.nn (q.bs [[_]] true am_el28 am_ze9 am_cl9) ?_)
        refine SeqL.weaken (Wk.frzl (f := strC) [([116, 51] : List UInt8)] 37 [_, _]) ?_
        refine S.c0 (hF := eqStr_fun [[116, 51]] [[116, 51]] (by decide) (by decide)) (h := S.o q.pt (S.o q.as (S.end (hK _ ?_))))
        clear hK K
        refine Ev.ret ?_
        refine Ev.ret1 ?_
        refine ⟨?_, rfl⟩
        first | rfl | exact lawT rfl | exact lawT (by decide) | (exfalso; omega) | contradiction | (exfalso; simp at *; done)
      · first
      | (first | omega | contradiction)
      | refine S.sk (S.sk (S.sk (S.o q.pf (S.o q.as (S.end (hK _ ?_))))))
        clear hK K
        refine Ev.ret ?_
        refine Ev.ret1 ?_
        refine ⟨?_, rfl⟩
        first | rfl | exact lawT rfl | exact lawT (by decide) | (exfalso; omega) | contradiction | (exfalso; simp at *; done)
    · first
    | (first | omega | contradiction)
    | refine S.sk (S.sk (S.sk (S.o q.pf (S.o q.mv (S.sk (S.sk (S.sk (S.o q.pf (S.o q.as (S.end (hK _ ?_)))))))))))
      clear hK K
      refine Ev.ret ?_
      refine Ev.ret1 ?_
      refine ⟨?_, rfl⟩
      first | rfl | exact lawT rfl | exact lawT (by decide) | (exfalso; omega) | contradiction | (exfalso; simp at *; done)
end Go.Proofs.YthpjfkmhpoeojaaDoor
