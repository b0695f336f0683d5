/-
  The law StockFits, walked.
  Conditions: none.
-/
import Derived.Test.YtckahagagfmpbaaSw2
import Derived.Test.YtckahagagfmpbaaSw1
import Derived.Test.YtckahagagfmpbaaAmDel
namespace Go.Proofs.Ytckahagagfmpbaa
open Go Go.AM
set_option linter.unusedSimpArgs false
set_option linter.unusedVariables false
set_option maxRecDepth 100000
set_option maxHeartbeats 1000000
theorem cloneStk_fun (l : List (Int × Int)) (hlen : l.length ≤ 1000000) : Fun Try.prog 19 [.sh 2 (l.map pairC)] (Ret (.als 0 0 l.length) [(0, ⟨true, 37, 2, l.map pairC, true⟩)]) := by
  refine Fun.of (nt := 8) (rs := [.tmp 2]) Try.func19 rfl rfl rfl rfl rfl ?_
  refine Ev.sr fun K hK => S.o q.as (S.end (hK _ ?_))
  clear hK K
  refine Ev.seq ?_
  refine Ev.sr fun K hK => S.o q.mv (S.eqn am_el22 (fun c1 c2 => (S.end (hK _ ?_))))
  clear hK K
  refine Ev.c (fun c3 => ?_) (fun c3 => ?_)
  · first
  | (first | omega | contradiction)
  | refine Ev.sr fun K hK => S.o q.as (S.end (hK _ ?_))
    clear hK K
    refine Ev.weaken (Wk.nown pairC 2 37 2) ?_
    refine Ev.ret ?_
    refine Ev.own1 ?_
    refine ⟨?_, ?_⟩
    all_goals first
     | rfl
     | (rw [List.map_eq_nil_iff.1 (c2 c3)]; done) | (rw [List.map_eq_nil_iff.1 (c2 c3)] <;> rfl)
     | (congr 1; simp; done)
     | (simp; done)
  · first
  | (first | omega | contradiction)
  | refine Ev.skip ?_
    show Ev _ _ _ _
    refine Ev.sr fun K hK => S.nn (v := .als 0 0 ([] : List (Int × Int)).length) (o := ⟨true, 37, 2, ([] : List (Int × Int)).map pairC, true⟩) (q.bs [] true am_el22 am_ze37 am_cl37) (S.o q.mv (S.ap' [] am_el22 am_ze37 am_cl37 am_by37 (hh := head_own') (hr := rows_sh) (h := S.o q.as (S.end (hK _ ?_)))))
    clear hK K
    refine Ev.ret ?_
    refine Ev.own1 ?_
    refine ⟨?_, ?_⟩
    all_goals first
     | rfl
     | (rw [List.map_eq_nil_iff.1 (c2 c3)]; done) | (rw [List.map_eq_nil_iff.1 (c2 c3)] <;> rfl)
     | (congr 1; simp; done)
     | (simp; done)
theorem deleteStk_R (l : List (Int × Int)) (i j : Int) (h0 : 0 ≤ i) (h1 : i < j) (h2 : j ≤ l.length) (hl : l.length ≤ 1000000) : FunR Try.prog 20 [.als 0 0 l.length, .lit (.int .i64 i), .lit (.int .i64 j)] [(0, ⟨true, 37, 2, l.map pairC, true⟩)] 1
    (Ret (.als 1 0 (l.take i.toNat ++ l.drop j.toNat).length) [(1, ⟨true, 37, 2, (l.take i.toNat ++ l.drop j.toNat).map pairC, true⟩)]) := by
  refine FunR.of (nt := 33) (rs := [.tmp 6]) Try.func20 rfl rfl rfl rfl rfl ?_
  refine Ev.sr fun K hK => S.o q.as (S.end (hK _ ?_))
  clear hK K
  refine Ev.sr fun K hK => S.o q.mv (S.o q.mv (S.o q.mv (S.o q.mv (S.o (q.lena am_el22) (S.sl3 am_el22 am_cl37 (h := S.end (hK _ ?_)))))))
  clear hK K
  refine Ev.seq ?_
  refine Ev.sr fun K hK => S.o q.mv (S.o q.mv (S.o q.eql (S.end (hK _ ?_))))
  clear hK K
  refine Ev.cd (fun c1 => ?_) (fun c1 => ?_)
  · first
  | (first | omega | contradiction)
  | refine Ev.sr fun K hK => S.o q.mv (S.o q.as (S.end (hK _ ?_)))
    clear hK K
    refine Ev.ret ?_
    refine Ev.rr1 [0, 0] (keepR_c (h := (keepR_c (h := keepR_n)))) (leadsB rfl) ?_
    refine ⟨?_, ?_⟩
    all_goals first
     | (refine congrArg (fun q : List (Int × Int) => AV.als 1 0 q.length) ?_; exact del_rows (by omega) (by omega) (by omega) (by omega) (by omega) (by omega) (by omega))
     | (refine congrArg (fun q : List (Int × Int) => [(1, (⟨true, 37, 2, q.map pairC, true⟩ : AM.Obj))]) ?_; exact del_rows (by omega) (by omega) (by omega) (by omega) (by omega) (by omega) (by omega))
  · first
  | (first | omega | contradiction)
  | refine Ev.skip ?_
    show Ev _ _ _ _
    refine Ev.sr fun K hK => S.o q.mv (S.o (q.lena am_el22) (S.o q.as (S.end (hK _ ?_))))
    clear hK K
    refine Ev.sm (tbs [(0, 0), (0, 0), (2, 3), (0, 0), (0, 0), (5, 24), (6, 63), (7, 127)]) 6 fun K hK => M.o q.mv (M.o q.mv (M.o (q.sl am_el22 am_cl37) (M.o q.mv (M.o q.mv (M.o (q.sl am_el22 am_cl37) (M.end [_] (h := S.apd [] am_el22 am_ze37 am_cl37 (h := S.o q.as (S.end (hK _ ?_))))))))))
    clear hK K
    refine Ev.sr fun K hK => S.o q.mv (S.o q.mv (S.o (q.lena am_el22) (S.o q.mv (S.slx am_el22 am_cl37 (h := S.clr (((0 : Int), (0 : Int))) [] am_el22 am_ze37 am_cl37 (h := S.end (hK _ ?_)))))))
    clear hK K
    refine Ev.weaken (Wk.cut 0 [] am_ze37 am_cl37) ?_
    refine Ev.sr fun K hK => S.o q.mv (S.o q.as (S.end (hK _ ?_)))
    clear hK K
    refine Ev.ret ?_
    refine Ev.rr1 [0, 25] (keepR_g (h := (keepR_c (h := keepR_n)))) (leadsB rfl) ?_
    refine ⟨?_, ?_⟩
    all_goals first
     | (refine congrArg (fun q : List (Int × Int) => AV.als 1 0 q.length) ?_; exact del_rows (by omega) (by omega) (by omega) (by omega) (by omega) (by omega) (by omega))
     | (refine congrArg (fun q : List (Int × Int) => [(1, (⟨true, 37, 2, q.map pairC, true⟩ : AM.Obj))]) ?_; exact del_rows (by omega) (by omega) (by omega) (by omega) (by omega) (by omega) (by omega))
theorem clonePce_fun (l : List (Int × Int)) (hlen : l.length ≤ 1000000) : Fun Try.prog 22 [.sh 2 (l.map pairC)] (Ret (.als 0 0 l.length) [(0, ⟨true, 40, 2, l.map pairC, true⟩)]) := by
  refine Fun.of (nt := 8) (rs := [.tmp 2]) Try.func22 rfl rfl rfl rfl rfl ?_
  refine Ev.sr fun K hK => S.o q.as (S.end (hK _ ?_))
  clear hK K
  refine Ev.seq ?_
  refine Ev.sr fun K hK => S.o q.mv (S.eqn am_el23 (fun c1 c2 => (S.end (hK _ ?_))))
  clear hK K
  refine Ev.c (fun c3 => ?_) (fun c3 => ?_)
  · first
  | (first | omega | contradiction)
  | refine Ev.sr fun K hK => S.o q.as (S.end (hK _ ?_))
    clear hK K
    refine Ev.weaken (Wk.nown pairC 2 40 2) ?_
    refine Ev.ret ?_
    refine Ev.own1 ?_
    refine ⟨?_, ?_⟩
    all_goals first
     | rfl
     | (rw [List.map_eq_nil_iff.1 (c2 c3)]; done) | (rw [List.map_eq_nil_iff.1 (c2 c3)] <;> rfl)
     | (congr 1; simp; done)
     | (simp; done)
  · first
  | (first | omega | contradiction)
  | refine Ev.skip ?_
    show Ev _ _ _ _
    refine Ev.sr fun K hK => S.nn (v := .als 0 0 ([] : List (Int × Int)).length) (o := ⟨true, 40, 2, ([] : List (Int × Int)).map pairC, true⟩) (q.bs [] true am_el23 am_ze40 am_cl40) (S.o q.mv (S.ap' [] am_el23 am_ze40 am_cl40 am_by40 (hh := head_own') (hr := rows_sh) (h := S.o q.as (S.end (hK _ ?_)))))
    clear hK K
    refine Ev.ret ?_
    refine Ev.own1 ?_
    refine ⟨?_, ?_⟩
    all_goals first
     | rfl
     | (rw [List.map_eq_nil_iff.1 (c2 c3)]; done) | (rw [List.map_eq_nil_iff.1 (c2 c3)] <;> rfl)
     | (congr 1; simp; done)
     | (simp; done)
theorem deletePce_R (l : List (Int × Int)) (i j : Int) (h0 : 0 ≤ i) (h1 : i < j) (h2 : j ≤ l.length) (hl : l.length ≤ 1000000) : FunR Try.prog 21 [.als 0 0 l.length, .lit (.int .i64 i), .lit (.int .i64 j)] [(0, ⟨true, 40, 2, l.map pairC, true⟩)] 1
    (Ret (.als 1 0 (l.take i.toNat ++ l.drop j.toNat).length) [(1, ⟨true, 40, 2, (l.take i.toNat ++ l.drop j.toNat).map pairC, true⟩)]) := by
  refine FunR.of (nt := 33) (rs := [.tmp 6]) Try.func21 rfl rfl rfl rfl rfl ?_
  refine Ev.sr fun K hK => S.o q.as (S.end (hK _ ?_))
  clear hK K
  refine Ev.sr fun K hK => S.o q.mv (S.o q.mv (S.o q.mv (S.o q.mv (S.o (q.lena am_el23) (S.sl3 am_el23 am_cl40 (h := S.end (hK _ ?_)))))))
  clear hK K
  refine Ev.seq ?_
  refine Ev.sr fun K hK => S.o q.mv (S.o q.mv (S.o q.eql (S.end (hK _ ?_))))
  clear hK K
  refine Ev.cd (fun c1 => ?_) (fun c1 => ?_)
  · first
  | (first | omega | contradiction)
  | refine Ev.sr fun K hK => S.o q.mv (S.o q.as (S.end (hK _ ?_)))
    clear hK K
    refine Ev.ret ?_
    refine Ev.rr1 [0, 0] (keepR_c (h := (keepR_c (h := keepR_n)))) (leadsB rfl) ?_
    refine ⟨?_, ?_⟩
    all_goals first
     | (refine congrArg (fun q : List (Int × Int) => AV.als 1 0 q.length) ?_; exact del_rows (by omega) (by omega) (by omega) (by omega) (by omega) (by omega) (by omega))
     | (refine congrArg (fun q : List (Int × Int) => [(1, (⟨true, 40, 2, q.map pairC, true⟩ : AM.Obj))]) ?_; exact del_rows (by omega) (by omega) (by omega) (by omega) (by omega) (by omega) (by omega))
  · first
  | (first | omega | contradiction)
  | refine Ev.skip ?_
    show Ev _ _ _ _
    refine Ev.sr fun K hK => S.o q.mv (S.o (q.lena am_el23) (S.o q.as (S.end (hK _ ?_))))
    clear hK K
    refine Ev.sm (tbs [(0, 0), (0, 0), (2, 3), (0, 0), (0, 0), (5, 24), (6, 63), (7, 127)]) 6 fun K hK => M.o q.mv (M.o q.mv (M.o (q.sl am_el23 am_cl40) (M.o q.mv (M.o q.mv (M.o (q.sl am_el23 am_cl40) (M.end [_] (h := S.apd [] am_el23 am_ze40 am_cl40 (h := S.o q.as (S.end (hK _ ?_))))))))))
    clear hK K
    refine Ev.sr fun K hK => S.o q.mv (S.o q.mv (S.o (q.lena am_el23) (S.o q.mv (S.slx am_el23 am_cl40 (h := S.clr (((0 : Int), (0 : Int))) [] am_el23 am_ze40 am_cl40 (h := S.end (hK _ ?_)))))))
    clear hK K
    refine Ev.weaken (Wk.cut 0 [] am_ze40 am_cl40) ?_
    refine Ev.sr fun K hK => S.o q.mv (S.o q.as (S.end (hK _ ?_)))
    clear hK K
    refine Ev.ret ?_
    refine Ev.rr1 [0, 25] (keepR_g (h := (keepR_c (h := keepR_n)))) (leadsB rfl) ?_
    refine ⟨?_, ?_⟩
    all_goals first
     | (refine congrArg (fun q : List (Int × Int) => AV.als 1 0 q.length) ?_; exact del_rows (by omega) (by omega) (by omega) (by omega) (by omega) (by omega) (by omega))
     | (refine congrArg (fun q : List (Int × Int) => [(1, (⟨true, 40, 2, q.map pairC, true⟩ : AM.Obj))]) ?_; exact del_rows (by omega) (by omega) (by omega) (by omega) (by omega) (by omega) (by omega))
theorem indexFuncSk1 (g : FuncId) (c0 : List AV) (p : Int × Int → Bool) (hg : ∀ s, Fun Try.prog g [.agg (pairC s), .sadr c0 0] (Ret (.lit (.bool (p s))) [])) (l : List (Int × Int)) (hlen : l.length ≤ 140737488355328) :
    Fun Try.prog 45 [.sh 2 (l.map pairC), .fn (.func g) [] [.sadr c0 0]] (Ret (.lit (.int .i64 (idxP p l 0))) []) := by
  refine Fun.of (nt := 19) (rs := [.tmp 4]) Try.func45 rfl rfl rfl rfl rfl ?_
  refine Ev.sr fun K hK => S.o q.as (S.end (hK _ ?_))
  clear hK K
  refine Ev.seq ?_
  refine Ev.sr fun K hK => S.o q.mv (S.o (q.lens am_el22) (S.o q.mv (S.end (hK _ ?_))))
  clear hK K
  refine Ev.block ?_
  refine Ev.loopU (ι := {q : List (Int × Int) × List (Int × Int) // q.1 ++ q.2 = l ∧ ∀ x ∈ q.1, p x = false}) [] [0, 1, 7] (fun ⟨(pre, suf), _⟩ => [(8, .lit (.int .i64 ((pre.length : Int))))]) (fun ⟨(pre, suf), _⟩ => []) (fun ⟨(pre, suf), _⟩ => suf.length) ⟨([], l), rfl, fun x hx => by simp at hx⟩ (.c (.c (.c .n))) keep_n (slots_c (he := (by first | rfl | (simp; done) | (congr 2; omega))) (h := trivial)) ?_
  rintro ⟨⟨pre, suf⟩, hp, hinv⟩ R0 hR0
  dsimp only [List.cons_append, List.nil_append, List.length_cons, List.length_nil]
  simp only at hp hinv
  have hpl : pre.length + suf.length = (l).length := by rw [← hp, List.length_append]
  rcases suf with _ | ⟨s, suf⟩
  · rw [List.append_nil] at hp; subst hp; simp only [List.length_nil] at hpl
    refine Ev.sr fun K hK => S.o q.lss (S.end (hK _ ?_))
    clear hK K
    refine Ev.ud (fun c1 => ?_) (fun c1 => ?_)
    · first
    | (first | omega | contradiction)
    | refine Ev.seq ?_
      refine Ev.block ?_
      refine Ev.sr fun K hK => S.o q.mv (S.o q.as (S.end (hK _ ?_)))
      clear hK K
      refine Ev.sr fun K hK => S.o q.mv (S.o q.mv (S.o q.mv (S.o (q.ix am_el22 am_cl37 (hl := (by first | exact atig (by omega)))) (S.o (q.lsA [_, _] am_ag37 am_cl37) (S.c0 (hF := hg s) (h := S.end (hK _ ?_)))))))
      clear hK K
      refine Ev.c (fun c2 => ?_) (fun c2 => ?_)
      · first
      | (first | omega | contradiction)
      | refine Ev.sr fun K hK => S.o q.mv (S.o q.as (S.end (hK _ ?_)))
        clear hK K
        refine Ev.ret ?_
        refine hR0 _ _ ?_
        refine Ev.ret1 ?_
        refine ⟨?_, rfl⟩
        first | (congr 2; rw [← hp, idxP_append p pre _ 0 hinv, idxP, if_pos ‹_›]; omega) | (congr 2; rw [idxP_none p pre 0 hinv])
      · first
      | (first | omega | contradiction)
      | refine Ev.skip ?_
        show Ev _ _ _ _
        refine Ev.region_S fun K hK => S.o q.add (S.o q.mv (S.end (hK _ ?_)))
        clear hK K
        refine hR0 _ _ ?_
        refine roundU [] [0, 1, 7] ⟨(pre ++ [s], suf), by rw [← hp]; simp, ?_⟩ ?_ keep_n (slots_c (he := (by first | rfl | (simp; done) | (congr 2; omega))) (h := trivial)) (.c (.c (.c .n)))
        intro x hx; simp only [List.mem_append, List.mem_singleton] at hx; rcases hx with hx | rfl
        · exact hinv x hx
        · assumption
        all_goals (dsimp only; simp only [List.length_cons]; omega)
    · first
    | (first | omega | contradiction)
    | refine Ev.exit ?_
      refine hR0 _ _ ?_
      show Ev _ _ _ _
      refine Ev.sr fun K hK => S.o q.as (S.end (hK _ ?_))
      clear hK K
      refine Ev.ret ?_
      refine Ev.ret1 ?_
      refine ⟨?_, rfl⟩
      first | (congr 2; rw [← hp, idxP_append p pre _ 0 hinv, idxP, if_pos ‹_›]; omega) | (congr 2; rw [idxP_none p pre 0 hinv])
  · simp only [List.length_cons] at hpl
    have hidx : (l)[pre.length]? = some s := by rw [← hp]; simp
    refine Ev.sr fun K hK => S.o q.lss (S.end (hK _ ?_))
    clear hK K
    refine Ev.ud (fun c3 => ?_) (fun c3 => ?_)
    · first
    | (first | omega | contradiction)
    | refine Ev.seq ?_
      refine Ev.block ?_
      refine Ev.sr fun K hK => S.o q.mv (S.o q.as (S.end (hK _ ?_)))
      clear hK K
      refine Ev.sr fun K hK => S.o q.mv (S.o q.mv (S.o q.mv (S.o (q.ix am_el22 am_cl37 (hl := (by first | exact ati hidx (by omega) | exact atig (by omega)))) (S.o (q.lsA [_, _] am_ag37 am_cl37) (S.c0 (hF := hg s) (h := S.end (hK _ ?_)))))))
      clear hK K
      refine Ev.c (fun c4 => ?_) (fun c4 => ?_)
      · first
      | (first | omega | contradiction)
      | refine Ev.sr fun K hK => S.o q.mv (S.o q.as (S.end (hK _ ?_)))
        clear hK K
        refine Ev.ret ?_
        refine hR0 _ _ ?_
        refine Ev.ret1 ?_
        refine ⟨?_, rfl⟩
        first | (congr 2; rw [← hp, idxP_append p pre _ 0 hinv, idxP, if_pos ‹_›]; omega) | (congr 2; rw [idxP_none p pre 0 hinv])
      · first
      | (first | omega | contradiction)
      | refine Ev.skip ?_
        show Ev _ _ _ _
        refine Ev.region_S fun K hK => S.o q.add (S.o q.mv (S.end (hK _ ?_)))
        clear hK K
        refine hR0 _ _ ?_
        refine roundU [] [0, 1, 7] ⟨(pre ++ [s], suf), by rw [← hp]; simp, ?_⟩ ?_ keep_n (slots_c (he := (by first | rfl | (simp; done) | (congr 2; omega))) (h := trivial)) (.c (.c (.c .n)))
        intro x hx; simp only [List.mem_append, List.mem_singleton] at hx; rcases hx with hx | rfl
        · exact hinv x hx
        · assumption
        all_goals (dsimp only; simp only [List.length_cons]; omega)
    · first
    | (first | omega | contradiction)
    | refine Ev.exit ?_
      refine hR0 _ _ ?_
      show Ev _ _ _ _
      refine Ev.sr fun K hK => S.o q.as (S.end (hK _ ?_))
      clear hK K
      refine Ev.ret ?_
      refine Ev.ret1 ?_
      refine ⟨?_, rfl⟩
      first | (congr 2; rw [← hp, idxP_append p pre _ 0 hinv, idxP, if_pos ‹_›]; omega) | (congr 2; rw [idxP_none p pre 0 hinv])
theorem containsFuncSk1 (g : FuncId) (c0 : List AV) (p : Int × Int → Bool) (hg : ∀ s, Fun Try.prog g [.agg (pairC s), .sadr c0 0] (Ret (.lit (.bool (p s))) [])) (l : List (Int × Int)) (hlen : l.length ≤ 140737488355328) :
    Fun Try.prog 23 [.sh 2 (l.map pairC), .fn (.func g) [] [.sadr c0 0]] (Ret (.lit (.bool (decide (∃ x ∈ l, p x = true)))) []) := by
  have hd : (decide (∃ x ∈ l, p x = true)) = decide (0 ≤ idxP p l 0) := by simp only [idxP_nonneg p l 0 (Int.le_refl _)]
  rw [hd]
  refine Fun.of (nt := 9) (rs := [.tmp 4]) Try.func23 rfl rfl rfl rfl rfl ?_
  refine Ev.sr fun K hK => S.o q.as (S.end (hK _ ?_))
  clear hK K
  refine Ev.sr fun K hK => S.o q.mv (S.o q.mv (S.c0 (hF := indexFuncSk1 g c0 p hg l hlen) (h := S.o q.geq (S.o q.as (S.end (hK _ ?_))))))
  clear hK K
  refine Ev.ret ?_
  refine Ev.ret1 ?_
  refine ⟨?_, rfl⟩
  rfl

theorem fits2_fun (t y : Int × Int) : Fun Try.prog 24 [.agg (pairC y), .sadr (pairC t) 0] (Ret (.lit (.bool (decide (y.2 ≠ 0 ∧ t.1 ≤ y.1)))) []) := by
  obtain ⟨tx, ty⟩ := t
  obtain ⟨yx, yy⟩ := y
  refine Fun.of (nt := 14) (rs := [.tmp 3]) Try.func24 rfl rfl rfl rfl rfl ?_
  refine Ev.sr fun K hK => S.nn (q.bx [_, _] true) (S.o q.as (S.end (hK _ ?_)))
  clear hK K
  refine Ev.sr fun K hK => S.o (q.fa 1 am_fi37_1 am_cl3) (S.o (q.lv am_ag3) (S.o q.neq (S.bn q.mv (fun c1 => ?_) (fun c1 => ?_))))
  · first
  | (first | omega | contradiction)
  | refine S.o (q.fa 0 am_fi37_0 am_cl3) (S.o (q.lv am_ag3) (S.o (q.fs 0 am_fi40_0 am_cl3) (S.o (q.ls am_ag3) (S.o q.geq (S.o q.pt (S.o q.as (S.end (hK _ ?_))))))))
    clear hK K
    refine Ev.ret ?_
    refine Ev.ret1 ?_
    refine ⟨?_, rfl⟩
    first | exact bF (by simp only; omega) | exact bT (by simp only; omega) | exact dI (by simp only; omega)
  · first
  | (first | omega | contradiction)
  | refine S.sk (S.sk (S.sk (S.sk (S.sk (S.o q.pf (S.o q.as (S.end (hK _ ?_))))))))
    clear hK K
    refine Ev.ret ?_
    refine Ev.ret1 ?_
    refine ⟨?_, rfl⟩
    first | exact bF (by simp only; omega) | exact bT (by simp only; omega) | exact dI (by simp only; omega)

theorem split_at {T : Type} {V : List T} {k : Nat} {x : T} (h : V[k]? = some x) : V = V.take k ++ x :: V.drop (k + 1) := by
  obtain ⟨h1, h2⟩ := List.getElem?_eq_some_iff.1 h
  rw [← h2, List.getElem_cons_drop, List.take_append_drop]
theorem set_at {T : Type} {V : List T} {k : Nat} {x : T} (y : T) (h : V[k]? = some x) : V.set k y = V.take k ++ y :: V.drop (k + 1) := by
  have h1 := (List.getElem?_eq_some_iff.1 h).1
  exact List.set_eq_take_append_cons_drop.trans (if_pos h1)
theorem lonS_mono {a b : List (Int × Int)} (h : ∀ s ∈ a, s.2 ≠ 0 → ∃ t ∈ b, t.2 ≠ 0 ∧ t.1 = s.1) : lonS a ≤ lonS b := by
  obtain ⟨a0, a1, a2⟩ := lonS_spec a
  obtain ⟨b0, b1, b2⟩ := lonS_spec b
  by_cases h0 : lonS a = 0
  · omega
  · obtain ⟨s, hs, h1, h2⟩ := a2 h0
    obtain ⟨t, ht, h3, h4⟩ := h s hs h1
    have := b1 t ht h3
    omega
theorem more_facts {s l : List (Int × Int)} {sx sy : Int} {k : Nat} (hs : okStock s) (hl : okOrd l) (hx : s[k]? = some (sx, sy)) :
    (fitE (s.set k (sx, -1)) l = 0 ∧ (fitV s l → fitV (s.set k (sx, -1)) l)) ∧ (fitE (s.take k ++ s.drop (k + 1)) l = 0 ∧ (fitV (s.take k ++ s.drop (k + 1)) l → fitV s l)) := by
  have e := split_at hx
  obtain ⟨h1, h2, h3⟩ := hs
  have hsx : okSt (sx, sy) := h2 _ (List.mem_of_getElem? hx)
  have h3' := h3
  rw [e, List.pairwise_append, List.pairwise_cons] at h3'
  obtain ⟨p1, ⟨p2, p3⟩, p4⟩ := h3'
  have hm : okStock (s.set k (sx, -1)) := by
    refine ⟨by rw [List.length_set]; exact h1, fun t ht => ?_, ?_⟩
    · rcases List.mem_or_eq_of_mem_set ht with h | h
      · exact h2 t h
      · subst h
        unfold okSt at hsx ⊢
        simp only at hsx ⊢
        omega
    · rw [set_at _ hx, List.pairwise_append, List.pairwise_cons]
      refine ⟨p1, ⟨fun y hy => p2 y hy, p3⟩, fun x hx y hy => ?_⟩
      rcases List.mem_cons.1 hy with rfl | hy
      · exact p4 x hx (sx, sy) (by simp)
      · exact p4 x hx y (by simp [hy])
  have hd : okStock (s.take k ++ s.drop (k + 1)) := by
    refine ⟨?_, fun t ht => ?_, ?_⟩
    · simp only [List.length_append, List.length_take, List.length_drop]; omega
    · rcases List.mem_append.1 ht with h | h
      · exact h2 t (List.mem_of_mem_take h)
      · exact h2 t (List.mem_of_mem_drop h)
    · rw [List.pairwise_append]
      exact ⟨p1, p3, fun x hx y hy => p4 x hx y (by simp [hy])⟩
  have hlm : lonS s ≤ lonS (s.set k (sx, -1)) := lonS_mono fun t ht ht0 => by
    rw [set_at _ hx]
    rw [e] at ht
    rcases List.mem_append.1 ht with h | h
    · exact ⟨t, by simp [h], ht0, rfl⟩
    · rcases List.mem_cons.1 h with rfl | h
      · exact ⟨(sx, -1), by simp, by simp, rfl⟩
      · exact ⟨t, by simp [h], ht0, rfl⟩
  have hld : lonS (s.take k ++ s.drop (k + 1)) ≤ lonS s := lonS_mono fun t ht ht0 => by
    rcases List.mem_append.1 ht with h | h
    · exact ⟨t, List.mem_of_mem_take h, ht0, rfl⟩
    · exact ⟨t, List.mem_of_mem_drop h, ht0, rfl⟩
  refine ⟨⟨if_pos ⟨hm, hl⟩, fun hv => ⟨hm, hl, fun p hp => ?_⟩⟩, if_pos ⟨hd, hl⟩, fun hv => ⟨⟨h1, h2, h3⟩, hl, fun p hp => ?_⟩⟩
  · have := hv.2.2 p hp; omega
  · have := hv.2.2 p hp; omega
theorem part_facts {s l : List (Int × Int)} {k : Nat} (hs : okStock s) (hl : okOrd l) : fitE s (l.take k ++ l.drop (k + 1)) = 0 ∧ (fitV s l → fitV s (l.take k ++ l.drop (k + 1))) := by
  have hmem : ∀ p ∈ l.take k ++ l.drop (k + 1), p ∈ l := fun p hp => by
    rcases List.mem_append.1 hp with h | h
    · exact List.mem_of_mem_take h
    · exact List.mem_of_mem_drop h
  have ho : okOrd (l.take k ++ l.drop (k + 1)) := by
    refine ⟨?_, fun p hp => hl.2 p (hmem p hp)⟩
    have := hl.1
    simp only [List.length_append, List.length_take, List.length_drop]; omega
  exact ⟨if_pos ⟨hs, ho⟩, fun hv => ⟨hs, ho, fun p hp => hv.2.2 p (hmem p hp)⟩⟩
theorem one_fact {s l : List (Int × Int)} {t : Int × Int} (ht : t ∈ l) (hv : fitV s l) : ∃ y ∈ s, decide (y.2 ≠ 0 ∧ t.1 ≤ y.1) = true := by
  obtain ⟨g1, g2, _⟩ := hv.2.1.2 t ht
  have h1 := hv.2.2 t ht
  obtain ⟨y, hy, h2, h3⟩ := (lonS_spec s).2.2 (by omega)
  exact ⟨y, hy, decide_eq_true ⟨h2, by omega⟩⟩
theorem fitE_of {s l : List (Int × Int)} (h : fitE s l = 0) : okStock s ∧ okOrd l := Classical.byContradiction fun hn => by
  have : fitE s l = 1 := if_neg hn
  omega
theorem wf_u8 {k : Int} (h : (Go.Lit.int .u8 k).wf = true) : 0 ≤ k ∧ k ≤ 255 := by
  have e1 : Go.IntKind.u8.min = 0 := by decide
  have e2 : Go.IntKind.u8.max = 255 := by decide
  simp only [Go.Lit.wf, e1, e2, Bool.and_eq_true, decide_eq_true_eq] at h
  exact h
theorem fits_law (s l : List (Int × Int)) (k : Int) (hs : s.length ≤ 140737488355328) (hl : l.length ≤ 140737488355328) (hi : (Go.Lit.int .u8 k).wf = true) : Fun Try.prog 4 [.sh 2 (s.map pairC), .sh 2 (l.map pairC), .lit (.int .u8 k)] (Ret (.lit (.bool true)) []) := by
  obtain ⟨hk0, hk1⟩ := wf_u8 hi
  refine Fun.of (nt := 146) (rs := [.tmp 6]) Try.func4 rfl rfl rfl rfl rfl ?_
  refine Ev.sr fun K hK => S.o q.as (S.end (hK _ ?_))
  clear hK K
  refine Ev.seq ?_
  refine Ev.sr fun K hK => S.c0 (hF := awake_fun) (h := S.o q.nott (S.end (hK _ ?_)))
  clear hK K
  refine Ev.cf ?_
  refine Ev.skip ?_
  show Ev _ _ _ _
  refine Ev.seq ?_
  refine Ev.sr fun K hK => S.o q.mv (S.o (q.lens am_el22) (S.o q.gtr (S.bd q.mv (fun c1 => ?_) (fun c1 => ?_))))
  · first
  | (first | omega | contradiction)
  | refine S.sk (S.sk (S.sk (S.sk (S.o q.pt (S.end (hK _ ?_))))))
    clear hK K
    refine Ev.ct ?_
    refine Ev.sr fun K hK => S.o q.as (S.end (hK _ ?_))
    clear hK K
    refine Ev.ret ?_
    refine Ev.ret1 ?_
    refine ⟨?_, rfl⟩
    first | rfl | (rw [decide_eq_false e0]; rfl) | exact lawT rfl | exact lawT (by omega) | exact lawT (by assumption) | (exfalso; omega) | contradiction | (exfalso; simp_all; done) | (exfalso; simp at *; done)
  · first
  | (first | omega | contradiction)
  | refine S.o q.mv (S.nn (q.bs [[_]] true am_el59 am_ze23 am_cl23) (S.c0 (hF := few_fun [l] (by simp) (fun x hx => by simp only [List.mem_cons, List.not_mem_nil, or_false] at hx; first | (rcases hx with rfl | rfl <;> assumption) | (subst hx; assumption))) (h := S.o q.not (S.o q.pf (S.end (hK _ ?_))))))
    clear hK K
    refine Ev.cn (fun c2 => ?_) (fun c2 => ?_)
    · first
    | (first | omega | contradiction)
    | refine Ev.sr fun K hK => S.o q.as (S.end (hK _ ?_))
      clear hK K
      refine Ev.ret ?_
      refine Ev.ret1 ?_
      refine ⟨?_, rfl⟩
      first | rfl | (rw [decide_eq_false e0]; rfl) | exact lawT rfl | exact lawT (by omega) | exact lawT (by assumption) | (exfalso; omega) | contradiction | (exfalso; simp_all; done) | (exfalso; simp at *; done)
    · first
    | (first | omega | contradiction)
    | refine Ev.skip ?_
      show Ev _ _ _ _
      have hfl : l.length ≤ 220 := (‹∀ x ∈ [l], x.length ≤ 220› : ∀ x ∈ [l], x.length ≤ 220) l (by simp)
      refine Ev.sr fun K hK => S.o q.mv (S.o q.mv (S.c0 (hF := stFits_fun _ _ (by omega) (by omega)) (h := S.o q.mv (S.o q.ex (S.o q.ex (S.o q.as (S.o q.as (S.end (hK _ ?_)))))))))
      clear hK K
      refine Ev.seq ?_
      refine Ev.sr fun K hK => S.o q.mv (S.o q.neq (S.end (hK _ ?_)))
      clear hK K
      refine Ev.cn (fun c3 => ?_) (fun c3 => ?_)
      · first
      | (first | omega | contradiction)
      | have e0 : ¬ fitV s l := fun h => ‹¬ fitE s l = 0› (if_pos ⟨h.1, h.2.1⟩)
        refine Ev.sr fun K hK => S.o q.mv (S.o q.not (S.o q.as (S.end (hK _ ?_))))
        clear hK K
        refine Ev.ret ?_
        refine Ev.ret1 ?_
        refine ⟨?_, rfl⟩
        first | rfl | (rw [decide_eq_false e0]; rfl) | exact lawT rfl | exact lawT (by omega) | exact lawT (by assumption) | (exfalso; omega) | contradiction | (exfalso; simp_all; done) | (exfalso; simp at *; done)
      · first
      | (first | omega | contradiction)
      | refine Ev.skip ?_
        show Ev _ _ _ _
        refine Ev.seq ?_
        obtain ⟨hos, hol⟩ := fitE_of ‹fitE s l = 0›
        refine Ev.sr fun K hK => S.o q.mv (S.o (q.lens am_el22) (S.o q.gtr (S.end (hK _ ?_))))
        clear hK K
        refine Ev.cd (fun c4 => ?_) (fun c4 => ?_)
        · first
        | (first | omega | contradiction)
        | obtain ⟨hj0s, hj1s⟩ : 0 ≤ k % (s.length : Int) ∧ k % (s.length : Int) < (s.length : Int) := ⟨Int.emod_nonneg _ (by omega), Int.emod_lt_of_pos _ (by omega)⟩
          obtain ⟨⟨sx, sy⟩, hx⟩ : ∃ x, s[(k % (s.length : Int)).toNat]? = some x := ⟨_, List.getElem?_eq_getElem (by omega)⟩
          obtain ⟨⟨e1, v1⟩, e2, v2⟩ := more_facts hos hol hx
          have ekk : (k % (s.length : Int) + 1).toNat = (k % (s.length : Int)).toNat + 1 := by omega
          rw [← ekk] at e2 v2
          have hdl : (s.take (k % (s.length : Int)).toNat ++ s.drop (k % (s.length : Int) + 1).toNat).length ≤ 1000 := by simp only [List.length_append, List.length_take, List.length_drop]; omega
          refine Ev.sr fun K hK => S.o q.mv (S.c1 (hF := cloneStk_fun _ (by omega)) (h := S.o q.as (S.end (hK _ ?_))))
          clear hK K
          refine Ev.sr fun K hK => S.o q.mv (S.o q.mv (S.o (q.cvi am_un3 am_us5) (S.o q.mv (S.o (q.lens am_el22) (S.o q.rem (S.o (q.ia am_el22 am_cl37) (S.o (q.fa 1 am_fi37_1 am_cl3) (S.sx (sx, -1) [_] am_in3 am_cl3 (hl := (by first | exact at_ hx (by omega) | exact at_g (by omega))) (h := S.end (hK _ ?_))))))))))
          clear hK K
          refine Ev.sr fun K hK => S.o q.mv (S.o q.mv ?_)
          refine SeqL.weaken (Wk.frz 56 [_]) ?_
          refine S.c0 (hF := stFits_fun (s.set (k % (s.length : Int)).toNat (sx, -1)) l (by rw [List.length_set]; omega) (by omega)) (h := S.o q.mv (S.o q.ex (S.o q.ex (S.o q.as (S.o q.as (S.end (hK _ ?_)))))))
          clear hK K
          refine Ev.seq ?_
          refine Ev.sr fun K hK => S.o q.mv (S.o q.neq (S.bn q.mv (fun c5 => ?_) (fun c5 => ?_)))
          · first
          | (first | omega | contradiction)
          | refine S.sk (S.sk (S.sk (S.sk (S.sk (S.o q.pt (S.end (hK _ ?_)))))))
            clear hK K
            refine Ev.ct ?_
            refine Ev.sr fun K hK => S.o q.as (S.end (hK _ ?_))
            clear hK K
            refine Ev.ret ?_
            refine Ev.ret1 ?_
            refine ⟨?_, rfl⟩
            first | rfl | (rw [decide_eq_false e0]; rfl) | exact lawT rfl | exact lawT (by omega) | exact lawT (by assumption) | (exfalso; omega) | contradiction | (exfalso; simp_all; done) | (exfalso; simp at *; done)
          · first
          | (first | omega | contradiction)
          | refine S.o q.mv (S.bd q.mv (fun c6 => ?_) (fun c6 => ?_))
            · first
            | (first | omega | contradiction)
            | refine S.o q.mv (S.o q.not (S.o q.pt (S.o q.pf (S.end (hK _ ?_)))))
              clear hK K
              refine Ev.cn (fun c7 => ?_) (fun c7 => ?_)
              · first
              | (first | omega | contradiction)
              | refine Ev.sr fun K hK => S.o q.as (S.end (hK _ ?_))
                clear hK K
                refine Ev.ret ?_
                refine Ev.ret1 ?_
                refine ⟨?_, rfl⟩
                first | rfl | (rw [decide_eq_false e0]; rfl) | exact lawT rfl | exact lawT (by omega) | exact lawT (by assumption) | (exfalso; omega) | contradiction | (exfalso; simp_all; done) | (exfalso; simp at *; done)
              · first
              | (first | omega | contradiction)
              | refine Ev.skip ?_
                show Ev _ _ _ _
                refine Ev.sm (tbs [(0, 0), (1, 1), (0, 0), (3, 4), (0, 0), (5, 16), (6, 60), (0, 0), (8, 128), (0, 0), (10, 512), (11, 1920), (12, 3968), (13, 8191), (14, 16383)]) 13 fun K hK => M.o q.mv (M.c1 [_] (hF := cloneStk_fun _ (by omega)) (h := M.o q.mv (M.o (q.cvi am_un3 am_us5) (M.o q.mv (M.o (q.lens am_el22) (M.o q.rem (M.o q.mv (M.o (q.cvi am_un3 am_us5) (M.o q.mv (M.o (q.lens am_el22) (M.o q.rem (M.o q.add (M.end [_, _] (h := S.cR [6] 55 [_, _] (hob := (keep_c (he := rfl) (h := keep_n))) (hF := deleteStk_R _ _ _ (by omega) (by omega) (by omega) (by omega)) (hn' := belowL rfl rfl) (h := S.o q.as (S.end (hK _ ?_)))))))))))))))))
                clear hK K
                refine Ev.sr fun K hK => S.o q.mv (S.o q.mv ?_)
                refine SeqL.weaken (Wk.frz 85 [_]) ?_
                refine S.c0 (hF := stFits_fun _ _ (by omega) (by omega)) (h := S.o q.mv (S.o q.ex (S.o q.ex (S.o q.as (S.o q.as (S.end (hK _ ?_)))))))
                clear hK K
                refine Ev.sr fun K hK => S.o q.mv (S.o q.neq (S.bn q.mv (fun c8 => ?_) (fun c8 => ?_)))
                · first
                | (first | omega | contradiction)
                | refine S.sk (S.sk (S.sk (S.sk (S.sk (S.o q.pt (S.end (hK _ ?_)))))))
                  clear hK K
                  refine Ev.ct ?_
                  refine Ev.sr fun K hK => S.o q.as (S.end (hK _ ?_))
                  clear hK K
                  refine Ev.ret ?_
                  refine Ev.ret1 ?_
                  refine ⟨?_, rfl⟩
                  first | rfl | (rw [decide_eq_false e0]; rfl) | exact lawT rfl | exact lawT (by omega) | exact lawT (by assumption) | (exfalso; omega) | contradiction | (exfalso; simp_all; done) | (exfalso; simp at *; done)
                · first
                | (first | omega | contradiction)
                | refine S.o q.mv (S.bd q.mv (fun c9 => ?_) (fun c9 => ?_))
                  · first
                  | (first | omega | contradiction)
                  | refine S.o q.mv (S.o q.not (S.o q.pt (S.o q.pf (S.end (hK _ ?_)))))
                    clear hK K
                    refine Ev.cn (fun c10 => ?_) (fun c10 => ?_)
                    · first
                    | (first | omega | contradiction)
                    | refine Ev.sr fun K hK => S.o q.as (S.end (hK _ ?_))
                      clear hK K
                      refine Ev.ret ?_
                      refine Ev.ret1 ?_
                      refine ⟨?_, rfl⟩
                      first | rfl | (rw [decide_eq_false e0]; rfl) | exact lawT rfl | exact lawT (by omega) | exact lawT (by assumption) | (exfalso; omega) | contradiction | (exfalso; simp_all; done) | (exfalso; simp at *; done)
                    · first
                    | (first | omega | contradiction)
                    | refine Ev.skip ?_
                      show Ev _ _ _ _
                      refine Ev.seq ?_
                      refine Ev.sr fun K hK => S.o q.mv (S.o (q.lens am_el23) (S.o q.gtr (S.end (hK _ ?_))))
                      clear hK K
                      refine Ev.cd (fun c11 => ?_) (fun c11 => ?_)
                      · first
                      | (first | omega | contradiction)
                      | obtain ⟨hj0l, hj1l⟩ : 0 ≤ k % (l.length : Int) ∧ k % (l.length : Int) < (l.length : Int) := ⟨Int.emod_nonneg _ (by omega), Int.emod_lt_of_pos _ (by omega)⟩
                        obtain ⟨e3, v3⟩ := part_facts (k := (k % (l.length : Int)).toNat) hos hol
                        have ekl : (k % (l.length : Int) + 1).toNat = (k % (l.length : Int)).toNat + 1 := by omega
                        rw [← ekl] at e3 v3
                        have hdp : (l.take (k % (l.length : Int)).toNat ++ l.drop (k % (l.length : Int) + 1).toNat).length ≤ 1000 := by simp only [List.length_append, List.length_take, List.length_drop]; omega
                        refine Ev.sm (tbs [(0, 0), (1, 1), (0, 0), (3, 4), (0, 0), (5, 16), (6, 60), (0, 0), (8, 128), (0, 0), (10, 512), (11, 1920), (12, 3968), (13, 8191), (14, 16383)]) 13 fun K hK => M.o q.mv (M.c1 [_] (hF := clonePce_fun _ (by omega)) (h := M.o q.mv (M.o (q.cvi am_un3 am_us5) (M.o q.mv (M.o (q.lens am_el23) (M.o q.rem (M.o q.mv (M.o (q.cvi am_un3 am_us5) (M.o q.mv (M.o (q.lens am_el23) (M.o q.rem (M.o q.add (M.end [_, _] (h := S.cR [59] 108 [_, _] (hob := (keep_c (he := rfl) (h := keep_n))) (hF := deletePce_R _ _ _ (by omega) (by omega) (by omega) (by omega)) (hn' := belowL rfl rfl) (h := S.o q.as (S.end (hK _ ?_)))))))))))))))))
                        clear hK K
                        refine Ev.sr fun K hK => S.o q.mv (S.o q.mv ?_)
                        refine SeqL.weaken (Wk.frz 118 [_]) ?_
                        refine S.c0 (hF := stFits_fun _ _ (by omega) (by omega)) (h := S.o q.mv (S.o q.ex (S.o q.ex (S.o q.as (S.o q.as (S.end (hK _ ?_)))))))
                        clear hK K
                        refine Ev.sr fun K hK => S.o q.mv (S.o q.neq (S.bn q.mv (fun c12 => ?_) (fun c12 => ?_)))
                        · first
                        | (first | omega | contradiction)
                        | refine S.sk (S.sk (S.sk (S.sk (S.sk (S.o q.pt (S.end (hK _ ?_)))))))
                          clear hK K
                          refine Ev.ct ?_
                          refine Ev.sr fun K hK => S.o q.as (S.end (hK _ ?_))
                          clear hK K
                          refine Ev.ret ?_
                          refine Ev.ret1 ?_
                          refine ⟨?_, rfl⟩
                          first | rfl | (rw [decide_eq_false e0]; rfl) | exact lawT rfl | exact lawT (by omega) | exact lawT (by assumption) | (exfalso; omega) | contradiction | (exfalso; simp_all; done) | (exfalso; simp at *; done)
                        · first
                        | (first | omega | contradiction)
                        | refine S.o q.mv (S.bd q.mv (fun c13 => ?_) (fun c13 => ?_))
                          · first
                          | (first | omega | contradiction)
                          | refine S.o q.mv (S.o q.not (S.o q.pt (S.o q.pf (S.end (hK _ ?_)))))
                            clear hK K
                            refine Ev.cn (fun c14 => ?_) (fun c14 => ?_)
                            · first
                            | (first | omega | contradiction)
                            | refine Ev.sr fun K hK => S.o q.as (S.end (hK _ ?_))
                              clear hK K
                              refine Ev.ret ?_
                              refine Ev.ret1 ?_
                              refine ⟨?_, rfl⟩
                              first | rfl | (rw [decide_eq_false e0]; rfl) | exact lawT rfl | exact lawT (by omega) | exact lawT (by assumption) | (exfalso; omega) | contradiction | (exfalso; simp_all; done) | (exfalso; simp at *; done)
                            · first
                            | (first | omega | contradiction)
                            | refine Ev.skip ?_
                              show Ev _ _ _ _
                              refine Ev.seq ?_
                              refine Ev.sr fun K hK => S.o q.mv (S.o (q.lens am_el23) (S.o q.mv (S.end (hK _ ?_))))
                              clear hK K
                              refine Ev.block ?_
                              refine Ev.loopU (ι := {p : List (Int × Int) × List (Int × Int) // p.1 ++ p.2 = l ∧ True}) [] [0, 7, 131, 132] (fun ⟨(pre, suf), _⟩ => [(133, .lit (.int .i64 ((pre.length : Int))))]) (fun ⟨(pre, suf), _⟩ => []) (fun ⟨(pre, suf), _⟩ => suf.length) ⟨([], l), rfl, trivial⟩ (.c (.c (.c (.c .n)))) keep_n (slots_c (he := (by first | rfl | (congr 2; simp; done))) (h := trivial)) ?_
                              rintro ⟨⟨pre, suf⟩, hp, hinv⟩ R0 hR0
                              dsimp only [List.cons_append, List.nil_append, List.length_cons, List.length_nil]
                              simp only at hp hinv
                              have hpl : pre.length + suf.length = (l).length := by rw [← hp, List.length_append]
                              rcases suf with _ | ⟨t, suf⟩
                              · rw [List.append_nil] at hp; simp only [List.length_nil] at hpl
                                refine Ev.sr fun K hK => S.o q.lss (S.end (hK _ ?_))
                                clear hK K
                                refine Ev.ud (fun c15 => ?_) (fun c15 => ?_)
                                · first | omega | contradiction
                                · first
                                | (first | omega | contradiction)
                                | refine Ev.exit ?_
                                  refine hR0 _ _ ?_
                                  show Ev _ _ _ _
                                  refine Ev.sr fun K hK => S.o q.as (S.end (hK _ ?_))
                                  clear hK K
                                  refine Ev.ret ?_
                                  refine Ev.ret1 ?_
                                  refine ⟨?_, rfl⟩
                                  first | rfl | (rw [decide_eq_false e0]; rfl) | exact lawT rfl | exact lawT (by omega) | exact lawT (by assumption) | (exfalso; omega) | contradiction | (exfalso; simp_all; done) | (exfalso; simp at *; done)
                              · simp only [List.length_cons] at hpl
                                have hidx : l[pre.length]? = some t := by rw [← hp]; simp
                                obtain ⟨sx2, sy2⟩ := t
                                have v4 := fun h => one_fact (s := s) (l := l) (t := (sx2, sy2)) (by rw [← hp]; simp) h
                                refine Ev.sr fun K hK => S.o q.lss (S.end (hK _ ?_))
                                clear hK K
                                refine Ev.ud (fun c16 => ?_) (fun c16 => ?_)
                                · first
                                | (first | omega | contradiction)
                                | refine Ev.seq ?_
                                  refine Ev.block ?_
                                  refine Ev.sr fun K hK => S.o (q.ix am_el23 am_cl40 (hl := (by first | exact ati hx (by omega) | exact ati hidx (by omega) | exact atig (by omega)))) (S.o (q.lsA [_, _] am_ag40 am_cl40) (S.nn (q.al am_ze40) (S.sv [_, _] true [] am_in40 am_cl40 (h := S.end (hK _ ?_)))))
                                  clear hK K
                                  refine Ev.sr fun K hK => S.o q.mv (S.o q.mf (S.c0 (hF := containsFuncSk1 _ (pairC (sx2, sy2)) (fun y => decide (y.2 ≠ 0 ∧ sx2 ≤ y.1)) (fun y => fits2_fun (sx2, sy2) y) s (by omega)) (h := S.o q.as (S.end (hK _ ?_)))))
                                  clear hK K
                                  refine Ev.sr fun K hK => S.o q.mv (S.bd q.mv (fun c17 => ?_) (fun c17 => ?_))
                                  · first
                                  | (first | omega | contradiction)
                                  | refine S.o q.mv (S.o q.not (S.o q.pt (S.end (hK _ ?_))))
                                    clear hK K
                                    refine Ev.cn (fun c18 => ?_) (fun c18 => ?_)
                                    · first
                                    | (first | omega | contradiction)
                                    | refine Ev.sr fun K hK => S.o q.as (S.end (hK _ ?_))
                                      clear hK K
                                      refine Ev.ret ?_
                                      refine hR0 _ _ ?_
                                      refine Ev.ret1 ?_
                                      refine ⟨?_, rfl⟩
                                      first | rfl | (rw [decide_eq_false e0]; rfl) | exact lawT rfl | exact lawT (by omega) | exact lawT (by assumption) | (exfalso; omega) | contradiction | (exfalso; simp_all; done) | (exfalso; simp at *; done)
                                    · first
                                    | (first | omega | contradiction)
                                    | refine Ev.skip ?_
                                      show Ev _ _ _ _
                                      refine Ev.region_S fun K hK => S.o q.add (S.o q.mv (S.end (hK _ ?_)))
                                      clear hK K
                                      refine hR0 _ _ ?_
                                      refine roundU [] [0, 7, 131, 132] ⟨(pre ++ [(sx2, sy2)], suf), by rw [← hp]; simp, ?_⟩ ?_ keep_n (slots_c (he := (by first | rfl | (congr 2; simp; done))) (h := trivial)) (.c (.c (.c (.c .n))))
                                      trivial
                                      all_goals (dsimp only; simp only [List.length_cons]; omega)
                                  · first
                                  | (first | omega | contradiction)
                                  | refine S.sk (S.sk (S.o q.pf (S.end (hK _ ?_))))
                                    clear hK K
                                    refine Ev.cf ?_
                                    refine Ev.skip ?_
                                    show Ev _ _ _ _
                                    refine Ev.region_S fun K hK => S.o q.add (S.o q.mv (S.end (hK _ ?_)))
                                    clear hK K
                                    refine hR0 _ _ ?_
                                    refine roundU [] [0, 7, 131, 132] ⟨(pre ++ [(sx2, sy2)], suf), by rw [← hp]; simp, ?_⟩ ?_ keep_n (slots_c (he := (by first | rfl | (congr 2; simp; done))) (h := trivial)) (.c (.c (.c (.c .n))))
                                    trivial
                                    all_goals (dsimp only; simp only [List.length_cons]; omega)
                                · first | omega | contradiction
                          · first
                          | (first | omega | contradiction)
                          | refine S.sk (S.sk (S.o q.pf (S.o q.pf (S.end (hK _ ?_)))))
                            clear hK K
                            refine Ev.cf ?_
                            refine Ev.skip ?_
                            show Ev _ _ _ _
                            refine Ev.seq ?_
                            refine Ev.sr fun K hK => S.o q.mv (S.o (q.lens am_el23) (S.o q.mv (S.end (hK _ ?_))))
                            clear hK K
                            refine Ev.block ?_
                            refine Ev.loopU (ι := {p : List (Int × Int) × List (Int × Int) // p.1 ++ p.2 = l ∧ True}) [] [0, 7, 131, 132] (fun ⟨(pre, suf), _⟩ => [(133, .lit (.int .i64 ((pre.length : Int))))]) (fun ⟨(pre, suf), _⟩ => []) (fun ⟨(pre, suf), _⟩ => suf.length) ⟨([], l), rfl, trivial⟩ (.c (.c (.c (.c .n)))) keep_n (slots_c (he := (by first | rfl | (congr 2; simp; done))) (h := trivial)) ?_
                            rintro ⟨⟨pre, suf⟩, hp, hinv⟩ R0 hR0
                            dsimp only [List.cons_append, List.nil_append, List.length_cons, List.length_nil]
                            simp only at hp hinv
                            have hpl : pre.length + suf.length = (l).length := by rw [← hp, List.length_append]
                            rcases suf with _ | ⟨t, suf⟩
                            · rw [List.append_nil] at hp; simp only [List.length_nil] at hpl
                              refine Ev.sr fun K hK => S.o q.lss (S.end (hK _ ?_))
                              clear hK K
                              refine Ev.ud (fun c19 => ?_) (fun c19 => ?_)
                              · first | omega | contradiction
                              · first
                              | (first | omega | contradiction)
                              | refine Ev.exit ?_
                                refine hR0 _ _ ?_
                                show Ev _ _ _ _
                                refine Ev.sr fun K hK => S.o q.as (S.end (hK _ ?_))
                                clear hK K
                                refine Ev.ret ?_
                                refine Ev.ret1 ?_
                                refine ⟨?_, rfl⟩
                                first | rfl | (rw [decide_eq_false e0]; rfl) | exact lawT rfl | exact lawT (by omega) | exact lawT (by assumption) | (exfalso; omega) | contradiction | (exfalso; simp_all; done) | (exfalso; simp at *; done)
                            · simp only [List.length_cons] at hpl
                              have hidx : l[pre.length]? = some t := by rw [← hp]; simp
                              obtain ⟨sx2, sy2⟩ := t
                              have v4 := fun h => one_fact (s := s) (l := l) (t := (sx2, sy2)) (by rw [← hp]; simp) h
                              refine Ev.sr fun K hK => S.o q.lss (S.end (hK _ ?_))
                              clear hK K
                              refine Ev.ud (fun c20 => ?_) (fun c20 => ?_)
                              · first
                              | (first | omega | contradiction)
                              | refine Ev.seq ?_
                                refine Ev.block ?_
                                refine Ev.sr fun K hK => S.o (q.ix am_el23 am_cl40 (hl := (by first | exact ati hx (by omega) | exact ati hidx (by omega) | exact atig (by omega)))) (S.o (q.lsA [_, _] am_ag40 am_cl40) (S.nn (q.al am_ze40) (S.sv [_, _] true [] am_in40 am_cl40 (h := S.end (hK _ ?_)))))
                                clear hK K
                                refine Ev.sr fun K hK => S.o q.mv (S.o q.mf (S.c0 (hF := containsFuncSk1 _ (pairC (sx2, sy2)) (fun y => decide (y.2 ≠ 0 ∧ sx2 ≤ y.1)) (fun y => fits2_fun (sx2, sy2) y) s (by omega)) (h := S.o q.as (S.end (hK _ ?_)))))
                                clear hK K
                                refine Ev.sr fun K hK => S.o q.mv (S.bd q.mv (fun c21 => ?_) (fun c21 => ?_))
                                · first
                                | (first | omega | contradiction)
                                | refine S.o q.mv (S.o q.not (S.o q.pt (S.end (hK _ ?_))))
                                  clear hK K
                                  refine Ev.cn (fun c22 => ?_) (fun c22 => ?_)
                                  · first
                                  | (first | omega | contradiction)
                                  | refine Ev.sr fun K hK => S.o q.as (S.end (hK _ ?_))
                                    clear hK K
                                    refine Ev.ret ?_
                                    refine hR0 _ _ ?_
                                    refine Ev.ret1 ?_
                                    refine ⟨?_, rfl⟩
                                    first | rfl | (rw [decide_eq_false e0]; rfl) | exact lawT rfl | exact lawT (by omega) | exact lawT (by assumption) | (exfalso; omega) | contradiction | (exfalso; simp_all; done) | (exfalso; simp at *; done)
                                  · first
                                  | (first | omega | contradiction)
                                  | refine Ev.skip ?_
                                    show Ev _ _ _ _
                                    refine Ev.region_S fun K hK => S.o q.add (S.o q.mv (S.end (hK _ ?_)))
                                    clear hK K
                                    refine hR0 _ _ ?_
                                    refine roundU [] [0, 7, 131, 132] ⟨(pre ++ [(sx2, sy2)], suf), by rw [← hp]; simp, ?_⟩ ?_ keep_n (slots_c (he := (by first | rfl | (congr 2; simp; done))) (h := trivial)) (.c (.c (.c (.c .n))))
                                    trivial
                                    all_goals (dsimp only; simp only [List.length_cons]; omega)
                                · first
                                | (first | omega | contradiction)
                                | refine S.sk (S.sk (S.o q.pf (S.end (hK _ ?_))))
                                  clear hK K
                                  refine Ev.cf ?_
                                  refine Ev.skip ?_
                                  show Ev _ _ _ _
                                  refine Ev.region_S fun K hK => S.o q.add (S.o q.mv (S.end (hK _ ?_)))
                                  clear hK K
                                  refine hR0 _ _ ?_
                                  refine roundU [] [0, 7, 131, 132] ⟨(pre ++ [(sx2, sy2)], suf), by rw [← hp]; simp, ?_⟩ ?_ keep_n (slots_c (he := (by first | rfl | (congr 2; simp; done))) (h := trivial)) (.c (.c (.c (.c .n))))
                                  trivial
                                  all_goals (dsimp only; simp only [List.length_cons]; omega)
                              · first | omega | contradiction
                      · first
                      | (first | omega | contradiction)
                      | refine Ev.skip ?_
                        show Ev _ _ _ _
                        refine Ev.seq ?_
                        refine Ev.sr fun K hK => S.o q.mv (S.o (q.lens am_el23) (S.o q.mv (S.end (hK _ ?_))))
                        clear hK K
                        refine Ev.block ?_
                        refine Ev.loopU (ι := {p : List (Int × Int) × List (Int × Int) // p.1 ++ p.2 = l ∧ True}) [] [0, 7, 131, 132] (fun ⟨(pre, suf), _⟩ => [(133, .lit (.int .i64 ((pre.length : Int))))]) (fun ⟨(pre, suf), _⟩ => []) (fun ⟨(pre, suf), _⟩ => suf.length) ⟨([], l), rfl, trivial⟩ (.c (.c (.c (.c .n)))) keep_n (slots_c (he := (by first | rfl | (congr 2; simp; done))) (h := trivial)) ?_
                        rintro ⟨⟨pre, suf⟩, hp, hinv⟩ R0 hR0
                        dsimp only [List.cons_append, List.nil_append, List.length_cons, List.length_nil]
                        simp only at hp hinv
                        have hpl : pre.length + suf.length = (l).length := by rw [← hp, List.length_append]
                        rcases suf with _ | ⟨t, suf⟩
                        · rw [List.append_nil] at hp; simp only [List.length_nil] at hpl
                          refine Ev.sr fun K hK => S.o q.lss (S.end (hK _ ?_))
                          clear hK K
                          refine Ev.ud (fun c23 => ?_) (fun c23 => ?_)
                          · first | omega | contradiction
                          · first
                          | (first | omega | contradiction)
                          | refine Ev.exit ?_
                            refine hR0 _ _ ?_
                            show Ev _ _ _ _
                            refine Ev.sr fun K hK => S.o q.as (S.end (hK _ ?_))
                            clear hK K
                            refine Ev.ret ?_
                            refine Ev.ret1 ?_
                            refine ⟨?_, rfl⟩
                            first | rfl | (rw [decide_eq_false e0]; rfl) | exact lawT rfl | exact lawT (by omega) | exact lawT (by assumption) | (exfalso; omega) | contradiction | (exfalso; simp_all; done) | (exfalso; simp at *; done)
                        · simp only [List.length_cons] at hpl
                          have hidx : l[pre.length]? = some t := by rw [← hp]; simp
                          obtain ⟨sx2, sy2⟩ := t
                          have v4 := fun h => one_fact (s := s) (l := l) (t := (sx2, sy2)) (by rw [← hp]; simp) h
                          refine Ev.sr fun K hK => S.o q.lss (S.end (hK _ ?_))
                          clear hK K
                          refine Ev.ud (fun c24 => ?_) (fun c24 => ?_)
                          · first
                          | (first | omega | contradiction)
                          | refine Ev.seq ?_
                            refine Ev.block ?_
                            refine Ev.sr fun K hK => S.o (q.ix am_el23 am_cl40 (hl := (by first | exact ati hx (by omega) | exact ati hidx (by omega) | exact atig (by omega)))) (S.o (q.lsA [_, _] am_ag40 am_cl40) (S.nn (q.al am_ze40) (S.sv [_, _] true [] am_in40 am_cl40 (h := S.end (hK _ ?_)))))
                            clear hK K
                            refine Ev.sr fun K hK => S.o q.mv (S.o q.mf (S.c0 (hF := containsFuncSk1 _ (pairC (sx2, sy2)) (fun y => decide (y.2 ≠ 0 ∧ sx2 ≤ y.1)) (fun y => fits2_fun (sx2, sy2) y) s (by omega)) (h := S.o q.as (S.end (hK _ ?_)))))
                            clear hK K
                            refine Ev.sr fun K hK => S.o q.mv (S.bd q.mv (fun c25 => ?_) (fun c25 => ?_))
                            · first
                            | (first | omega | contradiction)
                            | refine S.o q.mv (S.o q.not (S.o q.pt (S.end (hK _ ?_))))
                              clear hK K
                              refine Ev.cn (fun c26 => ?_) (fun c26 => ?_)
                              · first
                              | (first | omega | contradiction)
                              | refine Ev.sr fun K hK => S.o q.as (S.end (hK _ ?_))
                                clear hK K
                                refine Ev.ret ?_
                                refine hR0 _ _ ?_
                                refine Ev.ret1 ?_
                                refine ⟨?_, rfl⟩
                                first | rfl | (rw [decide_eq_false e0]; rfl) | exact lawT rfl | exact lawT (by omega) | exact lawT (by assumption) | (exfalso; omega) | contradiction | (exfalso; simp_all; done) | (exfalso; simp at *; done)
                              · first
                              | (first | omega | contradiction)
                              | refine Ev.skip ?_
                                show Ev _ _ _ _
                                refine Ev.region_S fun K hK => S.o q.add (S.o q.mv (S.end (hK _ ?_)))
                                clear hK K
                                refine hR0 _ _ ?_
                                refine roundU [] [0, 7, 131, 132] ⟨(pre ++ [(sx2, sy2)], suf), by rw [← hp]; simp, ?_⟩ ?_ keep_n (slots_c (he := (by first | rfl | (congr 2; simp; done))) (h := trivial)) (.c (.c (.c (.c .n))))
                                trivial
                                all_goals (dsimp only; simp only [List.length_cons]; omega)
                            · first
                            | (first | omega | contradiction)
                            | refine S.sk (S.sk (S.o q.pf (S.end (hK _ ?_))))
                              clear hK K
                              refine Ev.cf ?_
                              refine Ev.skip ?_
                              show Ev _ _ _ _
                              refine Ev.region_S fun K hK => S.o q.add (S.o q.mv (S.end (hK _ ?_)))
                              clear hK K
                              refine hR0 _ _ ?_
                              refine roundU [] [0, 7, 131, 132] ⟨(pre ++ [(sx2, sy2)], suf), by rw [← hp]; simp, ?_⟩ ?_ keep_n (slots_c (he := (by first | rfl | (congr 2; simp; done))) (h := trivial)) (.c (.c (.c (.c .n))))
                              trivial
                              all_goals (dsimp only; simp only [List.length_cons]; omega)
                          · first | omega | contradiction
                  · first
                  | (first | omega | contradiction)
                  | refine S.sk (S.sk (S.o q.pf (S.o q.pf (S.end (hK _ ?_)))))
                    clear hK K
                    refine Ev.cf ?_
                    refine Ev.skip ?_
                    show Ev _ _ _ _
                    refine Ev.seq ?_
                    refine Ev.sr fun K hK => S.o q.mv (S.o (q.lens am_el23) (S.o q.gtr (S.end (hK _ ?_))))
                    clear hK K
                    refine Ev.cd (fun c27 => ?_) (fun c27 => ?_)
                    · first
                    | (first | omega | contradiction)
                    | obtain ⟨hj0l, hj1l⟩ : 0 ≤ k % (l.length : Int) ∧ k % (l.length : Int) < (l.length : Int) := ⟨Int.emod_nonneg _ (by omega), Int.emod_lt_of_pos _ (by omega)⟩
                      obtain ⟨e3, v3⟩ := part_facts (k := (k % (l.length : Int)).toNat) hos hol
                      have ekl : (k % (l.length : Int) + 1).toNat = (k % (l.length : Int)).toNat + 1 := by omega
                      rw [← ekl] at e3 v3
                      have hdp : (l.take (k % (l.length : Int)).toNat ++ l.drop (k % (l.length : Int) + 1).toNat).length ≤ 1000 := by simp only [List.length_append, List.length_take, List.length_drop]; omega
                      refine Ev.sm (tbs [(0, 0), (1, 1), (0, 0), (3, 4), (0, 0), (5, 16), (6, 60), (0, 0), (8, 128), (0, 0), (10, 512), (11, 1920), (12, 3968), (13, 8191), (14, 16383)]) 13 fun K hK => M.o q.mv (M.c1 [_] (hF := clonePce_fun _ (by omega)) (h := M.o q.mv (M.o (q.cvi am_un3 am_us5) (M.o q.mv (M.o (q.lens am_el23) (M.o q.rem (M.o q.mv (M.o (q.cvi am_un3 am_us5) (M.o q.mv (M.o (q.lens am_el23) (M.o q.rem (M.o q.add (M.end [_, _] (h := S.cR [59] 108 [_, _] (hob := (keep_c (he := rfl) (h := keep_n))) (hF := deletePce_R _ _ _ (by omega) (by omega) (by omega) (by omega)) (hn' := belowL rfl rfl) (h := S.o q.as (S.end (hK _ ?_)))))))))))))))))
                      clear hK K
                      refine Ev.sr fun K hK => S.o q.mv (S.o q.mv ?_)
                      refine SeqL.weaken (Wk.frz 118 [_]) ?_
                      refine S.c0 (hF := stFits_fun _ _ (by omega) (by omega)) (h := S.o q.mv (S.o q.ex (S.o q.ex (S.o q.as (S.o q.as (S.end (hK _ ?_)))))))
                      clear hK K
                      refine Ev.sr fun K hK => S.o q.mv (S.o q.neq (S.bn q.mv (fun c28 => ?_) (fun c28 => ?_)))
                      · first
                      | (first | omega | contradiction)
                      | refine S.sk (S.sk (S.sk (S.sk (S.sk (S.o q.pt (S.end (hK _ ?_)))))))
                        clear hK K
                        refine Ev.ct ?_
                        refine Ev.sr fun K hK => S.o q.as (S.end (hK _ ?_))
                        clear hK K
                        refine Ev.ret ?_
                        refine Ev.ret1 ?_
                        refine ⟨?_, rfl⟩
                        first | rfl | (rw [decide_eq_false e0]; rfl) | exact lawT rfl | exact lawT (by omega) | exact lawT (by assumption) | (exfalso; omega) | contradiction | (exfalso; simp_all; done) | (exfalso; simp at *; done)
                      · first
                      | (first | omega | contradiction)
                      | refine S.o q.mv (S.bd q.mv (fun c29 => ?_) (fun c29 => ?_))
                        · first
                        | (first | omega | contradiction)
                        | refine S.o q.mv (S.o q.not (S.o q.pt (S.o q.pf (S.end (hK _ ?_)))))
                          clear hK K
                          refine Ev.cn (fun c30 => ?_) (fun c30 => ?_)
                          · first
                          | (first | omega | contradiction)
                          | refine Ev.sr fun K hK => S.o q.as (S.end (hK _ ?_))
                            clear hK K
                            refine Ev.ret ?_
                            refine Ev.ret1 ?_
                            refine ⟨?_, rfl⟩
                            first | rfl | (rw [decide_eq_false e0]; rfl) | exact lawT rfl | exact lawT (by omega) | exact lawT (by assumption) | (exfalso; omega) | contradiction | (exfalso; simp_all; done) | (exfalso; simp at *; done)
                          · first
                          | (first | omega | contradiction)
                          | refine Ev.skip ?_
                            show Ev _ _ _ _
                            refine Ev.seq ?_
                            refine Ev.sr fun K hK => S.o q.mv (S.o (q.lens am_el23) (S.o q.mv (S.end (hK _ ?_))))
                            clear hK K
                            refine Ev.block ?_
                            refine Ev.loopU (ι := {p : List (Int × Int) × List (Int × Int) // p.1 ++ p.2 = l ∧ True}) [] [0, 7, 131, 132] (fun ⟨(pre, suf), _⟩ => [(133, .lit (.int .i64 ((pre.length : Int))))]) (fun ⟨(pre, suf), _⟩ => []) (fun ⟨(pre, suf), _⟩ => suf.length) ⟨([], l), rfl, trivial⟩ (.c (.c (.c (.c .n)))) keep_n (slots_c (he := (by first | rfl | (congr 2; simp; done))) (h := trivial)) ?_
                            rintro ⟨⟨pre, suf⟩, hp, hinv⟩ R0 hR0
                            dsimp only [List.cons_append, List.nil_append, List.length_cons, List.length_nil]
                            simp only at hp hinv
                            have hpl : pre.length + suf.length = (l).length := by rw [← hp, List.length_append]
                            rcases suf with _ | ⟨t, suf⟩
                            · rw [List.append_nil] at hp; simp only [List.length_nil] at hpl
                              refine Ev.sr fun K hK => S.o q.lss (S.end (hK _ ?_))
                              clear hK K
                              refine Ev.ud (fun c31 => ?_) (fun c31 => ?_)
                              · first | omega | contradiction
                              · first
                              | (first | omega | contradiction)
                              | refine Ev.exit ?_
                                refine hR0 _ _ ?_
                                show Ev _ _ _ _
                                refine Ev.sr fun K hK => S.o q.as (S.end (hK _ ?_))
                                clear hK K
                                refine Ev.ret ?_
                                refine Ev.ret1 ?_
                                refine ⟨?_, rfl⟩
                                first | rfl | (rw [decide_eq_false e0]; rfl) | exact lawT rfl | exact lawT (by omega) | exact lawT (by assumption) | (exfalso; omega) | contradiction | (exfalso; simp_all; done) | (exfalso; simp at *; done)
                            · simp only [List.length_cons] at hpl
                              have hidx : l[pre.length]? = some t := by rw [← hp]; simp
                              obtain ⟨sx2, sy2⟩ := t
                              have v4 := fun h => one_fact (s := s) (l := l) (t := (sx2, sy2)) (by rw [← hp]; simp) h
                              refine Ev.sr fun K hK => S.o q.lss (S.end (hK _ ?_))
                              clear hK K
                              refine Ev.ud (fun c32 => ?_) (fun c32 => ?_)
                              · first
                              | (first | omega | contradiction)
                              | refine Ev.seq ?_
                                refine Ev.block ?_
                                refine Ev.sr fun K hK => S.o (q.ix am_el23 am_cl40 (hl := (by first | exact ati hx (by omega) | exact ati hidx (by omega) | exact atig (by omega)))) (S.o (q.lsA [_, _] am_ag40 am_cl40) (S.nn (q.al am_ze40) (S.sv [_, _] true [] am_in40 am_cl40 (h := S.end (hK _ ?_)))))
                                clear hK K
                                refine Ev.sr fun K hK => S.o q.mv (S.o q.mf (S.c0 (hF := containsFuncSk1 _ (pairC (sx2, sy2)) (fun y => decide (y.2 ≠ 0 ∧ sx2 ≤ y.1)) (fun y => fits2_fun (sx2, sy2) y) s (by omega)) (h := S.o q.as (S.end (hK _ ?_)))))
                                clear hK K
                                refine Ev.sr fun K hK => S.o q.mv (S.bd q.mv (fun c33 => ?_) (fun c33 => ?_))
                                · first
                                | (first | omega | contradiction)
                                | refine S.o q.mv (S.o q.not (S.o q.pt (S.end (hK _ ?_))))
                                  clear hK K
                                  refine Ev.cn (fun c34 => ?_) (fun c34 => ?_)
                                  · first
                                  | (first | omega | contradiction)
                                  | refine Ev.sr fun K hK => S.o q.as (S.end (hK _ ?_))
                                    clear hK K
                                    refine Ev.ret ?_
                                    refine hR0 _ _ ?_
                                    refine Ev.ret1 ?_
                                    refine ⟨?_, rfl⟩
                                    first | rfl | (rw [decide_eq_false e0]; rfl) | exact lawT rfl | exact lawT (by omega) | exact lawT (by assumption) | (exfalso; omega) | contradiction | (exfalso; simp_all; done) | (exfalso; simp at *; done)
                                  · first
                                  | (first | omega | contradiction)
                                  | refine Ev.skip ?_
                                    show Ev _ _ _ _
                                    refine Ev.region_S fun K hK => S.o q.add (S.o q.mv (S.end (hK _ ?_)))
                                    clear hK K
                                    refine hR0 _ _ ?_
                                    refine roundU [] [0, 7, 131, 132] ⟨(pre ++ [(sx2, sy2)], suf), by rw [← hp]; simp, ?_⟩ ?_ keep_n (slots_c (he := (by first | rfl | (congr 2; simp; done))) (h := trivial)) (.c (.c (.c (.c .n))))
                                    trivial
                                    all_goals (dsimp only; simp only [List.length_cons]; omega)
                                · first
                                | (first | omega | contradiction)
                                | refine S.sk (S.sk (S.o q.pf (S.end (hK _ ?_))))
                                  clear hK K
                                  refine Ev.cf ?_
                                  refine Ev.skip ?_
                                  show Ev _ _ _ _
                                  refine Ev.region_S fun K hK => S.o q.add (S.o q.mv (S.end (hK _ ?_)))
                                  clear hK K
                                  refine hR0 _ _ ?_
                                  refine roundU [] [0, 7, 131, 132] ⟨(pre ++ [(sx2, sy2)], suf), by rw [← hp]; simp, ?_⟩ ?_ keep_n (slots_c (he := (by first | rfl | (congr 2; simp; done))) (h := trivial)) (.c (.c (.c (.c .n))))
                                  trivial
                                  all_goals (dsimp only; simp only [List.length_cons]; omega)
                              · first | omega | contradiction
                        · first
                        | (first | omega | contradiction)
                        | refine S.sk (S.sk (S.o q.pf (S.o q.pf (S.end (hK _ ?_)))))
                          clear hK K
                          refine Ev.cf ?_
                          refine Ev.skip ?_
                          show Ev _ _ _ _
                          refine Ev.seq ?_
                          refine Ev.sr fun K hK => S.o q.mv (S.o (q.lens am_el23) (S.o q.mv (S.end (hK _ ?_))))
                          clear hK K
                          refine Ev.block ?_
                          refine Ev.loopU (ι := {p : List (Int × Int) × List (Int × Int) // p.1 ++ p.2 = l ∧ True}) [] [0, 7, 131, 132] (fun ⟨(pre, suf), _⟩ => [(133, .lit (.int .i64 ((pre.length : Int))))]) (fun ⟨(pre, suf), _⟩ => []) (fun ⟨(pre, suf), _⟩ => suf.length) ⟨([], l), rfl, trivial⟩ (.c (.c (.c (.c .n)))) keep_n (slots_c (he := (by first | rfl | (congr 2; simp; done))) (h := trivial)) ?_
                          rintro ⟨⟨pre, suf⟩, hp, hinv⟩ R0 hR0
                          dsimp only [List.cons_append, List.nil_append, List.length_cons, List.length_nil]
                          simp only at hp hinv
                          have hpl : pre.length + suf.length = (l).length := by rw [← hp, List.length_append]
                          rcases suf with _ | ⟨t, suf⟩
                          · rw [List.append_nil] at hp; simp only [List.length_nil] at hpl
                            refine Ev.sr fun K hK => S.o q.lss (S.end (hK _ ?_))
                            clear hK K
                            refine Ev.ud (fun c35 => ?_) (fun c35 => ?_)
                            · first | omega | contradiction
                            · first
                            | (first | omega | contradiction)
                            | refine Ev.exit ?_
                              refine hR0 _ _ ?_
                              show Ev _ _ _ _
                              refine Ev.sr fun K hK => S.o q.as (S.end (hK _ ?_))
                              clear hK K
                              refine Ev.ret ?_
                              refine Ev.ret1 ?_
                              refine ⟨?_, rfl⟩
                              first | rfl | (rw [decide_eq_false e0]; rfl) | exact lawT rfl | exact lawT (by omega) | exact lawT (by assumption) | (exfalso; omega) | contradiction | (exfalso; simp_all; done) | (exfalso; simp at *; done)
                          · simp only [List.length_cons] at hpl
                            have hidx : l[pre.length]? = some t := by rw [← hp]; simp
                            obtain ⟨sx2, sy2⟩ := t
                            have v4 := fun h => one_fact (s := s) (l := l) (t := (sx2, sy2)) (by rw [← hp]; simp) h
                            refine Ev.sr fun K hK => S.o q.lss (S.end (hK _ ?_))
                            clear hK K
                            refine Ev.ud (fun c36 => ?_) (fun c36 => ?_)
                            · first
                            | (first | omega | contradiction)
                            | refine Ev.seq ?_
                              refine Ev.block ?_
                              refine Ev.sr fun K hK => S.o (q.ix am_el23 am_cl40 (hl := (by first | exact ati hx (by omega) | exact ati hidx (by omega) | exact atig (by omega)))) (S.o (q.lsA [_, _] am_ag40 am_cl40) (S.nn (q.al am_ze40) (S.sv [_, _] true [] am_in40 am_cl40 (h := S.end (hK _ ?_)))))
                              clear hK K
                              refine Ev.sr fun K hK => S.o q.mv (S.o q.mf (S.c0 (hF := containsFuncSk1 _ (pairC (sx2, sy2)) (fun y => decide (y.2 ≠ 0 ∧ sx2 ≤ y.1)) (fun y => fits2_fun (sx2, sy2) y) s (by omega)) (h := S.o q.as (S.end (hK _ ?_)))))
                              clear hK K
                              refine Ev.sr fun K hK => S.o q.mv (S.bd q.mv (fun c37 => ?_) (fun c37 => ?_))
                              · first
                              | (first | omega | contradiction)
                              | refine S.o q.mv (S.o q.not (S.o q.pt (S.end (hK _ ?_))))
                                clear hK K
                                refine Ev.cn (fun c38 => ?_) (fun c38 => ?_)
                                · first
                                | (first | omega | contradiction)
                                | refine Ev.sr fun K hK => S.o q.as (S.end (hK _ ?_))
                                  clear hK K
                                  refine Ev.ret ?_
                                  refine hR0 _ _ ?_
                                  refine Ev.ret1 ?_
                                  refine ⟨?_, rfl⟩
                                  first | rfl | (rw [decide_eq_false e0]; rfl) | exact lawT rfl | exact lawT (by omega) | exact lawT (by assumption) | (exfalso; omega) | contradiction | (exfalso; simp_all; done) | (exfalso; simp at *; done)
                                · first
                                | (first | omega | contradiction)
                                | refine Ev.skip ?_
                                  show Ev _ _ _ _
                                  refine Ev.region_S fun K hK => S.o q.add (S.o q.mv (S.end (hK _ ?_)))
                                  clear hK K
                                  refine hR0 _ _ ?_
                                  refine roundU [] [0, 7, 131, 132] ⟨(pre ++ [(sx2, sy2)], suf), by rw [← hp]; simp, ?_⟩ ?_ keep_n (slots_c (he := (by first | rfl | (congr 2; simp; done))) (h := trivial)) (.c (.c (.c (.c .n))))
                                  trivial
                                  all_goals (dsimp only; simp only [List.length_cons]; omega)
                              · first
                              | (first | omega | contradiction)
                              | refine S.sk (S.sk (S.o q.pf (S.end (hK _ ?_))))
                                clear hK K
                                refine Ev.cf ?_
                                refine Ev.skip ?_
                                show Ev _ _ _ _
                                refine Ev.region_S fun K hK => S.o q.add (S.o q.mv (S.end (hK _ ?_)))
                                clear hK K
                                refine hR0 _ _ ?_
                                refine roundU [] [0, 7, 131, 132] ⟨(pre ++ [(sx2, sy2)], suf), by rw [← hp]; simp, ?_⟩ ?_ keep_n (slots_c (he := (by first | rfl | (congr 2; simp; done))) (h := trivial)) (.c (.c (.c (.c .n))))
                                trivial
                                all_goals (dsimp only; simp only [List.length_cons]; omega)
                            · first | omega | contradiction
                    · first
                    | (first | omega | contradiction)
                    | refine Ev.skip ?_
                      show Ev _ _ _ _
                      refine Ev.seq ?_
                      refine Ev.sr fun K hK => S.o q.mv (S.o (q.lens am_el23) (S.o q.mv (S.end (hK _ ?_))))
                      clear hK K
                      refine Ev.block ?_
                      refine Ev.loopU (ι := {p : List (Int × Int) × List (Int × Int) // p.1 ++ p.2 = l ∧ True}) [] [0, 7, 131, 132] (fun ⟨(pre, suf), _⟩ => [(133, .lit (.int .i64 ((pre.length : Int))))]) (fun ⟨(pre, suf), _⟩ => []) (fun ⟨(pre, suf), _⟩ => suf.length) ⟨([], l), rfl, trivial⟩ (.c (.c (.c (.c .n)))) keep_n (slots_c (he := (by first | rfl | (congr 2; simp; done))) (h := trivial)) ?_
                      rintro ⟨⟨pre, suf⟩, hp, hinv⟩ R0 hR0
                      dsimp only [List.cons_append, List.nil_append, List.length_cons, List.length_nil]
                      simp only at hp hinv
                      have hpl : pre.length + suf.length = (l).length := by rw [← hp, List.length_append]
                      rcases suf with _ | ⟨t, suf⟩
                      · rw [List.append_nil] at hp; simp only [List.length_nil] at hpl
                        refine Ev.sr fun K hK => S.o q.lss (S.end (hK _ ?_))
                        clear hK K
                        refine Ev.ud (fun c39 => ?_) (fun c39 => ?_)
                        · first | omega | contradiction
                        · first
                        | (first | omega | contradiction)
                        | refine Ev.exit ?_
                          refine hR0 _ _ ?_
                          show Ev _ _ _ _
                          refine Ev.sr fun K hK => S.o q.as (S.end (hK _ ?_))
                          clear hK K
                          refine Ev.ret ?_
                          refine Ev.ret1 ?_
                          refine ⟨?_, rfl⟩
                          first | rfl | (rw [decide_eq_false e0]; rfl) | exact lawT rfl | exact lawT (by omega) | exact lawT (by assumption) | (exfalso; omega) | contradiction | (exfalso; simp_all; done) | (exfalso; simp at *; done)
                      · simp only [List.length_cons] at hpl
                        have hidx : l[pre.length]? = some t := by rw [← hp]; simp
                        obtain ⟨sx2, sy2⟩ := t
                        have v4 := fun h => one_fact (s := s) (l := l) (t := (sx2, sy2)) (by rw [← hp]; simp) h
                        refine Ev.sr fun K hK => S.o q.lss (S.end (hK _ ?_))
                        clear hK K
                        refine Ev.ud (fun c40 => ?_) (fun c40 => ?_)
                        · first
                        | (first | omega | contradiction)
                        | refine Ev.seq ?_
                          refine Ev.block ?_
                          refine Ev.sr fun K hK => S.o (q.ix am_el23 am_cl40 (hl := (by first | exact ati hx (by omega) | exact ati hidx (by omega) | exact atig (by omega)))) (S.o (q.lsA [_, _] am_ag40 am_cl40) (S.nn (q.al am_ze40) (S.sv [_, _] true [] am_in40 am_cl40 (h := S.end (hK _ ?_)))))
                          clear hK K
                          refine Ev.sr fun K hK => S.o q.mv (S.o q.mf (S.c0 (hF := containsFuncSk1 _ (pairC (sx2, sy2)) (fun y => decide (y.2 ≠ 0 ∧ sx2 ≤ y.1)) (fun y => fits2_fun (sx2, sy2) y) s (by omega)) (h := S.o q.as (S.end (hK _ ?_)))))
                          clear hK K
                          refine Ev.sr fun K hK => S.o q.mv (S.bd q.mv (fun c41 => ?_) (fun c41 => ?_))
                          · first
                          | (first | omega | contradiction)
                          | refine S.o q.mv (S.o q.not (S.o q.pt (S.end (hK _ ?_))))
                            clear hK K
                            refine Ev.cn (fun c42 => ?_) (fun c42 => ?_)
                            · first
                            | (first | omega | contradiction)
                            | refine Ev.sr fun K hK => S.o q.as (S.end (hK _ ?_))
                              clear hK K
                              refine Ev.ret ?_
                              refine hR0 _ _ ?_
                              refine Ev.ret1 ?_
                              refine ⟨?_, rfl⟩
                              first | rfl | (rw [decide_eq_false e0]; rfl) | exact lawT rfl | exact lawT (by omega) | exact lawT (by assumption) | (exfalso; omega) | contradiction | (exfalso; simp_all; done) | (exfalso; simp at *; done)
                            · first
                            | (first | omega | contradiction)
                            | refine Ev.skip ?_
                              show Ev _ _ _ _
                              refine Ev.region_S fun K hK => S.o q.add (S.o q.mv (S.end (hK _ ?_)))
                              clear hK K
                              refine hR0 _ _ ?_
                              refine roundU [] [0, 7, 131, 132] ⟨(pre ++ [(sx2, sy2)], suf), by rw [← hp]; simp, ?_⟩ ?_ keep_n (slots_c (he := (by first | rfl | (congr 2; simp; done))) (h := trivial)) (.c (.c (.c (.c .n))))
                              trivial
                              all_goals (dsimp only; simp only [List.length_cons]; omega)
                          · first
                          | (first | omega | contradiction)
                          | refine S.sk (S.sk (S.o q.pf (S.end (hK _ ?_))))
                            clear hK K
                            refine Ev.cf ?_
                            refine Ev.skip ?_
                            show Ev _ _ _ _
                            refine Ev.region_S fun K hK => S.o q.add (S.o q.mv (S.end (hK _ ?_)))
                            clear hK K
                            refine hR0 _ _ ?_
                            refine roundU [] [0, 7, 131, 132] ⟨(pre ++ [(sx2, sy2)], suf), by rw [← hp]; simp, ?_⟩ ?_ keep_n (slots_c (he := (by first | rfl | (congr 2; simp; done))) (h := trivial)) (.c (.c (.c (.c .n))))
                            trivial
                            all_goals (dsimp only; simp only [List.length_cons]; omega)
                        · first | omega | contradiction
            · first
            | (first | omega | contradiction)
            | refine S.sk (S.sk (S.o q.pf (S.o q.pf (S.end (hK _ ?_)))))
              clear hK K
              refine Ev.cf ?_
              refine Ev.skip ?_
              show Ev _ _ _ _
              refine Ev.sm (tbs [(0, 0), (1, 1), (0, 0), (3, 4), (0, 0), (5, 16), (6, 60), (0, 0), (8, 128), (0, 0), (10, 512), (11, 1920), (12, 3968), (13, 8191), (14, 16383)]) 13 fun K hK => M.o q.mv (M.c1 [_] (hF := cloneStk_fun _ (by omega)) (h := M.o q.mv (M.o (q.cvi am_un3 am_us5) (M.o q.mv (M.o (q.lens am_el22) (M.o q.rem (M.o q.mv (M.o (q.cvi am_un3 am_us5) (M.o q.mv (M.o (q.lens am_el22) (M.o q.rem (M.o q.add (M.end [_, _] (h := S.cR [6] 55 [_, _] (hob := (keep_c (he := rfl) (h := keep_n))) (hF := deleteStk_R _ _ _ (by omega) (by omega) (by omega) (by omega)) (hn' := belowL rfl rfl) (h := S.o q.as (S.end (hK _ ?_)))))))))))))))))
              clear hK K
              refine Ev.sr fun K hK => S.o q.mv (S.o q.mv ?_)
              refine SeqL.weaken (Wk.frz 85 [_]) ?_
              refine S.c0 (hF := stFits_fun _ _ (by omega) (by omega)) (h := S.o q.mv (S.o q.ex (S.o q.ex (S.o q.as (S.o q.as (S.end (hK _ ?_)))))))
              clear hK K
              refine Ev.sr fun K hK => S.o q.mv (S.o q.neq (S.bn q.mv (fun c43 => ?_) (fun c43 => ?_)))
              · first
              | (first | omega | contradiction)
              | refine S.sk (S.sk (S.sk (S.sk (S.sk (S.o q.pt (S.end (hK _ ?_)))))))
                clear hK K
                refine Ev.ct ?_
                refine Ev.sr fun K hK => S.o q.as (S.end (hK _ ?_))
                clear hK K
                refine Ev.ret ?_
                refine Ev.ret1 ?_
                refine ⟨?_, rfl⟩
                first | rfl | (rw [decide_eq_false e0]; rfl) | exact lawT rfl | exact lawT (by omega) | exact lawT (by assumption) | (exfalso; omega) | contradiction | (exfalso; simp_all; done) | (exfalso; simp at *; done)
              · first
              | (first | omega | contradiction)
              | refine S.o q.mv (S.bd q.mv (fun c44 => ?_) (fun c44 => ?_))
                · first
                | (first | omega | contradiction)
                | refine S.o q.mv (S.o q.not (S.o q.pt (S.o q.pf (S.end (hK _ ?_)))))
                  clear hK K
                  refine Ev.cn (fun c45 => ?_) (fun c45 => ?_)
                  · first
                  | (first | omega | contradiction)
                  | refine Ev.sr fun K hK => S.o q.as (S.end (hK _ ?_))
                    clear hK K
                    refine Ev.ret ?_
                    refine Ev.ret1 ?_
                    refine ⟨?_, rfl⟩
                    first | rfl | (rw [decide_eq_false e0]; rfl) | exact lawT rfl | exact lawT (by omega) | exact lawT (by assumption) | (exfalso; omega) | contradiction | (exfalso; simp_all; done) | (exfalso; simp at *; done)
                  · first
                  | (first | omega | contradiction)
                  | refine Ev.skip ?_
                    show Ev _ _ _ _
                    refine Ev.seq ?_
                    refine Ev.sr fun K hK => S.o q.mv (S.o (q.lens am_el23) (S.o q.gtr (S.end (hK _ ?_))))
                    clear hK K
                    refine Ev.cd (fun c46 => ?_) (fun c46 => ?_)
                    · first
                    | (first | omega | contradiction)
                    | obtain ⟨hj0l, hj1l⟩ : 0 ≤ k % (l.length : Int) ∧ k % (l.length : Int) < (l.length : Int) := ⟨Int.emod_nonneg _ (by omega), Int.emod_lt_of_pos _ (by omega)⟩
                      obtain ⟨e3, v3⟩ := part_facts (k := (k % (l.length : Int)).toNat) hos hol
                      have ekl : (k % (l.length : Int) + 1).toNat = (k % (l.length : Int)).toNat + 1 := by omega
                      rw [← ekl] at e3 v3
                      have hdp : (l.take (k % (l.length : Int)).toNat ++ l.drop (k % (l.length : Int) + 1).toNat).length ≤ 1000 := by simp only [List.length_append, List.length_take, List.length_drop]; omega
                      refine Ev.sm (tbs [(0, 0), (1, 1), (0, 0), (3, 4), (0, 0), (5, 16), (6, 60), (0, 0), (8, 128), (0, 0), (10, 512), (11, 1920), (12, 3968), (13, 8191), (14, 16383)]) 13 fun K hK => M.o q.mv (M.c1 [_] (hF := clonePce_fun _ (by omega)) (h := M.o q.mv (M.o (q.cvi am_un3 am_us5) (M.o q.mv (M.o (q.lens am_el23) (M.o q.rem (M.o q.mv (M.o (q.cvi am_un3 am_us5) (M.o q.mv (M.o (q.lens am_el23) (M.o q.rem (M.o q.add (M.end [_, _] (h := S.cR [59] 108 [_, _] (hob := (keep_c (he := rfl) (h := keep_n))) (hF := deletePce_R _ _ _ (by omega) (by omega) (by omega) (by omega)) (hn' := belowL rfl rfl) (h := S.o q.as (S.end (hK _ ?_)))))))))))))))))
                      clear hK K
                      refine Ev.sr fun K hK => S.o q.mv (S.o q.mv ?_)
                      refine SeqL.weaken (Wk.frz 118 [_]) ?_
                      refine S.c0 (hF := stFits_fun _ _ (by omega) (by omega)) (h := S.o q.mv (S.o q.ex (S.o q.ex (S.o q.as (S.o q.as (S.end (hK _ ?_)))))))
                      clear hK K
                      refine Ev.sr fun K hK => S.o q.mv (S.o q.neq (S.bn q.mv (fun c47 => ?_) (fun c47 => ?_)))
                      · first
                      | (first | omega | contradiction)
                      | refine S.sk (S.sk (S.sk (S.sk (S.sk (S.o q.pt (S.end (hK _ ?_)))))))
                        clear hK K
                        refine Ev.ct ?_
                        refine Ev.sr fun K hK => S.o q.as (S.end (hK _ ?_))
                        clear hK K
                        refine Ev.ret ?_
                        refine Ev.ret1 ?_
                        refine ⟨?_, rfl⟩
                        first | rfl | (rw [decide_eq_false e0]; rfl) | exact lawT rfl | exact lawT (by omega) | exact lawT (by assumption) | (exfalso; omega) | contradiction | (exfalso; simp_all; done) | (exfalso; simp at *; done)
                      · first
                      | (first | omega | contradiction)
                      | refine S.o q.mv (S.bd q.mv (fun c48 => ?_) (fun c48 => ?_))
                        · first
                        | (first | omega | contradiction)
                        | refine S.o q.mv (S.o q.not (S.o q.pt (S.o q.pf (S.end (hK _ ?_)))))
                          clear hK K
                          refine Ev.cn (fun c49 => ?_) (fun c49 => ?_)
                          · first
                          | (first | omega | contradiction)
                          | refine Ev.sr fun K hK => S.o q.as (S.end (hK _ ?_))
                            clear hK K
                            refine Ev.ret ?_
                            refine Ev.ret1 ?_
                            refine ⟨?_, rfl⟩
                            first | rfl | (rw [decide_eq_false e0]; rfl) | exact lawT rfl | exact lawT (by omega) | exact lawT (by assumption) | (exfalso; omega) | contradiction | (exfalso; simp_all; done) | (exfalso; simp at *; done)
                          · first
                          | (first | omega | contradiction)
                          | refine Ev.skip ?_
                            show Ev _ _ _ _
                            refine Ev.seq ?_
                            refine Ev.sr fun K hK => S.o q.mv (S.o (q.lens am_el23) (S.o q.mv (S.end (hK _ ?_))))
                            clear hK K
                            refine Ev.block ?_
                            refine Ev.loopU (ι := {p : List (Int × Int) × List (Int × Int) // p.1 ++ p.2 = l ∧ True}) [] [0, 7, 131, 132] (fun ⟨(pre, suf), _⟩ => [(133, .lit (.int .i64 ((pre.length : Int))))]) (fun ⟨(pre, suf), _⟩ => []) (fun ⟨(pre, suf), _⟩ => suf.length) ⟨([], l), rfl, trivial⟩ (.c (.c (.c (.c .n)))) keep_n (slots_c (he := (by first | rfl | (congr 2; simp; done))) (h := trivial)) ?_
                            rintro ⟨⟨pre, suf⟩, hp, hinv⟩ R0 hR0
                            dsimp only [List.cons_append, List.nil_append, List.length_cons, List.length_nil]
                            simp only at hp hinv
                            have hpl : pre.length + suf.length = (l).length := by rw [← hp, List.length_append]
                            rcases suf with _ | ⟨t, suf⟩
                            · rw [List.append_nil] at hp; simp only [List.length_nil] at hpl
                              refine Ev.sr fun K hK => S.o q.lss (S.end (hK _ ?_))
                              clear hK K
                              refine Ev.ud (fun c50 => ?_) (fun c50 => ?_)
                              · first | omega | contradiction
                              · first
                              | (first | omega | contradiction)
                              | refine Ev.exit ?_
                                refine hR0 _ _ ?_
                                show Ev _ _ _ _
                                refine Ev.sr fun K hK => S.o q.as (S.end (hK _ ?_))
                                clear hK K
                                refine Ev.ret ?_
                                refine Ev.ret1 ?_
                                refine ⟨?_, rfl⟩
                                first | rfl | (rw [decide_eq_false e0]; rfl) | exact lawT rfl | exact lawT (by omega) | exact lawT (by assumption) | (exfalso; omega) | contradiction | (exfalso; simp_all; done) | (exfalso; simp at *; done)
                            · simp only [List.length_cons] at hpl
                              have hidx : l[pre.length]? = some t := by rw [← hp]; simp
                              obtain ⟨sx2, sy2⟩ := t
                              have v4 := fun h => one_fact (s := s) (l := l) (t := (sx2, sy2)) (by rw [← hp]; simp) h
                              refine Ev.sr fun K hK => S.o q.lss (S.end (hK _ ?_))
                              clear hK K
                              refine Ev.ud (fun c51 => ?_) (fun c51 => ?_)
                              · first
                              | (first | omega | contradiction)
                              | refine Ev.seq ?_
                                refine Ev.block ?_
                                refine Ev.sr fun K hK => S.o (q.ix am_el23 am_cl40 (hl := (by first | exact ati hx (by omega) | exact ati hidx (by omega) | exact atig (by omega)))) (S.o (q.lsA [_, _] am_ag40 am_cl40) (S.nn (q.al am_ze40) (S.sv [_, _] true [] am_in40 am_cl40 (h := S.end (hK _ ?_)))))
                                clear hK K
                                refine Ev.sr fun K hK => S.o q.mv (S.o q.mf (S.c0 (hF := containsFuncSk1 _ (pairC (sx2, sy2)) (fun y => decide (y.2 ≠ 0 ∧ sx2 ≤ y.1)) (fun y => fits2_fun (sx2, sy2) y) s (by omega)) (h := S.o q.as (S.end (hK _ ?_)))))
                                clear hK K
                                refine Ev.sr fun K hK => S.o q.mv (S.bd q.mv (fun c52 => ?_) (fun c52 => ?_))
                                · first
                                | (first | omega | contradiction)
                                | refine S.o q.mv (S.o q.not (S.o q.pt (S.end (hK _ ?_))))
                                  clear hK K
                                  refine Ev.cn (fun c53 => ?_) (fun c53 => ?_)
                                  · first
                                  | (first | omega | contradiction)
                                  | refine Ev.sr fun K hK => S.o q.as (S.end (hK _ ?_))
                                    clear hK K
                                    refine Ev.ret ?_
                                    refine hR0 _ _ ?_
                                    refine Ev.ret1 ?_
                                    refine ⟨?_, rfl⟩
                                    first | rfl | (rw [decide_eq_false e0]; rfl) | exact lawT rfl | exact lawT (by omega) | exact lawT (by assumption) | (exfalso; omega) | contradiction | (exfalso; simp_all; done) | (exfalso; simp at *; done)
                                  · first
                                  | (first | omega | contradiction)
                                  | refine Ev.skip ?_
                                    show Ev _ _ _ _
                                    refine Ev.region_S fun K hK => S.o q.add (S.o q.mv (S.end (hK _ ?_)))
                                    clear hK K
                                    refine hR0 _ _ ?_
                                    refine roundU [] [0, 7, 131, 132] ⟨(pre ++ [(sx2, sy2)], suf), by rw [← hp]; simp, ?_⟩ ?_ keep_n (slots_c (he := (by first | rfl | (congr 2; simp; done))) (h := trivial)) (.c (.c (.c (.c .n))))
                                    trivial
                                    all_goals (dsimp only; simp only [List.length_cons]; omega)
                                · first
                                | (first | omega | contradiction)
                                | refine S.sk (S.sk (S.o q.pf (S.end (hK _ ?_))))
                                  clear hK K
                                  refine Ev.cf ?_
                                  refine Ev.skip ?_
                                  show Ev _ _ _ _
                                  refine Ev.region_S fun K hK => S.o q.add (S.o q.mv (S.end (hK _ ?_)))
                                  clear hK K
                                  refine hR0 _ _ ?_
                                  refine roundU [] [0, 7, 131, 132] ⟨(pre ++ [(sx2, sy2)], suf), by rw [← hp]; simp, ?_⟩ ?_ keep_n (slots_c (he := (by first | rfl | (congr 2; simp; done))) (h := trivial)) (.c (.c (.c (.c .n))))
                                  trivial
                                  all_goals (dsimp only; simp only [List.length_cons]; omega)
                              · first | omega | contradiction
                        · first
                        | (first | omega | contradiction)
                        | refine S.sk (S.sk (S.o q.pf (S.o q.pf (S.end (hK _ ?_)))))
                          clear hK K
                          refine Ev.cf ?_
                          refine Ev.skip ?_
                          show Ev _ _ _ _
                          refine Ev.seq ?_
                          refine Ev.sr fun K hK => S.o q.mv (S.o (q.lens am_el23) (S.o q.mv (S.end (hK _ ?_))))
                          clear hK K
                          refine Ev.block ?_
                          refine Ev.loopU (ι := {p : List (Int × Int) × List (Int × Int) // p.1 ++ p.2 = l ∧ True}) [] [0, 7, 131, 132] (fun ⟨(pre, suf), _⟩ => [(133, .lit (.int .i64 ((pre.length : Int))))]) (fun ⟨(pre, suf), _⟩ => []) (fun ⟨(pre, suf), _⟩ => suf.length) ⟨([], l), rfl, trivial⟩ (.c (.c (.c (.c .n)))) keep_n (slots_c (he := (by first | rfl | (congr 2; simp; done))) (h := trivial)) ?_
                          rintro ⟨⟨pre, suf⟩, hp, hinv⟩ R0 hR0
                          dsimp only [List.cons_append, List.nil_append, List.length_cons, List.length_nil]
                          simp only at hp hinv
                          have hpl : pre.length + suf.length = (l).length := by rw [← hp, List.length_append]
                          rcases suf with _ | ⟨t, suf⟩
                          · rw [List.append_nil] at hp; simp only [List.length_nil] at hpl
                            refine Ev.sr fun K hK => S.o q.lss (S.end (hK _ ?_))
                            clear hK K
                            refine Ev.ud (fun c54 => ?_) (fun c54 => ?_)
                            · first | omega | contradiction
                            · first
                            | (first | omega | contradiction)
                            | refine Ev.exit ?_
                              refine hR0 _ _ ?_
                              show Ev _ _ _ _
                              refine Ev.sr fun K hK => S.o q.as (S.end (hK _ ?_))
                              clear hK K
                              refine Ev.ret ?_
                              refine Ev.ret1 ?_
                              refine ⟨?_, rfl⟩
                              first | rfl | (rw [decide_eq_false e0]; rfl) | exact lawT rfl | exact lawT (by omega) | exact lawT (by assumption) | (exfalso; omega) | contradiction | (exfalso; simp_all; done) | (exfalso; simp at *; done)
                          · simp only [List.length_cons] at hpl
                            have hidx : l[pre.length]? = some t := by rw [← hp]; simp
                            obtain ⟨sx2, sy2⟩ := t
                            have v4 := fun h => one_fact (s := s) (l := l) (t := (sx2, sy2)) (by rw [← hp]; simp) h
                            refine Ev.sr fun K hK => S.o q.lss (S.end (hK _ ?_))
                            clear hK K
                            refine Ev.ud (fun c55 => ?_) (fun c55 => ?_)
                            · first
                            | (first | omega | contradiction)
                            | refine Ev.seq ?_
                              refine Ev.block ?_
                              refine Ev.sr fun K hK => S.o (q.ix am_el23 am_cl40 (hl := (by first | exact ati hx (by omega) | exact ati hidx (by omega) | exact atig (by omega)))) (S.o (q.lsA [_, _] am_ag40 am_cl40) (S.nn (q.al am_ze40) (S.sv [_, _] true [] am_in40 am_cl40 (h := S.end (hK _ ?_)))))
                              clear hK K
                              refine Ev.sr fun K hK => S.o q.mv (S.o q.mf (S.c0 (hF := containsFuncSk1 _ (pairC (sx2, sy2)) (fun y => decide (y.2 ≠ 0 ∧ sx2 ≤ y.1)) (fun y => fits2_fun (sx2, sy2) y) s (by omega)) (h := S.o q.as (S.end (hK _ ?_)))))
                              clear hK K
                              refine Ev.sr fun K hK => S.o q.mv (S.bd q.mv (fun c56 => ?_) (fun c56 => ?_))
                              · first
                              | (first | omega | contradiction)
                              | refine S.o q.mv (S.o q.not (S.o q.pt (S.end (hK _ ?_))))
                                clear hK K
                                refine Ev.cn (fun c57 => ?_) (fun c57 => ?_)
                                · first
                                | (first | omega | contradiction)
                                | refine Ev.sr fun K hK => S.o q.as (S.end (hK _ ?_))
                                  clear hK K
                                  refine Ev.ret ?_
                                  refine hR0 _ _ ?_
                                  refine Ev.ret1 ?_
                                  refine ⟨?_, rfl⟩
                                  first | rfl | (rw [decide_eq_false e0]; rfl) | exact lawT rfl | exact lawT (by omega) | exact lawT (by assumption) | (exfalso; omega) | contradiction | (exfalso; simp_all; done) | (exfalso; simp at *; done)
                                · first
                                | (first | omega | contradiction)
                                | refine Ev.skip ?_
                                  show Ev _ _ _ _
                                  refine Ev.region_S fun K hK => S.o q.add (S.o q.mv (S.end (hK _ ?_)))
                                  clear hK K
                                  refine hR0 _ _ ?_
                                  refine roundU [] [0, 7, 131, 132] ⟨(pre ++ [(sx2, sy2)], suf), by rw [← hp]; simp, ?_⟩ ?_ keep_n (slots_c (he := (by first | rfl | (congr 2; simp; done))) (h := trivial)) (.c (.c (.c (.c .n))))
                                  trivial
                                  all_goals (dsimp only; simp only [List.length_cons]; omega)
                              · first
                              | (first | omega | contradiction)
                              | refine S.sk (S.sk (S.o q.pf (S.end (hK _ ?_))))
                                clear hK K
                                refine Ev.cf ?_
                                refine Ev.skip ?_
                                show Ev _ _ _ _
                                refine Ev.region_S fun K hK => S.o q.add (S.o q.mv (S.end (hK _ ?_)))
                                clear hK K
                                refine hR0 _ _ ?_
                                refine roundU [] [0, 7, 131, 132] ⟨(pre ++ [(sx2, sy2)], suf), by rw [← hp]; simp, ?_⟩ ?_ keep_n (slots_c (he := (by first | rfl | (congr 2; simp; done))) (h := trivial)) (.c (.c (.c (.c .n))))
                                trivial
                                all_goals (dsimp only; simp only [List.length_cons]; omega)
                            · first | omega | contradiction
                    · first
                    | (first | omega | contradiction)
                    | refine Ev.skip ?_
                      show Ev _ _ _ _
                      refine Ev.seq ?_
                      refine Ev.sr fun K hK => S.o q.mv (S.o (q.lens am_el23) (S.o q.mv (S.end (hK _ ?_))))
                      clear hK K
                      refine Ev.block ?_
                      refine Ev.loopU (ι := {p : List (Int × Int) × List (Int × Int) // p.1 ++ p.2 = l ∧ True}) [] [0, 7, 131, 132] (fun ⟨(pre, suf), _⟩ => [(133, .lit (.int .i64 ((pre.length : Int))))]) (fun ⟨(pre, suf), _⟩ => []) (fun ⟨(pre, suf), _⟩ => suf.length) ⟨([], l), rfl, trivial⟩ (.c (.c (.c (.c .n)))) keep_n (slots_c (he := (by first | rfl | (congr 2; simp; done))) (h := trivial)) ?_
                      rintro ⟨⟨pre, suf⟩, hp, hinv⟩ R0 hR0
                      dsimp only [List.cons_append, List.nil_append, List.length_cons, List.length_nil]
                      simp only at hp hinv
                      have hpl : pre.length + suf.length = (l).length := by rw [← hp, List.length_append]
                      rcases suf with _ | ⟨t, suf⟩
                      · rw [List.append_nil] at hp; simp only [List.length_nil] at hpl
                        refine Ev.sr fun K hK => S.o q.lss (S.end (hK _ ?_))
                        clear hK K
                        refine Ev.ud (fun c58 => ?_) (fun c58 => ?_)
                        · first | omega | contradiction
                        · first
                        | (first | omega | contradiction)
                        | refine Ev.exit ?_
                          refine hR0 _ _ ?_
                          show Ev _ _ _ _
                          refine Ev.sr fun K hK => S.o q.as (S.end (hK _ ?_))
                          clear hK K
                          refine Ev.ret ?_
                          refine Ev.ret1 ?_
                          refine ⟨?_, rfl⟩
                          first | rfl | (rw [decide_eq_false e0]; rfl) | exact lawT rfl | exact lawT (by omega) | exact lawT (by assumption) | (exfalso; omega) | contradiction | (exfalso; simp_all; done) | (exfalso; simp at *; done)
                      · simp only [List.length_cons] at hpl
                        have hidx : l[pre.length]? = some t := by rw [← hp]; simp
                        obtain ⟨sx2, sy2⟩ := t
                        have v4 := fun h => one_fact (s := s) (l := l) (t := (sx2, sy2)) (by rw [← hp]; simp) h
                        refine Ev.sr fun K hK => S.o q.lss (S.end (hK _ ?_))
                        clear hK K
                        refine Ev.ud (fun c59 => ?_) (fun c59 => ?_)
                        · first
                        | (first | omega | contradiction)
                        | refine Ev.seq ?_
                          refine Ev.block ?_
                          refine Ev.sr fun K hK => S.o (q.ix am_el23 am_cl40 (hl := (by first | exact ati hx (by omega) | exact ati hidx (by omega) | exact atig (by omega)))) (S.o (q.lsA [_, _] am_ag40 am_cl40) (S.nn (q.al am_ze40) (S.sv [_, _] true [] am_in40 am_cl40 (h := S.end (hK _ ?_)))))
                          clear hK K
                          refine Ev.sr fun K hK => S.o q.mv (S.o q.mf (S.c0 (hF := containsFuncSk1 _ (pairC (sx2, sy2)) (fun y => decide (y.2 ≠ 0 ∧ sx2 ≤ y.1)) (fun y => fits2_fun (sx2, sy2) y) s (by omega)) (h := S.o q.as (S.end (hK _ ?_)))))
                          clear hK K
                          refine Ev.sr fun K hK => S.o q.mv (S.bd q.mv (fun c60 => ?_) (fun c60 => ?_))
                          · first
                          | (first | omega | contradiction)
                          | refine S.o q.mv (S.o q.not (S.o q.pt (S.end (hK _ ?_))))
                            clear hK K
                            refine Ev.cn (fun c61 => ?_) (fun c61 => ?_)
                            · first
                            | (first | omega | contradiction)
                            | refine Ev.sr fun K hK => S.o q.as (S.end (hK _ ?_))
                              clear hK K
                              refine Ev.ret ?_
                              refine hR0 _ _ ?_
                              refine Ev.ret1 ?_
                              refine ⟨?_, rfl⟩
                              first | rfl | (rw [decide_eq_false e0]; rfl) | exact lawT rfl | exact lawT (by omega) | exact lawT (by assumption) | (exfalso; omega) | contradiction | (exfalso; simp_all; done) | (exfalso; simp at *; done)
                            · first
                            | (first | omega | contradiction)
                            | refine Ev.skip ?_
                              show Ev _ _ _ _
                              refine Ev.region_S fun K hK => S.o q.add (S.o q.mv (S.end (hK _ ?_)))
                              clear hK K
                              refine hR0 _ _ ?_
                              refine roundU [] [0, 7, 131, 132] ⟨(pre ++ [(sx2, sy2)], suf), by rw [← hp]; simp, ?_⟩ ?_ keep_n (slots_c (he := (by first | rfl | (congr 2; simp; done))) (h := trivial)) (.c (.c (.c (.c .n))))
                              trivial
                              all_goals (dsimp only; simp only [List.length_cons]; omega)
                          · first
                          | (first | omega | contradiction)
                          | refine S.sk (S.sk (S.o q.pf (S.end (hK _ ?_))))
                            clear hK K
                            refine Ev.cf ?_
                            refine Ev.skip ?_
                            show Ev _ _ _ _
                            refine Ev.region_S fun K hK => S.o q.add (S.o q.mv (S.end (hK _ ?_)))
                            clear hK K
                            refine hR0 _ _ ?_
                            refine roundU [] [0, 7, 131, 132] ⟨(pre ++ [(sx2, sy2)], suf), by rw [← hp]; simp, ?_⟩ ?_ keep_n (slots_c (he := (by first | rfl | (congr 2; simp; done))) (h := trivial)) (.c (.c (.c (.c .n))))
                            trivial
                            all_goals (dsimp only; simp only [List.length_cons]; omega)
                        · first | omega | contradiction
                · first
                | (first | omega | contradiction)
                | refine S.sk (S.sk (S.o q.pf (S.o q.pf (S.end (hK _ ?_)))))
                  clear hK K
                  refine Ev.cf ?_
                  refine Ev.skip ?_
                  show Ev _ _ _ _
                  refine Ev.seq ?_
                  refine Ev.sr fun K hK => S.o q.mv (S.o (q.lens am_el23) (S.o q.gtr (S.end (hK _ ?_))))
                  clear hK K
                  refine Ev.cd (fun c62 => ?_) (fun c62 => ?_)
                  · first
                  | (first | omega | contradiction)
                  | obtain ⟨hj0l, hj1l⟩ : 0 ≤ k % (l.length : Int) ∧ k % (l.length : Int) < (l.length : Int) := ⟨Int.emod_nonneg _ (by omega), Int.emod_lt_of_pos _ (by omega)⟩
                    obtain ⟨e3, v3⟩ := part_facts (k := (k % (l.length : Int)).toNat) hos hol
                    have ekl : (k % (l.length : Int) + 1).toNat = (k % (l.length : Int)).toNat + 1 := by omega
                    rw [← ekl] at e3 v3
                    have hdp : (l.take (k % (l.length : Int)).toNat ++ l.drop (k % (l.length : Int) + 1).toNat).length ≤ 1000 := by simp only [List.length_append, List.length_take, List.length_drop]; omega
                    refine Ev.sm (tbs [(0, 0), (1, 1), (0, 0), (3, 4), (0, 0), (5, 16), (6, 60), (0, 0), (8, 128), (0, 0), (10, 512), (11, 1920), (12, 3968), (13, 8191), (14, 16383)]) 13 fun K hK => M.o q.mv (M.c1 [_] (hF := clonePce_fun _ (by omega)) (h := M.o q.mv (M.o (q.cvi am_un3 am_us5) (M.o q.mv (M.o (q.lens am_el23) (M.o q.rem (M.o q.mv (M.o (q.cvi am_un3 am_us5) (M.o q.mv (M.o (q.lens am_el23) (M.o q.rem (M.o q.add (M.end [_, _] (h := S.cR [59] 108 [_, _] (hob := (keep_c (he := rfl) (h := keep_n))) (hF := deletePce_R _ _ _ (by omega) (by omega) (by omega) (by omega)) (hn' := belowL rfl rfl) (h := S.o q.as (S.end (hK _ ?_)))))))))))))))))
                    clear hK K
                    refine Ev.sr fun K hK => S.o q.mv (S.o q.mv ?_)
                    refine SeqL.weaken (Wk.frz 118 [_]) ?_
                    refine S.c0 (hF := stFits_fun _ _ (by omega) (by omega)) (h := S.o q.mv (S.o q.ex (S.o q.ex (S.o q.as (S.o q.as (S.end (hK _ ?_)))))))
                    clear hK K
                    refine Ev.sr fun K hK => S.o q.mv (S.o q.neq (S.bn q.mv (fun c63 => ?_) (fun c63 => ?_)))
                    · first
                    | (first | omega | contradiction)
                    | refine S.sk (S.sk (S.sk (S.sk (S.sk (S.o q.pt (S.end (hK _ ?_)))))))
                      clear hK K
                      refine Ev.ct ?_
                      refine Ev.sr fun K hK => S.o q.as (S.end (hK _ ?_))
                      clear hK K
                      refine Ev.ret ?_
                      refine Ev.ret1 ?_
                      refine ⟨?_, rfl⟩
                      first | rfl | (rw [decide_eq_false e0]; rfl) | exact lawT rfl | exact lawT (by omega) | exact lawT (by assumption) | (exfalso; omega) | contradiction | (exfalso; simp_all; done) | (exfalso; simp at *; done)
                    · first
                    | (first | omega | contradiction)
                    | refine S.o q.mv (S.bd q.mv (fun c64 => ?_) (fun c64 => ?_))
                      · first
                      | (first | omega | contradiction)
                      | refine S.o q.mv (S.o q.not (S.o q.pt (S.o q.pf (S.end (hK _ ?_)))))
                        clear hK K
                        refine Ev.cn (fun c65 => ?_) (fun c65 => ?_)
                        · first
                        | (first | omega | contradiction)
                        | refine Ev.sr fun K hK => S.o q.as (S.end (hK _ ?_))
                          clear hK K
                          refine Ev.ret ?_
                          refine Ev.ret1 ?_
                          refine ⟨?_, rfl⟩
                          first | rfl | (rw [decide_eq_false e0]; rfl) | exact lawT rfl | exact lawT (by omega) | exact lawT (by assumption) | (exfalso; omega) | contradiction | (exfalso; simp_all; done) | (exfalso; simp at *; done)
                        · first
                        | (first | omega | contradiction)
                        | refine Ev.skip ?_
                          show Ev _ _ _ _
                          refine Ev.seq ?_
                          refine Ev.sr fun K hK => S.o q.mv (S.o (q.lens am_el23) (S.o q.mv (S.end (hK _ ?_))))
                          clear hK K
                          refine Ev.block ?_
                          refine Ev.loopU (ι := {p : List (Int × Int) × List (Int × Int) // p.1 ++ p.2 = l ∧ True}) [] [0, 7, 131, 132] (fun ⟨(pre, suf), _⟩ => [(133, .lit (.int .i64 ((pre.length : Int))))]) (fun ⟨(pre, suf), _⟩ => []) (fun ⟨(pre, suf), _⟩ => suf.length) ⟨([], l), rfl, trivial⟩ (.c (.c (.c (.c .n)))) keep_n (slots_c (he := (by first | rfl | (congr 2; simp; done))) (h := trivial)) ?_
                          rintro ⟨⟨pre, suf⟩, hp, hinv⟩ R0 hR0
                          dsimp only [List.cons_append, List.nil_append, List.length_cons, List.length_nil]
                          simp only at hp hinv
                          have hpl : pre.length + suf.length = (l).length := by rw [← hp, List.length_append]
                          rcases suf with _ | ⟨t, suf⟩
                          · rw [List.append_nil] at hp; simp only [List.length_nil] at hpl
                            refine Ev.sr fun K hK => S.o q.lss (S.end (hK _ ?_))
                            clear hK K
                            refine Ev.ud (fun c66 => ?_) (fun c66 => ?_)
                            · first | omega | contradiction
                            · first
                            | (first | omega | contradiction)
                            | refine Ev.exit ?_
                              refine hR0 _ _ ?_
                              show Ev _ _ _ _
                              refine Ev.sr fun K hK => S.o q.as (S.end (hK _ ?_))
                              clear hK K
                              refine Ev.ret ?_
                              refine Ev.ret1 ?_
                              refine ⟨?_, rfl⟩
                              first | rfl | (rw [decide_eq_false e0]; rfl) | exact lawT rfl | exact lawT (by omega) | exact lawT (by assumption) | (exfalso; omega) | contradiction | (exfalso; simp_all; done) | (exfalso; simp at *; done)
                          · simp only [List.length_cons] at hpl
                            have hidx : l[pre.length]? = some t := by rw [← hp]; simp
                            obtain ⟨sx2, sy2⟩ := t
                            have v4 := fun h => one_fact (s := s) (l := l) (t := (sx2, sy2)) (by rw [← hp]; simp) h
                            refine Ev.sr fun K hK => S.o q.lss (S.end (hK _ ?_))
                            clear hK K
                            refine Ev.ud (fun c67 => ?_) (fun c67 => ?_)
                            · first
                            | (first | omega | contradiction)
                            | refine Ev.seq ?_
                              refine Ev.block ?_
                              refine Ev.sr fun K hK => S.o (q.ix am_el23 am_cl40 (hl := (by first | exact ati hx (by omega) | exact ati hidx (by omega) | exact atig (by omega)))) (S.o (q.lsA [_, _] am_ag40 am_cl40) (S.nn (q.al am_ze40) (S.sv [_, _] true [] am_in40 am_cl40 (h := S.end (hK _ ?_)))))
                              clear hK K
                              refine Ev.sr fun K hK => S.o q.mv (S.o q.mf (S.c0 (hF := containsFuncSk1 _ (pairC (sx2, sy2)) (fun y => decide (y.2 ≠ 0 ∧ sx2 ≤ y.1)) (fun y => fits2_fun (sx2, sy2) y) s (by omega)) (h := S.o q.as (S.end (hK _ ?_)))))
                              clear hK K
                              refine Ev.sr fun K hK => S.o q.mv (S.bd q.mv (fun c68 => ?_) (fun c68 => ?_))
                              · first
                              | (first | omega | contradiction)
                              | refine S.o q.mv (S.o q.not (S.o q.pt (S.end (hK _ ?_))))
                                clear hK K
                                refine Ev.cn (fun c69 => ?_) (fun c69 => ?_)
                                · first
                                | (first | omega | contradiction)
                                | refine Ev.sr fun K hK => S.o q.as (S.end (hK _ ?_))
                                  clear hK K
                                  refine Ev.ret ?_
                                  refine hR0 _ _ ?_
                                  refine Ev.ret1 ?_
                                  refine ⟨?_, rfl⟩
                                  first | rfl | (rw [decide_eq_false e0]; rfl) | exact lawT rfl | exact lawT (by omega) | exact lawT (by assumption) | (exfalso; omega) | contradiction | (exfalso; simp_all; done) | (exfalso; simp at *; done)
                                · first
                                | (first | omega | contradiction)
                                | refine Ev.skip ?_
                                  show Ev _ _ _ _
                                  refine Ev.region_S fun K hK => S.o q.add (S.o q.mv (S.end (hK _ ?_)))
                                  clear hK K
                                  refine hR0 _ _ ?_
                                  refine roundU [] [0, 7, 131, 132] ⟨(pre ++ [(sx2, sy2)], suf), by rw [← hp]; simp, ?_⟩ ?_ keep_n (slots_c (he := (by first | rfl | (congr 2; simp; done))) (h := trivial)) (.c (.c (.c (.c .n))))
                                  trivial
                                  all_goals (dsimp only; simp only [List.length_cons]; omega)
                              · first
                              | (first | omega | contradiction)
                              | refine S.sk (S.sk (S.o q.pf (S.end (hK _ ?_))))
                                clear hK K
                                refine Ev.cf ?_
                                refine Ev.skip ?_
                                show Ev _ _ _ _
                                refine Ev.region_S fun K hK => S.o q.add (S.o q.mv (S.end (hK _ ?_)))
                                clear hK K
                                refine hR0 _ _ ?_
                                refine roundU [] [0, 7, 131, 132] ⟨(pre ++ [(sx2, sy2)], suf), by rw [← hp]; simp, ?_⟩ ?_ keep_n (slots_c (he := (by first | rfl | (congr 2; simp; done))) (h := trivial)) (.c (.c (.c (.c .n))))
                                trivial
                                all_goals (dsimp only; simp only [List.length_cons]; omega)
                            · first | omega | contradiction
                      · first
                      | (first | omega | contradiction)
                      | refine S.sk (S.sk (S.o q.pf (S.o q.pf (S.end (hK _ ?_)))))
                        clear hK K
                        refine Ev.cf ?_
                        refine Ev.skip ?_
                        show Ev _ _ _ _
                        refine Ev.seq ?_
                        refine Ev.sr fun K hK => S.o q.mv (S.o (q.lens am_el23) (S.o q.mv (S.end (hK _ ?_))))
                        clear hK K
                        refine Ev.block ?_
                        refine Ev.loopU (ι := {p : List (Int × Int) × List (Int × Int) // p.1 ++ p.2 = l ∧ True}) [] [0, 7, 131, 132] (fun ⟨(pre, suf), _⟩ => [(133, .lit (.int .i64 ((pre.length : Int))))]) (fun ⟨(pre, suf), _⟩ => []) (fun ⟨(pre, suf), _⟩ => suf.length) ⟨([], l), rfl, trivial⟩ (.c (.c (.c (.c .n)))) keep_n (slots_c (he := (by first | rfl | (congr 2; simp; done))) (h := trivial)) ?_
                        rintro ⟨⟨pre, suf⟩, hp, hinv⟩ R0 hR0
                        dsimp only [List.cons_append, List.nil_append, List.length_cons, List.length_nil]
                        simp only at hp hinv
                        have hpl : pre.length + suf.length = (l).length := by rw [← hp, List.length_append]
                        rcases suf with _ | ⟨t, suf⟩
                        · rw [List.append_nil] at hp; simp only [List.length_nil] at hpl
                          refine Ev.sr fun K hK => S.o q.lss (S.end (hK _ ?_))
                          clear hK K
                          refine Ev.ud (fun c70 => ?_) (fun c70 => ?_)
                          · first | omega | contradiction
                          · first
                          | (first | omega | contradiction)
                          | refine Ev.exit ?_
                            refine hR0 _ _ ?_
                            show Ev _ _ _ _
                            refine Ev.sr fun K hK => S.o q.as (S.end (hK _ ?_))
                            clear hK K
                            refine Ev.ret ?_
                            refine Ev.ret1 ?_
                            refine ⟨?_, rfl⟩
                            first | rfl | (rw [decide_eq_false e0]; rfl) | exact lawT rfl | exact lawT (by omega) | exact lawT (by assumption) | (exfalso; omega) | contradiction | (exfalso; simp_all; done) | (exfalso; simp at *; done)
                        · simp only [List.length_cons] at hpl
                          have hidx : l[pre.length]? = some t := by rw [← hp]; simp
                          obtain ⟨sx2, sy2⟩ := t
                          have v4 := fun h => one_fact (s := s) (l := l) (t := (sx2, sy2)) (by rw [← hp]; simp) h
                          refine Ev.sr fun K hK => S.o q.lss (S.end (hK _ ?_))
                          clear hK K
                          refine Ev.ud (fun c71 => ?_) (fun c71 => ?_)
                          · first
                          | (first | omega | contradiction)
                          | refine Ev.seq ?_
                            refine Ev.block ?_
                            refine Ev.sr fun K hK => S.o (q.ix am_el23 am_cl40 (hl := (by first | exact ati hx (by omega) | exact ati hidx (by omega) | exact atig (by omega)))) (S.o (q.lsA [_, _] am_ag40 am_cl40) (S.nn (q.al am_ze40) (S.sv [_, _] true [] am_in40 am_cl40 (h := S.end (hK _ ?_)))))
                            clear hK K
                            refine Ev.sr fun K hK => S.o q.mv (S.o q.mf (S.c0 (hF := containsFuncSk1 _ (pairC (sx2, sy2)) (fun y => decide (y.2 ≠ 0 ∧ sx2 ≤ y.1)) (fun y => fits2_fun (sx2, sy2) y) s (by omega)) (h := S.o q.as (S.end (hK _ ?_)))))
                            clear hK K
                            refine Ev.sr fun K hK => S.o q.mv (S.bd q.mv (fun c72 => ?_) (fun c72 => ?_))
                            · first
                            | (first | omega | contradiction)
                            | refine S.o q.mv (S.o q.not (S.o q.pt (S.end (hK _ ?_))))
                              clear hK K
                              refine Ev.cn (fun c73 => ?_) (fun c73 => ?_)
                              · first
                              | (first | omega | contradiction)
                              | refine Ev.sr fun K hK => S.o q.as (S.end (hK _ ?_))
                                clear hK K
                                refine Ev.ret ?_
                                refine hR0 _ _ ?_
                                refine Ev.ret1 ?_
                                refine ⟨?_, rfl⟩
                                first | rfl | (rw [decide_eq_false e0]; rfl) | exact lawT rfl | exact lawT (by omega) | exact lawT (by assumption) | (exfalso; omega) | contradiction | (exfalso; simp_all; done) | (exfalso; simp at *; done)
                              · first
                              | (first | omega | contradiction)
                              | refine Ev.skip ?_
                                show Ev _ _ _ _
                                refine Ev.region_S fun K hK => S.o q.add (S.o q.mv (S.end (hK _ ?_)))
                                clear hK K
                                refine hR0 _ _ ?_
                                refine roundU [] [0, 7, 131, 132] ⟨(pre ++ [(sx2, sy2)], suf), by rw [← hp]; simp, ?_⟩ ?_ keep_n (slots_c (he := (by first | rfl | (congr 2; simp; done))) (h := trivial)) (.c (.c (.c (.c .n))))
                                trivial
                                all_goals (dsimp only; simp only [List.length_cons]; omega)
                            · first
                            | (first | omega | contradiction)
                            | refine S.sk (S.sk (S.o q.pf (S.end (hK _ ?_))))
                              clear hK K
                              refine Ev.cf ?_
                              refine Ev.skip ?_
                              show Ev _ _ _ _
                              refine Ev.region_S fun K hK => S.o q.add (S.o q.mv (S.end (hK _ ?_)))
                              clear hK K
                              refine hR0 _ _ ?_
                              refine roundU [] [0, 7, 131, 132] ⟨(pre ++ [(sx2, sy2)], suf), by rw [← hp]; simp, ?_⟩ ?_ keep_n (slots_c (he := (by first | rfl | (congr 2; simp; done))) (h := trivial)) (.c (.c (.c (.c .n))))
                              trivial
                              all_goals (dsimp only; simp only [List.length_cons]; omega)
                          · first | omega | contradiction
                  · first
                  | (first | omega | contradiction)
                  | refine Ev.skip ?_
                    show Ev _ _ _ _
                    refine Ev.seq ?_
                    refine Ev.sr fun K hK => S.o q.mv (S.o (q.lens am_el23) (S.o q.mv (S.end (hK _ ?_))))
                    clear hK K
                    refine Ev.block ?_
                    refine Ev.loopU (ι := {p : List (Int × Int) × List (Int × Int) // p.1 ++ p.2 = l ∧ True}) [] [0, 7, 131, 132] (fun ⟨(pre, suf), _⟩ => [(133, .lit (.int .i64 ((pre.length : Int))))]) (fun ⟨(pre, suf), _⟩ => []) (fun ⟨(pre, suf), _⟩ => suf.length) ⟨([], l), rfl, trivial⟩ (.c (.c (.c (.c .n)))) keep_n (slots_c (he := (by first | rfl | (congr 2; simp; done))) (h := trivial)) ?_
                    rintro ⟨⟨pre, suf⟩, hp, hinv⟩ R0 hR0
                    dsimp only [List.cons_append, List.nil_append, List.length_cons, List.length_nil]
                    simp only at hp hinv
                    have hpl : pre.length + suf.length = (l).length := by rw [← hp, List.length_append]
                    rcases suf with _ | ⟨t, suf⟩
                    · rw [List.append_nil] at hp; simp only [List.length_nil] at hpl
                      refine Ev.sr fun K hK => S.o q.lss (S.end (hK _ ?_))
                      clear hK K
                      refine Ev.ud (fun c74 => ?_) (fun c74 => ?_)
                      · first | omega | contradiction
                      · first
                      | (first | omega | contradiction)
                      | refine Ev.exit ?_
                        refine hR0 _ _ ?_
                        show Ev _ _ _ _
                        refine Ev.sr fun K hK => S.o q.as (S.end (hK _ ?_))
                        clear hK K
                        refine Ev.ret ?_
                        refine Ev.ret1 ?_
                        refine ⟨?_, rfl⟩
                        first | rfl | (rw [decide_eq_false e0]; rfl) | exact lawT rfl | exact lawT (by omega) | exact lawT (by assumption) | (exfalso; omega) | contradiction | (exfalso; simp_all; done) | (exfalso; simp at *; done)
                    · simp only [List.length_cons] at hpl
                      have hidx : l[pre.length]? = some t := by rw [← hp]; simp
                      obtain ⟨sx2, sy2⟩ := t
                      have v4 := fun h => one_fact (s := s) (l := l) (t := (sx2, sy2)) (by rw [← hp]; simp) h
                      refine Ev.sr fun K hK => S.o q.lss (S.end (hK _ ?_))
                      clear hK K
                      refine Ev.ud (fun c75 => ?_) (fun c75 => ?_)
                      · first
                      | (first | omega | contradiction)
                      | refine Ev.seq ?_
                        refine Ev.block ?_
                        refine Ev.sr fun K hK => S.o (q.ix am_el23 am_cl40 (hl := (by first | exact ati hx (by omega) | exact ati hidx (by omega) | exact atig (by omega)))) (S.o (q.lsA [_, _] am_ag40 am_cl40) (S.nn (q.al am_ze40) (S.sv [_, _] true [] am_in40 am_cl40 (h := S.end (hK _ ?_)))))
                        clear hK K
                        refine Ev.sr fun K hK => S.o q.mv (S.o q.mf (S.c0 (hF := containsFuncSk1 _ (pairC (sx2, sy2)) (fun y => decide (y.2 ≠ 0 ∧ sx2 ≤ y.1)) (fun y => fits2_fun (sx2, sy2) y) s (by omega)) (h := S.o q.as (S.end (hK _ ?_)))))
                        clear hK K
                        refine Ev.sr fun K hK => S.o q.mv (S.bd q.mv (fun c76 => ?_) (fun c76 => ?_))
                        · first
                        | (first | omega | contradiction)
                        | refine S.o q.mv (S.o q.not (S.o q.pt (S.end (hK _ ?_))))
                          clear hK K
                          refine Ev.cn (fun c77 => ?_) (fun c77 => ?_)
                          · first
                          | (first | omega | contradiction)
                          | refine Ev.sr fun K hK => S.o q.as (S.end (hK _ ?_))
                            clear hK K
                            refine Ev.ret ?_
                            refine hR0 _ _ ?_
                            refine Ev.ret1 ?_
                            refine ⟨?_, rfl⟩
                            first | rfl | (rw [decide_eq_false e0]; rfl) | exact lawT rfl | exact lawT (by omega) | exact lawT (by assumption) | (exfalso; omega) | contradiction | (exfalso; simp_all; done) | (exfalso; simp at *; done)
                          · first
                          | (first | omega | contradiction)
                          | refine Ev.skip ?_
                            show Ev _ _ _ _
                            refine Ev.region_S fun K hK => S.o q.add (S.o q.mv (S.end (hK _ ?_)))
                            clear hK K
                            refine hR0 _ _ ?_
                            refine roundU [] [0, 7, 131, 132] ⟨(pre ++ [(sx2, sy2)], suf), by rw [← hp]; simp, ?_⟩ ?_ keep_n (slots_c (he := (by first | rfl | (congr 2; simp; done))) (h := trivial)) (.c (.c (.c (.c .n))))
                            trivial
                            all_goals (dsimp only; simp only [List.length_cons]; omega)
                        · first
                        | (first | omega | contradiction)
                        | refine S.sk (S.sk (S.o q.pf (S.end (hK _ ?_))))
                          clear hK K
                          refine Ev.cf ?_
                          refine Ev.skip ?_
                          show Ev _ _ _ _
                          refine Ev.region_S fun K hK => S.o q.add (S.o q.mv (S.end (hK _ ?_)))
                          clear hK K
                          refine hR0 _ _ ?_
                          refine roundU [] [0, 7, 131, 132] ⟨(pre ++ [(sx2, sy2)], suf), by rw [← hp]; simp, ?_⟩ ?_ keep_n (slots_c (he := (by first | rfl | (congr 2; simp; done))) (h := trivial)) (.c (.c (.c (.c .n))))
                          trivial
                          all_goals (dsimp only; simp only [List.length_cons]; omega)
                      · first | omega | contradiction
        · first
        | (first | omega | contradiction)
        | refine Ev.skip ?_
          show Ev _ _ _ _
          refine Ev.seq ?_
          refine Ev.sr fun K hK => S.o q.mv (S.o (q.lens am_el23) (S.o q.gtr (S.end (hK _ ?_))))
          clear hK K
          refine Ev.cd (fun c78 => ?_) (fun c78 => ?_)
          · first
          | (first | omega | contradiction)
          | obtain ⟨hj0l, hj1l⟩ : 0 ≤ k % (l.length : Int) ∧ k % (l.length : Int) < (l.length : Int) := ⟨Int.emod_nonneg _ (by omega), Int.emod_lt_of_pos _ (by omega)⟩
            obtain ⟨e3, v3⟩ := part_facts (k := (k % (l.length : Int)).toNat) hos hol
            have ekl : (k % (l.length : Int) + 1).toNat = (k % (l.length : Int)).toNat + 1 := by omega
            rw [← ekl] at e3 v3
            have hdp : (l.take (k % (l.length : Int)).toNat ++ l.drop (k % (l.length : Int) + 1).toNat).length ≤ 1000 := by simp only [List.length_append, List.length_take, List.length_drop]; omega
            refine Ev.sm (tbs [(0, 0), (1, 1), (0, 0), (3, 4), (0, 0), (5, 16), (6, 60), (0, 0), (8, 128), (0, 0), (10, 512), (11, 1920), (12, 3968), (13, 8191), (14, 16383)]) 13 fun K hK => M.o q.mv (M.c1 [_] (hF := clonePce_fun _ (by omega)) (h := M.o q.mv (M.o (q.cvi am_un3 am_us5) (M.o q.mv (M.o (q.lens am_el23) (M.o q.rem (M.o q.mv (M.o (q.cvi am_un3 am_us5) (M.o q.mv (M.o (q.lens am_el23) (M.o q.rem (M.o q.add (M.end [_, _] (h := S.cR [5] 54 [_, _] (hob := (keep_c (he := rfl) (h := keep_n))) (hF := deletePce_R _ _ _ (by omega) (by omega) (by omega) (by omega)) (hn' := belowL rfl rfl) (h := S.o q.as (S.end (hK _ ?_)))))))))))))))))
            clear hK K
            refine Ev.sr fun K hK => S.o q.mv (S.o q.mv ?_)
            refine SeqL.weaken (Wk.frz 118 [_]) ?_
            refine S.c0 (hF := stFits_fun _ _ (by omega) (by omega)) (h := S.o q.mv (S.o q.ex (S.o q.ex (S.o q.as (S.o q.as (S.end (hK _ ?_)))))))
            clear hK K
            refine Ev.sr fun K hK => S.o q.mv (S.o q.neq (S.bn q.mv (fun c79 => ?_) (fun c79 => ?_)))
            · first
            | (first | omega | contradiction)
            | refine S.sk (S.sk (S.sk (S.sk (S.sk (S.o q.pt (S.end (hK _ ?_)))))))
              clear hK K
              refine Ev.ct ?_
              refine Ev.sr fun K hK => S.o q.as (S.end (hK _ ?_))
              clear hK K
              refine Ev.ret ?_
              refine Ev.ret1 ?_
              refine ⟨?_, rfl⟩
              first | rfl | (rw [decide_eq_false e0]; rfl) | exact lawT rfl | exact lawT (by omega) | exact lawT (by assumption) | (exfalso; omega) | contradiction | (exfalso; simp_all; done) | (exfalso; simp at *; done)
            · first
            | (first | omega | contradiction)
            | refine S.o q.mv (S.bd q.mv (fun c80 => ?_) (fun c80 => ?_))
              · first
              | (first | omega | contradiction)
              | refine S.o q.mv (S.o q.not (S.o q.pt (S.o q.pf (S.end (hK _ ?_)))))
                clear hK K
                refine Ev.cn (fun c81 => ?_) (fun c81 => ?_)
                · first
                | (first | omega | contradiction)
                | refine Ev.sr fun K hK => S.o q.as (S.end (hK _ ?_))
                  clear hK K
                  refine Ev.ret ?_
                  refine Ev.ret1 ?_
                  refine ⟨?_, rfl⟩
                  first | rfl | (rw [decide_eq_false e0]; rfl) | exact lawT rfl | exact lawT (by omega) | exact lawT (by assumption) | (exfalso; omega) | contradiction | (exfalso; simp_all; done) | (exfalso; simp at *; done)
                · first
                | (first | omega | contradiction)
                | refine Ev.skip ?_
                  show Ev _ _ _ _
                  refine Ev.seq ?_
                  refine Ev.sr fun K hK => S.o q.mv (S.o (q.lens am_el23) (S.o q.mv (S.end (hK _ ?_))))
                  clear hK K
                  refine Ev.block ?_
                  refine Ev.loopU (ι := {p : List (Int × Int) × List (Int × Int) // p.1 ++ p.2 = l ∧ True}) [] [0, 7, 131, 132] (fun ⟨(pre, suf), _⟩ => [(133, .lit (.int .i64 ((pre.length : Int))))]) (fun ⟨(pre, suf), _⟩ => []) (fun ⟨(pre, suf), _⟩ => suf.length) ⟨([], l), rfl, trivial⟩ (.c (.c (.c (.c .n)))) keep_n (slots_c (he := (by first | rfl | (congr 2; simp; done))) (h := trivial)) ?_
                  rintro ⟨⟨pre, suf⟩, hp, hinv⟩ R0 hR0
                  dsimp only [List.cons_append, List.nil_append, List.length_cons, List.length_nil]
                  simp only at hp hinv
                  have hpl : pre.length + suf.length = (l).length := by rw [← hp, List.length_append]
                  rcases suf with _ | ⟨t, suf⟩
                  · rw [List.append_nil] at hp; simp only [List.length_nil] at hpl
                    refine Ev.sr fun K hK => S.o q.lss (S.end (hK _ ?_))
                    clear hK K
                    refine Ev.ud (fun c82 => ?_) (fun c82 => ?_)
                    · first | omega | contradiction
                    · first
                    | (first | omega | contradiction)
                    | refine Ev.exit ?_
                      refine hR0 _ _ ?_
                      show Ev _ _ _ _
                      refine Ev.sr fun K hK => S.o q.as (S.end (hK _ ?_))
                      clear hK K
                      refine Ev.ret ?_
                      refine Ev.ret1 ?_
                      refine ⟨?_, rfl⟩
                      first | rfl | (rw [decide_eq_false e0]; rfl) | exact lawT rfl | exact lawT (by omega) | exact lawT (by assumption) | (exfalso; omega) | contradiction | (exfalso; simp_all; done) | (exfalso; simp at *; done)
                  · simp only [List.length_cons] at hpl
                    have hidx : l[pre.length]? = some t := by rw [← hp]; simp
                    obtain ⟨sx2, sy2⟩ := t
                    have v4 := fun h => one_fact (s := s) (l := l) (t := (sx2, sy2)) (by rw [← hp]; simp) h
                    refine Ev.sr fun K hK => S.o q.lss (S.end (hK _ ?_))
                    clear hK K
                    refine Ev.ud (fun c83 => ?_) (fun c83 => ?_)
                    · first
                    | (first | omega | contradiction)
                    | refine Ev.seq ?_
                      refine Ev.block ?_
                      refine Ev.sr fun K hK => S.o (q.ix am_el23 am_cl40 (hl := (by first | exact ati hx (by omega) | exact ati hidx (by omega) | exact atig (by omega)))) (S.o (q.lsA [_, _] am_ag40 am_cl40) (S.nn (q.al am_ze40) (S.sv [_, _] true [] am_in40 am_cl40 (h := S.end (hK _ ?_)))))
                      clear hK K
                      refine Ev.sr fun K hK => S.o q.mv (S.o q.mf (S.c0 (hF := containsFuncSk1 _ (pairC (sx2, sy2)) (fun y => decide (y.2 ≠ 0 ∧ sx2 ≤ y.1)) (fun y => fits2_fun (sx2, sy2) y) s (by omega)) (h := S.o q.as (S.end (hK _ ?_)))))
                      clear hK K
                      refine Ev.sr fun K hK => S.o q.mv (S.bd q.mv (fun c84 => ?_) (fun c84 => ?_))
                      · first
                      | (first | omega | contradiction)
                      | refine S.o q.mv (S.o q.not (S.o q.pt (S.end (hK _ ?_))))
                        clear hK K
                        refine Ev.cn (fun c85 => ?_) (fun c85 => ?_)
                        · first
                        | (first | omega | contradiction)
                        | refine Ev.sr fun K hK => S.o q.as (S.end (hK _ ?_))
                          clear hK K
                          refine Ev.ret ?_
                          refine hR0 _ _ ?_
                          refine Ev.ret1 ?_
                          refine ⟨?_, rfl⟩
                          first | rfl | (rw [decide_eq_false e0]; rfl) | exact lawT rfl | exact lawT (by omega) | exact lawT (by assumption) | (exfalso; omega) | contradiction | (exfalso; simp_all; done) | (exfalso; simp at *; done)
                        · first
                        | (first | omega | contradiction)
                        | refine Ev.skip ?_
                          show Ev _ _ _ _
                          refine Ev.region_S fun K hK => S.o q.add (S.o q.mv (S.end (hK _ ?_)))
                          clear hK K
                          refine hR0 _ _ ?_
                          refine roundU [] [0, 7, 131, 132] ⟨(pre ++ [(sx2, sy2)], suf), by rw [← hp]; simp, ?_⟩ ?_ keep_n (slots_c (he := (by first | rfl | (congr 2; simp; done))) (h := trivial)) (.c (.c (.c (.c .n))))
                          trivial
                          all_goals (dsimp only; simp only [List.length_cons]; omega)
                      · first
                      | (first | omega | contradiction)
                      | refine S.sk (S.sk (S.o q.pf (S.end (hK _ ?_))))
                        clear hK K
                        refine Ev.cf ?_
                        refine Ev.skip ?_
                        show Ev _ _ _ _
                        refine Ev.region_S fun K hK => S.o q.add (S.o q.mv (S.end (hK _ ?_)))
                        clear hK K
                        refine hR0 _ _ ?_
                        refine roundU [] [0, 7, 131, 132] ⟨(pre ++ [(sx2, sy2)], suf), by rw [← hp]; simp, ?_⟩ ?_ keep_n (slots_c (he := (by first | rfl | (congr 2; simp; done))) (h := trivial)) (.c (.c (.c (.c .n))))
                        trivial
                        all_goals (dsimp only; simp only [List.length_cons]; omega)
                    · first | omega | contradiction
              · first
              | (first | omega | contradiction)
              | refine S.sk (S.sk (S.o q.pf (S.o q.pf (S.end (hK _ ?_)))))
                clear hK K
                refine Ev.cf ?_
                refine Ev.skip ?_
                show Ev _ _ _ _
                refine Ev.seq ?_
                refine Ev.sr fun K hK => S.o q.mv (S.o (q.lens am_el23) (S.o q.mv (S.end (hK _ ?_))))
                clear hK K
                refine Ev.block ?_
                refine Ev.loopU (ι := {p : List (Int × Int) × List (Int × Int) // p.1 ++ p.2 = l ∧ True}) [] [0, 7, 131, 132] (fun ⟨(pre, suf), _⟩ => [(133, .lit (.int .i64 ((pre.length : Int))))]) (fun ⟨(pre, suf), _⟩ => []) (fun ⟨(pre, suf), _⟩ => suf.length) ⟨([], l), rfl, trivial⟩ (.c (.c (.c (.c .n)))) keep_n (slots_c (he := (by first | rfl | (congr 2; simp; done))) (h := trivial)) ?_
                rintro ⟨⟨pre, suf⟩, hp, hinv⟩ R0 hR0
                dsimp only [List.cons_append, List.nil_append, List.length_cons, List.length_nil]
                simp only at hp hinv
                have hpl : pre.length + suf.length = (l).length := by rw [← hp, List.length_append]
                rcases suf with _ | ⟨t, suf⟩
                · rw [List.append_nil] at hp; simp only [List.length_nil] at hpl
                  refine Ev.sr fun K hK => S.o q.lss (S.end (hK _ ?_))
                  clear hK K
                  refine Ev.ud (fun c86 => ?_) (fun c86 => ?_)
                  · first | omega | contradiction
                  · first
                  | (first | omega | contradiction)
                  | refine Ev.exit ?_
                    refine hR0 _ _ ?_
                    show Ev _ _ _ _
                    refine Ev.sr fun K hK => S.o q.as (S.end (hK _ ?_))
                    clear hK K
                    refine Ev.ret ?_
                    refine Ev.ret1 ?_
                    refine ⟨?_, rfl⟩
                    first | rfl | (rw [decide_eq_false e0]; rfl) | exact lawT rfl | exact lawT (by omega) | exact lawT (by assumption) | (exfalso; omega) | contradiction | (exfalso; simp_all; done) | (exfalso; simp at *; done)
                · simp only [List.length_cons] at hpl
                  have hidx : l[pre.length]? = some t := by rw [← hp]; simp
                  obtain ⟨sx2, sy2⟩ := t
                  have v4 := fun h => one_fact (s := s) (l := l) (t := (sx2, sy2)) (by rw [← hp]; simp) h
                  refine Ev.sr fun K hK => S.o q.lss (S.end (hK _ ?_))
                  clear hK K
                  refine Ev.ud (fun c87 => ?_) (fun c87 => ?_)
                  · first
                  | (first | omega | contradiction)
                  | refine Ev.seq ?_
                    refine Ev.block ?_
                    refine Ev.sr fun K hK => S.o (q.ix am_el23 am_cl40 (hl := (by first | exact ati hx (by omega) | exact ati hidx (by omega) | exact atig (by omega)))) (S.o (q.lsA [_, _] am_ag40 am_cl40) (S.nn (q.al am_ze40) (S.sv [_, _] true [] am_in40 am_cl40 (h := S.end (hK _ ?_)))))
                    clear hK K
                    refine Ev.sr fun K hK => S.o q.mv (S.o q.mf (S.c0 (hF := containsFuncSk1 _ (pairC (sx2, sy2)) (fun y => decide (y.2 ≠ 0 ∧ sx2 ≤ y.1)) (fun y => fits2_fun (sx2, sy2) y) s (by omega)) (h := S.o q.as (S.end (hK _ ?_)))))
                    clear hK K
                    refine Ev.sr fun K hK => S.o q.mv (S.bd q.mv (fun c88 => ?_) (fun c88 => ?_))
                    · first
                    | (first | omega | contradiction)
                    | refine S.o q.mv (S.o q.not (S.o q.pt (S.end (hK _ ?_))))
                      clear hK K
                      refine Ev.cn (fun c89 => ?_) (fun c89 => ?_)
                      · first
                      | (first | omega | contradiction)
                      | refine Ev.sr fun K hK => S.o q.as (S.end (hK _ ?_))
                        clear hK K
                        refine Ev.ret ?_
                        refine hR0 _ _ ?_
                        refine Ev.ret1 ?_
                        refine ⟨?_, rfl⟩
                        first | rfl | (rw [decide_eq_false e0]; rfl) | exact lawT rfl | exact lawT (by omega) | exact lawT (by assumption) | (exfalso; omega) | contradiction | (exfalso; simp_all; done) | (exfalso; simp at *; done)
                      · first
                      | (first | omega | contradiction)
                      | refine Ev.skip ?_
                        show Ev _ _ _ _
                        refine Ev.region_S fun K hK => S.o q.add (S.o q.mv (S.end (hK _ ?_)))
                        clear hK K
                        refine hR0 _ _ ?_
                        refine roundU [] [0, 7, 131, 132] ⟨(pre ++ [(sx2, sy2)], suf), by rw [← hp]; simp, ?_⟩ ?_ keep_n (slots_c (he := (by first | rfl | (congr 2; simp; done))) (h := trivial)) (.c (.c (.c (.c .n))))
                        trivial
                        all_goals (dsimp only; simp only [List.length_cons]; omega)
                    · first
                    | (first | omega | contradiction)
                    | refine S.sk (S.sk (S.o q.pf (S.end (hK _ ?_))))
                      clear hK K
                      refine Ev.cf ?_
                      refine Ev.skip ?_
                      show Ev _ _ _ _
                      refine Ev.region_S fun K hK => S.o q.add (S.o q.mv (S.end (hK _ ?_)))
                      clear hK K
                      refine hR0 _ _ ?_
                      refine roundU [] [0, 7, 131, 132] ⟨(pre ++ [(sx2, sy2)], suf), by rw [← hp]; simp, ?_⟩ ?_ keep_n (slots_c (he := (by first | rfl | (congr 2; simp; done))) (h := trivial)) (.c (.c (.c (.c .n))))
                      trivial
                      all_goals (dsimp only; simp only [List.length_cons]; omega)
                  · first | omega | contradiction
          · first
          | (first | omega | contradiction)
          | refine Ev.skip ?_
            show Ev _ _ _ _
            refine Ev.seq ?_
            refine Ev.sr fun K hK => S.o q.mv (S.o (q.lens am_el23) (S.o q.mv (S.end (hK _ ?_))))
            clear hK K
            refine Ev.block ?_
            refine Ev.loopU (ι := {p : List (Int × Int) × List (Int × Int) // p.1 ++ p.2 = l ∧ True}) [] [0, 7, 131, 132] (fun ⟨(pre, suf), _⟩ => [(133, .lit (.int .i64 ((pre.length : Int))))]) (fun ⟨(pre, suf), _⟩ => []) (fun ⟨(pre, suf), _⟩ => suf.length) ⟨([], l), rfl, trivial⟩ (.c (.c (.c (.c .n)))) keep_n (slots_c (he := (by first | rfl | (congr 2; simp; done))) (h := trivial)) ?_
            rintro ⟨⟨pre, suf⟩, hp, hinv⟩ R0 hR0
            dsimp only [List.cons_append, List.nil_append, List.length_cons, List.length_nil]
            simp only at hp hinv
            have hpl : pre.length + suf.length = (l).length := by rw [← hp, List.length_append]
            rcases suf with _ | ⟨t, suf⟩
            · rw [List.append_nil] at hp; simp only [List.length_nil] at hpl
              refine Ev.sr fun K hK => S.o q.lss (S.end (hK _ ?_))
              clear hK K
              refine Ev.ud (fun c90 => ?_) (fun c90 => ?_)
              · first | omega | contradiction
              · first
              | (first | omega | contradiction)
              | refine Ev.exit ?_
                refine hR0 _ _ ?_
                show Ev _ _ _ _
                refine Ev.sr fun K hK => S.o q.as (S.end (hK _ ?_))
                clear hK K
                refine Ev.ret ?_
                refine Ev.ret1 ?_
                refine ⟨?_, rfl⟩
                first | rfl | (rw [decide_eq_false e0]; rfl) | exact lawT rfl | exact lawT (by omega) | exact lawT (by assumption) | (exfalso; omega) | contradiction | (exfalso; simp_all; done) | (exfalso; simp at *; done)
            · simp only [List.length_cons] at hpl
              have hidx : l[pre.length]? = some t := by rw [← hp]; simp
              obtain ⟨sx2, sy2⟩ := t
              have v4 := fun h => one_fact (s := s) (l := l) (t := (sx2, sy2)) (by rw [← hp]; simp) h
              refine Ev.sr fun K hK => S.o q.lss (S.end (hK _ ?_))
              clear hK K
              refine Ev.ud (fun c91 => ?_) (fun c91 => ?_)
              · first
              | (first | omega | contradiction)
              | refine Ev.seq ?_
                refine Ev.block ?_
                refine Ev.sr fun K hK => S.o (q.ix am_el23 am_cl40 (hl := (by first | exact ati hx (by omega) | exact ati hidx (by omega) | exact atig (by omega)))) (S.o (q.lsA [_, _] am_ag40 am_cl40) (S.nn (q.al am_ze40) (S.sv [_, _] true [] am_in40 am_cl40 (h := S.end (hK _ ?_)))))
                clear hK K
                refine Ev.sr fun K hK => S.o q.mv (S.o q.mf (S.c0 (hF := containsFuncSk1 _ (pairC (sx2, sy2)) (fun y => decide (y.2 ≠ 0 ∧ sx2 ≤ y.1)) (fun y => fits2_fun (sx2, sy2) y) s (by omega)) (h := S.o q.as (S.end (hK _ ?_)))))
                clear hK K
                refine Ev.sr fun K hK => S.o q.mv (S.bd q.mv (fun c92 => ?_) (fun c92 => ?_))
                · first
                | (first | omega | contradiction)
                | refine S.o q.mv (S.o q.not (S.o q.pt (S.end (hK _ ?_))))
                  clear hK K
                  refine Ev.cn (fun c93 => ?_) (fun c93 => ?_)
                  · first
                  | (first | omega | contradiction)
                  | refine Ev.sr fun K hK => S.o q.as (S.end (hK _ ?_))
                    clear hK K
                    refine Ev.ret ?_
                    refine hR0 _ _ ?_
                    refine Ev.ret1 ?_
                    refine ⟨?_, rfl⟩
                    first | rfl | (rw [decide_eq_false e0]; rfl) | exact lawT rfl | exact lawT (by omega) | exact lawT (by assumption) | (exfalso; omega) | contradiction | (exfalso; simp_all; done) | (exfalso; simp at *; done)
                  · first
                  | (first | omega | contradiction)
                  | refine Ev.skip ?_
                    show Ev _ _ _ _
                    refine Ev.region_S fun K hK => S.o q.add (S.o q.mv (S.end (hK _ ?_)))
                    clear hK K
                    refine hR0 _ _ ?_
                    refine roundU [] [0, 7, 131, 132] ⟨(pre ++ [(sx2, sy2)], suf), by rw [← hp]; simp, ?_⟩ ?_ keep_n (slots_c (he := (by first | rfl | (congr 2; simp; done))) (h := trivial)) (.c (.c (.c (.c .n))))
                    trivial
                    all_goals (dsimp only; simp only [List.length_cons]; omega)
                · first
                | (first | omega | contradiction)
                | refine S.sk (S.sk (S.o q.pf (S.end (hK _ ?_))))
                  clear hK K
                  refine Ev.cf ?_
                  refine Ev.skip ?_
                  show Ev _ _ _ _
                  refine Ev.region_S fun K hK => S.o q.add (S.o q.mv (S.end (hK _ ?_)))
                  clear hK K
                  refine hR0 _ _ ?_
                  refine roundU [] [0, 7, 131, 132] ⟨(pre ++ [(sx2, sy2)], suf), by rw [← hp]; simp, ?_⟩ ?_ keep_n (slots_c (he := (by first | rfl | (congr 2; simp; done))) (h := trivial)) (.c (.c (.c (.c .n))))
                  trivial
                  all_goals (dsimp only; simp only [List.length_cons]; omega)
              · first | omega | contradiction
end Go.Proofs.Ytckahagagfmpbaa
