/-
  The example of the chapter.
  Conditions: none.
-/
import Derived.Test.YtddogeicmhbidaaGreatDoorMg2
import Derived.Test.YtddogeicmhbidaaGreatDoorMg2
import Derived.Test.YtddogeicmhbidaaGreatDoorNum
import Derived.Test.YtddogeicmhbidaaGreatDoorPc5
namespace Go.Proofs.YtddogeicmhbidaaGreatDoor
open Go Go.AM
set_option linter.unusedSimpArgs false
set_option linter.unusedVariables false
set_option maxRecDepth 100000
set_option maxHeartbeats 1000000

def barsC (l : List Bar) : List AV := [.sh 5 (l.map Bar.c)]

theorem indexValBars (g : FuncId) (p : List Bar → Bool) (l : List (List Bar)) (hg : ∀ s ∈ l, Fun Tryz.prog g [(barsC s).headD .top] (Ret (.lit (.bool (p s))) [])) (hlen : l.length ≤ 140737488355328) :
    Fun Tryz.prog 45 [.sh 1 (l.map barsC), .fn (.func g) [] []] (Ret (.lit (.int .i64 (idxP p l 0))) []) := by
  refine Fun.of (nt := 19) (rs := [.tmp 4]) Tryz.func45 rfl rfl rfl rfl rfl ?_
  refine Ev.sr fun K hK => S.o q.as (S.end (hK _ ?_))
  clear hK K
  refine Ev.seq ?_
  refine Ev.sr fun K hK => S.o q.mv (S.o (q.lens am_el53) (S.o q.mv (S.end (hK _ ?_))))
  clear hK K
  refine Ev.block ?_
  refine Ev.loopU (ι := {q : List (List Bar) × List (List Bar) // q.1 ++ q.2 = l ∧ ∀ x ∈ q.1, p x = false}) [] [0, 1, 7] (fun ⟨(pre, suf), _⟩ => [(8, .lit (.int .i64 ((pre.length : Int))))]) (fun ⟨(pre, suf), _⟩ => []) (fun ⟨(pre, suf), _⟩ => suf.length) ⟨([], l), rfl, fun x hx => by simp at hx⟩ (.c (.c (.c .n))) keep_n (slots_c (he := (by first | rfl | (simp; done) | (congr 2; omega))) (h := trivial)) ?_
  rintro ⟨⟨pre, suf⟩, hp, hinv⟩ R0 hR0
  dsimp only [List.cons_append, List.nil_append, List.length_cons, List.length_nil]
  simp only at hp hinv
  have hpl : pre.length + suf.length = (l).length := by rw [← hp, List.length_append]
  rcases suf with _ | ⟨s, suf⟩
  · rw [List.append_nil] at hp; subst hp; simp only [List.length_nil] at hpl
    refine Ev.sr fun K hK => S.o q.lss (S.end (hK _ ?_))
    clear hK K
    refine Ev.ud (fun c1 => ?_) (fun c1 => ?_)
    · first | omega | contradiction
    · first
    | (first | omega | contradiction)
    | refine Ev.exit ?_
      refine hR0 _ _ ?_
      show Ev _ _ _ _
      refine Ev.sr fun K hK => S.o q.as (S.end (hK _ ?_))
      clear hK K
      refine Ev.ret ?_
      refine Ev.ret1 ?_
      refine ⟨?_, rfl⟩
      first | (congr 2; rw [← hp, idxP_append p pre _ 0 hinv, idxP, if_pos ‹_›]; omega) | (congr 2; rw [idxP_none p pre 0 hinv])
  · simp only [List.length_cons] at hpl
    have hidx : (l)[pre.length]? = some s := by rw [← hp]; simp
    refine Ev.sr fun K hK => S.o q.lss (S.end (hK _ ?_))
    clear hK K
    refine Ev.ud (fun c2 => ?_) (fun c2 => ?_)
    · first
    | (first | omega | contradiction)
    | refine Ev.seq ?_
      refine Ev.block ?_
      refine Ev.sr fun K hK => S.o q.mv (S.o q.as (S.end (hK _ ?_)))
      clear hK K
      refine Ev.sr fun K hK => S.o q.mv (S.o q.mv (S.o q.mv (S.o (q.ix am_el53 am_cl22 (hl := (by first | exact ati hidx (by omega) | exact atig (by omega)))) (S.o (q.ls am_ag22) (S.c0 (hF := hg s (by rw [← hp]; simp)) (h := S.end (hK _ ?_)))))))
      clear hK K
      refine Ev.c (fun c3 => ?_) (fun c3 => ?_)
      · first
      | (first | omega | contradiction)
      | refine Ev.sr fun K hK => S.o q.mv (S.o q.as (S.end (hK _ ?_)))
        clear hK K
        refine Ev.ret ?_
        refine hR0 _ _ ?_
        refine Ev.ret1 ?_
        refine ⟨?_, rfl⟩
        first | (congr 2; rw [← hp, idxP_append p pre _ 0 hinv, idxP, if_pos ‹_›]; omega) | (congr 2; rw [idxP_none p pre 0 hinv])
      · first
      | (first | omega | contradiction)
      | refine Ev.skip ?_
        show Ev _ _ _ _
        refine Ev.region_S fun K hK => S.o q.add (S.o q.mv (S.end (hK _ ?_)))
        clear hK K
        refine hR0 _ _ ?_
        refine roundU [] [0, 1, 7] ⟨(pre ++ [s], suf), by rw [← hp]; simp, ?_⟩ ?_ keep_n (slots_c (he := (by first | rfl | (simp; done) | (congr 2; omega))) (h := trivial)) (.c (.c (.c .n)))
        intro x hx; simp only [List.mem_append, List.mem_singleton] at hx; rcases hx with hx | rfl
        · exact hinv x hx
        · assumption
        all_goals (dsimp only; simp only [List.length_cons]; omega)
    · first | omega | contradiction
theorem containsValBars (g : FuncId) (p : List Bar → Bool) (l : List (List Bar)) (hg : ∀ s ∈ l, Fun Tryz.prog g [(barsC s).headD .top] (Ret (.lit (.bool (p s))) [])) (hlen : l.length ≤ 140737488355328) :
    Fun Tryz.prog 21 [.sh 1 (l.map barsC), .fn (.func g) [] []] (Ret (.lit (.bool (decide (∃ x ∈ l, p x = true)))) []) := by
  have hd : (decide (∃ x ∈ l, p x = true)) = decide (0 ≤ idxP p l 0) := by simp only [idxP_nonneg p l 0 (Int.le_refl _)]
  rw [hd]
  refine Fun.of (nt := 9) (rs := [.tmp 4]) Tryz.func21 rfl rfl rfl rfl rfl ?_
  refine Ev.sr fun K hK => S.o q.as (S.end (hK _ ?_))
  clear hK K
  refine Ev.sr fun K hK => S.o q.mv (S.o q.mv (S.c0 (hF := indexValBars g p l hg hlen) (h := S.o q.geq (S.o q.as (S.end (hK _ ?_))))))
  clear hK K
  refine Ev.ret ?_
  refine Ev.ret1 ?_
  refine ⟨?_, rfl⟩
  rfl
theorem eqPc_fun (a b : List (Int × Int)) (ha : a.length ≤ 140737488355328) (hb : b.length ≤ 140737488355328) : Fun Tryz.prog 11 [.sh 2 (a.map pairC), .sh 2 (b.map pairC)] (Ret (.lit (.bool (decide (a = b)))) []) := by
  refine Fun.of (nt := 26) (rs := [.tmp 4]) Tryz.func11 rfl rfl rfl rfl rfl ?_
  refine Ev.sr fun K hK => S.o q.as (S.end (hK _ ?_))
  clear hK K
  refine Ev.seq ?_
  refine Ev.sr fun K hK => S.o q.mv (S.o (q.lens am_el25) (S.o q.mv (S.o (q.lens am_el25) (S.o q.neq (S.end (hK _ ?_))))))
  clear hK K
  refine Ev.cn (fun c1 => ?_) (fun c1 => ?_)
  · first
  | (first | omega | contradiction)
  | refine Ev.sr fun K hK => S.o q.as (S.end (hK _ ?_))
    clear hK K
    refine Ev.ret ?_
    refine Ev.ret1 ?_
    refine ⟨?_, rfl⟩
    first
     | exact bF (fun h => by subst h; omega)
     | exact bF (fun h => by subst h; rw [hidx] at hidx2; cases hidx2; simp at *)
     | exact bT (hinv.symm.trans (List.take_of_length_le (by omega)))
  · first
  | (first | omega | contradiction)
  | refine Ev.skip ?_
    show Ev _ _ _ _
    refine Ev.seq ?_
    refine Ev.sr fun K hK => S.o q.mv (S.o (q.lens am_el25) (S.o q.mv (S.end (hK _ ?_))))
    clear hK K
    refine Ev.block ?_
    refine Ev.loopU (ι := {q : List (Int × Int) × List (Int × Int) // q.1 ++ q.2 = a ∧ b.take q.1.length = q.1}) [] [0, 1, 12] (fun ⟨(pre, suf), _⟩ => [(13, .lit (.int .i64 ((pre.length : Int))))]) (fun ⟨(pre, suf), _⟩ => []) (fun ⟨(pre, suf), _⟩ => suf.length) ⟨([], a), rfl, rfl⟩ (.c (.c (.c .n))) keep_n (slots_c (he := (by first | rfl | (simp; done) | (congr 2; omega))) (h := trivial)) ?_
    rintro ⟨⟨pre, suf⟩, hp, hinv⟩ R0 hR0
    dsimp only [List.cons_append, List.nil_append, List.length_cons, List.length_nil]
    simp only at hp hinv
    have hpl : pre.length + suf.length = (a).length := by rw [← hp, List.length_append]
    rcases suf with _ | ⟨s, suf⟩
    · rw [List.append_nil] at hp; subst hp; simp only [List.length_nil] at hpl
      refine Ev.sr fun K hK => S.o q.lss (S.end (hK _ ?_))
      clear hK K
      refine Ev.ud (fun c2 => ?_) (fun c2 => ?_)
      · first
      | (first | omega | contradiction)
      | refine Ev.seq ?_
        refine Ev.block ?_
        refine Ev.sr fun K hK => S.o q.mv (S.o q.as (S.end (hK _ ?_)))
        clear hK K
        refine Ev.sm (tbs [(0, 0), (0, 0), (2, 3), (3, 7), (0, 0), (0, 0), (6, 48), (7, 112), (8, 255)]) 9 fun K hK => M.o q.mv (M.o q.mv (M.o (q.ix am_el25 am_cl33 (hl := (by first | exact atig (by omega)))) (M.o (q.lsA [_, _] am_ag33 am_cl33) (M.o q.mv (M.o q.mv (M.o (q.ix am_el25 am_cl33 (hl := (by first | exact atig (by omega)))) (M.o (q.lsA [_, _] am_ag33 am_cl33) (M.o (q.sneq am_eq33 (am_sq33 _ _ _ _)) (M.end [] (h := S.end (hK _ ?_)))))))))))
        clear hK K
        refine Ev.c (fun c3 => ?_) (fun c3 => ?_)
        · first
        | (first | omega | contradiction)
        | refine Ev.sr fun K hK => S.o q.as (S.end (hK _ ?_))
          clear hK K
          refine Ev.ret ?_
          refine hR0 _ _ ?_
          refine Ev.ret1 ?_
          refine ⟨?_, rfl⟩
          first
           | exact bF (fun h => by subst h; omega)
           | exact bF (fun h => by subst h; rw [hidx] at hidx2; cases hidx2; simp at *)
           | exact bT (hinv.symm.trans (List.take_of_length_le (by omega)))
        · first
        | (first | omega | contradiction)
        | refine Ev.skip ?_
          show Ev _ _ _ _
          refine Ev.region_S fun K hK => S.o q.add (S.o q.mv (S.end (hK _ ?_)))
          clear hK K
          refine hR0 _ _ ?_
          refine roundU [] [0, 1, 12] ⟨(pre ++ [s], suf), by rw [← hp]; simp, ?_⟩ ?_ keep_n (slots_c (he := (by first | rfl | (simp; done) | (congr 2; omega))) (h := trivial)) (.c (.c (.c .n)))
          simp only [List.length_append, List.length_cons, List.length_nil, Nat.zero_add]
          rw [List.take_add_one, hinv, hidx2]
          simp at *
          obtain ⟨x1, x2⟩ := s
          obtain ⟨y1, y2⟩ := s2
          simp_all
          all_goals (dsimp only; simp only [List.length_cons]; omega)
      · first
      | (first | omega | contradiction)
      | refine Ev.exit ?_
        refine hR0 _ _ ?_
        show Ev _ _ _ _
        refine Ev.sr fun K hK => S.o q.as (S.end (hK _ ?_))
        clear hK K
        refine Ev.ret ?_
        refine Ev.ret1 ?_
        refine ⟨?_, rfl⟩
        first
         | exact bF (fun h => by subst h; omega)
         | exact bF (fun h => by subst h; rw [hidx] at hidx2; cases hidx2; simp at *)
         | exact bT (hinv.symm.trans (List.take_of_length_le (by omega)))
    · simp only [List.length_cons] at hpl
      have hidx : (a)[pre.length]? = some s := by rw [← hp]; simp
      obtain ⟨s2, hidx2⟩ : ∃ s2, b[pre.length]? = some s2 := ⟨_, List.getElem?_eq_getElem (by omega)⟩
      refine Ev.sr fun K hK => S.o q.lss (S.end (hK _ ?_))
      clear hK K
      refine Ev.ud (fun c4 => ?_) (fun c4 => ?_)
      · first
      | (first | omega | contradiction)
      | refine Ev.seq ?_
        refine Ev.block ?_
        refine Ev.sr fun K hK => S.o q.mv (S.o q.as (S.end (hK _ ?_)))
        clear hK K
        refine Ev.sm (tbs [(0, 0), (0, 0), (2, 3), (3, 7), (0, 0), (0, 0), (6, 48), (7, 112), (8, 255)]) 9 fun K hK => M.o q.mv (M.o q.mv (M.o (q.ix am_el25 am_cl33 (hl := (by first | exact ati hidx (by omega) | exact ati hidx2 (by omega) | exact atig (by omega)))) (M.o (q.lsA [_, _] am_ag33 am_cl33) (M.o q.mv (M.o q.mv (M.o (q.ix am_el25 am_cl33 (hl := (by first | exact ati hidx (by omega) | exact ati hidx2 (by omega) | exact atig (by omega)))) (M.o (q.lsA [_, _] am_ag33 am_cl33) (M.o (q.sneq am_eq33 (am_sq33 _ _ _ _)) (M.end [] (h := S.end (hK _ ?_)))))))))))
        clear hK K
        refine Ev.c (fun c5 => ?_) (fun c5 => ?_)
        · first
        | (first | omega | contradiction)
        | refine Ev.sr fun K hK => S.o q.as (S.end (hK _ ?_))
          clear hK K
          refine Ev.ret ?_
          refine hR0 _ _ ?_
          refine Ev.ret1 ?_
          refine ⟨?_, rfl⟩
          first
           | exact bF (fun h => by subst h; omega)
           | exact bF (fun h => by subst h; rw [hidx] at hidx2; cases hidx2; simp at *)
           | exact bT (hinv.symm.trans (List.take_of_length_le (by omega)))
        · first
        | (first | omega | contradiction)
        | refine Ev.skip ?_
          show Ev _ _ _ _
          refine Ev.region_S fun K hK => S.o q.add (S.o q.mv (S.end (hK _ ?_)))
          clear hK K
          refine hR0 _ _ ?_
          refine roundU [] [0, 1, 12] ⟨(pre ++ [s], suf), by rw [← hp]; simp, ?_⟩ ?_ keep_n (slots_c (he := (by first | rfl | (simp; done) | (congr 2; omega))) (h := trivial)) (.c (.c (.c .n)))
          simp only [List.length_append, List.length_cons, List.length_nil, Nat.zero_add]
          rw [List.take_add_one, hinv, hidx2]
          simp at *
          obtain ⟨x1, x2⟩ := s
          obtain ⟨y1, y2⟩ := s2
          simp_all
          all_goals (dsimp only; simp only [List.length_cons]; omega)
      · first
      | (first | omega | contradiction)
      | refine Ev.exit ?_
        refine hR0 _ _ ?_
        show Ev _ _ _ _
        refine Ev.sr fun K hK => S.o q.as (S.end (hK _ ?_))
        clear hK K
        refine Ev.ret ?_
        refine Ev.ret1 ?_
        refine ⟨?_, rfl⟩
        first
         | exact bF (fun h => by subst h; omega)
         | exact bF (fun h => by subst h; rw [hidx] at hidx2; cases hidx2; simp at *)
         | exact bT (hinv.symm.trans (List.take_of_length_le (by omega)))

theorem few1_fun (x : List Bar) (hx : x.length ≤ 140737488355328) : Fun Tryz.prog 22 [.sh 5 (x.map Bar.c)] (Ret (.lit (.bool (!decide (smallL x 70)))) []) := by
  refine Fun.of (nt := 6) (rs := [.tmp 2]) Tryz.func22 rfl rfl rfl rfl rfl ?_
  refine Ev.sr fun K hK => S.o q.as (S.end (hK _ ?_))
  clear hK K
  refine Ev.sr fun K hK => S.o q.mv (S.c0 (hF := small_fun _ _ (by omega)) (h := S.o q.not (S.o q.as (S.end (hK _ ?_)))))
  clear hK K
  refine Ev.ret ?_
  refine Ev.ret1 ?_
  refine ⟨?_, rfl⟩
  rfl

theorem few_eq (ls : List (List Bar)) : (!decide (∃ x ∈ ls, (!decide (smallL x 70)) = true)) = decide (∀ x ∈ ls, smallL x 70) := by
  by_cases h : ∀ x ∈ ls, smallL x 70
  · rw [decide_eq_true h, decide_eq_false]
    · rfl
    · rintro ⟨x, hx, e⟩
      simp [h x hx] at e
  · rw [decide_eq_false h, decide_eq_true]
    · rfl
    · exact Classical.byContradiction fun h' => h fun x hx => Classical.byContradiction fun h2 => h' ⟨x, hx, by simp [h2]⟩
theorem few_fun (ls : List (List Bar)) (hn : ls.length ≤ 100) (hl : ∀ x ∈ ls, x.length ≤ 140737488355328) : Fun Tryz.prog 7 [.sh 1 (ls.map barsC)] (Ret (.lit (.bool (decide (∀ x ∈ ls, smallL x 70)))) []) := by
  refine Fun.of (nt := 6) (rs := [.tmp 2]) Tryz.func7 rfl rfl rfl rfl rfl ?_
  refine Ev.sr fun K hK => S.o q.as (S.end (hK _ ?_))
  clear hK K
  refine Ev.sr fun K hK => S.o q.mv (S.c0 (hF := containsValBars _ (fun x => !decide (smallL x 70)) ls (fun s hs => few1_fun s (hl s hs)) (by omega)) (h := S.o q.not (S.o q.as (S.end (hK _ ?_)))))
  clear hK K
  refine Ev.ret ?_
  refine Ev.ret1 ?_
  refine ⟨?_, rfl⟩
  (rw [few_eq]; done)

def lineB (n : Int) : Bar := ⟨[97], 10, n, 0, [1000]⟩
theorem line_fun (n : Int) : Fun Tryz.prog 19 [.lit (.int .i64 n)] (Ret (.agg (lineB n).c) []) := by
  refine Fun.of (nt := 6) (rs := [.cell 2 49]) Tryz.func19 rfl rfl rfl rfl rfl ?_
  refine Ev.sr fun K hK => S.nn (q.al am_ze49) (S.end (hK _ ?_))
  clear hK K
  refine Ev.sr fun K hK => S.o q.mv (S.nn (q.bs [[_]] true am_el47 am_ze3 am_cl3) (SeqL.weaken (Wk.frzl (f := intC) [_] 4 [_]) (S.o (q.bd [_, _, _, _, _] am_ze49 am_pl49) (S.sv [_, _, _, _, _] true [] am_in49 am_cl49 (h := S.end (hK _ ?_))))))
  clear hK K
  refine Ev.ret ?_
  refine Ev.retv1 (res_c [_, _, _, _, _] am_ag49 am_cl49 res_n) ?_
  refine ⟨?_, rfl⟩
  rfl

theorem ex_ok (n : Int) (h1 : 1 ≤ n) (h2 : n ≤ 1000) : okSched [lineB n] := by
  refine ⟨by simp, fun b hb => ?_, by simp⟩
  obtain rfl := List.mem_singleton.1 hb
  exact ⟨(show IsName [97] by decide), (show (10 : Int) ∈ sizes by decide), h1, h2, (show dimsN 0 ≠ 0 by decide), (show (([1000] : List Int).length : Int) = dimsN 0 by decide), (show dimsOK [1000] by decide)⟩
theorem ex_w (n : Int) : schedW [lineB n] := fun b hb => by
  obtain rfl := List.mem_singleton.1 hb
  exact ⟨by simp [lineB], by simp [lineB]⟩
theorem itoa_nat (n : Nat) : Go.Lib.itoa (n : Int) = Go.Lib.decDigits n := Go.Lib.itoa_nonneg n
theorem i0 : Go.Lib.itoa 0 = [48] := (itoa_nat 0).trans (by rw [Go.Lib.decDigits]; rfl)
theorem i4 : Go.Lib.itoa 4 = [52] := (itoa_nat 4).trans (by rw [Go.Lib.decDigits]; rfl)
theorem i10 : Go.Lib.itoa 10 = [49, 48] := (itoa_nat 10).trans (by simp [Go.Lib.decDigits])
theorem i1000 : Go.Lib.itoa 1000 = [49, 48, 48, 48] := (itoa_nat 1000).trans (by simp [Go.Lib.decDigits])
def exS : List UInt8 := [97, 32, 49, 48, 32, 52, 32, 48, 48, 32, 49, 48, 48, 48, 10]
theorem ex_text : textV [lineB 4] = exS ∧ textE [lineB 4] = 0 := by
  have h := ex_ok 4 (by decide) (by decide)
  refine ⟨(if_pos h).trans ?_, if_pos h⟩
  simp only [textP, List.flatMap_cons, List.flatMap_nil, List.append_nil, lineT, lineW, lineH, lineB, List.map_cons, List.map_nil, code2, i0, i4, i10, i1000]
  rfl
theorem ex_cut (n : Int) : cutOf (lineB n) = 1000 := by
  have e : cutOf (lineB n) = cutOf (lineB 0) := rfl
  rw [e]
  decide +kernel
theorem ex_pieces : pcV [lineB 4] 10 = [(1000, 4)] ∧ pcE [lineB 4] 10 = 0 := by
  have h := ex_ok 4 (by decide) (by decide)
  have hz : (10 : Int) ∈ sizes := by decide
  refine ⟨(if_pos ⟨h, hz⟩).trans ?_, (if_pos h).trans (if_pos hz)⟩
  have m1 : ∀ b, pcMax [lineB 4] 10 b = if 1000 < b then 1000 else 0 := fun b => by
    simp only [pcMax, List.foldl_cons, List.foldl_nil, ex_cut, show (lineB 4).size = 10 from rfl, true_and]
    by_cases hb : (1000 : Int) < b
    · rw [if_pos ⟨hb, by decide⟩, if_pos hb]
    · rw [if_neg (fun h => hb h.1), if_neg hb]
  have c1 : pcCnt [lineB 4] 10 1000 = 4 := by
    simp only [pcCnt, List.map_cons, List.map_nil, ex_cut, show (lineB 4).size = 10 from rfl, and_self, if_true]
    rfl
  have a1 : pcMax [lineB 4] 10 1048577 = 1000 := by rw [m1]; rfl
  have a2 : pcMax [lineB 4] 10 1000 = 0 := by rw [m1]; rfl
  rw [pcP, pcAt_cons (by rw [a1]; decide), a1, c1, pcAt_nil a2]
theorem ex_merge : mergeE [lineB 4] [lineB 2] = 0 ∧ mergeV [lineB 4] [lineB 2] = [lineB 6] := by
  have h : okSched [lineB 4] ∧ okSched [lineB 2] := ⟨ex_ok 4 (by decide) (by decide), ex_ok 2 (by decide) (by decide)⟩
  have e : mergeL [lineB 4] [lineB 2] = [lineB 6] := by decide +kernel
  have h1 : ¬ ∃ x ∈ [lineB 2], badM [lineB 4] x := by decide +kernel
  have h2 : ¬ bigM [lineB 4] [lineB 2] := by decide +kernel
  have := me0 h h1 h2 (by rw [e]; decide)
  exact ⟨this.1, this.2.trans e⟩
theorem exText_fun : Fun Tryz.prog 13 [.sh 5 ([lineB 4].map Bar.c)] (Ret (.tup [.lit (str exS), .lit (.int .i64 0)]) []) := by
  have h := Text_fun [lineB 4] (by decide) (ex_w 4)
  rwa [ex_text.1, ex_text.2] at h
theorem exPieces_fun : Fun Tryz.prog 8 [.sh 5 ([lineB 4].map Bar.c), .lit (.int .i64 10)] (Ret (.tup [.sh 2 ([((1000 : Int), (4 : Int))].map pairC), .lit (.int .i64 0)]) []) := by
  have h := Pieces_fun [lineB 4] 10 (by decide) (ex_w 4)
  rwa [ex_pieces.1, ex_pieces.2] at h
theorem exMerge_fun : Fun Tryz.prog 20 [.sh 5 ([lineB 4].map Bar.c), .sh 5 ([lineB 2].map Bar.c)] (Ret (.tup [.sh 5 ([lineB 6].map Bar.c), .lit (.int .i64 0)]) []) := by
  have h := merge_fun [lineB 4] [lineB 2] (by decide) (by decide) (ex_w 4) (ex_w 2)
  rwa [ex_merge.1, ex_merge.2] at h
theorem ex_dims (n : Int) : ∀ x ∈ [lineB n], x.dims.length ≤ 140737488355328 := fun b hb => by
  obtain rfl := List.mem_singleton.1 hb
  simp [lineB]
theorem awake_fun : Fun Tryz.prog 6 [] (Ret (.lit (.bool true)) []) := by
  refine Fun.of (nt := 53) (rs := [.tmp 0]) Tryz.func6 rfl rfl rfl rfl rfl ?_
  refine Ev.sr fun K hK => S.o q.as (S.end (hK _ ?_))
  clear hK K
  refine Ev.sr fun K hK => S.c0 (hF := line_fun _) (h := S.nn (q.bs [[_, _, _, _, _]] true am_el22 am_ze49 am_cl49) ?_)
  refine SeqL.weaken (Wk.frzl (f := Bar.c) [lineB 4] 9 []) ?_
  refine S.c0 (hF := exText_fun) (h := S.o q.mv (S.o q.ex (S.o q.ex (S.o q.as (S.o q.as (S.end (hK _ ?_)))))))
  clear hK K
  refine Ev.sr fun K hK => S.c0 (hF := line_fun _) (h := S.nn (q.bs [[_, _, _, _, _]] true am_el22 am_ze49 am_cl49) ?_)
  refine SeqL.weaken (Wk.frzl (f := Bar.c) [lineB 4] 15 []) ?_
  refine S.c0 (hF := exPieces_fun) (h := S.o q.mv (S.o q.ex (S.o q.ex (S.o q.as (S.o q.as (S.end (hK _ ?_)))))))
  clear hK K
  refine Ev.sr fun K hK => S.c0 (hF := line_fun _) (h := S.nn (q.bs [[_, _, _, _, _]] true am_el22 am_ze49 am_cl49) ?_)
  refine SeqL.weaken (Wk.frzl (f := Bar.c) [lineB 4] 21 []) ?_
  refine S.c0 (hF := line_fun _) (h := S.nn (q.bs [[_, _, _, _, _]] true am_el22 am_ze49 am_cl49) ?_)
  refine SeqL.weaken (Wk.frzl (f := Bar.c) [lineB 2] 23 []) ?_
  refine S.c0 (hF := exMerge_fun) (h := S.o q.mv (S.o q.ex (S.o q.ex (S.o q.as (S.o q.as (S.end (hK _ ?_)))))))
  clear hK K
  refine Ev.sr fun K hK => S.o q.mv (S.o q.eql (S.bd q.mv (fun c1 => ?_) (fun c1 => ?_)))
  · first
  | (first | omega | contradiction)
  | refine S.o q.mv (S.o q.seqs (S.o q.pt (S.bd q.mv (fun c2 => ?_) (fun c2 => ?_))))
    · first
    | (first | omega | contradiction)
    | refine S.o q.mv (S.o q.eql (S.o q.pt (S.bd q.mv (fun c3 => ?_) (fun c3 => ?_))))
      · first
      | (first | omega | contradiction)
      | refine S.o q.mv (S.o (q.bd [_, _] am_ze33 am_pl33) (S.nn (q.bs [[_, _]] true am_el25 am_ze33 am_cl33) (S.c0 (hF := eqPc_fun [(1000, 4)] [(1000, 4)] (by decide) (by decide)) (h := S.o q.pt (S.bd q.mv (fun c4 => ?_) (fun c4 => ?_))))))
        · first
        | (first | omega | contradiction)
        | refine S.o q.mv (S.o q.eql (S.o q.pt (S.bd q.mv (fun c5 => ?_) (fun c5 => ?_))))
          · first
          | (first | omega | contradiction)
          | refine S.o q.mv (S.c0 (hF := line_fun _) (h := S.nn (q.bs [[_, _, _, _, _]] true am_el22 am_ze49 am_cl49) (S.c0 (hF := same14_fun [lineB 6] [lineB 6] (by decide) (by decide) (ex_dims 6) (ex_dims 6)) (h := S.o q.pt (S.o q.as (S.end (hK _ ?_)))))))
            clear hK K
            refine Ev.ret ?_
            refine Ev.ret1 ?_
            refine ⟨?_, rfl⟩
            first | rfl | exact lawT rfl | (exfalso; omega) | contradiction | (exfalso; simp [exS] at *; done)
          · first
          | (first | omega | contradiction)
          | refine S.sk (S.sk (S.sk (S.sk (S.o q.pf (S.o q.as (S.end (hK _ ?_)))))))
            clear hK K
            refine Ev.ret ?_
            refine Ev.ret1 ?_
            refine ⟨?_, rfl⟩
            first | rfl | exact lawT rfl | (exfalso; omega) | contradiction | (exfalso; simp [exS] at *; done)
        · first
        | (first | omega | contradiction)
        | refine S.sk (S.sk (S.o q.pf (S.o q.mv (S.sk (S.sk (S.sk (S.sk (S.o q.pf (S.o q.as (S.end (hK _ ?_)))))))))))
          clear hK K
          refine Ev.ret ?_
          refine Ev.ret1 ?_
          refine ⟨?_, rfl⟩
          first | rfl | exact lawT rfl | (exfalso; omega) | contradiction | (exfalso; simp [exS] at *; done)
      · first
      | (first | omega | contradiction)
      | refine S.sk (S.sk (S.sk (S.sk (S.o q.pf (S.o q.mv (S.sk (S.sk (S.o q.pf (S.o q.mv (S.sk (S.sk (S.sk (S.sk (S.o q.pf (S.o q.as (S.end (hK _ ?_)))))))))))))))))
        clear hK K
        refine Ev.ret ?_
        refine Ev.ret1 ?_
        refine ⟨?_, rfl⟩
        first | rfl | exact lawT rfl | (exfalso; omega) | contradiction | (exfalso; simp [exS] at *; done)
    · first
    | (first | omega | contradiction)
    | refine S.sk (S.sk (S.o q.pf (S.o q.mv (S.sk (S.sk (S.sk (S.sk (S.o q.pf (S.o q.mv (S.sk (S.sk (S.o q.pf (S.o q.mv (S.sk (S.sk (S.sk (S.sk (S.o q.pf (S.o q.as (S.end (hK _ ?_)))))))))))))))))))))
      clear hK K
      refine Ev.ret ?_
      refine Ev.ret1 ?_
      refine ⟨?_, rfl⟩
      first | rfl | exact lawT rfl | (exfalso; omega) | contradiction | (exfalso; simp [exS] at *; done)
  · first
  | (first | omega | contradiction)
  | refine S.sk (S.sk (S.o q.pf (S.o q.mv (S.sk (S.sk (S.o q.pf (S.o q.mv (S.sk (S.sk (S.sk (S.sk (S.o q.pf (S.o q.mv (S.sk (S.sk (S.o q.pf (S.o q.mv (S.sk (S.sk (S.sk (S.sk (S.o q.pf (S.o q.as (S.end (hK _ ?_)))))))))))))))))))))))))
    clear hK K
    refine Ev.ret ?_
    refine Ev.ret1 ?_
    refine ⟨?_, rfl⟩
    first | rfl | exact lawT rfl | (exfalso; omega) | contradiction | (exfalso; simp [exS] at *; done)
end Go.Proofs.YtddogeicmhbidaaGreatDoor
