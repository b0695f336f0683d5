/-
  The answer on bends, cutting lengths, masses.
  Conditions: none.
-/
import Derived.Test.YthpjfkmhpoeojaaGreatDoorBend
namespace Go.Proofs.YthpjfkmhpoeojaaGreatDoor
open Go Go.AM
set_option linter.unusedSimpArgs false
set_option linter.unusedVariables false
set_option maxRecDepth 100000
def pntC : Int × Int × Int → List AV
  | (a, b, c) => [.lit (.int .i64 a), .lit (.int .i64 b), .lit (.int .i64 c)]
def movesOf (b : Bar) : List (Int × Int × Int) :=
  if b.code = 11 then [(dimAt b 0, 0, 0), (0, dimAt b 1, 0)]
  else if b.code = 21 then [(0, 0 - dimAt b 0, 0), (dimAt b 1, 0, 0), (0, dimAt b 2, 0)]
  else if b.code = 26 then [(dimAt b 0, 0, 0), (0, dimAt b 1, 0), (dimAt b 2, 0, 0)]
  else if b.code = 31 then [(dimAt b 0, 0, 0), (0, dimAt b 1, 0), (0, 0, dimAt b 2)]
  else if b.code = 41 then [(dimAt b 0, 0, 0), (0, dimAt b 1, 0), (dimAt b 2, 0, 0), (0, 0 - dimAt b 3, 0), (dimAt b 4, 0, 0)]
  else if b.code = 51 then [(0, 0 - dimAt b 2, 0), (dimAt b 0, 0, 0), (0, dimAt b 1, 0), (0 - dimAt b 0, 0, 0), (0, 0 - dimAt b 1, 0), (dimAt b 2, 0, 0)]
  else if b.code = 98 then [(0, 0, dimAt b 0), (0, 0 - dimAt b 1, 0), (dimAt b 2, 0, 0), (0, dimAt b 1, 0), (0, 0, dimAt b 0)]
  else [(dimAt b 0, 0, 0)]
def absI (n : Int) : Int := max n (0 - n)
def legAbs (s : Int × Int × Int) : Int := absI s.1 + absI s.2.1 + absI s.2.2
theorem moves_legs {b : Bar} (h : okBar b) : (movesOf b).map legAbs = legsOf b ∧ ∀ s ∈ movesOf b, -262144 ≤ s.1 ∧ s.1 ≤ 262144 ∧ -262144 ≤ s.2.1 ∧ s.2.1 ≤ 262144 ∧ -262144 ≤ s.2.2 ∧ s.2.2 ≤ 262144 := by
  rcases codes b.code with e | e | e | e | e | e | e | e | e
  · obtain ⟨_, g0, f0⟩ := dim_in h (i := 0) (by rw [e]; decide)
    have e1 : movesOf b = [(dimAt b 0, 0, 0)] := by rw [movesOf, e]; rfl
    have e2 : legsOf b = [dimAt b 0] := by rw [legsOf, e]; rfl
    refine ⟨?_, ?_⟩
    · rw [e1, e2]; simp only [List.map_cons, List.map_nil, legAbs, absI, List.cons.injEq, and_true]; omega
    · rw [e1]; intro s hs; simp only [List.mem_cons, List.not_mem_nil, or_false] at hs
      rcases hs with rfl <;> dsimp only <;> omega
  · obtain ⟨_, g0, f0⟩ := dim_in h (i := 0) (by rw [e]; decide); obtain ⟨_, g1, f1⟩ := dim_in h (i := 1) (by rw [e]; decide)
    have e1 : movesOf b = [(dimAt b 0, 0, 0), (0, dimAt b 1, 0)] := by rw [movesOf, e]; rfl
    have e2 : legsOf b = [dimAt b 0, dimAt b 1] := by rw [legsOf, e]; rfl
    refine ⟨?_, ?_⟩
    · rw [e1, e2]; simp only [List.map_cons, List.map_nil, legAbs, absI, List.cons.injEq, and_true]; omega
    · rw [e1]; intro s hs; simp only [List.mem_cons, List.not_mem_nil, or_false] at hs
      rcases hs with rfl | rfl <;> dsimp only <;> omega
  · obtain ⟨_, g0, f0⟩ := dim_in h (i := 0) (by rw [e]; decide); obtain ⟨_, g1, f1⟩ := dim_in h (i := 1) (by rw [e]; decide); obtain ⟨_, g2, f2⟩ := dim_in h (i := 2) (by rw [e]; decide)
    have e1 : movesOf b = [(0, 0 - dimAt b 0, 0), (dimAt b 1, 0, 0), (0, dimAt b 2, 0)] := by rw [movesOf, e]; rfl
    have e2 : legsOf b = [dimAt b 0, dimAt b 1, dimAt b 2] := by rw [legsOf, e]; rfl
    refine ⟨?_, ?_⟩
    · rw [e1, e2]; simp only [List.map_cons, List.map_nil, legAbs, absI, List.cons.injEq, and_true]; omega
    · rw [e1]; intro s hs; simp only [List.mem_cons, List.not_mem_nil, or_false] at hs
      rcases hs with rfl | rfl | rfl <;> dsimp only <;> omega
  · obtain ⟨_, g0, f0⟩ := dim_in h (i := 0) (by rw [e]; decide); obtain ⟨_, g1, f1⟩ := dim_in h (i := 1) (by rw [e]; decide); obtain ⟨_, g2, f2⟩ := dim_in h (i := 2) (by rw [e]; decide)
    have e1 : movesOf b = [(dimAt b 0, 0, 0), (0, dimAt b 1, 0), (dimAt b 2, 0, 0)] := by rw [movesOf, e]; rfl
    have e2 : legsOf b = [dimAt b 0, dimAt b 1, dimAt b 2] := by rw [legsOf, e]; rfl
    refine ⟨?_, ?_⟩
    · rw [e1, e2]; simp only [List.map_cons, List.map_nil, legAbs, absI, List.cons.injEq, and_true]; omega
    · rw [e1]; intro s hs; simp only [List.mem_cons, List.not_mem_nil, or_false] at hs
      rcases hs with rfl | rfl | rfl <;> dsimp only <;> omega
  · obtain ⟨_, g0, f0⟩ := dim_in h (i := 0) (by rw [e]; decide); obtain ⟨_, g1, f1⟩ := dim_in h (i := 1) (by rw [e]; decide); obtain ⟨_, g2, f2⟩ := dim_in h (i := 2) (by rw [e]; decide)
    have e1 : movesOf b = [(dimAt b 0, 0, 0), (0, dimAt b 1, 0), (0, 0, dimAt b 2)] := by rw [movesOf, e]; rfl
    have e2 : legsOf b = [dimAt b 0, dimAt b 1, dimAt b 2] := by rw [legsOf, e]; rfl
    refine ⟨?_, ?_⟩
    · rw [e1, e2]; simp only [List.map_cons, List.map_nil, legAbs, absI, List.cons.injEq, and_true]; omega
    · rw [e1]; intro s hs; simp only [List.mem_cons, List.not_mem_nil, or_false] at hs
      rcases hs with rfl | rfl | rfl <;> dsimp only <;> omega
  · obtain ⟨_, g0, f0⟩ := dim_in h (i := 0) (by rw [e]; decide); obtain ⟨_, g1, f1⟩ := dim_in h (i := 1) (by rw [e]; decide); obtain ⟨_, g2, f2⟩ := dim_in h (i := 2) (by rw [e]; decide); obtain ⟨_, g3, f3⟩ := dim_in h (i := 3) (by rw [e]; decide); obtain ⟨_, g4, f4⟩ := dim_in h (i := 4) (by rw [e]; decide)
    have e1 : movesOf b = [(dimAt b 0, 0, 0), (0, dimAt b 1, 0), (dimAt b 2, 0, 0), (0, 0 - dimAt b 3, 0), (dimAt b 4, 0, 0)] := by rw [movesOf, e]; rfl
    have e2 : legsOf b = [dimAt b 0, dimAt b 1, dimAt b 2, dimAt b 3, dimAt b 4] := by rw [legsOf, e]; rfl
    refine ⟨?_, ?_⟩
    · rw [e1, e2]; simp only [List.map_cons, List.map_nil, legAbs, absI, List.cons.injEq, and_true]; omega
    · rw [e1]; intro s hs; simp only [List.mem_cons, List.not_mem_nil, or_false] at hs
      rcases hs with rfl | rfl | rfl | rfl | rfl <;> dsimp only <;> omega
  · obtain ⟨_, g0, f0⟩ := dim_in h (i := 0) (by rw [e]; decide); obtain ⟨_, g1, f1⟩ := dim_in h (i := 1) (by rw [e]; decide); obtain ⟨_, g2, f2⟩ := dim_in h (i := 2) (by rw [e]; decide)
    have e1 : movesOf b = [(0, 0 - dimAt b 2, 0), (dimAt b 0, 0, 0), (0, dimAt b 1, 0), (0 - dimAt b 0, 0, 0), (0, 0 - dimAt b 1, 0), (dimAt b 2, 0, 0)] := by rw [movesOf, e]; rfl
    have e2 : legsOf b = [dimAt b 2, dimAt b 0, dimAt b 1, dimAt b 0, dimAt b 1, dimAt b 2] := by rw [legsOf, e]; rfl
    refine ⟨?_, ?_⟩
    · rw [e1, e2]; simp only [List.map_cons, List.map_nil, legAbs, absI, List.cons.injEq, and_true]; omega
    · rw [e1]; intro s hs; simp only [List.mem_cons, List.not_mem_nil, or_false] at hs
      rcases hs with rfl | rfl | rfl | rfl | rfl | rfl <;> dsimp only <;> omega
  · obtain ⟨_, g0, f0⟩ := dim_in h (i := 0) (by rw [e]; decide); obtain ⟨_, g1, f1⟩ := dim_in h (i := 1) (by rw [e]; decide); obtain ⟨_, g2, f2⟩ := dim_in h (i := 2) (by rw [e]; decide)
    have e1 : movesOf b = [(0, 0, dimAt b 0), (0, 0 - dimAt b 1, 0), (dimAt b 2, 0, 0), (0, dimAt b 1, 0), (0, 0, dimAt b 0)] := by rw [movesOf, e]; rfl
    have e2 : legsOf b = [dimAt b 0, dimAt b 1, dimAt b 2, dimAt b 1, dimAt b 0] := by rw [legsOf, e]; rfl
    refine ⟨?_, ?_⟩
    · rw [e1, e2]; simp only [List.map_cons, List.map_nil, legAbs, absI, List.cons.injEq, and_true]; omega
    · rw [e1]; intro s hs; simp only [List.mem_cons, List.not_mem_nil, or_false] at hs
      rcases hs with rfl | rfl | rfl | rfl | rfl <;> dsimp only <;> omega
  · exact absurd (legsL_none e).2 h.2.2.2.2.1
theorem moves_fun (b : Bar) (hok : okBar b) : Fun Tryz.prog 112 [.agg b.c] (Ret (.sh 3 ((movesOf b).map pntC)) []) := by
  have hd : ∀ i : Nat, (i : Int) < dimsN b.code → b.dims[i]? = some (dimAt b i) := fun i hi => (dim_in hok hi).1; have hdb : ∀ i : Nat, (i : Int) < dimsN b.code → 1 ≤ dimAt b i ∧ dimAt b i ≤ 262144 := fun i hi => (dim_in hok hi).2; obtain ⟨d1, d2, d3, d4⟩ := dims_eq b.code; have hl := hok.2.2.2.2.2.1; have hnz := hok.2.2.2.2.1; refine Fun.of (nt := 148) (rs := [.tmp 2]) Tryz.func112 rfl rfl rfl rfl rfl ?_; refine Ev.sr fun K hK => S.nn (q.bx [_, _, _, _, _] true) (S.o q.as (S.end (hK _ ?_))); clear hK K; refine Ev.sr fun K hK => S.o (q.fa 4 am_fi56_4 am_cl54) (S.o (q.lv am_ag54) (S.o q.as (S.end (hK _ ?_)))); clear hK K; refine Ev.seq ?_; refine Ev.sr fun K hK => S.o (q.fa 3 am_fi56_3 am_cl3) (S.o (q.lv am_ag3) (S.end (hK _ ?_))); clear hK K; refine Ev.block ?_; refine Ev.sr fun K hK => S.o q.eql (S.o q.as (S.end (hK _ ?_))); clear hK K; refine Ev.cd (fun c1 => ?_) (fun c1 => ?_)
  · first
  | omega | contradiction
  | have hN : dimsN b.code = 2 := by rw [show b.code = 11 by assumption]; rfl
    have q0 := hdb 0 (by omega); have q1 := hdb 1 (by omega); refine Ev.sm (tbs [(0, 0), (1, 1), (2, 3), (3, 7), (0, 0), (5, 16), (6, 48), (7, 112), (8, 255), (9, 511)]) 9 fun K hK => M.o q.mv (M.o (q.ix am_el54 am_cl3 (hl := (by first | exact ati (hd 0 (by omega)) (by omega) | exact ati (hd 1 (by omega)) (by omega) | exact ati (hd 2 (by omega)) (by omega) | exact ati (hd 3 (by omega)) (by omega) | exact ati (hd 4 (by omega)) (by omega) | exact atig (by omega)))) (M.o (q.ls am_ag3) (M.o (q.bd [_, _, _] am_ze153 am_pl153) (M.o q.mv (M.o (q.ix am_el54 am_cl3 (hl := (by first | exact ati (hd 0 (by omega)) (by omega) | exact ati (hd 1 (by omega)) (by omega) | exact ati (hd 2 (by omega)) (by omega) | exact ati (hd 3 (by omega)) (by omega) | exact ati (hd 4 (by omega)) (by omega) | exact atig (by omega)))) (M.o (q.ls am_ag3) (M.o (q.bd [_, _, _] am_ze153 am_pl153) (M.nn [_] (q.bs [[_, _, _], [_, _, _]] true am_el150 am_ze153 am_cl153) (h := M.end [_, _] (h := S.o q.as (S.end (hK _ ?_)))))))))))); clear hK K; refine Ev.weaken (Wk.frzl (f := pntC) [(⟨_, _, _⟩ : Int × Int × Int), (⟨_, _, _⟩ : Int × Int × Int)] 2 [_]) ?_; refine Ev.ret ?_; refine Ev.ret1 ?_; refine ⟨?_, rfl⟩
    first
     | (rw [movesOf, if_pos (show b.code = 11 by assumption)] <;> rfl)
     | (rw [movesOf, if_neg (show ¬ b.code = 11 by assumption), if_pos (show b.code = 21 by assumption)] <;> rfl)
     | (rw [movesOf, if_neg (show ¬ b.code = 11 by assumption), if_neg (show ¬ b.code = 21 by assumption), if_pos (show b.code = 26 by assumption)] <;> rfl)
     | (rw [movesOf, if_neg (show ¬ b.code = 11 by assumption), if_neg (show ¬ b.code = 21 by assumption), if_neg (show ¬ b.code = 26 by assumption), if_pos (show b.code = 31 by assumption)] <;> rfl)
     | (rw [movesOf, if_neg (show ¬ b.code = 11 by assumption), if_neg (show ¬ b.code = 21 by assumption), if_neg (show ¬ b.code = 26 by assumption), if_neg (show ¬ b.code = 31 by assumption), if_pos (show b.code = 41 by assumption)] <;> rfl)
     | (rw [movesOf, if_neg (show ¬ b.code = 11 by assumption), if_neg (show ¬ b.code = 21 by assumption), if_neg (show ¬ b.code = 26 by assumption), if_neg (show ¬ b.code = 31 by assumption), if_neg (show ¬ b.code = 41 by assumption), if_pos (show b.code = 51 by assumption)] <;> rfl)
     | (rw [movesOf, if_neg (show ¬ b.code = 11 by assumption), if_neg (show ¬ b.code = 21 by assumption), if_neg (show ¬ b.code = 26 by assumption), if_neg (show ¬ b.code = 31 by assumption), if_neg (show ¬ b.code = 41 by assumption), if_neg (show ¬ b.code = 51 by assumption), if_pos (show b.code = 98 by assumption)] <;> rfl)
     | (rw [movesOf, if_neg (show ¬ b.code = 11 by assumption), if_neg (show ¬ b.code = 21 by assumption), if_neg (show ¬ b.code = 26 by assumption), if_neg (show ¬ b.code = 31 by assumption), if_neg (show ¬ b.code = 41 by assumption), if_neg (show ¬ b.code = 51 by assumption), if_neg (show ¬ b.code = 98 by assumption)] <;> rfl)
  · first
  | omega | contradiction
  | refine Ev.sr fun K hK => S.o q.eql (S.o q.as (S.end (hK _ ?_))); clear hK K; refine Ev.cd (fun c2 => ?_) (fun c2 => ?_)
    · first
    | omega | contradiction
    | have hN : dimsN b.code = 3 := by rw [show b.code = 21 by assumption]; rfl
      have q0 := hdb 0 (by omega); have q1 := hdb 1 (by omega); have q2 := hdb 2 (by omega)
      refine Ev.sm (tbs [(0, 0), (1, 1), (2, 3), (3, 7), (4, 15), (0, 0), (6, 32), (7, 96), (8, 224), (0, 0), (10, 512), (11, 1536), (12, 3584), (13, 8191), (14, 16383)]) 14 fun K hK => M.o q.mv (M.o (q.ix am_el54 am_cl3 (hl := (by first | exact ati (hd 0 (by omega)) (by omega) | exact ati (hd 1 (by omega)) (by omega) | exact ati (hd 2 (by omega)) (by omega) | exact ati (hd 3 (by omega)) (by omega) | exact ati (hd 4 (by omega)) (by omega) | exact atig (by omega)))) (M.o (q.ls am_ag3) (M.o q.neg (M.o (q.bd [_, _, _] am_ze153 am_pl153) (M.o q.mv (M.o (q.ix am_el54 am_cl3 (hl := (by first | exact ati (hd 0 (by omega)) (by omega) | exact ati (hd 1 (by omega)) (by omega) | exact ati (hd 2 (by omega)) (by omega) | exact ati (hd 3 (by omega)) (by omega) | exact ati (hd 4 (by omega)) (by omega) | exact atig (by omega)))) (M.o (q.ls am_ag3) (M.o (q.bd [_, _, _] am_ze153 am_pl153) (M.o q.mv (M.o (q.ix am_el54 am_cl3 (hl := (by first | exact ati (hd 0 (by omega)) (by omega) | exact ati (hd 1 (by omega)) (by omega) | exact ati (hd 2 (by omega)) (by omega) | exact ati (hd 3 (by omega)) (by omega) | exact ati (hd 4 (by omega)) (by omega) | exact atig (by omega)))) (M.o (q.ls am_ag3) (M.o (q.bd [_, _, _] am_ze153 am_pl153) (M.nn [_] (q.bs [[_, _, _], [_, _, _], [_, _, _]] true am_el150 am_ze153 am_cl153) (h := M.end [_, _] (h := S.o q.as (S.end (hK _ ?_))))))))))))))))); clear hK K
      refine Ev.weaken (Wk.frzl (f := pntC) [(⟨_, _, _⟩ : Int × Int × Int), (⟨_, _, _⟩ : Int × Int × Int), (⟨_, _, _⟩ : Int × Int × Int)] 2 [_]) ?_; refine Ev.ret ?_; refine Ev.ret1 ?_; refine ⟨?_, rfl⟩
      first
       | (rw [movesOf, if_pos (show b.code = 11 by assumption)] <;> rfl)
       | (rw [movesOf, if_neg (show ¬ b.code = 11 by assumption), if_pos (show b.code = 21 by assumption)] <;> rfl)
       | (rw [movesOf, if_neg (show ¬ b.code = 11 by assumption), if_neg (show ¬ b.code = 21 by assumption), if_pos (show b.code = 26 by assumption)] <;> rfl)
       | (rw [movesOf, if_neg (show ¬ b.code = 11 by assumption), if_neg (show ¬ b.code = 21 by assumption), if_neg (show ¬ b.code = 26 by assumption), if_pos (show b.code = 31 by assumption)] <;> rfl)
       | (rw [movesOf, if_neg (show ¬ b.code = 11 by assumption), if_neg (show ¬ b.code = 21 by assumption), if_neg (show ¬ b.code = 26 by assumption), if_neg (show ¬ b.code = 31 by assumption), if_pos (show b.code = 41 by assumption)] <;> rfl)
       | (rw [movesOf, if_neg (show ¬ b.code = 11 by assumption), if_neg (show ¬ b.code = 21 by assumption), if_neg (show ¬ b.code = 26 by assumption), if_neg (show ¬ b.code = 31 by assumption), if_neg (show ¬ b.code = 41 by assumption), if_pos (show b.code = 51 by assumption)] <;> rfl)
       | (rw [movesOf, if_neg (show ¬ b.code = 11 by assumption), if_neg (show ¬ b.code = 21 by assumption), if_neg (show ¬ b.code = 26 by assumption), if_neg (show ¬ b.code = 31 by assumption), if_neg (show ¬ b.code = 41 by assumption), if_neg (show ¬ b.code = 51 by assumption), if_pos (show b.code = 98 by assumption)] <;> rfl)
       | (rw [movesOf, if_neg (show ¬ b.code = 11 by assumption), if_neg (show ¬ b.code = 21 by assumption), if_neg (show ¬ b.code = 26 by assumption), if_neg (show ¬ b.code = 31 by assumption), if_neg (show ¬ b.code = 41 by assumption), if_neg (show ¬ b.code = 51 by assumption), if_neg (show ¬ b.code = 98 by assumption)] <;> rfl)
    · first
    | omega | contradiction
    | refine Ev.sr fun K hK => S.o q.eql (S.o q.as (S.end (hK _ ?_))); clear hK K; refine Ev.cd (fun c3 => ?_) (fun c3 => ?_)
      · first
      | omega | contradiction
      | have hN : dimsN b.code = 3 := by rw [show b.code = 26 by assumption]; rfl
        have q0 := hdb 0 (by omega); have q1 := hdb 1 (by omega); have q2 := hdb 2 (by omega)
        refine Ev.sm (tbs [(0, 0), (1, 1), (2, 3), (3, 7), (0, 0), (5, 16), (6, 48), (7, 112), (0, 0), (9, 256), (10, 768), (11, 1792), (12, 4095), (13, 8191)]) 13 fun K hK => M.o q.mv (M.o (q.ix am_el54 am_cl3 (hl := (by first | exact ati (hd 0 (by omega)) (by omega) | exact ati (hd 1 (by omega)) (by omega) | exact ati (hd 2 (by omega)) (by omega) | exact ati (hd 3 (by omega)) (by omega) | exact ati (hd 4 (by omega)) (by omega) | exact atig (by omega)))) (M.o (q.ls am_ag3) (M.o (q.bd [_, _, _] am_ze153 am_pl153) (M.o q.mv (M.o (q.ix am_el54 am_cl3 (hl := (by first | exact ati (hd 0 (by omega)) (by omega) | exact ati (hd 1 (by omega)) (by omega) | exact ati (hd 2 (by omega)) (by omega) | exact ati (hd 3 (by omega)) (by omega) | exact ati (hd 4 (by omega)) (by omega) | exact atig (by omega)))) (M.o (q.ls am_ag3) (M.o (q.bd [_, _, _] am_ze153 am_pl153) (M.o q.mv (M.o (q.ix am_el54 am_cl3 (hl := (by first | exact ati (hd 0 (by omega)) (by omega) | exact ati (hd 1 (by omega)) (by omega) | exact ati (hd 2 (by omega)) (by omega) | exact ati (hd 3 (by omega)) (by omega) | exact ati (hd 4 (by omega)) (by omega) | exact atig (by omega)))) (M.o (q.ls am_ag3) (M.o (q.bd [_, _, _] am_ze153 am_pl153) (M.nn [_] (q.bs [[_, _, _], [_, _, _], [_, _, _]] true am_el150 am_ze153 am_cl153) (h := M.end [_, _] (h := S.o q.as (S.end (hK _ ?_)))))))))))))))); clear hK K
        refine Ev.weaken (Wk.frzl (f := pntC) [(⟨_, _, _⟩ : Int × Int × Int), (⟨_, _, _⟩ : Int × Int × Int), (⟨_, _, _⟩ : Int × Int × Int)] 2 [_]) ?_; refine Ev.ret ?_; refine Ev.ret1 ?_; refine ⟨?_, rfl⟩
        first
         | (rw [movesOf, if_pos (show b.code = 11 by assumption)] <;> rfl)
         | (rw [movesOf, if_neg (show ¬ b.code = 11 by assumption), if_pos (show b.code = 21 by assumption)] <;> rfl)
         | (rw [movesOf, if_neg (show ¬ b.code = 11 by assumption), if_neg (show ¬ b.code = 21 by assumption), if_pos (show b.code = 26 by assumption)] <;> rfl)
         | (rw [movesOf, if_neg (show ¬ b.code = 11 by assumption), if_neg (show ¬ b.code = 21 by assumption), if_neg (show ¬ b.code = 26 by assumption), if_pos (show b.code = 31 by assumption)] <;> rfl)
         | (rw [movesOf, if_neg (show ¬ b.code = 11 by assumption), if_neg (show ¬ b.code = 21 by assumption), if_neg (show ¬ b.code = 26 by assumption), if_neg (show ¬ b.code = 31 by assumption), if_pos (show b.code = 41 by assumption)] <;> rfl)
         | (rw [movesOf, if_neg (show ¬ b.code = 11 by assumption), if_neg (show ¬ b.code = 21 by assumption), if_neg (show ¬ b.code = 26 by assumption), if_neg (show ¬ b.code = 31 by assumption), if_neg (show ¬ b.code = 41 by assumption), if_pos (show b.code = 51 by assumption)] <;> rfl)
         | (rw [movesOf, if_neg (show ¬ b.code = 11 by assumption), if_neg (show ¬ b.code = 21 by assumption), if_neg (show ¬ b.code = 26 by assumption), if_neg (show ¬ b.code = 31 by assumption), if_neg (show ¬ b.code = 41 by assumption), if_neg (show ¬ b.code = 51 by assumption), if_pos (show b.code = 98 by assumption)] <;> rfl)
         | (rw [movesOf, if_neg (show ¬ b.code = 11 by assumption), if_neg (show ¬ b.code = 21 by assumption), if_neg (show ¬ b.code = 26 by assumption), if_neg (show ¬ b.code = 31 by assumption), if_neg (show ¬ b.code = 41 by assumption), if_neg (show ¬ b.code = 51 by assumption), if_neg (show ¬ b.code = 98 by assumption)] <;> rfl)
      · first
      | omega | contradiction
      | refine Ev.sr fun K hK => S.o q.eql (S.o q.as (S.end (hK _ ?_))); clear hK K; refine Ev.cd (fun c4 => ?_) (fun c4 => ?_)
        · first
        | omega | contradiction
        | have hN : dimsN b.code = 3 := by rw [show b.code = 31 by assumption]; rfl
          have q0 := hdb 0 (by omega); have q1 := hdb 1 (by omega); have q2 := hdb 2 (by omega)
          refine Ev.sm (tbs [(0, 0), (1, 1), (2, 3), (3, 7), (0, 0), (5, 16), (6, 48), (7, 112), (0, 0), (9, 256), (10, 768), (11, 1792), (12, 4095), (13, 8191)]) 13 fun K hK => M.o q.mv (M.o (q.ix am_el54 am_cl3 (hl := (by first | exact ati (hd 0 (by omega)) (by omega) | exact ati (hd 1 (by omega)) (by omega) | exact ati (hd 2 (by omega)) (by omega) | exact ati (hd 3 (by omega)) (by omega) | exact ati (hd 4 (by omega)) (by omega) | exact atig (by omega)))) (M.o (q.ls am_ag3) (M.o (q.bd [_, _, _] am_ze153 am_pl153) (M.o q.mv (M.o (q.ix am_el54 am_cl3 (hl := (by first | exact ati (hd 0 (by omega)) (by omega) | exact ati (hd 1 (by omega)) (by omega) | exact ati (hd 2 (by omega)) (by omega) | exact ati (hd 3 (by omega)) (by omega) | exact ati (hd 4 (by omega)) (by omega) | exact atig (by omega)))) (M.o (q.ls am_ag3) (M.o (q.bd [_, _, _] am_ze153 am_pl153) (M.o q.mv (M.o (q.ix am_el54 am_cl3 (hl := (by first | exact ati (hd 0 (by omega)) (by omega) | exact ati (hd 1 (by omega)) (by omega) | exact ati (hd 2 (by omega)) (by omega) | exact ati (hd 3 (by omega)) (by omega) | exact ati (hd 4 (by omega)) (by omega) | exact atig (by omega)))) (M.o (q.ls am_ag3) (M.o (q.bd [_, _, _] am_ze153 am_pl153) (M.nn [_] (q.bs [[_, _, _], [_, _, _], [_, _, _]] true am_el150 am_ze153 am_cl153) (h := M.end [_, _] (h := S.o q.as (S.end (hK _ ?_)))))))))))))))); clear hK K
          refine Ev.weaken (Wk.frzl (f := pntC) [(⟨_, _, _⟩ : Int × Int × Int), (⟨_, _, _⟩ : Int × Int × Int), (⟨_, _, _⟩ : Int × Int × Int)] 2 [_]) ?_; refine Ev.ret ?_; refine Ev.ret1 ?_; refine ⟨?_, rfl⟩
          first
           | (rw [movesOf, if_pos (show b.code = 11 by assumption)] <;> rfl)
           | (rw [movesOf, if_neg (show ¬ b.code = 11 by assumption), if_pos (show b.code = 21 by assumption)] <;> rfl)
           | (rw [movesOf, if_neg (show ¬ b.code = 11 by assumption), if_neg (show ¬ b.code = 21 by assumption), if_pos (show b.code = 26 by assumption)] <;> rfl)
           | (rw [movesOf, if_neg (show ¬ b.code = 11 by assumption), if_neg (show ¬ b.code = 21 by assumption), if_neg (show ¬ b.code = 26 by assumption), if_pos (show b.code = 31 by assumption)] <;> rfl)
           | (rw [movesOf, if_neg (show ¬ b.code = 11 by assumption), if_neg (show ¬ b.code = 21 by assumption), if_neg (show ¬ b.code = 26 by assumption), if_neg (show ¬ b.code = 31 by assumption), if_pos (show b.code = 41 by assumption)] <;> rfl)
           | (rw [movesOf, if_neg (show ¬ b.code = 11 by assumption), if_neg (show ¬ b.code = 21 by assumption), if_neg (show ¬ b.code = 26 by assumption), if_neg (show ¬ b.code = 31 by assumption), if_neg (show ¬ b.code = 41 by assumption), if_pos (show b.code = 51 by assumption)] <;> rfl)
           | (rw [movesOf, if_neg (show ¬ b.code = 11 by assumption), if_neg (show ¬ b.code = 21 by assumption), if_neg (show ¬ b.code = 26 by assumption), if_neg (show ¬ b.code = 31 by assumption), if_neg (show ¬ b.code = 41 by assumption), if_neg (show ¬ b.code = 51 by assumption), if_pos (show b.code = 98 by assumption)] <;> rfl)
           | (rw [movesOf, if_neg (show ¬ b.code = 11 by assumption), if_neg (show ¬ b.code = 21 by assumption), if_neg (show ¬ b.code = 26 by assumption), if_neg (show ¬ b.code = 31 by assumption), if_neg (show ¬ b.code = 41 by assumption), if_neg (show ¬ b.code = 51 by assumption), if_neg (show ¬ b.code = 98 by assumption)] <;> rfl)
        · first
        | omega | contradiction
        | refine Ev.sr fun K hK => S.o q.eql (S.o q.as (S.end (hK _ ?_))); clear hK K; refine Ev.cd (fun c5 => ?_) (fun c5 => ?_)
          · first
          | omega | contradiction
          | have hN : dimsN b.code = 5 := by rw [show b.code = 41 by assumption]; rfl
            have q0 := hdb 0 (by omega); have q1 := hdb 1 (by omega); have q2 := hdb 2 (by omega); have q3 := hdb 3 (by omega); have q4 := hdb 4 (by omega)
            refine Ev.sm (tbs [(0, 0), (1, 1), (2, 3), (3, 7), (0, 0), (5, 16), (6, 48), (7, 112), (0, 0), (9, 256), (10, 768), (11, 1792), (0, 0), (13, 4096), (14, 12288), (15, 28672), (16, 61440), (0, 0), (18, 131072), (19, 393216), (20, 917504), (21, 2097151), (22, 4194303)]) 22 fun K hK => M.o q.mv (M.o (q.ix am_el54 am_cl3 (hl := (by first | exact ati (hd 0 (by omega)) (by omega) | exact ati (hd 1 (by omega)) (by omega) | exact ati (hd 2 (by omega)) (by omega) | exact ati (hd 3 (by omega)) (by omega) | exact ati (hd 4 (by omega)) (by omega) | exact atig (by omega)))) (M.o (q.ls am_ag3) (M.o (q.bd [_, _, _] am_ze153 am_pl153) (M.o q.mv (M.o (q.ix am_el54 am_cl3 (hl := (by first | exact ati (hd 0 (by omega)) (by omega) | exact ati (hd 1 (by omega)) (by omega) | exact ati (hd 2 (by omega)) (by omega) | exact ati (hd 3 (by omega)) (by omega) | exact ati (hd 4 (by omega)) (by omega) | exact atig (by omega)))) (M.o (q.ls am_ag3) (M.o (q.bd [_, _, _] am_ze153 am_pl153) (M.o q.mv (M.o (q.ix am_el54 am_cl3 (hl := (by first | exact ati (hd 0 (by omega)) (by omega) | exact ati (hd 1 (by omega)) (by omega) | exact ati (hd 2 (by omega)) (by omega) | exact ati (hd 3 (by omega)) (by omega) | exact ati (hd 4 (by omega)) (by omega) | exact atig (by omega)))) (M.o (q.ls am_ag3) (M.o (q.bd [_, _, _] am_ze153 am_pl153) (M.o q.mv (M.o (q.ix am_el54 am_cl3 (hl := (by first | exact ati (hd 0 (by omega)) (by omega) | exact ati (hd 1 (by omega)) (by omega) | exact ati (hd 2 (by omega)) (by omega) | exact ati (hd 3 (by omega)) (by omega) | exact ati (hd 4 (by omega)) (by omega) | exact atig (by omega)))) (M.o (q.ls am_ag3) (M.o q.neg (M.o (q.bd [_, _, _] am_ze153 am_pl153) (M.o q.mv (M.o (q.ix am_el54 am_cl3 (hl := (by first | exact ati (hd 0 (by omega)) (by omega) | exact ati (hd 1 (by omega)) (by omega) | exact ati (hd 2 (by omega)) (by omega) | exact ati (hd 3 (by omega)) (by omega) | exact ati (hd 4 (by omega)) (by omega) | exact atig (by omega)))) (M.o (q.ls am_ag3) (M.o (q.bd [_, _, _] am_ze153 am_pl153) (M.nn [_] (q.bs [[_, _, _], [_, _, _], [_, _, _], [_, _, _], [_, _, _]] true am_el150 am_ze153 am_cl153) (h := M.end [_, _] (h := S.o q.as (S.end (hK _ ?_)))))))))))))))))))))))))
            clear hK K; refine Ev.weaken (Wk.frzl (f := pntC) [(⟨_, _, _⟩ : Int × Int × Int), (⟨_, _, _⟩ : Int × Int × Int), (⟨_, _, _⟩ : Int × Int × Int), (⟨_, _, _⟩ : Int × Int × Int), (⟨_, _, _⟩ : Int × Int × Int)] 2 [_]) ?_; refine Ev.ret ?_; refine Ev.ret1 ?_; refine ⟨?_, rfl⟩
            first
             | (rw [movesOf, if_pos (show b.code = 11 by assumption)] <;> rfl)
             | (rw [movesOf, if_neg (show ¬ b.code = 11 by assumption), if_pos (show b.code = 21 by assumption)] <;> rfl)
             | (rw [movesOf, if_neg (show ¬ b.code = 11 by assumption), if_neg (show ¬ b.code = 21 by assumption), if_pos (show b.code = 26 by assumption)] <;> rfl)
             | (rw [movesOf, if_neg (show ¬ b.code = 11 by assumption), if_neg (show ¬ b.code = 21 by assumption), if_neg (show ¬ b.code = 26 by assumption), if_pos (show b.code = 31 by assumption)] <;> rfl)
             | (rw [movesOf, if_neg (show ¬ b.code = 11 by assumption), if_neg (show ¬ b.code = 21 by assumption), if_neg (show ¬ b.code = 26 by assumption), if_neg (show ¬ b.code = 31 by assumption), if_pos (show b.code = 41 by assumption)] <;> rfl)
             | (rw [movesOf, if_neg (show ¬ b.code = 11 by assumption), if_neg (show ¬ b.code = 21 by assumption), if_neg (show ¬ b.code = 26 by assumption), if_neg (show ¬ b.code = 31 by assumption), if_neg (show ¬ b.code = 41 by assumption), if_pos (show b.code = 51 by assumption)] <;> rfl)
             | (rw [movesOf, if_neg (show ¬ b.code = 11 by assumption), if_neg (show ¬ b.code = 21 by assumption), if_neg (show ¬ b.code = 26 by assumption), if_neg (show ¬ b.code = 31 by assumption), if_neg (show ¬ b.code = 41 by assumption), if_neg (show ¬ b.code = 51 by assumption), if_pos (show b.code = 98 by assumption)] <;> rfl)
             | (rw [movesOf, if_neg (show ¬ b.code = 11 by assumption), if_neg (show ¬ b.code = 21 by assumption), if_neg (show ¬ b.code = 26 by assumption), if_neg (show ¬ b.code = 31 by assumption), if_neg (show ¬ b.code = 41 by assumption), if_neg (show ¬ b.code = 51 by assumption), if_neg (show ¬ b.code = 98 by assumption)] <;> rfl)
          · first
          | omega | contradiction
          | refine Ev.sr fun K hK => S.o q.eql (S.o q.as (S.end (hK _ ?_))); clear hK K; refine Ev.cd (fun c6 => ?_) (fun c6 => ?_)
            · first
            | omega | contradiction
            | have hN : dimsN b.code = 3 := by rw [show b.code = 51 by assumption]; rfl
              have q0 := hdb 0 (by omega); have q1 := hdb 1 (by omega); have q2 := hdb 2 (by omega)
              refine Ev.sm (tbs [(0, 0), (1, 1), (2, 3), (3, 7), (4, 15), (0, 0), (6, 32), (7, 96), (8, 224), (0, 0), (10, 512), (11, 1536), (12, 3584), (0, 0), (14, 8192), (15, 24576), (16, 57344), (17, 122880), (0, 0), (19, 262144), (20, 786432), (21, 1835008), (22, 3932160), (0, 0), (24, 8388608), (25, 25165824), (26, 58720256), (27, 134217727), (28, 268435455)]) 28 fun K hK => M.o q.mv (M.o (q.ix am_el54 am_cl3 (hl := (by first | exact ati (hd 0 (by omega)) (by omega) | exact ati (hd 1 (by omega)) (by omega) | exact ati (hd 2 (by omega)) (by omega) | exact ati (hd 3 (by omega)) (by omega) | exact ati (hd 4 (by omega)) (by omega) | exact atig (by omega)))) (M.o (q.ls am_ag3) (M.o q.neg (M.o (q.bd [_, _, _] am_ze153 am_pl153) (M.o q.mv (M.o (q.ix am_el54 am_cl3 (hl := (by first | exact ati (hd 0 (by omega)) (by omega) | exact ati (hd 1 (by omega)) (by omega) | exact ati (hd 2 (by omega)) (by omega) | exact ati (hd 3 (by omega)) (by omega) | exact ati (hd 4 (by omega)) (by omega) | exact atig (by omega)))) (M.o (q.ls am_ag3) (M.o (q.bd [_, _, _] am_ze153 am_pl153) (M.o q.mv (M.o (q.ix am_el54 am_cl3 (hl := (by first | exact ati (hd 0 (by omega)) (by omega) | exact ati (hd 1 (by omega)) (by omega) | exact ati (hd 2 (by omega)) (by omega) | exact ati (hd 3 (by omega)) (by omega) | exact ati (hd 4 (by omega)) (by omega) | exact atig (by omega)))) (M.o (q.ls am_ag3) (M.o (q.bd [_, _, _] am_ze153 am_pl153) (M.o q.mv (M.o (q.ix am_el54 am_cl3 (hl := (by first | exact ati (hd 0 (by omega)) (by omega) | exact ati (hd 1 (by omega)) (by omega) | exact ati (hd 2 (by omega)) (by omega) | exact ati (hd 3 (by omega)) (by omega) | exact ati (hd 4 (by omega)) (by omega) | exact atig (by omega)))) (M.o (q.ls am_ag3) (M.o q.neg (M.o (q.bd [_, _, _] am_ze153 am_pl153) (M.o q.mv (M.o (q.ix am_el54 am_cl3 (hl := (by first | exact ati (hd 0 (by omega)) (by omega) | exact ati (hd 1 (by omega)) (by omega) | exact ati (hd 2 (by omega)) (by omega) | exact ati (hd 3 (by omega)) (by omega) | exact ati (hd 4 (by omega)) (by omega) | exact atig (by omega)))) (M.o (q.ls am_ag3) (M.o q.neg (M.o (q.bd [_, _, _] am_ze153 am_pl153) (M.o q.mv (M.o (q.ix am_el54 am_cl3 (hl := (by first | exact ati (hd 0 (by omega)) (by omega) | exact ati (hd 1 (by omega)) (by omega) | exact ati (hd 2 (by omega)) (by omega) | exact ati (hd 3 (by omega)) (by omega) | exact ati (hd 4 (by omega)) (by omega) | exact atig (by omega)))) (M.o (q.ls am_ag3) (M.o (q.bd [_, _, _] am_ze153 am_pl153) (M.nn [_] (q.bs [[_, _, _], [_, _, _], [_, _, _], [_, _, _], [_, _, _], [_, _, _]] true am_el150 am_ze153 am_cl153) (h := M.end [_, _] (h := S.o q.as (S.end (hK _ ?_)))))))))))))))))))))))))))))))
              clear hK K; refine Ev.weaken (Wk.frzl (f := pntC) [(⟨_, _, _⟩ : Int × Int × Int), (⟨_, _, _⟩ : Int × Int × Int), (⟨_, _, _⟩ : Int × Int × Int), (⟨_, _, _⟩ : Int × Int × Int), (⟨_, _, _⟩ : Int × Int × Int), (⟨_, _, _⟩ : Int × Int × Int)] 2 [_]) ?_; refine Ev.ret ?_; refine Ev.ret1 ?_; refine ⟨?_, rfl⟩
              first
               | (rw [movesOf, if_pos (show b.code = 11 by assumption)] <;> rfl)
               | (rw [movesOf, if_neg (show ¬ b.code = 11 by assumption), if_pos (show b.code = 21 by assumption)] <;> rfl)
               | (rw [movesOf, if_neg (show ¬ b.code = 11 by assumption), if_neg (show ¬ b.code = 21 by assumption), if_pos (show b.code = 26 by assumption)] <;> rfl)
               | (rw [movesOf, if_neg (show ¬ b.code = 11 by assumption), if_neg (show ¬ b.code = 21 by assumption), if_neg (show ¬ b.code = 26 by assumption), if_pos (show b.code = 31 by assumption)] <;> rfl)
               | (rw [movesOf, if_neg (show ¬ b.code = 11 by assumption), if_neg (show ¬ b.code = 21 by assumption), if_neg (show ¬ b.code = 26 by assumption), if_neg (show ¬ b.code = 31 by assumption), if_pos (show b.code = 41 by assumption)] <;> rfl)
               | (rw [movesOf, if_neg (show ¬ b.code = 11 by assumption), if_neg (show ¬ b.code = 21 by assumption), if_neg (show ¬ b.code = 26 by assumption), if_neg (show ¬ b.code = 31 by assumption), if_neg (show ¬ b.code = 41 by assumption), if_pos (show b.code = 51 by assumption)] <;> rfl)
               | (rw [movesOf, if_neg (show ¬ b.code = 11 by assumption), if_neg (show ¬ b.code = 21 by assumption), if_neg (show ¬ b.code = 26 by assumption), if_neg (show ¬ b.code = 31 by assumption), if_neg (show ¬ b.code = 41 by assumption), if_neg (show ¬ b.code = 51 by assumption), if_pos (show b.code = 98 by assumption)] <;> rfl)
               | (rw [movesOf, if_neg (show ¬ b.code = 11 by assumption), if_neg (show ¬ b.code = 21 by assumption), if_neg (show ¬ b.code = 26 by assumption), if_neg (show ¬ b.code = 31 by assumption), if_neg (show ¬ b.code = 41 by assumption), if_neg (show ¬ b.code = 51 by assumption), if_neg (show ¬ b.code = 98 by assumption)] <;> rfl)
            · first
            | omega | contradiction
            | refine Ev.sr fun K hK => S.o q.eql (S.o q.as (S.end (hK _ ?_))); clear hK K; refine Ev.cd (fun c7 => ?_) (fun c7 => ?_)
              · first
              | omega | contradiction
              | have hN : dimsN b.code = 3 := by rw [show b.code = 98 by assumption]; rfl
                have q0 := hdb 0 (by omega); have q1 := hdb 1 (by omega); have q2 := hdb 2 (by omega)
                refine Ev.sm (tbs [(0, 0), (1, 1), (2, 3), (3, 7), (0, 0), (5, 16), (6, 48), (7, 112), (8, 240), (0, 0), (10, 512), (11, 1536), (12, 3584), (0, 0), (14, 8192), (15, 24576), (16, 57344), (0, 0), (18, 131072), (19, 393216), (20, 917504), (21, 2097151), (22, 4194303)]) 22 fun K hK => M.o q.mv (M.o (q.ix am_el54 am_cl3 (hl := (by first | exact ati (hd 0 (by omega)) (by omega) | exact ati (hd 1 (by omega)) (by omega) | exact ati (hd 2 (by omega)) (by omega) | exact ati (hd 3 (by omega)) (by omega) | exact ati (hd 4 (by omega)) (by omega) | exact atig (by omega)))) (M.o (q.ls am_ag3) (M.o (q.bd [_, _, _] am_ze153 am_pl153) (M.o q.mv (M.o (q.ix am_el54 am_cl3 (hl := (by first | exact ati (hd 0 (by omega)) (by omega) | exact ati (hd 1 (by omega)) (by omega) | exact ati (hd 2 (by omega)) (by omega) | exact ati (hd 3 (by omega)) (by omega) | exact ati (hd 4 (by omega)) (by omega) | exact atig (by omega)))) (M.o (q.ls am_ag3) (M.o q.neg (M.o (q.bd [_, _, _] am_ze153 am_pl153) (M.o q.mv (M.o (q.ix am_el54 am_cl3 (hl := (by first | exact ati (hd 0 (by omega)) (by omega) | exact ati (hd 1 (by omega)) (by omega) | exact ati (hd 2 (by omega)) (by omega) | exact ati (hd 3 (by omega)) (by omega) | exact ati (hd 4 (by omega)) (by omega) | exact atig (by omega)))) (M.o (q.ls am_ag3) (M.o (q.bd [_, _, _] am_ze153 am_pl153) (M.o q.mv (M.o (q.ix am_el54 am_cl3 (hl := (by first | exact ati (hd 0 (by omega)) (by omega) | exact ati (hd 1 (by omega)) (by omega) | exact ati (hd 2 (by omega)) (by omega) | exact ati (hd 3 (by omega)) (by omega) | exact ati (hd 4 (by omega)) (by omega) | exact atig (by omega)))) (M.o (q.ls am_ag3) (M.o (q.bd [_, _, _] am_ze153 am_pl153) (M.o q.mv (M.o (q.ix am_el54 am_cl3 (hl := (by first | exact ati (hd 0 (by omega)) (by omega) | exact ati (hd 1 (by omega)) (by omega) | exact ati (hd 2 (by omega)) (by omega) | exact ati (hd 3 (by omega)) (by omega) | exact ati (hd 4 (by omega)) (by omega) | exact atig (by omega)))) (M.o (q.ls am_ag3) (M.o (q.bd [_, _, _] am_ze153 am_pl153) (M.nn [_] (q.bs [[_, _, _], [_, _, _], [_, _, _], [_, _, _], [_, _, _]] true am_el150 am_ze153 am_cl153) (h := M.end [_, _] (h := S.o q.as (S.end (hK _ ?_)))))))))))))))))))))))))
                clear hK K; refine Ev.weaken (Wk.frzl (f := pntC) [(⟨_, _, _⟩ : Int × Int × Int), (⟨_, _, _⟩ : Int × Int × Int), (⟨_, _, _⟩ : Int × Int × Int), (⟨_, _, _⟩ : Int × Int × Int), (⟨_, _, _⟩ : Int × Int × Int)] 2 [_]) ?_; refine Ev.ret ?_; refine Ev.ret1 ?_; refine ⟨?_, rfl⟩
                first
                 | (rw [movesOf, if_pos (show b.code = 11 by assumption)] <;> rfl)
                 | (rw [movesOf, if_neg (show ¬ b.code = 11 by assumption), if_pos (show b.code = 21 by assumption)] <;> rfl)
                 | (rw [movesOf, if_neg (show ¬ b.code = 11 by assumption), if_neg (show ¬ b.code = 21 by assumption), if_pos (show b.code = 26 by assumption)] <;> rfl)
                 | (rw [movesOf, if_neg (show ¬ b.code = 11 by assumption), if_neg (show ¬ b.code = 21 by assumption), if_neg (show ¬ b.code = 26 by assumption), if_pos (show b.code = 31 by assumption)] <;> rfl)
                 | (rw [movesOf, if_neg (show ¬ b.code = 11 by assumption), if_neg (show ¬ b.code = 21 by assumption), if_neg (show ¬ b.code = 26 by assumption), if_neg (show ¬ b.code = 31 by assumption), if_pos (show b.code = 41 by assumption)] <;> rfl)
                 | (rw [movesOf, if_neg (show ¬ b.code = 11 by assumption), if_neg (show ¬ b.code = 21 by assumption), if_neg (show ¬ b.code = 26 by assumption), if_neg (show ¬ b.code = 31 by assumption), if_neg (show ¬ b.code = 41 by assumption), if_pos (show b.code = 51 by assumption)] <;> rfl)
                 | (rw [movesOf, if_neg (show ¬ b.code = 11 by assumption), if_neg (show ¬ b.code = 21 by assumption), if_neg (show ¬ b.code = 26 by assumption), if_neg (show ¬ b.code = 31 by assumption), if_neg (show ¬ b.code = 41 by assumption), if_neg (show ¬ b.code = 51 by assumption), if_pos (show b.code = 98 by assumption)] <;> rfl)
                 | (rw [movesOf, if_neg (show ¬ b.code = 11 by assumption), if_neg (show ¬ b.code = 21 by assumption), if_neg (show ¬ b.code = 26 by assumption), if_neg (show ¬ b.code = 31 by assumption), if_neg (show ¬ b.code = 41 by assumption), if_neg (show ¬ b.code = 51 by assumption), if_neg (show ¬ b.code = 98 by assumption)] <;> rfl)
              · first
              | omega | contradiction
              | refine Ev.skip ?_; show Ev _ _ _ _; refine Ev.sr fun K hK => S.o q.mv (S.o (q.ix am_el54 am_cl3 (hl := (by first | exact ati (hd 0 (by omega)) (by omega) | exact ati (hd 1 (by omega)) (by omega) | exact ati (hd 2 (by omega)) (by omega) | exact ati (hd 3 (by omega)) (by omega) | exact ati (hd 4 (by omega)) (by omega) | exact atig (by omega)))) (S.o (q.ls am_ag3) (S.o (q.bd [_, _, _] am_ze153 am_pl153) (S.nn (q.bs [[_, _, _]] true am_el150 am_ze153 am_cl153) (S.o q.as (S.end (hK _ ?_))))))); clear hK K; refine Ev.weaken (Wk.frzl (f := pntC) [(⟨_, _, _⟩ : Int × Int × Int)] 2 [_]) ?_; refine Ev.ret ?_; refine Ev.ret1 ?_; refine ⟨?_, rfl⟩
                first
                 | (rw [movesOf, if_pos (show b.code = 11 by assumption)] <;> rfl)
                 | (rw [movesOf, if_neg (show ¬ b.code = 11 by assumption), if_pos (show b.code = 21 by assumption)] <;> rfl)
                 | (rw [movesOf, if_neg (show ¬ b.code = 11 by assumption), if_neg (show ¬ b.code = 21 by assumption), if_pos (show b.code = 26 by assumption)] <;> rfl)
                 | (rw [movesOf, if_neg (show ¬ b.code = 11 by assumption), if_neg (show ¬ b.code = 21 by assumption), if_neg (show ¬ b.code = 26 by assumption), if_pos (show b.code = 31 by assumption)] <;> rfl)
                 | (rw [movesOf, if_neg (show ¬ b.code = 11 by assumption), if_neg (show ¬ b.code = 21 by assumption), if_neg (show ¬ b.code = 26 by assumption), if_neg (show ¬ b.code = 31 by assumption), if_pos (show b.code = 41 by assumption)] <;> rfl)
                 | (rw [movesOf, if_neg (show ¬ b.code = 11 by assumption), if_neg (show ¬ b.code = 21 by assumption), if_neg (show ¬ b.code = 26 by assumption), if_neg (show ¬ b.code = 31 by assumption), if_neg (show ¬ b.code = 41 by assumption), if_pos (show b.code = 51 by assumption)] <;> rfl)
                 | (rw [movesOf, if_neg (show ¬ b.code = 11 by assumption), if_neg (show ¬ b.code = 21 by assumption), if_neg (show ¬ b.code = 26 by assumption), if_neg (show ¬ b.code = 31 by assumption), if_neg (show ¬ b.code = 41 by assumption), if_neg (show ¬ b.code = 51 by assumption), if_pos (show b.code = 98 by assumption)] <;> rfl)
                 | (rw [movesOf, if_neg (show ¬ b.code = 11 by assumption), if_neg (show ¬ b.code = 21 by assumption), if_neg (show ¬ b.code = 26 by assumption), if_neg (show ¬ b.code = 31 by assumption), if_neg (show ¬ b.code = 41 by assumption), if_neg (show ¬ b.code = 51 by assumption), if_neg (show ¬ b.code = 98 by assumption)] <;> rfl)
theorem abs_fun (n : Int) (h0 : -1000000000000 ≤ n) (h1 : n ≤ 1000000000000) : Fun Tryz.prog 113 [.lit (.int .i64 n)] (Ret (.lit (.int .i64 (absI n))) []) := by
  refine Fun.of (nt := 8) (rs := [.tmp 2]) Tryz.func113 rfl rfl rfl rfl rfl ?_; refine Ev.sr fun K hK => S.o q.as (S.end (hK _ ?_)); clear hK K; refine Ev.seq ?_; refine Ev.sr fun K hK => S.o q.mv (S.o q.lss (S.end (hK _ ?_))); clear hK K; refine Ev.cd (fun c1 => ?_) (fun c1 => ?_)
  · first
  | omega | contradiction
  | refine Ev.sr fun K hK => S.o q.mv (S.o q.sub (S.o q.as (S.end (hK _ ?_)))); clear hK K; refine Ev.ret ?_; refine Ev.ret1 ?_; refine ⟨?_, rfl⟩
    (congr 2; unfold absI; omega)
  · first
  | omega | contradiction
  | refine Ev.skip ?_; show Ev _ _ _ _; refine Ev.sr fun K hK => S.o q.mv (S.o q.as (S.end (hK _ ?_))); clear hK K; refine Ev.ret ?_; refine Ev.ret1 ?_; refine ⟨?_, rfl⟩
    (congr 2; unfold absI; omega)
theorem absI_bd {n : Int} (h0 : -262144 ≤ n) (h1 : n ≤ 262144) : 0 ≤ absI n ∧ absI n ≤ 262144 := by unfold absI; omega
theorem rlegs_fun (b : Bar) (hok : okBar b) : Fun Tryz.prog 105 [.agg b.c] (Ret (.sh 1 ((legsOf b).map intC)) []) := by
  obtain ⟨hm1, hm2⟩ := moves_legs hok; have hll := legsOf_len b; rw [← hm1, List.length_map] at hll; rw [← hm1]; refine Fun.of (nt := 38) (rs := [.tmp 2]) Tryz.func105 rfl rfl rfl rfl rfl ?_; refine Ev.sr fun K hK => S.nn (q.bx [_, _, _, _, _] true) (S.o q.as (S.end (hK _ ?_))); clear hK K; refine Ev.sr fun K hK => S.o (q.lvA [_, _, _, _, _] am_ag56 am_cl56) (S.c0 (hF := moves_fun _ (by assumption)) (h := S.o q.as (S.end (hK _ ?_)))); clear hK K; refine Ev.sr fun K hK => S.o q.as (S.end (hK _ ?_)); clear hK K; refine Ev.seq ?_; refine Ev.sr fun K hK => S.o q.as (S.end (hK _ ?_)); clear hK K; refine Ev.block ?_; refine Ev.weaken (Wk.nown intC 4 3 1) ?_; refine Ev.loopU (ι := {p : List (Int × Int × Int) × List (Int × Int × Int) // p.1 ++ p.2 = (movesOf b) ∧ True}) [1] [2, 3] (fun ⟨(pre, suf), _⟩ => [(5, .lit (.int .i64 ((pre.length : Int)))), (4, .als 0 0 (pre.map legAbs).length)]) (fun ⟨(pre, suf), _⟩ => [(0, ⟨true, 3, 1, (pre.map legAbs).map intC, true⟩)]) (fun ⟨(pre, suf), _⟩ => suf.length) ⟨([], (movesOf b)), rfl, trivial⟩ (.c (.c .n)) (keep_c (he := (by first | rfl | (simp [legAbs]; done))) (h := keep_n)) (slots_c (he := (by first | rfl | (congr 2; simp; done))) (h := (slots_c (he := (by first | rfl | (congr 1; simp; done))) (h := trivial)))) ?_; rintro ⟨⟨pre, suf⟩, hp, hinv⟩ R0 hR0; dsimp only [List.cons_append, List.nil_append, List.length_cons, List.length_nil]
  simp only at hp hinv
  have hpl : pre.length + suf.length = ((movesOf b)).length := by rw [← hp, List.length_append]
  rcases suf with _ | ⟨s, suf⟩
  · rw [List.append_nil] at hp; simp only [List.length_nil] at hpl; refine Ev.seq ?_; refine Ev.sr fun K hK => S.o q.mv (S.o q.mv (S.o (q.lens am_el150) (S.o q.lss (S.end (hK _ ?_))))); clear hK K; refine Ev.cd (fun c1 => ?_) (fun c1 => ?_)
    · first
    | omega | contradiction
    | refine Ev.skip ?_; show Ev _ _ _ _; refine Ev.seq ?_; refine Ev.block ?_; refine Ev.region_M (tbs [(0, 0), (0, 0), (0, 0), (3, 6), (4, 14), (5, 30), (6, 62), (0, 0), (0, 0), (9, 384), (10, 896), (11, 1920), (12, 4094), (13, 8190), (0, 0), (0, 0), (16, 49152), (17, 114688), (18, 245760), (19, 516094), (20, 1048574), (21, 2097150), (22, 4194303), (23, 8388607)]) 22 fun K hK => M.o q.mv (M.o q.mv (M.o q.mv (M.o (q.ix am_el150 am_cl153 (hl := (by first | exact atig (by omega)))) (M.o (q.fs 0 am_fi153_0 am_cl3) (M.o (q.ls am_ag3) (M.c0 (hF := abs_fun _ (by omega) (by omega)) (h := M.o q.mv (M.o q.mv (M.o (q.ix am_el150 am_cl153 (hl := (by first | exact atig (by omega)))) (M.o (q.fs 1 am_fi153_1 am_cl3) (M.o (q.ls am_ag3) (M.c0 (hF := abs_fun _ (by omega) (by omega)) (h := M.o q.add (M.o q.mv (M.o q.mv (M.o (q.ix am_el150 am_cl153 (hl := (by first | exact atig (by omega)))) (M.o (q.fs 2 am_fi153_2 am_cl3) (M.o (q.ls am_ag3) (M.c0 (hF := abs_fun _ (by omega) (by omega)) (h := M.o q.add (M.nn [_] (q.bs [[_]] true am_el54 am_ze3 am_cl3) (h := M.end [_, _] (h := S.ap' [_] am_el54 am_ze3 am_cl3 am_by3 (hh := head_own') (hr := (rows_lit [_])) (h := S.o q.as (S.end (hK _ ?_)))))))))))))))))))))))))); clear hK K; show Ev _ _ _ _; refine Ev.region_S fun K hK => S.o q.mv (S.o q.add (S.o q.as (S.end (hK _ ?_)))); clear hK K; refine hR0 _ _ ?_
      refine roundU [89] [2, 3] ⟨(pre ++ [(sx, sy, sz)], suf), by rw [← hp]; simp, ?_⟩ ?_ (keep_c (he := (by first | rfl | (simp [legAbs]; done))) (h := keep_n)) (slots_c (he := (by first | rfl | (congr 2; simp; done))) (h := (slots_c (he := (by first | rfl | (congr 1; simp; done))) (h := trivial)))) (.c (.c .n)); trivial; all_goals (dsimp only; simp only [List.length_cons]; omega)
    · first
    | omega | contradiction
    | refine Ev.exit ?_; refine hR0 _ _ ?_; show Ev _ _ _ _; refine Ev.sr fun K hK => S.o q.mv (S.o q.as (S.end (hK _ ?_))); clear hK K; refine Ev.weaken (Wk.frz 2 []) ?_; refine Ev.ret ?_; refine Ev.ret1 ?_; refine ⟨?_, rfl⟩
      first | (rw [← hp, List.append_nil]; done) | (rw [← hp]; done) | rfl
  · obtain ⟨sx, sy, sz⟩ := s; simp only [List.length_cons] at hpl
    have hidx : (movesOf b)[pre.length]? = some (sx, sy, sz) := by rw [← hp]; simp
    obtain ⟨g1, g2, g3, g4, g5, g6⟩ := hm2 (sx, sy, sz) (by rw [← hp]; simp)
    simp only at g1 g2 g3 g4 g5 g6
    obtain ⟨f1, f2⟩ := absI_bd g1 g2; obtain ⟨f3, f4⟩ := absI_bd g3 g4; obtain ⟨f5, f6⟩ := absI_bd g5 g6; have hml : (pre.map legAbs).length = pre.length := List.length_map _; refine Ev.seq ?_; refine Ev.sr fun K hK => S.o q.mv (S.o q.mv (S.o (q.lens am_el150) (S.o q.lss (S.end (hK _ ?_))))); clear hK K; refine Ev.cd (fun c2 => ?_) (fun c2 => ?_)
    · first
    | omega | contradiction
    | refine Ev.skip ?_
      show Ev _ _ _ _; refine Ev.seq ?_; refine Ev.block ?_; refine Ev.region_M (tbs [(0, 0), (0, 0), (0, 0), (3, 6), (4, 14), (5, 30), (6, 62), (0, 0), (0, 0), (9, 384), (10, 896), (11, 1920), (12, 4094), (13, 8190), (0, 0), (0, 0), (16, 49152), (17, 114688), (18, 245760), (19, 516094), (20, 1048574), (21, 2097150), (22, 4194303), (23, 8388607)]) 22 fun K hK => M.o q.mv (M.o q.mv (M.o q.mv (M.o (q.ix am_el150 am_cl153 (hl := (by first | exact ati hidx (by omega) | exact atig (by omega)))) (M.o (q.fs 0 am_fi153_0 am_cl3) (M.o (q.ls am_ag3) (M.c0 (hF := abs_fun _ (by omega) (by omega)) (h := M.o q.mv (M.o q.mv (M.o (q.ix am_el150 am_cl153 (hl := (by first | exact ati hidx (by omega) | exact atig (by omega)))) (M.o (q.fs 1 am_fi153_1 am_cl3) (M.o (q.ls am_ag3) (M.c0 (hF := abs_fun _ (by omega) (by omega)) (h := M.o q.add (M.o q.mv (M.o q.mv (M.o (q.ix am_el150 am_cl153 (hl := (by first | exact ati hidx (by omega) | exact atig (by omega)))) (M.o (q.fs 2 am_fi153_2 am_cl3) (M.o (q.ls am_ag3) (M.c0 (hF := abs_fun _ (by omega) (by omega)) (h := M.o q.add (M.nn [_] (q.bs [[_]] true am_el54 am_ze3 am_cl3) (h := M.end [_, _] (h := S.ap' [_] am_el54 am_ze3 am_cl3 am_by3 (hh := head_own') (hr := (rows_lit [_])) (h := S.o q.as (S.end (hK _ ?_)))))))))))))))))))))))))); clear hK K; show Ev _ _ _ _; refine Ev.region_S fun K hK => S.o q.mv (S.o q.add (S.o q.as (S.end (hK _ ?_)))); clear hK K
      refine hR0 _ _ ?_; refine roundU [89] [2, 3] ⟨(pre ++ [(sx, sy, sz)], suf), by rw [← hp]; simp, ?_⟩ ?_ (keep_c (he := (by first | rfl | (simp [legAbs]; done))) (h := keep_n)) (slots_c (he := (by first | rfl | (congr 2; simp; done))) (h := (slots_c (he := (by first | rfl | (congr 1; simp; done))) (h := trivial)))) (.c (.c .n)); trivial; all_goals (dsimp only; simp only [List.length_cons]; omega)
    · first
    | omega | contradiction
    | refine Ev.exit ?_; refine hR0 _ _ ?_; show Ev _ _ _ _; refine Ev.sr fun K hK => S.o q.mv (S.o q.as (S.end (hK _ ?_))); clear hK K; refine Ev.weaken (Wk.frz 2 []) ?_; refine Ev.ret ?_; refine Ev.ret1 ?_; refine ⟨?_, rfl⟩
      first | (rw [← hp, List.append_nil]; done) | (rw [← hp]; done) | rfl
theorem rbendR_fun (d : Int) (h0 : 0 ≤ d) (h1 : d ≤ 1000) : Fun Tryz.prog 114 [.lit (.int .i64 d)] (Ret (.lit (.int .i64 (bendR d))) []) := by
  refine Fun.of (nt := 10) (rs := [.tmp 2]) Tryz.func114 rfl rfl rfl rfl rfl ?_; refine Ev.sr fun K hK => S.o q.as (S.end (hK _ ?_)); clear hK K; refine Ev.seq ?_; refine Ev.sr fun K hK => S.o q.mv (S.o q.leq (S.end (hK _ ?_))); clear hK K; refine Ev.cd (fun c1 => ?_) (fun c1 => ?_)
  · first
  | omega | contradiction
  | refine Ev.sr fun K hK => S.o q.mv (S.o q.mul (S.o q.quo (S.o q.as (S.end (hK _ ?_))))); clear hK K; refine Ev.ret ?_; refine Ev.ret1 ?_; refine ⟨?_, rfl⟩
    first | (rw [bendR, if_pos ‹_›]; done) | (rw [bendR, if_neg ‹_›]; done)
  · first
  | omega | contradiction
  | refine Ev.skip ?_; show Ev _ _ _ _; refine Ev.sr fun K hK => S.o q.mv (S.o q.mul (S.o q.as (S.end (hK _ ?_)))); clear hK K; refine Ev.ret ?_; refine Ev.ret1 ?_; refine ⟨?_, rfl⟩
    first | (rw [bendR, if_pos ‹_›]; done) | (rw [bendR, if_neg ‹_›]; done)
theorem rarc_fun (d : Int) (hz : d ∈ sizes) : Fun Tryz.prog 115 [.lit (.int .i64 d)] (Ret (.agg [.lit (.int .i64 (arcLo d)), .lit (.int .i64 (arcHi d))]) []) := by
  obtain ⟨h0, h1⟩ := size_bd hz; obtain ⟨b1, b2, b3, b4, b5, b6, b7, b8, b9, b10⟩ := bend_bd hz; have a1 : arcLo d = 500 * bendR d * 333 / 106 := rfl; have a2 : arcHi d = (500 * bendR d * 355 + 113 - 1) / 113 := rfl; refine Fun.of (nt := 16) (rs := [.cell 2 124]) Tryz.func115 rfl rfl rfl rfl rfl ?_; refine Ev.sr fun K hK => S.nn (q.al am_ze124) (S.end (hK _ ?_)); clear hK K; refine Ev.sr fun K hK => S.o q.mv (S.c0 (hF := rbendR_fun _ (by omega) (by omega)) (h := S.o q.as (S.end (hK _ ?_)))); clear hK K; refine Ev.sr fun K hK => S.o q.mv (S.o q.mul (S.o q.mul (S.o q.quo (S.o q.mv (S.o q.mul (S.o q.mul (S.o q.add (S.o q.quo (S.o (q.bd [_, _] am_ze124 am_pl124) (S.sv [_, _] true [] am_in124 am_cl124 (h := S.end (hK _ ?_)))))))))))); clear hK K; refine Ev.ret ?_; refine Ev.retv1 (res_c [_, _] am_ag124 am_cl124 res_n) ?_; refine ⟨?_, rfl⟩
  first | rfl | (rw [a1, a2, show (500 * bendR d * 355 + 113 - 1) = 500 * bendR d * 355 + 112 by omega]; done)
theorem rallowance_fun (d : Int) (hz : d ∈ sizes) : Fun Tryz.prog 106 [.lit (.int .i64 d)] (Ret (.agg [.lit (.int .i64 (allLo d)), .lit (.int .i64 (allHi d))]) []) := by
  obtain ⟨h0, h1⟩ := size_bd hz; obtain ⟨b1, b2, b3, b4, b5, b6, b7, b8, b9, b10⟩ := bend_bd hz; have a1 : arcLo d = 500 * bendR d * 333 / 106 := rfl; have a2 : arcHi d = (500 * bendR d * 355 + 113 - 1) / 113 := rfl; refine Fun.of (nt := 20) (rs := [.cell 2 124]) Tryz.func106 rfl rfl rfl rfl rfl ?_; refine Ev.sr fun K hK => S.nn (q.al am_ze124) (S.end (hK _ ?_)); clear hK K; refine Ev.sr fun K hK => S.o q.mv (S.c0 (hF := rbendR_fun _ (by omega) (by omega)) (h := S.o q.mv (S.c0 (hF := rarc_fun _ hz) (h := S.nn (q.al am_ze124) (S.o q.as (S.sv [_, _] true [_] am_in124 am_cl124 (h := S.end (hK _ ?_)))))))); clear hK K; refine Ev.sr fun K hK => S.o q.mv (S.o q.mul (S.o (q.fa 1 am_fi124_1 am_cl3) (S.o (q.lv am_ag3) (S.o q.sub (S.o q.mv (S.o q.mul (S.o (q.fa 0 am_fi124_0 am_cl3) (S.o (q.lv am_ag3) (S.o q.sub (S.o (q.bd [_, _] am_ze124 am_pl124) (S.sv [_, _] true [_] am_in124 am_cl124 (h := S.end (hK _ ?_))))))))))))); clear hK K; refine Ev.ret ?_; refine Ev.retv1 (res_c [_, _] am_ag124 am_cl124 res_n) ?_; refine ⟨?_, rfl⟩; rfl
theorem rbends_fun (b : Bar) (hok : okBar b) : Fun Tryz.prog 107 [.agg b.c] (Ret (.lit (.int .i64 (((legsOf b).length : Int) - 1))) []) := by
  have hl := legsOf_len b; refine Fun.of (nt := 7) (rs := [.tmp 2]) Tryz.func107 rfl rfl rfl rfl rfl ?_; refine Ev.sr fun K hK => S.nn (q.bx [_, _, _, _, _] true) (S.o q.as (S.end (hK _ ?_))); clear hK K; refine Ev.sr fun K hK => S.o (q.lvA [_, _, _, _, _] am_ag56 am_cl56) (S.c0 (hF := rlegs_fun _ (by assumption)) (h := S.o (q.lens am_el54) (S.o q.sub (S.o q.as (S.end (hK _ ?_)))))); clear hK K; refine Ev.ret ?_; refine Ev.ret1 ?_; refine ⟨?_, rfl⟩; rfl
theorem rdeveloped_fun (b : Bar) (hok : okBar b) : Fun Tryz.prog 96 [.agg b.c] (Ret (.agg [.lit (.int .i64 (devLo b)), .lit (.int .i64 (devHi b))]) []) := by
  have hl := legsOf_len b; have hz := hok.2.1; obtain ⟨b1, b2, b3, b4, b5, b6, b7, b8, b9, b10⟩ := bend_bd hz; obtain ⟨p1, p2, p3, p4, p5, p6⟩ := dev_bd hok
  obtain ⟨s1, s2⟩ := legs_sum hok; refine Fun.of (nt := 40) (rs := [.cell 2 124]) Tryz.func96 rfl rfl rfl rfl rfl ?_; refine Ev.sr fun K hK => S.nn (q.bx [_, _, _, _, _] true) (S.nn (q.al am_ze124) (S.end (hK _ ?_))); clear hK K; refine Ev.sr fun K hK => S.o (q.lvA [_, _, _, _, _] am_ag56 am_cl56) (S.c0 (hF := rlegs_fun _ (by assumption)) (h := S.o q.as (S.end (hK _ ?_)))); clear hK K; refine Ev.sr fun K hK => S.o q.as (S.end (hK _ ?_)); clear hK K; refine Ev.seq ?_; refine Ev.sr fun K hK => S.o q.as (S.end (hK _ ?_)); clear hK K; refine Ev.block ?_; refine Ev.loopU (ι := {p : List (Int) × List (Int) // p.1 ++ p.2 = (legsOf b) ∧ True}) [0, 1] [1, 2, 3] (fun ⟨(pre, suf), _⟩ => [(5, .lit (.int .i64 ((pre.length : Int)))), (4, .lit (.int .i64 (1000 * sumI pre)))]) (fun ⟨(pre, suf), _⟩ => [(0, ⟨false, 56, 5, [[.lit (str (b.mark)), .lit (.int .i64 (b.size)), .lit (.int .i64 (b.count)), .lit (.int .i64 (b.code)), .sh 1 ((b.dims).map intC)]], true⟩), (1, ⟨false, 124, 2, [[.lit (.int .i64 (0)), .lit (.int .i64 (0))]], true⟩)]) (fun ⟨(pre, suf), _⟩ => suf.length) ⟨([], (legsOf b)), rfl, trivial⟩ (.c (.c (.c .n))) (keep_c (he := rfl) (h := (keep_c (he := rfl) (h := keep_n)))) (slots_c (he := (by first | rfl | (congr 2; simp; done))) (h := (slots_c (he := (by first | rfl | (congr 2; rw [sumI_app, show sumI [s] = s by simp [sumI]]; omega))) (h := trivial)))) ?_
  rintro ⟨⟨pre, suf⟩, hp, hinv⟩ R0 hR0; dsimp only [List.cons_append, List.nil_append, List.length_cons, List.length_nil]
  simp only at hp hinv
  have hpl : pre.length + suf.length = ((legsOf b)).length := by rw [← hp, List.length_append]
  rcases suf with _ | ⟨s, suf⟩
  · rw [List.append_nil] at hp; simp only [List.length_nil] at hpl; refine Ev.seq ?_; refine Ev.sr fun K hK => S.o q.mv (S.o q.mv (S.o (q.lens am_el54) (S.o q.lss (S.end (hK _ ?_))))); clear hK K; refine Ev.cd (fun c1 => ?_) (fun c1 => ?_)
    · first
    | omega | contradiction
    | refine Ev.skip ?_; show Ev _ _ _ _; refine Ev.seq ?_; refine Ev.block ?_; refine Ev.region_S fun K hK => S.o q.mv (S.o q.mv (S.o q.mv (S.o (q.ix am_el54 am_cl3 (hl := (by first | exact atig (by omega)))) (S.o (q.ls am_ag3) (S.o q.mul (S.o q.add (S.o q.as (S.end (hK _ ?_))))))))); clear hK K; show Ev _ _ _ _; refine Ev.region_S fun K hK => S.o q.mv (S.o q.add (S.o q.as (S.end (hK _ ?_)))); clear hK K; refine hR0 _ _ ?_; refine roundU [0, 1] [1, 2, 3] ⟨(pre ++ [s], suf), by rw [← hp]; simp, ?_⟩ ?_ (keep_c (he := rfl) (h := (keep_c (he := rfl) (h := keep_n)))) (slots_c (he := (by first | rfl | (congr 2; simp; done))) (h := (slots_c (he := (by first | rfl | (congr 2; rw [sumI_app, show sumI [s] = s by simp [sumI]]; omega))) (h := trivial)))) (.c (.c (.c .n))); trivial; all_goals (dsimp only; simp only [List.length_cons]; omega)
    · first
    | omega | contradiction
    | refine Ev.exit ?_; refine hR0 _ _ ?_; show Ev _ _ _ _; refine Ev.sr fun K hK => S.o (q.fa 1 am_fi56_1 am_cl3) (S.o (q.lv am_ag3) (S.c0 (hF := rallowance_fun _ hok.2.1) (h := S.nn (q.al am_ze124) (S.sv [_, _] true [_, _] am_in124 am_cl124 (h := S.end (hK _ ?_)))))); clear hK K; rw [hp]; refine Ev.sm (tbs [(0, 0), (0, 0), (2, 2), (0, 0), (4, 8), (5, 30), (6, 63), (0, 0), (0, 0), (9, 262), (0, 0), (11, 1024), (12, 3846), (13, 8070), (14, 16383), (15, 32767)]) 15 fun K hK => M.o q.mv (M.o (q.lvA [_, _, _, _, _] am_ag56 am_cl56) (M.c0 (hF := rbends_fun _ (by assumption)) (h := M.o (q.fa 1 am_fi124_1 am_cl3) (M.o (q.lv am_ag3) (M.o q.mul (M.o q.sub (M.o q.mv (M.o (q.lvA [_, _, _, _, _] am_ag56 am_cl56) (M.c0 (hF := rbends_fun _ (by assumption)) (h := M.o (q.fa 0 am_fi124_0 am_cl3) (M.o (q.lv am_ag3) (M.o q.mul (M.o q.sub (M.o (q.bd [_, _] am_ze124 am_pl124) (M.end [_, _, _] (h := S.sv [_, _] true [_, _] am_in124 am_cl124 (h := S.end (hK _ ?_)))))))))))))))))); clear hK K; refine Ev.ret ?_; refine Ev.retv1 (res_c [_, _] am_ag124 am_cl124 res_n) ?_; refine ⟨?_, rfl⟩; rfl
  · simp only [List.length_cons] at hpl
    have hidx : (legsOf b)[pre.length]? = some s := by rw [← hp]; simp
    have hsb := legs_in hok s (by rw [← hp]; simp); obtain ⟨hs1, hs2⟩ := sumI_bd pre (fun n hn => legs_in hok n (by rw [← hp]; simp [hn])); refine Ev.seq ?_; refine Ev.sr fun K hK => S.o q.mv (S.o q.mv (S.o (q.lens am_el54) (S.o q.lss (S.end (hK _ ?_))))); clear hK K; refine Ev.cd (fun c2 => ?_) (fun c2 => ?_)
    · first
    | omega | contradiction
    | refine Ev.skip ?_; show Ev _ _ _ _; refine Ev.seq ?_; refine Ev.block ?_; refine Ev.region_S fun K hK => S.o q.mv (S.o q.mv (S.o q.mv (S.o (q.ix am_el54 am_cl3 (hl := (by first | exact ati hidx (by omega) | exact atig (by omega)))) (S.o (q.ls am_ag3) (S.o q.mul (S.o q.add (S.o q.as (S.end (hK _ ?_))))))))); clear hK K; show Ev _ _ _ _; refine Ev.region_S fun K hK => S.o q.mv (S.o q.add (S.o q.as (S.end (hK _ ?_)))); clear hK K; refine hR0 _ _ ?_; refine roundU [0, 1] [1, 2, 3] ⟨(pre ++ [s], suf), by rw [← hp]; simp, ?_⟩ ?_ (keep_c (he := rfl) (h := (keep_c (he := rfl) (h := keep_n)))) (slots_c (he := (by first | rfl | (congr 2; simp; done))) (h := (slots_c (he := (by first | rfl | (congr 2; rw [sumI_app, show sumI [s] = s by simp [sumI]]; omega))) (h := trivial)))) (.c (.c (.c .n))); trivial; all_goals (dsimp only; simp only [List.length_cons]; omega)
    · first
    | omega | contradiction
    | refine Ev.exit ?_; refine hR0 _ _ ?_; show Ev _ _ _ _; refine Ev.sr fun K hK => S.o (q.fa 1 am_fi56_1 am_cl3) (S.o (q.lv am_ag3) (S.c0 (hF := rallowance_fun _ hok.2.1) (h := S.nn (q.al am_ze124) (S.sv [_, _] true [_, _] am_in124 am_cl124 (h := S.end (hK _ ?_)))))); clear hK K; rw [hp]; refine Ev.sm (tbs [(0, 0), (0, 0), (2, 2), (0, 0), (4, 8), (5, 30), (6, 63), (0, 0), (0, 0), (9, 262), (0, 0), (11, 1024), (12, 3846), (13, 8070), (14, 16383), (15, 32767)]) 15 fun K hK => M.o q.mv (M.o (q.lvA [_, _, _, _, _] am_ag56 am_cl56) (M.c0 (hF := rbends_fun _ (by assumption)) (h := M.o (q.fa 1 am_fi124_1 am_cl3) (M.o (q.lv am_ag3) (M.o q.mul (M.o q.sub (M.o q.mv (M.o (q.lvA [_, _, _, _, _] am_ag56 am_cl56) (M.c0 (hF := rbends_fun _ (by assumption)) (h := M.o (q.fa 0 am_fi124_0 am_cl3) (M.o (q.lv am_ag3) (M.o q.mul (M.o q.sub (M.o (q.bd [_, _] am_ze124 am_pl124) (M.end [_, _, _] (h := S.sv [_, _] true [_, _] am_in124 am_cl124 (h := S.end (hK _ ?_)))))))))))))))))); clear hK K; refine Ev.ret ?_; refine Ev.retv1 (res_c [_, _] am_ag124 am_cl124 res_n) ?_; refine ⟨?_, rfl⟩; rfl
theorem rcut_fun (b : Bar) (hok : okBar b) : Fun Tryz.prog 80 [.agg b.c] (Ret (.lit (.int .i64 (cutOf b))) []) := by
  obtain ⟨_, _, _, _, h1, h2⟩ := dev_bd hok; refine Fun.of (nt := 16) (rs := [.tmp 2]) Tryz.func80 rfl rfl rfl rfl rfl ?_; refine Ev.sr fun K hK => S.nn (q.bx [_, _, _, _, _] true) (S.o q.as (S.end (hK _ ?_))); clear hK K; refine Ev.sr fun K hK => S.o (q.lvA [_, _, _, _, _] am_ag56 am_cl56) (S.c0 (hF := rdeveloped_fun _ (by assumption)) (h := S.o (q.f1 am_fi124_1 am_ag3) (S.o q.as (S.end (hK _ ?_))))); clear hK K; refine Ev.sr fun K hK => S.o q.as (S.end (hK _ ?_)); clear hK K; refine Ev.seq ?_; refine Ev.sr fun K hK => S.o q.mv (S.o q.gtr (S.end (hK _ ?_))); clear hK K; refine Ev.cd (fun c1 => ?_) (fun c1 => ?_)
  · first
  | omega | contradiction
  | refine Ev.region_S fun K hK => S.o q.mv (S.o q.add (S.o q.quo (S.o q.mul (S.o q.max (S.o q.as (S.end (hK _ ?_))))))); clear hK K; show Ev _ _ _ _; refine Ev.sr fun K hK => S.o q.mv (S.o q.as (S.end (hK _ ?_))); clear hK K; refine Ev.ret ?_; refine Ev.ret1 ?_; refine ⟨?_, rfl⟩
    (congr 2; unfold cutOf; omega)
  · first
  | omega | contradiction
  | refine Ev.skip ?_; show Ev _ _ _ _; refine Ev.sr fun K hK => S.o q.mv (S.o q.as (S.end (hK _ ?_))); clear hK K; refine Ev.ret ?_; refine Ev.ret1 ?_; refine ⟨?_, rfl⟩
    (congr 2; unfold cutOf; omega)
theorem rmass_fun (d n : Int) (h : d ∈ sizes) (h0 : 0 ≤ n) (h1 : n ≤ 1048576) : Fun Tryz.prog 79 [.lit (.int .i64 d), .lit (.int .i64 n)] (Ret (.lit (.int .i64 (massOf d n))) []) := by
  obtain ⟨m1, m2, m3, m4, m5, m6⟩ := mass_pre h h0 h1; refine Fun.of (nt := 13) (rs := [.tmp 4]) Tryz.func79 rfl rfl rfl rfl rfl ?_; refine Ev.sr fun K hK => S.o q.as (S.end (hK _ ?_)); clear hK K; refine Ev.sr fun K hK => S.o q.mv (S.o q.mul (S.o q.mv (S.o q.mul (S.o q.mv (S.o q.mul (S.o q.add (S.o q.quo (S.o q.as (S.end (hK _ ?_)))))))))); clear hK K; refine Ev.ret ?_; refine Ev.ret1 ?_; refine ⟨?_, rfl⟩; rfl
theorem one_fun (b : Bar) (hok : okBar b) : Fun Tryz.prog 63 [.agg b.c] (Ret (.lit (.int .i64 (oneOf b))) []) := by
  obtain ⟨h1, h2⟩ := cutOf_bd hok; refine Fun.of (nt := 8) (rs := [.tmp 2]) Tryz.func63 rfl rfl rfl rfl rfl ?_; refine Ev.sr fun K hK => S.nn (q.bx [_, _, _, _, _] true) (S.o q.as (S.end (hK _ ?_))); clear hK K; refine Ev.sm (tbs [(0, 0), (1, 1), (0, 0), (3, 4), (4, 15), (5, 31)]) 5 fun K hK => M.o (q.fa 1 am_fi56_1 am_cl3) (M.o (q.lv am_ag3) (M.o (q.lvA [_, _, _, _, _] am_ag56 am_cl56) (M.c0 (hF := rcut_fun _ (by assumption)) (h := M.c0 (hF := rmass_fun _ _ hok.2.1 (by omega) (by omega)) (h := M.end [_] (h := S.o q.as (S.end (hK _ ?_)))))))); clear hK K; refine Ev.ret ?_; refine Ev.ret1 ?_; refine ⟨?_, rfl⟩; rfl
end Go.Proofs.YthpjfkmhpoeojaaGreatDoor
