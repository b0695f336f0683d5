/-
  Layer 12: shapes.
  Conditions: none.
-/
import Derived.Test.YthpjfkmhpoeojaaGreatDoorNames
import Derived.Test.YthpjfkmhpoeojaaGreatDoorSteel
namespace Go.Proofs.YthpjfkmhpoeojaaGreatDoor
open Go Go.AM
set_option linter.unusedSimpArgs false
set_option linter.unusedVariables false
set_option maxRecDepth 100000
structure Bar where
  mark : List UInt8
  size : Int
  count : Int
  code : Int
  dims : List Int
def Bar.c : Bar → List AV
  | ⟨m, s, n, k, d⟩ => [.lit (str m), .lit (.int .i64 s), .lit (.int .i64 n), .lit (.int .i64 k), .sh 1 (d.map intC)]
def legC : Int × Int → List AV
  | (a, b) => [.lit (.int .i64 a), .lit (.int .u8 b)]
def legsL (k : Int) : List (Int × Int) :=
  if k = 0 then [(0, 120)] else if k = 11 then [(0, 120), (1, 121)] else if k = 21 then [(0, 89), (1, 120), (2, 121)] else if k = 26 then [(0, 120), (1, 121), (2, 120)]
  else if k = 31 then [(0, 120), (1, 121), (2, 122)] else if k = 41 then [(0, 120), (1, 121), (2, 120), (3, 89), (4, 120)] else if k = 51 then [(2, 89), (0, 120), (1, 121), (0, 88), (1, 89), (2, 120)]
  else if k = 98 then [(0, 122), (1, 89), (2, 120), (1, 121), (0, 122)] else []
def dimsN (k : Int) : Int := if k = 0 then 1 else if k = 11 then 2 else if k = 21 then 3 else if k = 26 then 3 else if k = 31 then 3 else if k = 51 then 3 else if k = 98 then 3 else if k = 41 then 5 else 0
def dimsM (k : Int) : Int := (legsL k).foldl (fun m s => max m s.1) (-1)
theorem codes (k : Int) : k = 0 ∨ k = 11 ∨ k = 21 ∨ k = 26 ∨ k = 31 ∨ k = 41 ∨ k = 51 ∨ k = 98 ∨ (k ≠ 0 ∧ k ≠ 11 ∧ k ≠ 21 ∧ k ≠ 26 ∧ k ≠ 31 ∧ k ≠ 41 ∧ k ≠ 51 ∧ k ≠ 98) := by omega
theorem legsL_none {k : Int} (h : k ≠ 0 ∧ k ≠ 11 ∧ k ≠ 21 ∧ k ≠ 26 ∧ k ≠ 31 ∧ k ≠ 41 ∧ k ≠ 51 ∧ k ≠ 98) : legsL k = [] ∧ dimsN k = 0 := by
  obtain ⟨h1, h2, h3, h4, h5, h6, h7, h8⟩ := h
  constructor
  · rw [legsL, if_neg h1, if_neg h2, if_neg h3, if_neg h4, if_neg h5, if_neg h6, if_neg h7, if_neg h8]
  · rw [dimsN, if_neg h1, if_neg h2, if_neg h3, if_neg h4, if_neg h5, if_neg h7, if_neg h8, if_neg h6]
theorem dims_eq (k : Int) : dimsM k = dimsN k - 1 ∧ 0 ≤ dimsN k ∧ dimsN k ≤ 5 ∧ (legsL k).length ≤ 6 := by
  rcases codes k with rfl | rfl | rfl | rfl | rfl | rfl | rfl | rfl | h
  iterate 8 decide
  obtain ⟨h1, h2⟩ := legsL_none h; rw [dimsM, h1, h2]
  decide
theorem leg_bd (k : Int) : ∀ s ∈ legsL k, 0 ≤ s.1 ∧ s.1 < dimsN k := by
  rcases codes k with rfl | rfl | rfl | rfl | rfl | rfl | rfl | rfl | h
  iterate 8 decide
  rw [(legsL_none h).1]; intro s hs; cases hs
theorem legs_fun (k : Int) : Fun Tryz.prog 82 [.lit (.int .i64 k)] (Ret (.sh 2 ((legsL k).map legC)) []) := by
  refine Fun.of (nt := 56) (rs := [.tmp 2]) Tryz.func82 rfl rfl rfl rfl rfl ?_; refine Ev.sr fun K hK => S.o q.as (S.end (hK _ ?_)); clear hK K; refine Ev.seq ?_; refine Ev.sr fun K hK => S.o q.mv (S.end (hK _ ?_)); clear hK K; refine Ev.block ?_; refine Ev.sr fun K hK => S.o q.eql (S.o q.as (S.end (hK _ ?_))); clear hK K; refine Ev.cd (fun c1 => ?_) (fun c1 => ?_)
  · first
  | omega | contradiction
  | refine Ev.sr fun K hK => S.o (q.bd [_, _] am_ze120 am_pl120) (S.nn (q.bs [[_, _]] true am_el117 am_ze120 am_cl120) (S.o q.as (S.end (hK _ ?_)))); clear hK K; refine Ev.weaken (Wk.frzl (f := legC) [(⟨_, _⟩ : Int × Int)] 2 []) ?_; refine Ev.ret ?_; refine Ev.ret1 ?_; refine ⟨?_, rfl⟩
    first
     | (obtain rfl : k = 0 := by assumption
        rfl)
     | (subst k; rfl)
     | (rw [(legsL_none ⟨‹_›, ‹_›, ‹_›, ‹_›, ‹_›, ‹_›, ‹_›, ‹_›⟩).1] <;> rfl)
  · first
  | omega | contradiction
  | refine Ev.sr fun K hK => S.o q.eql (S.o q.as (S.end (hK _ ?_))); clear hK K; refine Ev.cd (fun c2 => ?_) (fun c2 => ?_)
    · first
    | omega | contradiction
    | refine Ev.sr fun K hK => S.o (q.bd [_, _] am_ze120 am_pl120) (S.o (q.bd [_, _] am_ze120 am_pl120) (S.nn (q.bs [[_, _], [_, _]] true am_el117 am_ze120 am_cl120) (S.o q.as (S.end (hK _ ?_))))); clear hK K; refine Ev.weaken (Wk.frzl (f := legC) [(⟨_, _⟩ : Int × Int), (⟨_, _⟩ : Int × Int)] 2 []) ?_; refine Ev.ret ?_; refine Ev.ret1 ?_; refine ⟨?_, rfl⟩
      first
       | (obtain rfl : k = 0 := by assumption
          rfl)
       | (subst k; rfl)
       | (rw [(legsL_none ⟨‹_›, ‹_›, ‹_›, ‹_›, ‹_›, ‹_›, ‹_›, ‹_›⟩).1] <;> rfl)
    · first
    | omega | contradiction
    | refine Ev.sr fun K hK => S.o q.eql (S.o q.as (S.end (hK _ ?_))); clear hK K; refine Ev.cd (fun c3 => ?_) (fun c3 => ?_)
      · first
      | omega | contradiction
      | refine Ev.sr fun K hK => S.o (q.bd [_, _] am_ze120 am_pl120) (S.o (q.bd [_, _] am_ze120 am_pl120) (S.o (q.bd [_, _] am_ze120 am_pl120) (S.nn (q.bs [[_, _], [_, _], [_, _]] true am_el117 am_ze120 am_cl120) (S.o q.as (S.end (hK _ ?_)))))); clear hK K; refine Ev.weaken (Wk.frzl (f := legC) [(⟨_, _⟩ : Int × Int), (⟨_, _⟩ : Int × Int), (⟨_, _⟩ : Int × Int)] 2 []) ?_; refine Ev.ret ?_; refine Ev.ret1 ?_; refine ⟨?_, rfl⟩
        first
         | (obtain rfl : k = 0 := by assumption
            rfl)
         | (subst k; rfl)
         | (rw [(legsL_none ⟨‹_›, ‹_›, ‹_›, ‹_›, ‹_›, ‹_›, ‹_›, ‹_›⟩).1] <;> rfl)
      · first
      | omega | contradiction
      | refine Ev.sr fun K hK => S.o q.eql (S.o q.as (S.end (hK _ ?_))); clear hK K; refine Ev.cd (fun c4 => ?_) (fun c4 => ?_)
        · first
        | omega | contradiction
        | refine Ev.sr fun K hK => S.o (q.bd [_, _] am_ze120 am_pl120) (S.o (q.bd [_, _] am_ze120 am_pl120) (S.o (q.bd [_, _] am_ze120 am_pl120) (S.nn (q.bs [[_, _], [_, _], [_, _]] true am_el117 am_ze120 am_cl120) (S.o q.as (S.end (hK _ ?_)))))); clear hK K; refine Ev.weaken (Wk.frzl (f := legC) [(⟨_, _⟩ : Int × Int), (⟨_, _⟩ : Int × Int), (⟨_, _⟩ : Int × Int)] 2 []) ?_; refine Ev.ret ?_; refine Ev.ret1 ?_; refine ⟨?_, rfl⟩
          first
           | (obtain rfl : k = 0 := by assumption
              rfl)
           | (subst k; rfl)
           | (rw [(legsL_none ⟨‹_›, ‹_›, ‹_›, ‹_›, ‹_›, ‹_›, ‹_›, ‹_›⟩).1] <;> rfl)
        · first
        | omega | contradiction
        | refine Ev.sr fun K hK => S.o q.eql (S.o q.as (S.end (hK _ ?_))); clear hK K; refine Ev.cd (fun c5 => ?_) (fun c5 => ?_)
          · first
          | omega | contradiction
          | refine Ev.sr fun K hK => S.o (q.bd [_, _] am_ze120 am_pl120) (S.o (q.bd [_, _] am_ze120 am_pl120) (S.o (q.bd [_, _] am_ze120 am_pl120) (S.nn (q.bs [[_, _], [_, _], [_, _]] true am_el117 am_ze120 am_cl120) (S.o q.as (S.end (hK _ ?_)))))); clear hK K; refine Ev.weaken (Wk.frzl (f := legC) [(⟨_, _⟩ : Int × Int), (⟨_, _⟩ : Int × Int), (⟨_, _⟩ : Int × Int)] 2 []) ?_; refine Ev.ret ?_; refine Ev.ret1 ?_; refine ⟨?_, rfl⟩
            first
             | (obtain rfl : k = 0 := by assumption
                rfl)
             | (subst k; rfl)
             | (rw [(legsL_none ⟨‹_›, ‹_›, ‹_›, ‹_›, ‹_›, ‹_›, ‹_›, ‹_›⟩).1] <;> rfl)
          · first
          | omega | contradiction
          | refine Ev.sr fun K hK => S.o q.eql (S.o q.as (S.end (hK _ ?_))); clear hK K; refine Ev.cd (fun c6 => ?_) (fun c6 => ?_)
            · first
            | omega | contradiction
            | refine Ev.sr fun K hK => S.o (q.bd [_, _] am_ze120 am_pl120) (S.o (q.bd [_, _] am_ze120 am_pl120) (S.o (q.bd [_, _] am_ze120 am_pl120) (S.o (q.bd [_, _] am_ze120 am_pl120) (S.o (q.bd [_, _] am_ze120 am_pl120) (S.nn (q.bs [[_, _], [_, _], [_, _], [_, _], [_, _]] true am_el117 am_ze120 am_cl120) (S.o q.as (S.end (hK _ ?_)))))))); clear hK K; refine Ev.weaken (Wk.frzl (f := legC) [(⟨_, _⟩ : Int × Int), (⟨_, _⟩ : Int × Int), (⟨_, _⟩ : Int × Int), (⟨_, _⟩ : Int × Int), (⟨_, _⟩ : Int × Int)] 2 []) ?_; refine Ev.ret ?_; refine Ev.ret1 ?_; refine ⟨?_, rfl⟩
              first
               | (obtain rfl : k = 0 := by assumption
                  rfl)
               | (subst k; rfl)
               | (rw [(legsL_none ⟨‹_›, ‹_›, ‹_›, ‹_›, ‹_›, ‹_›, ‹_›, ‹_›⟩).1] <;> rfl)
            · first
            | omega | contradiction
            | refine Ev.sr fun K hK => S.o q.eql (S.o q.as (S.end (hK _ ?_))); clear hK K; refine Ev.cd (fun c7 => ?_) (fun c7 => ?_)
              · first
              | omega | contradiction
              | refine Ev.sr fun K hK => S.o (q.bd [_, _] am_ze120 am_pl120) (S.o (q.bd [_, _] am_ze120 am_pl120) (S.o (q.bd [_, _] am_ze120 am_pl120) (S.o (q.bd [_, _] am_ze120 am_pl120) (S.o (q.bd [_, _] am_ze120 am_pl120) (S.o (q.bd [_, _] am_ze120 am_pl120) (S.nn (q.bs [[_, _], [_, _], [_, _], [_, _], [_, _], [_, _]] true am_el117 am_ze120 am_cl120) (S.o q.as (S.end (hK _ ?_))))))))); clear hK K; refine Ev.weaken (Wk.frzl (f := legC) [(⟨_, _⟩ : Int × Int), (⟨_, _⟩ : Int × Int), (⟨_, _⟩ : Int × Int), (⟨_, _⟩ : Int × Int), (⟨_, _⟩ : Int × Int), (⟨_, _⟩ : Int × Int)] 2 []) ?_; refine Ev.ret ?_; refine Ev.ret1 ?_; refine ⟨?_, rfl⟩
                first
                 | (obtain rfl : k = 0 := by assumption
                    rfl)
                 | (subst k; rfl)
                 | (rw [(legsL_none ⟨‹_›, ‹_›, ‹_›, ‹_›, ‹_›, ‹_›, ‹_›, ‹_›⟩).1] <;> rfl)
              · first
              | omega | contradiction
              | refine Ev.sr fun K hK => S.o q.eql (S.o q.as (S.end (hK _ ?_))); clear hK K; refine Ev.cd (fun c8 => ?_) (fun c8 => ?_)
                · first
                | omega | contradiction
                | refine Ev.sr fun K hK => S.o (q.bd [_, _] am_ze120 am_pl120) (S.o (q.bd [_, _] am_ze120 am_pl120) (S.o (q.bd [_, _] am_ze120 am_pl120) (S.o (q.bd [_, _] am_ze120 am_pl120) (S.o (q.bd [_, _] am_ze120 am_pl120) (S.nn (q.bs [[_, _], [_, _], [_, _], [_, _], [_, _]] true am_el117 am_ze120 am_cl120) (S.o q.as (S.end (hK _ ?_)))))))); clear hK K; refine Ev.weaken (Wk.frzl (f := legC) [(⟨_, _⟩ : Int × Int), (⟨_, _⟩ : Int × Int), (⟨_, _⟩ : Int × Int), (⟨_, _⟩ : Int × Int), (⟨_, _⟩ : Int × Int)] 2 []) ?_; refine Ev.ret ?_; refine Ev.ret1 ?_; refine ⟨?_, rfl⟩
                  first
                   | (obtain rfl : k = 0 := by assumption
                      rfl)
                   | (subst k; rfl)
                   | (rw [(legsL_none ⟨‹_›, ‹_›, ‹_›, ‹_›, ‹_›, ‹_›, ‹_›, ‹_›⟩).1] <;> rfl)
                · first
                | omega | contradiction
                | refine Ev.skip ?_; show Ev _ _ _ _; refine Ev.sr fun K hK => S.o q.as (S.end (hK _ ?_)); clear hK K; refine Ev.weaken (Wk.nsh legC 2 2) ?_; refine Ev.ret ?_; refine Ev.ret1 ?_; refine ⟨?_, rfl⟩
                  first
                   | (obtain rfl : k = 0 := by assumption
                      rfl)
                   | (subst k; rfl)
                   | (rw [(legsL_none ⟨‹_›, ‹_›, ‹_›, ‹_›, ‹_›, ‹_›, ‹_›, ‹_›⟩).1] <;> rfl)
def dimsV (k : Int) : Int := if dimsN k = 0 then 0 else dimsN k
def dimsE (k : Int) : Int := if dimsN k = 0 then 11 else 0
theorem dims_fun (k : Int) : Fun Tryz.prog 66 [.lit (.int .i64 k)] (Ret (.tup [.lit (.int .i64 (dimsV k)), .lit (.int .i64 (dimsE k))]) []) := by
  obtain ⟨d1, d2, d3, d4⟩ := dims_eq k; refine Fun.of (nt := 23) (rs := [.tmp 2, .tmp 3]) Tryz.func66 rfl rfl rfl rfl rfl ?_; refine Ev.sr fun K hK => S.o q.as (S.o q.as (S.end (hK _ ?_))); clear hK K; refine Ev.sr fun K hK => S.o q.as (S.end (hK _ ?_)); clear hK K; refine Ev.seq ?_; refine Ev.sr fun K hK => S.o q.mv (S.c0 (hF := legs_fun _) (h := S.o (q.lens am_el117) (S.o q.mv (S.end (hK _ ?_))))); clear hK K; refine Ev.block ?_; refine Ev.loopU (ι := {p : List (Int × Int) × List (Int × Int) // p.1 ++ p.2 = (legsL k) ∧ True}) [] [2, 3, 8, 9] (fun ⟨(pre, suf), _⟩ => [(10, .lit (.int .i64 ((pre.length : Int)))), (4, .lit (.int .i64 (pre.foldl (fun m s => max m s.1) (-1))))]) (fun ⟨(pre, suf), _⟩ => []) (fun ⟨(pre, suf), _⟩ => suf.length) ⟨([], (legsL k)), rfl, trivial⟩ (.c (.c (.c (.c .n)))) keep_n (slots_c (he := (by first | rfl | (congr 2; simp; done))) (h := (slots_c (he := (by first | rfl | (congr 2 <;> simp [List.foldl_append]; done))) (h := trivial)))) ?_; rintro ⟨⟨pre, suf⟩, hp, hinv⟩ R0 hR0; dsimp only [List.cons_append, List.nil_append, List.length_cons, List.length_nil]
  simp only at hp hinv
  have hpl : pre.length + suf.length = ((legsL k)).length := by rw [← hp, List.length_append]
  rcases suf with _ | ⟨s, suf⟩
  · rw [List.append_nil] at hp; simp only [List.length_nil] at hpl; refine Ev.sr fun K hK => S.o q.lss (S.end (hK _ ?_)); clear hK K; refine Ev.ud (fun c1 => ?_) (fun c1 => ?_)
    · first
    | omega | contradiction
    | refine Ev.seq ?_; refine Ev.block ?_; refine Ev.sr fun K hK => S.o (q.ix am_el117 am_cl120 (hl := (by first | exact atig (by omega)))) (S.o (q.lsA [_, _] am_ag120 am_cl120) (S.nn (q.al am_ze120) (S.sv [_, _] true [] am_in120 am_cl120 (h := S.end (hK _ ?_))))); clear hK K; refine Ev.region_S fun K hK => S.o q.mv (S.o (q.fa 0 am_fi120_0 am_cl3) (S.o (q.lv am_ag3) (S.o q.max (S.o q.as (S.end (hK _ ?_)))))); clear hK K; show Ev _ _ _ _; refine Ev.region_S fun K hK => S.o q.add (S.o q.mv (S.end (hK _ ?_))); clear hK K; refine hR0 _ _ ?_; refine roundU [] [2, 3, 8, 9] ⟨(pre ++ [s], suf), by rw [← hp]; simp, ?_⟩ ?_ keep_n (slots_c (he := (by first | rfl | (congr 2; simp; done))) (h := (slots_c (he := (by first | rfl | (congr 2 <;> simp [List.foldl_append]; done))) (h := trivial)))) (.c (.c (.c (.c .n)))); trivial; all_goals (dsimp only; simp only [List.length_cons]; omega)
    · first
    | omega | contradiction
    | refine Ev.exit ?_; refine hR0 _ _ ?_; show Ev _ _ _ _; refine Ev.seq ?_
      have hd : dimsM k = pre.foldl (fun m s => max m s.1) (-1) := by rw [dimsM, hp]
      rw [← hd]; refine Ev.sr fun K hK => S.o q.mv (S.o q.lss (S.end (hK _ ?_))); clear hK K; refine Ev.cd (fun c2 => ?_) (fun c2 => ?_)
      · first
      | omega | contradiction
      | refine Ev.sr fun K hK => S.o q.as (S.o q.as (S.end (hK _ ?_))); clear hK K; refine Ev.ret ?_; refine Ev.ret2 ?_; refine ⟨?_, rfl⟩
        first
         | (rw [dimsV, dimsE, if_pos (by omega), if_pos (by omega)]; done)
         | (rw [dimsV, dimsE, if_neg (by omega), if_neg (by omega), show dimsM k + 1 = dimsN k by omega]; done)
      · first
      | omega | contradiction
      | refine Ev.skip ?_; show Ev _ _ _ _; refine Ev.sr fun K hK => S.o q.mv (S.o q.add (S.o q.as (S.o q.as (S.end (hK _ ?_))))); clear hK K; refine Ev.ret ?_; refine Ev.ret2 ?_; refine ⟨?_, rfl⟩
        first
         | (rw [dimsV, dimsE, if_pos (by omega), if_pos (by omega)]; done)
         | (rw [dimsV, dimsE, if_neg (by omega), if_neg (by omega), show dimsM k + 1 = dimsN k by omega]; done)
  · simp only [List.length_cons] at hpl
    have hidx : (legsL k)[pre.length]? = some s := by rw [← hp]; simp
    refine Ev.sr fun K hK => S.o q.lss (S.end (hK _ ?_)); clear hK K; refine Ev.ud (fun c3 => ?_) (fun c3 => ?_)
    · first
    | omega | contradiction
    | refine Ev.seq ?_; refine Ev.block ?_; refine Ev.sr fun K hK => S.o (q.ix am_el117 am_cl120 (hl := (by first | exact ati hidx (by omega) | exact atig (by omega)))) (S.o (q.lsA [_, _] am_ag120 am_cl120) (S.nn (q.al am_ze120) (S.sv [_, _] true [] am_in120 am_cl120 (h := S.end (hK _ ?_))))); clear hK K; refine Ev.region_S fun K hK => S.o q.mv (S.o (q.fa 0 am_fi120_0 am_cl3) (S.o (q.lv am_ag3) (S.o q.max (S.o q.as (S.end (hK _ ?_)))))); clear hK K; show Ev _ _ _ _; refine Ev.region_S fun K hK => S.o q.add (S.o q.mv (S.end (hK _ ?_))); clear hK K; refine hR0 _ _ ?_; refine roundU [] [2, 3, 8, 9] ⟨(pre ++ [s], suf), by rw [← hp]; simp, ?_⟩ ?_ keep_n (slots_c (he := (by first | rfl | (congr 2; simp; done))) (h := (slots_c (he := (by first | rfl | (congr 2 <;> simp [List.foldl_append]; done))) (h := trivial)))) (.c (.c (.c (.c .n)))); trivial; all_goals (dsimp only; simp only [List.length_cons]; omega)
    · first
    | omega | contradiction
    | refine Ev.exit ?_; refine hR0 _ _ ?_; show Ev _ _ _ _; refine Ev.seq ?_
      have hd : dimsM k = pre.foldl (fun m s => max m s.1) (-1) := by rw [dimsM, hp]
      rw [← hd]; refine Ev.sr fun K hK => S.o q.mv (S.o q.lss (S.end (hK _ ?_))); clear hK K; refine Ev.cd (fun c4 => ?_) (fun c4 => ?_)
      · first
      | omega | contradiction
      | refine Ev.sr fun K hK => S.o q.as (S.o q.as (S.end (hK _ ?_))); clear hK K; refine Ev.ret ?_; refine Ev.ret2 ?_; refine ⟨?_, rfl⟩
        first
         | (rw [dimsV, dimsE, if_pos (by omega), if_pos (by omega)]; done)
         | (rw [dimsV, dimsE, if_neg (by omega), if_neg (by omega), show dimsM k + 1 = dimsN k by omega]; done)
      · first
      | omega | contradiction
      | refine Ev.skip ?_; show Ev _ _ _ _; refine Ev.sr fun K hK => S.o q.mv (S.o q.add (S.o q.as (S.o q.as (S.end (hK _ ?_))))); clear hK K; refine Ev.ret ?_; refine Ev.ret2 ?_; refine ⟨?_, rfl⟩
        first
         | (rw [dimsV, dimsE, if_pos (by omega), if_pos (by omega)]; done)
         | (rw [dimsV, dimsE, if_neg (by omega), if_neg (by omega), show dimsM k + 1 = dimsN k by omega]; done)
def sumI (l : List Int) : Int := l.foldl (· + ·) 0
theorem sumI_go : ∀ (l : List Int) (a : Int), l.foldl (· + ·) a = a + sumI l
  | [], a => by simp [sumI]
  | x :: l, a => by
    rw [sumI, List.foldl_cons, List.foldl_cons, sumI_go l, sumI_go l (0 + x)]; omega
theorem sumI_app (a b : List Int) : sumI (a ++ b) = sumI a + sumI b := by rw [sumI, List.foldl_append, sumI_go]; rfl
theorem sumI_cons (x : Int) (l : List Int) : sumI (x :: l) = x + sumI l := by rw [sumI, List.foldl_cons, sumI_go]; omega
theorem sumI_nn : ∀ l : List Int, (∀ n ∈ l, 1 ≤ n) → 0 ≤ sumI l
  | [], _ => Int.le_refl _
  | x :: l, h => by
    have := h x (by simp); have := sumI_nn l (fun n hn => h n (by simp [hn])); rw [sumI_cons]; omega
def dimsOK (l : List Int) : Prop := (∀ n ∈ l, 1 ≤ n) ∧ sumI l ≤ 262144
instance (l) : Decidable (dimsOK l) := by unfold dimsOK; infer_instance
theorem dims_cut {pre suf l : List Int} {s : Int} (hp : pre ++ s :: suf = l) (h : dimsOK l) : 1 ≤ s ∧ s ≤ 262144 - sumI pre ∧ sumI pre + s + sumI suf ≤ 262144 ∧ 0 ≤ sumI suf ∧ 0 ≤ sumI pre := by
  obtain ⟨h1, h2⟩ := h; rw [← hp, sumI_app, sumI_cons] at h2; have := sumI_nn suf (fun n hn => h1 n (by rw [← hp]; simp [hn])); have := sumI_nn pre (fun n hn => h1 n (by rw [← hp]; simp [hn])); have := h1 s (by rw [← hp]; simp); omega
theorem dims_in {l : List Int} (h : dimsOK l) {n : Int} (hn : n ∈ l) : 1 ≤ n ∧ n ≤ 262144 := by
  obtain ⟨a, b, rfl⟩ := List.append_of_mem hn; have := dims_cut rfl h; omega
def okBar (b : Bar) : Prop := IsName b.mark ∧ b.size ∈ sizes ∧ 1 ≤ b.count ∧ b.count ≤ 1000 ∧ dimsN b.code ≠ 0 ∧ (b.dims.length : Int) = dimsN b.code ∧ dimsOK b.dims
instance (b) : Decidable (okBar b) := by unfold okBar; infer_instance
def Bar.w (b : Bar) : Prop := b.mark.length ≤ 140737488355328 ∧ b.dims.length ≤ 140737488355328
theorem dimsE_iff {k : Int} : dimsE k = 0 ↔ dimsN k ≠ 0 := by
  unfold dimsE
  split <;> simp [*]
theorem valid_fun (b : Bar) (hw : b.w) : Fun Tryz.prog 47 [.agg b.c] (Ret (.lit (.bool (decide (okBar b)))) []) := by
  obtain ⟨hw1, hw2⟩ := hw; have he := @dimsE_iff b.code; have hv : dimsE b.code = 0 → dimsV b.code = dimsN b.code := fun h => if_neg (he.1 h)
  have hok : okBar b ↔ IsName b.mark ∧ b.size ∈ sizes ∧ 1 ≤ b.count ∧ b.count ≤ 1000 ∧ dimsE b.code = 0 ∧ (b.dims.length : Int) = dimsV b.code ∧ dimsOK b.dims := by
    unfold okBar
    constructor
    · rintro ⟨h1, h2, h3, h4, h5, h6, h7⟩; have h8 := he.2 h5; exact ⟨h1, h2, h3, h4, h8, by rw [hv h8]; exact h6, h7⟩
    · rintro ⟨h1, h2, h3, h4, h5, h6, h7⟩; exact ⟨h1, h2, h3, h4, he.1 h5, by rw [← hv h5]; exact h6, h7⟩
  refine Fun.of (nt := 63) (rs := [.tmp 2]) Tryz.func47 rfl rfl rfl rfl rfl ?_; refine Ev.sr fun K hK => S.nn (q.bx [_, _, _, _, _] true) (S.o q.as (S.end (hK _ ?_))); clear hK K; refine Ev.sr fun K hK => S.o (q.fa 3 am_fi56_3 am_cl3) (S.o (q.lv am_ag3) (S.c0 (hF := dims_fun _) (h := S.o q.mv (S.o q.ex (S.o q.ex (S.o q.as (S.o q.as (S.end (hK _ ?_))))))))); clear hK K; refine Ev.seq ?_; refine Ev.sr fun K hK => S.o q.mv (S.o q.neq (S.bn q.mv (fun c1 => ?_) (fun c1 => ?_)))
  · first
  | omega | contradiction
  | refine S.sk (S.sk (S.sk (S.sk (S.o q.pt (S.o q.mv (S.sk (S.sk (S.sk (S.sk (S.o q.pt (S.o q.mv (S.sk (S.sk (S.sk (S.o q.pt (S.o q.mv (S.sk (S.sk (S.sk (S.o q.pt (S.o q.mv (S.sk (S.sk (S.sk (S.sk (S.sk (S.o q.pt (S.end (hK _ ?_))))))))))))))))))))))))))))); clear hK K; refine Ev.ct ?_; refine Ev.sr fun K hK => S.o q.as (S.end (hK _ ?_)); clear hK K; refine Ev.ret ?_; refine Ev.ret1 ?_; refine ⟨?_, rfl⟩
    first
     | exact bT (hok.2 ⟨‹_›, ‹_›, by omega, by omega, by omega, by omega, by rw [← hp]; exact hinv⟩)
     | exact bF (fun h => absurd (hok.1 h).1 ‹_›)
     | exact bF (fun h => absurd (hok.1 h).2.1 ‹_›)
     | exact bF (fun h => by have h1 := (hok.1 h).2.2.1; have h2 := (hok.1 h).2.2.2.1; have h3 := (hok.1 h).2.2.2.2.1; have h4 := (hok.1 h).2.2.2.2.2.1; omega)
     | exact bF (fun h => by have h1 := dims_cut hp (hok.1 h).2.2.2.2.2.2; omega)
  · first
  | omega | contradiction
  | refine S.o (q.fa 0 am_fi56_0 am_cl9) (S.o (q.lv am_ag9) (S.c0 (hF := isName_fun _ (by omega)) (h := S.o q.not (S.o q.pf (S.bn q.mv (fun c2 => ?_) (fun c2 => ?_))))))
    · first
    | omega | contradiction
    | refine S.sk (S.sk (S.sk (S.sk (S.o q.pt (S.o q.mv (S.sk (S.sk (S.sk (S.o q.pt (S.o q.mv (S.sk (S.sk (S.sk (S.o q.pt (S.o q.mv (S.sk (S.sk (S.sk (S.sk (S.sk (S.o q.pt (S.end (hK _ ?_))))))))))))))))))))))); clear hK K; refine Ev.ct ?_; refine Ev.sr fun K hK => S.o q.as (S.end (hK _ ?_)); clear hK K; refine Ev.ret ?_; refine Ev.ret1 ?_; refine ⟨?_, rfl⟩
      first
       | exact bT (hok.2 ⟨‹_›, ‹_›, by omega, by omega, by omega, by omega, by rw [← hp]; exact hinv⟩)
       | exact bF (fun h => absurd (hok.1 h).1 ‹_›)
       | exact bF (fun h => absurd (hok.1 h).2.1 ‹_›)
       | exact bF (fun h => by have h1 := (hok.1 h).2.2.1; have h2 := (hok.1 h).2.2.2.1; have h3 := (hok.1 h).2.2.2.2.1; have h4 := (hok.1 h).2.2.2.2.2.1; omega)
       | exact bF (fun h => by have h1 := dims_cut hp (hok.1 h).2.2.2.2.2.2; omega)
    · first
    | omega | contradiction
    | refine S.o (q.fa 1 am_fi56_1 am_cl3) (S.o (q.lv am_ag3) (S.c0 (hF := size_fun _) (h := S.o q.not (S.o q.pf (S.bn q.mv (fun c3 => ?_) (fun c3 => ?_))))))
      · first
      | omega | contradiction
      | refine S.sk (S.sk (S.sk (S.o q.pt (S.o q.mv (S.sk (S.sk (S.sk (S.o q.pt (S.o q.mv (S.sk (S.sk (S.sk (S.sk (S.sk (S.o q.pt (S.end (hK _ ?_))))))))))))))))); clear hK K; refine Ev.ct ?_; refine Ev.sr fun K hK => S.o q.as (S.end (hK _ ?_)); clear hK K; refine Ev.ret ?_; refine Ev.ret1 ?_; refine ⟨?_, rfl⟩
        first
         | exact bT (hok.2 ⟨‹_›, ‹_›, by omega, by omega, by omega, by omega, by rw [← hp]; exact hinv⟩)
         | exact bF (fun h => absurd (hok.1 h).1 ‹_›)
         | exact bF (fun h => absurd (hok.1 h).2.1 ‹_›)
         | exact bF (fun h => by have h1 := (hok.1 h).2.2.1; have h2 := (hok.1 h).2.2.2.1; have h3 := (hok.1 h).2.2.2.2.1; have h4 := (hok.1 h).2.2.2.2.2.1; omega)
         | exact bF (fun h => by have h1 := dims_cut hp (hok.1 h).2.2.2.2.2.2; omega)
      · first
      | omega | contradiction
      | refine S.o (q.fa 2 am_fi56_2 am_cl3) (S.o (q.lv am_ag3) (S.o q.lss (S.o q.pf (S.bd q.mv (fun c4 => ?_) (fun c4 => ?_)))))
        · first
        | omega | contradiction
        | refine S.sk (S.sk (S.sk (S.o q.pt (S.o q.mv (S.sk (S.sk (S.sk (S.sk (S.sk (S.o q.pt (S.end (hK _ ?_)))))))))))); clear hK K; refine Ev.ct ?_; refine Ev.sr fun K hK => S.o q.as (S.end (hK _ ?_)); clear hK K; refine Ev.ret ?_; refine Ev.ret1 ?_; refine ⟨?_, rfl⟩
          first
           | exact bT (hok.2 ⟨‹_›, ‹_›, by omega, by omega, by omega, by omega, by rw [← hp]; exact hinv⟩)
           | exact bF (fun h => absurd (hok.1 h).1 ‹_›)
           | exact bF (fun h => absurd (hok.1 h).2.1 ‹_›)
           | exact bF (fun h => by have h1 := (hok.1 h).2.2.1; have h2 := (hok.1 h).2.2.2.1; have h3 := (hok.1 h).2.2.2.2.1; have h4 := (hok.1 h).2.2.2.2.2.1; omega)
           | exact bF (fun h => by have h1 := dims_cut hp (hok.1 h).2.2.2.2.2.2; omega)
        · first
        | omega | contradiction
        | refine S.o (q.fa 2 am_fi56_2 am_cl3) (S.o (q.lv am_ag3) (S.o q.gtr (S.o q.pf (S.bd q.mv (fun c5 => ?_) (fun c5 => ?_)))))
          · first
          | omega | contradiction
          | refine S.sk (S.sk (S.sk (S.sk (S.sk (S.o q.pt (S.end (hK _ ?_))))))); clear hK K; refine Ev.ct ?_; refine Ev.sr fun K hK => S.o q.as (S.end (hK _ ?_)); clear hK K; refine Ev.ret ?_; refine Ev.ret1 ?_; refine ⟨?_, rfl⟩
            first
             | exact bT (hok.2 ⟨‹_›, ‹_›, by omega, by omega, by omega, by omega, by rw [← hp]; exact hinv⟩)
             | exact bF (fun h => absurd (hok.1 h).1 ‹_›)
             | exact bF (fun h => absurd (hok.1 h).2.1 ‹_›)
             | exact bF (fun h => by have h1 := (hok.1 h).2.2.1; have h2 := (hok.1 h).2.2.2.1; have h3 := (hok.1 h).2.2.2.2.1; have h4 := (hok.1 h).2.2.2.2.2.1; omega)
             | exact bF (fun h => by have h1 := dims_cut hp (hok.1 h).2.2.2.2.2.2; omega)
          · first
          | omega | contradiction
          | refine S.o (q.fa 4 am_fi56_4 am_cl54) (S.o (q.lv am_ag54) (S.o (q.lens am_el54) (S.o q.mv (S.o q.neq (S.o q.pf (S.end (hK _ ?_))))))); clear hK K; refine Ev.cn (fun c6 => ?_) (fun c6 => ?_)
            · first
            | omega | contradiction
            | refine Ev.sr fun K hK => S.o q.as (S.end (hK _ ?_)); clear hK K; refine Ev.ret ?_; refine Ev.ret1 ?_; refine ⟨?_, rfl⟩
              first
               | exact bT (hok.2 ⟨‹_›, ‹_›, by omega, by omega, by omega, by omega, by rw [← hp]; exact hinv⟩)
               | exact bF (fun h => absurd (hok.1 h).1 ‹_›)
               | exact bF (fun h => absurd (hok.1 h).2.1 ‹_›)
               | exact bF (fun h => by have h1 := (hok.1 h).2.2.1; have h2 := (hok.1 h).2.2.2.1; have h3 := (hok.1 h).2.2.2.2.1; have h4 := (hok.1 h).2.2.2.2.2.1; omega)
               | exact bF (fun h => by have h1 := dims_cut hp (hok.1 h).2.2.2.2.2.2; omega)
            · first
            | omega | contradiction
            | refine Ev.skip ?_; show Ev _ _ _ _; refine Ev.sr fun K hK => S.o q.as (S.end (hK _ ?_)); clear hK K; refine Ev.seq ?_; refine Ev.sr fun K hK => S.o (q.fa 4 am_fi56_4 am_cl54) (S.o (q.lv am_ag54) (S.o (q.lens am_el54) (S.o q.mv (S.end (hK _ ?_))))); clear hK K; refine Ev.block ?_; refine Ev.loopU (ι := {q : List Int × List Int // q.1 ++ q.2 = b.dims ∧ dimsOK q.1}) [] [46, 47] (fun ⟨(pre, suf), _⟩ => [(48, .lit (.int .i64 ((pre.length : Int)))), (5, .lit (.int .i64 (262144 - sumI pre)))]) (fun ⟨(pre, suf), _⟩ => []) (fun ⟨(pre, suf), _⟩ => suf.length) ⟨([], b.dims), rfl, (show dimsOK [] by decide)⟩ (.c (.c .n)) keep_n (slots_c (he := (by first | rfl | (congr 2; simp; done))) (h := (slots_c (he := (by first | rfl | (congr 2; rw [sumI_app, show sumI [s] = s by simp [sumI]]; omega))) (h := trivial)))) ?_; rintro ⟨⟨pre, suf⟩, hp, hinv⟩ R0 hR0; dsimp only [List.cons_append, List.nil_append, List.length_cons, List.length_nil]
              simp only at hp hinv
              have hpl : pre.length + suf.length = (b.dims).length := by rw [← hp, List.length_append]
              rcases suf with _ | ⟨s, suf⟩
              · rw [List.append_nil] at hp; simp only [List.length_nil] at hpl; refine Ev.sr fun K hK => S.o q.lss (S.end (hK _ ?_)); clear hK K; refine Ev.ud (fun c7 => ?_) (fun c7 => ?_)
                · first
                | omega | contradiction
                | refine Ev.seq ?_; refine Ev.block ?_; refine Ev.sr fun K hK => S.o (q.ix am_el54 am_cl3 (hl := (by first | exact atig (by omega)))) (S.o (q.ls am_ag3) (S.o q.as (S.end (hK _ ?_)))); clear hK K; refine Ev.seq ?_; refine Ev.sr fun K hK => S.o q.mv (S.o q.lss (S.bd q.mv (fun c8 => ?_) (fun c8 => ?_)))
                  · first
                  | omega | contradiction
                  | refine S.sk (S.sk (S.sk (S.o q.pt (S.end (hK _ ?_))))); clear hK K; refine Ev.ct ?_; refine Ev.sr fun K hK => S.o q.as (S.end (hK _ ?_)); clear hK K; refine Ev.ret ?_; refine hR0 _ _ ?_; refine Ev.ret1 ?_; refine ⟨?_, rfl⟩
                    first
                     | exact bT (hok.2 ⟨‹_›, ‹_›, by omega, by omega, by omega, by omega, by rw [← hp]; exact hinv⟩)
                     | exact bF (fun h => absurd (hok.1 h).1 ‹_›)
                     | exact bF (fun h => absurd (hok.1 h).2.1 ‹_›)
                     | exact bF (fun h => by have h1 := (hok.1 h).2.2.1; have h2 := (hok.1 h).2.2.2.1; have h3 := (hok.1 h).2.2.2.2.1; have h4 := (hok.1 h).2.2.2.2.2.1; omega)
                     | exact bF (fun h => by have h1 := dims_cut hp (hok.1 h).2.2.2.2.2.2; omega)
                  · first
                  | omega | contradiction
                  | refine S.o q.mv (S.o q.mv (S.o q.gtr (S.o q.pf (S.end (hK _ ?_))))); clear hK K; refine Ev.cd (fun c9 => ?_) (fun c9 => ?_)
                    · first
                    | omega | contradiction
                    | refine Ev.sr fun K hK => S.o q.as (S.end (hK _ ?_)); clear hK K; refine Ev.ret ?_; refine hR0 _ _ ?_; refine Ev.ret1 ?_; refine ⟨?_, rfl⟩
                      first
                       | exact bT (hok.2 ⟨‹_›, ‹_›, by omega, by omega, by omega, by omega, by rw [← hp]; exact hinv⟩)
                       | exact bF (fun h => absurd (hok.1 h).1 ‹_›)
                       | exact bF (fun h => absurd (hok.1 h).2.1 ‹_›)
                       | exact bF (fun h => by have h1 := (hok.1 h).2.2.1; have h2 := (hok.1 h).2.2.2.1; have h3 := (hok.1 h).2.2.2.2.1; have h4 := (hok.1 h).2.2.2.2.2.1; omega)
                       | exact bF (fun h => by have h1 := dims_cut hp (hok.1 h).2.2.2.2.2.2; omega)
                    · first
                    | omega | contradiction
                    | refine Ev.skip ?_; show Ev _ _ _ _; refine Ev.region_S fun K hK => S.o q.mv (S.o q.mv (S.o q.sub (S.o q.as (S.end (hK _ ?_))))); clear hK K; show Ev _ _ _ _; refine Ev.region_S fun K hK => S.o q.add (S.o q.mv (S.end (hK _ ?_))); clear hK K; refine hR0 _ _ ?_; refine roundU [] [46, 47] ⟨(pre ++ [s], suf), by rw [← hp]; simp, ?_⟩ ?_ keep_n (slots_c (he := (by first | rfl | (congr 2; simp; done))) (h := (slots_c (he := (by first | rfl | (congr 2; rw [sumI_app, show sumI [s] = s by simp [sumI]]; omega))) (h := trivial)))) (.c (.c .n)); refine ⟨fun n hn => ?_, by rw [sumI_app, show sumI [s] = s by simp [sumI]]; omega⟩; simp only [List.mem_append, List.mem_singleton] at hn
                      rcases hn with hn | rfl
                      · exact hinv.1 n hn
                      · omega
                      all_goals (dsimp only; simp only [List.length_cons]; omega)
                · first
                | omega | contradiction
                | refine Ev.exit ?_; refine hR0 _ _ ?_; show Ev _ _ _ _; refine Ev.sr fun K hK => S.o q.as (S.end (hK _ ?_)); clear hK K; refine Ev.ret ?_; refine Ev.ret1 ?_; refine ⟨?_, rfl⟩
                  first
                   | exact bT (hok.2 ⟨‹_›, ‹_›, by omega, by omega, by omega, by omega, by rw [← hp]; exact hinv⟩)
                   | exact bF (fun h => absurd (hok.1 h).1 ‹_›)
                   | exact bF (fun h => absurd (hok.1 h).2.1 ‹_›)
                   | exact bF (fun h => by have h1 := (hok.1 h).2.2.1; have h2 := (hok.1 h).2.2.2.1; have h3 := (hok.1 h).2.2.2.2.1; have h4 := (hok.1 h).2.2.2.2.2.1; omega)
                   | exact bF (fun h => by have h1 := dims_cut hp (hok.1 h).2.2.2.2.2.2; omega)
              · simp only [List.length_cons] at hpl
                have hidx : b.dims[pre.length]? = some s := by rw [← hp]; simp
                have hnn := sumI_nn pre hinv.1; have hle := hinv.2; refine Ev.sr fun K hK => S.o q.lss (S.end (hK _ ?_)); clear hK K; refine Ev.ud (fun c10 => ?_) (fun c10 => ?_)
                · first
                | omega | contradiction
                | refine Ev.seq ?_; refine Ev.block ?_; refine Ev.sr fun K hK => S.o (q.ix am_el54 am_cl3 (hl := (by first | exact ati hidx (by omega) | exact atig (by omega)))) (S.o (q.ls am_ag3) (S.o q.as (S.end (hK _ ?_)))); clear hK K; refine Ev.seq ?_; refine Ev.sr fun K hK => S.o q.mv (S.o q.lss (S.bd q.mv (fun c11 => ?_) (fun c11 => ?_)))
                  · first
                  | omega | contradiction
                  | refine S.sk (S.sk (S.sk (S.o q.pt (S.end (hK _ ?_))))); clear hK K; refine Ev.ct ?_; refine Ev.sr fun K hK => S.o q.as (S.end (hK _ ?_)); clear hK K; refine Ev.ret ?_; refine hR0 _ _ ?_; refine Ev.ret1 ?_; refine ⟨?_, rfl⟩
                    first
                     | exact bT (hok.2 ⟨‹_›, ‹_›, by omega, by omega, by omega, by omega, by rw [← hp]; exact hinv⟩)
                     | exact bF (fun h => absurd (hok.1 h).1 ‹_›)
                     | exact bF (fun h => absurd (hok.1 h).2.1 ‹_›)
                     | exact bF (fun h => by have h1 := (hok.1 h).2.2.1; have h2 := (hok.1 h).2.2.2.1; have h3 := (hok.1 h).2.2.2.2.1; have h4 := (hok.1 h).2.2.2.2.2.1; omega)
                     | exact bF (fun h => by have h1 := dims_cut hp (hok.1 h).2.2.2.2.2.2; omega)
                  · first
                  | omega | contradiction
                  | refine S.o q.mv (S.o q.mv (S.o q.gtr (S.o q.pf (S.end (hK _ ?_))))); clear hK K; refine Ev.cd (fun c12 => ?_) (fun c12 => ?_)
                    · first
                    | omega | contradiction
                    | refine Ev.sr fun K hK => S.o q.as (S.end (hK _ ?_)); clear hK K; refine Ev.ret ?_; refine hR0 _ _ ?_; refine Ev.ret1 ?_; refine ⟨?_, rfl⟩
                      first
                       | exact bT (hok.2 ⟨‹_›, ‹_›, by omega, by omega, by omega, by omega, by rw [← hp]; exact hinv⟩)
                       | exact bF (fun h => absurd (hok.1 h).1 ‹_›)
                       | exact bF (fun h => absurd (hok.1 h).2.1 ‹_›)
                       | exact bF (fun h => by have h1 := (hok.1 h).2.2.1; have h2 := (hok.1 h).2.2.2.1; have h3 := (hok.1 h).2.2.2.2.1; have h4 := (hok.1 h).2.2.2.2.2.1; omega)
                       | exact bF (fun h => by have h1 := dims_cut hp (hok.1 h).2.2.2.2.2.2; omega)
                    · first
                    | omega | contradiction
                    | refine Ev.skip ?_; show Ev _ _ _ _; refine Ev.region_S fun K hK => S.o q.mv (S.o q.mv (S.o q.sub (S.o q.as (S.end (hK _ ?_))))); clear hK K; show Ev _ _ _ _; refine Ev.region_S fun K hK => S.o q.add (S.o q.mv (S.end (hK _ ?_))); clear hK K; refine hR0 _ _ ?_; refine roundU [] [46, 47] ⟨(pre ++ [s], suf), by rw [← hp]; simp, ?_⟩ ?_ keep_n (slots_c (he := (by first | rfl | (congr 2; simp; done))) (h := (slots_c (he := (by first | rfl | (congr 2; rw [sumI_app, show sumI [s] = s by simp [sumI]]; omega))) (h := trivial)))) (.c (.c .n)); refine ⟨fun n hn => ?_, by rw [sumI_app, show sumI [s] = s by simp [sumI]]; omega⟩; simp only [List.mem_append, List.mem_singleton] at hn
                      rcases hn with hn | rfl
                      · exact hinv.1 n hn
                      · omega
                      all_goals (dsimp only; simp only [List.length_cons]; omega)
                · first
                | omega | contradiction
                | refine Ev.exit ?_; refine hR0 _ _ ?_; show Ev _ _ _ _; refine Ev.sr fun K hK => S.o q.as (S.end (hK _ ?_)); clear hK K; refine Ev.ret ?_; refine Ev.ret1 ?_; refine ⟨?_, rfl⟩
                  first
                   | exact bT (hok.2 ⟨‹_›, ‹_›, by omega, by omega, by omega, by omega, by rw [← hp]; exact hinv⟩)
                   | exact bF (fun h => absurd (hok.1 h).1 ‹_›)
                   | exact bF (fun h => absurd (hok.1 h).2.1 ‹_›)
                   | exact bF (fun h => by have h1 := (hok.1 h).2.2.1; have h2 := (hok.1 h).2.2.2.1; have h3 := (hok.1 h).2.2.2.2.1; have h4 := (hok.1 h).2.2.2.2.2.1; omega)
                   | exact bF (fun h => by have h1 := dims_cut hp (hok.1 h).2.2.2.2.2.2; omega)
theorem rdims_fun (k : Int) : Fun Tryz.prog 78 [.lit (.int .i64 k)] (Ret (.lit (.int .i64 (dimsN k))) []) := by
  refine Fun.of (nt := 16) (rs := [.tmp 2]) Tryz.func78 rfl rfl rfl rfl rfl ?_; refine Ev.sr fun K hK => S.o q.as (S.end (hK _ ?_)); clear hK K; refine Ev.seq ?_; refine Ev.sr fun K hK => S.o q.mv (S.end (hK _ ?_)); clear hK K; refine Ev.block ?_; refine Ev.sr fun K hK => S.o q.eql (S.o q.as (S.end (hK _ ?_))); clear hK K; refine Ev.cd (fun c1 => ?_) (fun c1 => ?_)
  · first
  | omega | contradiction
  | refine Ev.sr fun K hK => S.o q.as (S.end (hK _ ?_)); clear hK K; refine Ev.ret ?_; refine Ev.ret1 ?_; refine ⟨?_, rfl⟩
    first | (subst k; rfl) | (rw [(legsL_none ⟨‹_›, ‹_›, ‹_›, ‹_›, ‹_›, ‹_›, ‹_›, ‹_›⟩).2] <;> rfl)
  · first
  | omega | contradiction
  | refine Ev.sr fun K hK => S.o q.eql (S.o q.as (S.end (hK _ ?_))); clear hK K; refine Ev.cd (fun c2 => ?_) (fun c2 => ?_)
    · first
    | omega | contradiction
    | refine Ev.sr fun K hK => S.o q.as (S.end (hK _ ?_)); clear hK K; refine Ev.ret ?_; refine Ev.ret1 ?_; refine ⟨?_, rfl⟩
      first | (subst k; rfl) | (rw [(legsL_none ⟨‹_›, ‹_›, ‹_›, ‹_›, ‹_›, ‹_›, ‹_›, ‹_›⟩).2] <;> rfl)
    · first
    | omega | contradiction
    | refine Ev.seq ?_; refine Ev.sr fun K hK => S.o q.eql (S.o q.as (S.end (hK _ ?_))); clear hK K; refine Ev.cd (fun c3 => ?_) (fun c3 => ?_)
      · first
      | omega | contradiction
      | refine Ev.skip ?_; show Ev _ _ _ _; refine Ev.cd (fun _ => ?_) (fun c => absurd c3 c); refine Ev.sr fun K hK => S.o q.as (S.end (hK _ ?_)); clear hK K; refine Ev.ret ?_; refine Ev.ret1 ?_; refine ⟨?_, rfl⟩
        first | (subst k; rfl) | (rw [(legsL_none ⟨‹_›, ‹_›, ‹_›, ‹_›, ‹_›, ‹_›, ‹_›, ‹_›⟩).2] <;> rfl)
      · first
      | omega | contradiction
      | refine Ev.sr fun K hK => S.o q.eql (S.o q.as (S.end (hK _ ?_))); clear hK K; refine Ev.cd (fun c4 => ?_) (fun c4 => ?_)
        · first
        | omega | contradiction
        | refine Ev.skip ?_; show Ev _ _ _ _; refine Ev.cd (fun _ => ?_) (fun c => absurd c4 c); refine Ev.sr fun K hK => S.o q.as (S.end (hK _ ?_)); clear hK K; refine Ev.ret ?_; refine Ev.ret1 ?_; refine ⟨?_, rfl⟩
          first | (subst k; rfl) | (rw [(legsL_none ⟨‹_›, ‹_›, ‹_›, ‹_›, ‹_›, ‹_›, ‹_›, ‹_›⟩).2] <;> rfl)
        · first
        | omega | contradiction
        | refine Ev.sr fun K hK => S.o q.eql (S.o q.as (S.end (hK _ ?_))); clear hK K; refine Ev.cd (fun c5 => ?_) (fun c5 => ?_)
          · first
          | omega | contradiction
          | refine Ev.skip ?_; show Ev _ _ _ _; refine Ev.cd (fun _ => ?_) (fun c => absurd c5 c); refine Ev.sr fun K hK => S.o q.as (S.end (hK _ ?_)); clear hK K; refine Ev.ret ?_; refine Ev.ret1 ?_; refine ⟨?_, rfl⟩
            first | (subst k; rfl) | (rw [(legsL_none ⟨‹_›, ‹_›, ‹_›, ‹_›, ‹_›, ‹_›, ‹_›, ‹_›⟩).2] <;> rfl)
          · first
          | omega | contradiction
          | refine Ev.sr fun K hK => S.o q.eql (S.o q.as (S.end (hK _ ?_))); clear hK K; refine Ev.cd (fun c6 => ?_) (fun c6 => ?_)
            · first
            | omega | contradiction
            | refine Ev.skip ?_; show Ev _ _ _ _; refine Ev.cd (fun _ => ?_) (fun c => absurd c6 c); refine Ev.sr fun K hK => S.o q.as (S.end (hK _ ?_)); clear hK K; refine Ev.ret ?_; refine Ev.ret1 ?_; refine ⟨?_, rfl⟩
              first | (subst k; rfl) | (rw [(legsL_none ⟨‹_›, ‹_›, ‹_›, ‹_›, ‹_›, ‹_›, ‹_›, ‹_›⟩).2] <;> rfl)
            · first
            | omega | contradiction
            | refine Ev.region_S fun K hK => S.o q.eql (S.o q.as (S.end (hK _ ?_))); clear hK K; show Ev _ _ _ _; refine Ev.cd (fun c7 => ?_) (fun c7 => ?_)
              · first
              | omega | contradiction
              | refine Ev.sr fun K hK => S.o q.as (S.end (hK _ ?_)); clear hK K; refine Ev.ret ?_; refine Ev.ret1 ?_; refine ⟨?_, rfl⟩
                first | (subst k; rfl) | (rw [(legsL_none ⟨‹_›, ‹_›, ‹_›, ‹_›, ‹_›, ‹_›, ‹_›, ‹_›⟩).2] <;> rfl)
              · first
              | omega | contradiction
              | refine Ev.sr fun K hK => S.o q.eql (S.o q.as (S.end (hK _ ?_))); clear hK K; refine Ev.cd (fun c8 => ?_) (fun c8 => ?_)
                · first
                | omega | contradiction
                | refine Ev.sr fun K hK => S.o q.as (S.end (hK _ ?_)); clear hK K; refine Ev.ret ?_; refine Ev.ret1 ?_; refine ⟨?_, rfl⟩
                  first | (subst k; rfl) | (rw [(legsL_none ⟨‹_›, ‹_›, ‹_›, ‹_›, ‹_›, ‹_›, ‹_›, ‹_›⟩).2] <;> rfl)
                · first
                | omega | contradiction
                | refine Ev.skip ?_; show Ev _ _ _ _; refine Ev.sr fun K hK => S.o q.as (S.end (hK _ ?_)); clear hK K; refine Ev.ret ?_; refine Ev.ret1 ?_; refine ⟨?_, rfl⟩
                  first | (subst k; rfl) | (rw [(legsL_none ⟨‹_›, ‹_›, ‹_›, ‹_›, ‹_›, ‹_›, ‹_›, ‹_›⟩).2] <;> rfl)
theorem rvalid_fun (b : Bar) (hw : b.w) : Fun Tryz.prog 61 [.agg b.c] (Ret (.lit (.bool (decide (okBar b)))) []) := by
  obtain ⟨hw1, hw2⟩ := hw; have hok : okBar b ↔ IsName b.mark ∧ b.size ∈ sizes ∧ 1 ≤ b.count ∧ b.count ≤ 1000 ∧ dimsN b.code ≠ 0 ∧ (b.dims.length : Int) = dimsN b.code ∧ dimsOK b.dims := Iff.rfl; obtain ⟨d1, d2, d3, d4⟩ := dims_eq b.code; refine Fun.of (nt := 70) (rs := [.tmp 2]) Tryz.func61 rfl rfl rfl rfl rfl ?_; refine Ev.sr fun K hK => S.nn (q.bx [_, _, _, _, _] true) (S.o q.as (S.end (hK _ ?_))); clear hK K; refine Ev.seq ?_; refine Ev.sm (tbs [(0, 0), (1, 1), (2, 3), (3, 7), (4, 15), (5, 31), (6, 63), (7, 127), (8, 255), (9, 511), (10, 1023), (11, 2047), (12, 4095), (13, 8191), (14, 16383), (15, 32767), (16, 65535), (17, 131071), (18, 262143), (19, 524287), (20, 1048575), (21, 2097151), (22, 4194303), (23, 8388607), (24, 16777215), (25, 33554431), (26, 67108863), (27, 134217727), (28, 268435455), (29, 536870911), (27, 134217727), (31, 1207959551), (32, 3355443199), (33, 8589934591), (34, 17179869183)]) 35 fun K hK => M.o (q.fa 0 am_fi56_0 am_cl9) (M.o (q.lv am_ag9) (M.c0 (hF := risName_fun _ (by omega)) (h := M.o q.not (M.bn q.mv (fun c1 => ?_) (fun c1 => ?_)))))
  · first
  | omega | contradiction
  | refine M.sk (M.sk (M.sk (M.sk (M.o q.pt (M.o q.mv (M.sk (M.sk (M.sk (M.o q.pt (M.o q.mv (M.sk (M.sk (M.sk (M.o q.pt (M.o q.mv (M.sk (M.sk (M.sk (M.sk (M.o q.pt (M.o q.mv (M.sk (M.sk (M.sk (M.sk (M.sk (M.sk (M.sk (M.o q.pt (M.end [_] (h := S.end (hK _ ?_)))))))))))))))))))))))))))))))); clear hK K; refine Ev.ct ?_; refine Ev.sr fun K hK => S.o q.as (S.end (hK _ ?_)); clear hK K; refine Ev.ret ?_; refine Ev.ret1 ?_; refine ⟨?_, rfl⟩
    first
     | exact dI ⟨fun h => hok.2 ⟨‹_›, ‹_›, by omega, by omega, by omega, by omega, by rw [← hp]; exact ⟨hinv.1, h⟩⟩, fun h => by have h1 := (hok.1 h).2.2.2.2.2.2.2; rw [← hp] at h1; exact h1⟩
     | exact bF (fun h => absurd (hok.1 h).1 ‹_›)
     | exact bF (fun h => absurd (hok.1 h).2.1 ‹_›)
     | exact bF (fun h => by have h1 := (hok.1 h).2.2.1; have h2 := (hok.1 h).2.2.2.1; have h3 := (hok.1 h).2.2.2.2.1; have h4 := (hok.1 h).2.2.2.2.2.1; omega)
     | exact bF (fun h => by have h1 := dims_cut hp (hok.1 h).2.2.2.2.2.2; omega)
  · first
  | omega | contradiction
  | refine M.o (q.fa 1 am_fi56_1 am_cl3) (M.o (q.lv am_ag3) (M.c0 (hF := rsize_fun _) (h := M.o q.not (M.o q.pf (M.bn q.mv (fun c2 => ?_) (fun c2 => ?_))))))
    · first
    | omega | contradiction
    | refine M.sk (M.sk (M.sk (M.o q.pt (M.o q.mv (M.sk (M.sk (M.sk (M.o q.pt (M.o q.mv (M.sk (M.sk (M.sk (M.sk (M.o q.pt (M.o q.mv (M.sk (M.sk (M.sk (M.sk (M.sk (M.sk (M.sk (M.o q.pt (M.end [_] (h := S.end (hK _ ?_)))))))))))))))))))))))))); clear hK K; refine Ev.ct ?_; refine Ev.sr fun K hK => S.o q.as (S.end (hK _ ?_)); clear hK K; refine Ev.ret ?_; refine Ev.ret1 ?_; refine ⟨?_, rfl⟩
      first
       | exact dI ⟨fun h => hok.2 ⟨‹_›, ‹_›, by omega, by omega, by omega, by omega, by rw [← hp]; exact ⟨hinv.1, h⟩⟩, fun h => by have h1 := (hok.1 h).2.2.2.2.2.2.2; rw [← hp] at h1; exact h1⟩
       | exact bF (fun h => absurd (hok.1 h).1 ‹_›)
       | exact bF (fun h => absurd (hok.1 h).2.1 ‹_›)
       | exact bF (fun h => by have h1 := (hok.1 h).2.2.1; have h2 := (hok.1 h).2.2.2.1; have h3 := (hok.1 h).2.2.2.2.1; have h4 := (hok.1 h).2.2.2.2.2.1; omega)
       | exact bF (fun h => by have h1 := dims_cut hp (hok.1 h).2.2.2.2.2.2; omega)
    · first
    | omega | contradiction
    | refine M.o (q.fa 2 am_fi56_2 am_cl3) (M.o (q.lv am_ag3) (M.o q.lss (M.o q.pf (M.bd q.mv (fun c3 => ?_) (fun c3 => ?_)))))
      · first
      | omega | contradiction
      | refine M.sk (M.sk (M.sk (M.o q.pt (M.o q.mv (M.sk (M.sk (M.sk (M.sk (M.o q.pt (M.o q.mv (M.sk (M.sk (M.sk (M.sk (M.sk (M.sk (M.sk (M.o q.pt (M.end [_] (h := S.end (hK _ ?_))))))))))))))))))))); clear hK K; refine Ev.ct ?_; refine Ev.sr fun K hK => S.o q.as (S.end (hK _ ?_)); clear hK K; refine Ev.ret ?_; refine Ev.ret1 ?_; refine ⟨?_, rfl⟩
        first
         | exact dI ⟨fun h => hok.2 ⟨‹_›, ‹_›, by omega, by omega, by omega, by omega, by rw [← hp]; exact ⟨hinv.1, h⟩⟩, fun h => by have h1 := (hok.1 h).2.2.2.2.2.2.2; rw [← hp] at h1; exact h1⟩
         | exact bF (fun h => absurd (hok.1 h).1 ‹_›)
         | exact bF (fun h => absurd (hok.1 h).2.1 ‹_›)
         | exact bF (fun h => by have h1 := (hok.1 h).2.2.1; have h2 := (hok.1 h).2.2.2.1; have h3 := (hok.1 h).2.2.2.2.1; have h4 := (hok.1 h).2.2.2.2.2.1; omega)
         | exact bF (fun h => by have h1 := dims_cut hp (hok.1 h).2.2.2.2.2.2; omega)
      · first
      | omega | contradiction
      | refine M.o (q.fa 2 am_fi56_2 am_cl3) (M.o (q.lv am_ag3) (M.o q.gtr (M.o q.pf (M.bd q.mv (fun c4 => ?_) (fun c4 => ?_)))))
        · first
        | omega | contradiction
        | refine M.sk (M.sk (M.sk (M.sk (M.o q.pt (M.o q.mv (M.sk (M.sk (M.sk (M.sk (M.sk (M.sk (M.sk (M.o q.pt (M.end [_] (h := S.end (hK _ ?_)))))))))))))))); clear hK K; refine Ev.ct ?_; refine Ev.sr fun K hK => S.o q.as (S.end (hK _ ?_)); clear hK K; refine Ev.ret ?_; refine Ev.ret1 ?_; refine ⟨?_, rfl⟩
          first
           | exact dI ⟨fun h => hok.2 ⟨‹_›, ‹_›, by omega, by omega, by omega, by omega, by rw [← hp]; exact ⟨hinv.1, h⟩⟩, fun h => by have h1 := (hok.1 h).2.2.2.2.2.2.2; rw [← hp] at h1; exact h1⟩
           | exact bF (fun h => absurd (hok.1 h).1 ‹_›)
           | exact bF (fun h => absurd (hok.1 h).2.1 ‹_›)
           | exact bF (fun h => by have h1 := (hok.1 h).2.2.1; have h2 := (hok.1 h).2.2.2.1; have h3 := (hok.1 h).2.2.2.2.1; have h4 := (hok.1 h).2.2.2.2.2.1; omega)
           | exact bF (fun h => by have h1 := dims_cut hp (hok.1 h).2.2.2.2.2.2; omega)
        · first
        | omega | contradiction
        | refine M.o (q.fa 3 am_fi56_3 am_cl3) (M.o (q.lv am_ag3) (M.c0 (hF := rdims_fun _) (h := M.o q.eql (M.o q.pf (M.bd q.mv (fun c5 => ?_) (fun c5 => ?_))))))
          · first
          | omega | contradiction
          | refine M.sk (M.sk (M.sk (M.sk (M.sk (M.sk (M.sk (M.o q.pt (M.end [_] (h := S.end (hK _ ?_)))))))))); clear hK K; refine Ev.ct ?_; refine Ev.sr fun K hK => S.o q.as (S.end (hK _ ?_)); clear hK K; refine Ev.ret ?_; refine Ev.ret1 ?_; refine ⟨?_, rfl⟩
            first
             | exact dI ⟨fun h => hok.2 ⟨‹_›, ‹_›, by omega, by omega, by omega, by omega, by rw [← hp]; exact ⟨hinv.1, h⟩⟩, fun h => by have h1 := (hok.1 h).2.2.2.2.2.2.2; rw [← hp] at h1; exact h1⟩
             | exact bF (fun h => absurd (hok.1 h).1 ‹_›)
             | exact bF (fun h => absurd (hok.1 h).2.1 ‹_›)
             | exact bF (fun h => by have h1 := (hok.1 h).2.2.1; have h2 := (hok.1 h).2.2.2.1; have h3 := (hok.1 h).2.2.2.2.1; have h4 := (hok.1 h).2.2.2.2.2.1; omega)
             | exact bF (fun h => by have h1 := dims_cut hp (hok.1 h).2.2.2.2.2.2; omega)
          · first
          | omega | contradiction
          | refine M.o (q.fa 4 am_fi56_4 am_cl54) (M.o (q.lv am_ag54) (M.o (q.lens am_el54) (M.o (q.fa 3 am_fi56_3 am_cl3) (M.o (q.lv am_ag3) (M.c0 (hF := rdims_fun _) (h := M.o q.neq (M.o q.pf (M.end [_] (h := S.end (hK _ ?_)))))))))); clear hK K; refine Ev.cn (fun c6 => ?_) (fun c6 => ?_)
            · first
            | omega | contradiction
            | refine Ev.sr fun K hK => S.o q.as (S.end (hK _ ?_)); clear hK K; refine Ev.ret ?_; refine Ev.ret1 ?_; refine ⟨?_, rfl⟩
              first
               | exact dI ⟨fun h => hok.2 ⟨‹_›, ‹_›, by omega, by omega, by omega, by omega, by rw [← hp]; exact ⟨hinv.1, h⟩⟩, fun h => by have h1 := (hok.1 h).2.2.2.2.2.2.2; rw [← hp] at h1; exact h1⟩
               | exact bF (fun h => absurd (hok.1 h).1 ‹_›)
               | exact bF (fun h => absurd (hok.1 h).2.1 ‹_›)
               | exact bF (fun h => by have h1 := (hok.1 h).2.2.1; have h2 := (hok.1 h).2.2.2.1; have h3 := (hok.1 h).2.2.2.2.1; have h4 := (hok.1 h).2.2.2.2.2.1; omega)
               | exact bF (fun h => by have h1 := dims_cut hp (hok.1 h).2.2.2.2.2.2; omega)
            · first
            | omega | contradiction
            | refine Ev.skip ?_; show Ev _ _ _ _; refine Ev.sr fun K hK => S.o q.as (S.end (hK _ ?_)); clear hK K; refine Ev.seq ?_; refine Ev.sr fun K hK => S.o q.as (S.end (hK _ ?_)); clear hK K; refine Ev.block ?_; refine Ev.loopU (ι := {q : List Int × List Int // q.1 ++ q.2 = b.dims ∧ (∀ n ∈ q.1, 1 ≤ n) ∧ sumI q.1 ≤ 1048576 * q.1.length}) [0] [1] (fun ⟨(pre, suf), _⟩ => [(4, .lit (.int .i64 ((pre.length : Int)))), (3, .lit (.int .i64 (sumI pre)))]) (fun ⟨(pre, suf), _⟩ => [(0, ⟨false, 56, 5, [[.lit (str (b.mark)), .lit (.int .i64 (b.size)), .lit (.int .i64 (b.count)), .lit (.int .i64 (b.code)), .sh 1 ((b.dims).map intC)]], true⟩)]) (fun ⟨(pre, suf), _⟩ => suf.length) ⟨([], b.dims), rfl, fun n hn => by simp at hn, (show sumI [] ≤ 1048576 * (([] : List Int).length : Int) by decide)⟩ (.c .n) (keep_c (he := (by first | rfl | (simp; done))) (h := keep_n)) (slots_c (he := (by first | rfl | (congr 2; simp; done))) (h := (slots_c (he := (by first | rfl | (congr 2; rw [sumI_app, show sumI [s] = s by simp [sumI]]; done))) (h := trivial)))) ?_; rintro ⟨⟨pre, suf⟩, hp, hinv⟩ R0 hR0; dsimp only [List.cons_append, List.nil_append, List.length_cons, List.length_nil]
              simp only at hp hinv
              have hpl : pre.length + suf.length = (b.dims).length := by rw [← hp, List.length_append]
              rcases suf with _ | ⟨s, suf⟩
              · rw [List.append_nil] at hp; simp only [List.length_nil] at hpl; refine Ev.seq ?_; refine Ev.sr fun K hK => S.o q.mv (S.o (q.fa 4 am_fi56_4 am_cl54) (S.o (q.lv am_ag54) (S.o (q.lens am_el54) (S.o q.lss (S.end (hK _ ?_)))))); clear hK K; refine Ev.cd (fun c7 => ?_) (fun c7 => ?_)
                · first
                | omega | contradiction
                | refine Ev.skip ?_; show Ev _ _ _ _; refine Ev.seq ?_; refine Ev.block ?_; refine Ev.seq ?_; refine Ev.sr fun K hK => S.o (q.fa 4 am_fi56_4 am_cl54) (S.o (q.lv am_ag54) (S.o q.mv (S.o (q.ix am_el54 am_cl3 (hl := (by first | exact atig (by omega)))) (S.o (q.ls am_ag3) (S.o q.lss (S.bd q.mv (fun c8 => ?_) (fun c8 => ?_)))))))
                  · first
                  | omega | contradiction
                  | refine S.sk (S.sk (S.sk (S.sk (S.sk (S.sk (S.o q.pt (S.end (hK _ ?_)))))))); clear hK K; refine Ev.ct ?_; refine Ev.sr fun K hK => S.o q.as (S.end (hK _ ?_)); clear hK K; refine Ev.ret ?_; refine hR0 _ _ ?_; refine Ev.ret1 ?_; refine ⟨?_, rfl⟩
                    first
                     | exact dI ⟨fun h => hok.2 ⟨‹_›, ‹_›, by omega, by omega, by omega, by omega, by rw [← hp]; exact ⟨hinv.1, h⟩⟩, fun h => by have h1 := (hok.1 h).2.2.2.2.2.2.2; rw [← hp] at h1; exact h1⟩
                     | exact bF (fun h => absurd (hok.1 h).1 ‹_›)
                     | exact bF (fun h => absurd (hok.1 h).2.1 ‹_›)
                     | exact bF (fun h => by have h1 := (hok.1 h).2.2.1; have h2 := (hok.1 h).2.2.2.1; have h3 := (hok.1 h).2.2.2.2.1; have h4 := (hok.1 h).2.2.2.2.2.1; omega)
                     | exact bF (fun h => by have h1 := dims_cut hp (hok.1 h).2.2.2.2.2.2; omega)
                  · first
                  | omega | contradiction
                  | refine S.o (q.fa 4 am_fi56_4 am_cl54) (S.o (q.lv am_ag54) (S.o q.mv (S.o (q.ix am_el54 am_cl3 (hl := (by first | exact atig (by omega)))) (S.o (q.ls am_ag3) (S.o q.gtr (S.o q.pf (S.end (hK _ ?_)))))))); clear hK K; refine Ev.cd (fun c9 => ?_) (fun c9 => ?_)
                    · first
                    | omega | contradiction
                    | refine Ev.sr fun K hK => S.o q.as (S.end (hK _ ?_)); clear hK K; refine Ev.ret ?_; refine hR0 _ _ ?_; refine Ev.ret1 ?_; refine ⟨?_, rfl⟩
                      first
                       | exact dI ⟨fun h => hok.2 ⟨‹_›, ‹_›, by omega, by omega, by omega, by omega, by rw [← hp]; exact ⟨hinv.1, h⟩⟩, fun h => by have h1 := (hok.1 h).2.2.2.2.2.2.2; rw [← hp] at h1; exact h1⟩
                       | exact bF (fun h => absurd (hok.1 h).1 ‹_›)
                       | exact bF (fun h => absurd (hok.1 h).2.1 ‹_›)
                       | exact bF (fun h => by have h1 := (hok.1 h).2.2.1; have h2 := (hok.1 h).2.2.2.1; have h3 := (hok.1 h).2.2.2.2.1; have h4 := (hok.1 h).2.2.2.2.2.1; omega)
                       | exact bF (fun h => by have h1 := dims_cut hp (hok.1 h).2.2.2.2.2.2; omega)
                    · first
                    | omega | contradiction
                    | refine Ev.skip ?_; show Ev _ _ _ _; refine Ev.region_S fun K hK => S.o q.mv (S.o (q.fa 4 am_fi56_4 am_cl54) (S.o (q.lv am_ag54) (S.o q.mv (S.o (q.ix am_el54 am_cl3 (hl := (by first | exact atig (by omega)))) (S.o (q.ls am_ag3) (S.o q.add (S.o q.as (S.end (hK _ ?_))))))))); clear hK K; show Ev _ _ _ _; refine Ev.region_S fun K hK => S.o q.mv (S.o q.add (S.o q.as (S.end (hK _ ?_)))); clear hK K; refine hR0 _ _ ?_; refine roundU [0] [1] ⟨(pre ++ [s], suf), by rw [← hp]; simp, ?_⟩ ?_ (keep_c (he := (by first | rfl | (simp; done))) (h := keep_n)) (slots_c (he := (by first | rfl | (congr 2; simp; done))) (h := (slots_c (he := (by first | rfl | (congr 2; rw [sumI_app, show sumI [s] = s by simp [sumI]]; done))) (h := trivial)))) (.c .n); refine ⟨fun n hn => ?_, by rw [sumI_app, show sumI [s] = s by simp [sumI]]; simp only [List.length_append, List.length_cons, List.length_nil]; omega⟩; simp only [List.mem_append, List.mem_singleton] at hn
                      rcases hn with hn | rfl
                      · exact hinv.1 n hn
                      · omega
                      all_goals (dsimp only; simp only [List.length_cons]; omega)
                · first
                | omega | contradiction
                | refine Ev.exit ?_; refine hR0 _ _ ?_; show Ev _ _ _ _; refine Ev.sr fun K hK => S.o q.mv (S.o q.leq (S.o q.as (S.end (hK _ ?_)))); clear hK K; refine Ev.ret ?_; refine Ev.ret1 ?_; refine ⟨?_, rfl⟩
                  first
                   | exact dI ⟨fun h => hok.2 ⟨‹_›, ‹_›, by omega, by omega, by omega, by omega, by rw [← hp]; exact ⟨hinv.1, h⟩⟩, fun h => by have h1 := (hok.1 h).2.2.2.2.2.2.2; rw [← hp] at h1; exact h1⟩
                   | exact bF (fun h => absurd (hok.1 h).1 ‹_›)
                   | exact bF (fun h => absurd (hok.1 h).2.1 ‹_›)
                   | exact bF (fun h => by have h1 := (hok.1 h).2.2.1; have h2 := (hok.1 h).2.2.2.1; have h3 := (hok.1 h).2.2.2.2.1; have h4 := (hok.1 h).2.2.2.2.2.1; omega)
                   | exact bF (fun h => by have h1 := dims_cut hp (hok.1 h).2.2.2.2.2.2; omega)
              · simp only [List.length_cons] at hpl
                have hidx : b.dims[pre.length]? = some s := by rw [← hp]; simp
                have hnn := sumI_nn pre hinv.1; have hle := hinv.2; refine Ev.seq ?_; refine Ev.sr fun K hK => S.o q.mv (S.o (q.fa 4 am_fi56_4 am_cl54) (S.o (q.lv am_ag54) (S.o (q.lens am_el54) (S.o q.lss (S.end (hK _ ?_)))))); clear hK K; refine Ev.cd (fun c10 => ?_) (fun c10 => ?_)
                · first
                | omega | contradiction
                | refine Ev.skip ?_; show Ev _ _ _ _; refine Ev.seq ?_; refine Ev.block ?_; refine Ev.seq ?_; refine Ev.sr fun K hK => S.o (q.fa 4 am_fi56_4 am_cl54) (S.o (q.lv am_ag54) (S.o q.mv (S.o (q.ix am_el54 am_cl3 (hl := (by first | exact ati hidx (by omega) | exact atig (by omega)))) (S.o (q.ls am_ag3) (S.o q.lss (S.bd q.mv (fun c11 => ?_) (fun c11 => ?_)))))))
                  · first
                  | omega | contradiction
                  | refine S.sk (S.sk (S.sk (S.sk (S.sk (S.sk (S.o q.pt (S.end (hK _ ?_)))))))); clear hK K; refine Ev.ct ?_; refine Ev.sr fun K hK => S.o q.as (S.end (hK _ ?_)); clear hK K; refine Ev.ret ?_; refine hR0 _ _ ?_; refine Ev.ret1 ?_; refine ⟨?_, rfl⟩
                    first
                     | exact dI ⟨fun h => hok.2 ⟨‹_›, ‹_›, by omega, by omega, by omega, by omega, by rw [← hp]; exact ⟨hinv.1, h⟩⟩, fun h => by have h1 := (hok.1 h).2.2.2.2.2.2.2; rw [← hp] at h1; exact h1⟩
                     | exact bF (fun h => absurd (hok.1 h).1 ‹_›)
                     | exact bF (fun h => absurd (hok.1 h).2.1 ‹_›)
                     | exact bF (fun h => by have h1 := (hok.1 h).2.2.1; have h2 := (hok.1 h).2.2.2.1; have h3 := (hok.1 h).2.2.2.2.1; have h4 := (hok.1 h).2.2.2.2.2.1; omega)
                     | exact bF (fun h => by have h1 := dims_cut hp (hok.1 h).2.2.2.2.2.2; omega)
                  · first
                  | omega | contradiction
                  | refine S.o (q.fa 4 am_fi56_4 am_cl54) (S.o (q.lv am_ag54) (S.o q.mv (S.o (q.ix am_el54 am_cl3 (hl := (by first | exact ati hidx (by omega) | exact atig (by omega)))) (S.o (q.ls am_ag3) (S.o q.gtr (S.o q.pf (S.end (hK _ ?_)))))))); clear hK K; refine Ev.cd (fun c12 => ?_) (fun c12 => ?_)
                    · first
                    | omega | contradiction
                    | refine Ev.sr fun K hK => S.o q.as (S.end (hK _ ?_)); clear hK K; refine Ev.ret ?_; refine hR0 _ _ ?_; refine Ev.ret1 ?_; refine ⟨?_, rfl⟩
                      first
                       | exact dI ⟨fun h => hok.2 ⟨‹_›, ‹_›, by omega, by omega, by omega, by omega, by rw [← hp]; exact ⟨hinv.1, h⟩⟩, fun h => by have h1 := (hok.1 h).2.2.2.2.2.2.2; rw [← hp] at h1; exact h1⟩
                       | exact bF (fun h => absurd (hok.1 h).1 ‹_›)
                       | exact bF (fun h => absurd (hok.1 h).2.1 ‹_›)
                       | exact bF (fun h => by have h1 := (hok.1 h).2.2.1; have h2 := (hok.1 h).2.2.2.1; have h3 := (hok.1 h).2.2.2.2.1; have h4 := (hok.1 h).2.2.2.2.2.1; omega)
                       | exact bF (fun h => by have h1 := dims_cut hp (hok.1 h).2.2.2.2.2.2; omega)
                    · first
                    | omega | contradiction
                    | refine Ev.skip ?_; show Ev _ _ _ _; refine Ev.region_S fun K hK => S.o q.mv (S.o (q.fa 4 am_fi56_4 am_cl54) (S.o (q.lv am_ag54) (S.o q.mv (S.o (q.ix am_el54 am_cl3 (hl := (by first | exact ati hidx (by omega) | exact atig (by omega)))) (S.o (q.ls am_ag3) (S.o q.add (S.o q.as (S.end (hK _ ?_))))))))); clear hK K; show Ev _ _ _ _; refine Ev.region_S fun K hK => S.o q.mv (S.o q.add (S.o q.as (S.end (hK _ ?_)))); clear hK K; refine hR0 _ _ ?_; refine roundU [0] [1] ⟨(pre ++ [s], suf), by rw [← hp]; simp, ?_⟩ ?_ (keep_c (he := (by first | rfl | (simp; done))) (h := keep_n)) (slots_c (he := (by first | rfl | (congr 2; simp; done))) (h := (slots_c (he := (by first | rfl | (congr 2; rw [sumI_app, show sumI [s] = s by simp [sumI]]; done))) (h := trivial)))) (.c .n); refine ⟨fun n hn => ?_, by rw [sumI_app, show sumI [s] = s by simp [sumI]]; simp only [List.length_append, List.length_cons, List.length_nil]; omega⟩; simp only [List.mem_append, List.mem_singleton] at hn
                      rcases hn with hn | rfl
                      · exact hinv.1 n hn
                      · omega
                      all_goals (dsimp only; simp only [List.length_cons]; omega)
                · first
                | omega | contradiction
                | refine Ev.exit ?_; refine hR0 _ _ ?_; show Ev _ _ _ _; refine Ev.sr fun K hK => S.o q.mv (S.o q.leq (S.o q.as (S.end (hK _ ?_)))); clear hK K; refine Ev.ret ?_; refine Ev.ret1 ?_; refine ⟨?_, rfl⟩
                  first
                   | exact dI ⟨fun h => hok.2 ⟨‹_›, ‹_›, by omega, by omega, by omega, by omega, by rw [← hp]; exact ⟨hinv.1, h⟩⟩, fun h => by have h1 := (hok.1 h).2.2.2.2.2.2.2; rw [← hp] at h1; exact h1⟩
                   | exact bF (fun h => absurd (hok.1 h).1 ‹_›)
                   | exact bF (fun h => absurd (hok.1 h).2.1 ‹_›)
                   | exact bF (fun h => by have h1 := (hok.1 h).2.2.1; have h2 := (hok.1 h).2.2.2.1; have h3 := (hok.1 h).2.2.2.2.1; have h4 := (hok.1 h).2.2.2.2.2.1; omega)
                   | exact bF (fun h => by have h1 := dims_cut hp (hok.1 h).2.2.2.2.2.2; omega)
end Go.Proofs.YthpjfkmhpoeojaaGreatDoor
