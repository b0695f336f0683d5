/-
  Chapter 23: Peak, At and In, walked.
  Conditions: none.
-/
import Derived.Test.YtdegjlhcchimbaaDoorDm3
namespace Go.Proofs.YtdegjlhcchimbaaDoor
open Go Go.AM
set_option linter.unusedSimpArgs false
set_option linter.unusedVariables false
set_option maxRecDepth 100000
set_option maxHeartbeats 1000000

def inB (a b : Bx) : Prop := (b.ly ≤ a.ly ∧ a.hy ≤ b.hy) ∧ b.lz ≤ a.lz ∧ a.hz ≤ b.hz
instance (a b) : Decidable (inB a b) := by unfold inB; infer_instance
/-- The greatest value, and where it first is. -/
def bestF (s0 : Int × Int) (l : List (Int × Int)) : Int × Int := l.foldl (fun m s => if m.2 < s.2 then s else m) s0
theorem best_t {s0 : Int × Int} {l : List (Int × Int)} {x y : Int} (h : y > (bestF s0 l).2) : bestF s0 (l ++ [(x, y)]) = (x, y) := by rw [bestF, List.foldl_append]; exact if_pos h
theorem best_f {s0 : Int × Int} {l : List (Int × Int)} {x y : Int} (h : ¬ y > (bestF s0 l).2) : bestF s0 (l ++ [(x, y)]) = bestF s0 l := by rw [bestF, List.foldl_append]; exact if_neg h
def pkS (d : Dem) : Int × Int := if okDem d then (match d.steps with | [] => (0, 0) | s :: l => bestF s (s :: l)) else (0, 0)
def pkE (d : Dem) : Int := if okDem d then (if d.steps.length = 0 then 14 else 0) else 1
theorem pk_no {d : Dem} (h : ¬ okDem d) : pkS d = (0, 0) ∧ pkE d = 1 := ⟨if_neg h, if_neg h⟩
theorem pk_nil {d : Dem} (h : okDem d) (h0 : d.steps.length = 0) : pkS d = (0, 0) ∧ pkE d = 14 := by
  have e : d.steps = [] := List.eq_nil_of_length_eq_zero h0
  exact ⟨by rw [pkS, if_pos h, e], by rw [pkE, if_pos h, if_pos h0]⟩
theorem pk_cons {d : Dem} (h : okDem d) {s : Int × Int} {l : List (Int × Int)} (h0 : d.steps = s :: l) : pkS d = bestF s d.steps ∧ pkE d = 0 := by
  refine ⟨by rw [pkS, if_pos h, h0], by rw [pkE, if_pos h, if_neg (by rw [h0]; simp)]⟩
theorem within_fun (a b c d : Int) : Fun Tryd.prog 45 [.lit (.int .i64 a), .lit (.int .i64 b), .lit (.int .i64 c), .lit (.int .i64 d)] (Ret (.lit (.bool (decide (c ≤ a ∧ b ≤ d)))) []) := by
  refine Fun.of (nt := 17) (rs := [.tmp 8]) Tryd.func45 rfl rfl rfl rfl rfl ?_
  refine Ev.sr fun K hK => S.o q.as (S.end (hK _ ?_))
  clear hK K
  refine Ev.sr fun K hK => S.o q.mv (S.o q.mv (S.o q.geq (S.bd q.mv (fun c1 => ?_) (fun c1 => ?_))))
  · first
  | (first | omega | contradiction)
  | refine S.o q.mv (S.o q.mv (S.o q.leq (S.o q.pt (S.o q.as (S.end (hK _ ?_))))))
    clear hK K
    refine Ev.ret ?_
    refine Ev.ret1 ?_
    refine ⟨?_, rfl⟩
    first | exact bF (by omega) | exact dI (by omega)
  · first
  | (first | omega | contradiction)
  | refine S.sk (S.sk (S.sk (S.o q.pf (S.o q.as (S.end (hK _ ?_))))))
    clear hK K
    refine Ev.ret ?_
    refine Ev.ret1 ?_
    refine ⟨?_, rfl⟩
    first | exact bF (by omega) | exact dI (by omega)
theorem inside_fun (a b : Bx) : Fun Tryd.prog 26 [.agg a.c, .agg b.c] (Ret (.lit (.bool (decide (inB a b)))) []) := by
  refine Fun.of (nt := 33) (rs := [.tmp 4]) Tryd.func26 rfl rfl rfl rfl rfl ?_
  refine Ev.sr fun K hK => S.nn (q.bx [_, _, _, _, _, _] true) (S.nn (q.bx [_, _, _, _, _, _] true) (S.o q.as (S.end (hK _ ?_))))
  clear hK K
  refine Ev.sr fun K hK => S.o (q.fa 0 am_fi26_0 am_cl24) (S.o (q.fa 1 am_fi24_1 am_cl3) (S.o (q.lv am_ag3) (S.o (q.fa 3 am_fi26_1 am_cl24) (S.o (q.fa 4 am_fi24_1 am_cl3) (S.o (q.lv am_ag3) (S.o (q.fa 0 am_fi26_0 am_cl24) (S.o (q.fa 1 am_fi24_1 am_cl3) (S.o (q.lv am_ag3) (S.o (q.fa 3 am_fi26_1 am_cl24) (S.o (q.fa 4 am_fi24_1 am_cl3) (S.o (q.lv am_ag3) (S.c0 (hF := within_fun _ _ _ _) (h := S.bd q.mv (fun c1 => ?_) (fun c1 => ?_))))))))))))))
  · first
  | (first | omega | contradiction)
  | refine S.o (q.fa 0 am_fi26_0 am_cl24) (S.o (q.fa 2 am_fi24_2 am_cl3) (S.o (q.lv am_ag3) (S.o (q.fa 3 am_fi26_1 am_cl24) (S.o (q.fa 5 am_fi24_2 am_cl3) (S.o (q.lv am_ag3) (S.o (q.fa 0 am_fi26_0 am_cl24) (S.o (q.fa 2 am_fi24_2 am_cl3) (S.o (q.lv am_ag3) (S.o (q.fa 3 am_fi26_1 am_cl24) (S.o (q.fa 5 am_fi24_2 am_cl3) (S.o (q.lv am_ag3) (S.c0 (hF := within_fun _ _ _ _) (h := S.o q.pt (S.o q.as (S.end (hK _ ?_))))))))))))))))
    clear hK K
    refine Ev.ret ?_
    refine Ev.ret1 ?_
    refine ⟨?_, rfl⟩
    first | exact bF (fun h => by have := h.1; omega) | exact dI ⟨fun h => ⟨by omega, h⟩, fun h => h.2⟩
  · first
  | (first | omega | contradiction)
  | refine S.sk (S.sk (S.sk (S.sk (S.sk (S.sk (S.sk (S.sk (S.sk (S.sk (S.sk (S.sk (S.sk (S.o q.pf (S.o q.as (S.end (hK _ ?_))))))))))))))))
    clear hK K
    refine Ev.ret ?_
    refine Ev.ret1 ?_
    refine ⟨?_, rfl⟩
    first | exact bF (fun h => by have := h.1; omega) | exact dI ⟨fun h => ⟨by omega, h⟩, fun h => h.2⟩
def atDV (d : Dem) (x : Int) : Int := if okDem d then atF 0 d.steps x else 0
def okE1 (p : Prop) [Decidable p] : Int := if p then 0 else 1
theorem atD_y {d : Dem} {x : Int} (h : okDem d) : atDV d x = atF 0 d.steps x ∧ okE1 (okDem d) = 0 ∧ atV d.steps x = atF 0 d.steps x ∧ atE d.steps = 0 := ⟨if_pos h, if_pos h, if_pos h.2.2, if_pos h.2.2⟩
theorem atD_n {d : Dem} {x : Int} (h : ¬ okDem d) : atDV d x = 0 ∧ okE1 (okDem d) = 1 := ⟨if_neg h, if_neg h⟩
theorem demAt_fun (d : Dem) (x : Int) (hw : d.w) : Fun Tryd.prog 17 [.agg d.c, .lit (.int .i64 x)] (Ret (.tup [.lit (.int .i64 (atDV d x)), .lit (.int .i64 (okE1 (okDem d)))]) []) := by
  obtain ⟨hw1, hw2⟩ := id hw
  refine Fun.of (nt := 15) (rs := [.tmp 4, .tmp 5]) Tryd.func17 rfl rfl rfl rfl rfl ?_
  refine Ev.sr fun K hK => S.nn (q.bx [_, _, _, _, _, _, _, _] true) (S.o q.as (S.o q.as (S.end (hK _ ?_))))
  clear hK K
  refine Ev.seq ?_
  refine Ev.sr fun K hK => S.o (q.lvA [_, _, _, _, _, _, _, _] am_ag48 am_cl48) (S.c0 (hF := right_fun _ (by assumption)) (h := S.o q.not (S.end (hK _ ?_))))
  clear hK K
  refine Ev.cn (fun c1 => ?_) (fun c1 => ?_)
  · first
  | (first | omega | contradiction)
  | obtain ⟨e1, e2⟩ := atD_n (x := x) ‹¬ okDem d›
    rw [e1, e2]
    refine Ev.sr fun K hK => S.o q.as (S.o q.as (S.end (hK _ ?_)))
    clear hK K
    refine Ev.ret ?_
    refine Ev.ret2 ?_
    refine ⟨?_, rfl⟩
    first | rfl | (rw [e3, e4]; done)
  · first
  | (first | omega | contradiction)
  | refine Ev.skip ?_
    show Ev _ _ _ _
    obtain ⟨e1, e2, e3, e4⟩ := atD_y (x := x) ‹okDem d›
    rw [e1, e2]
    refine Ev.sr fun K hK => S.o (q.fa 7 am_fi48_2 am_cl29) (S.o (q.lv am_ag29) (S.o q.mv (S.c0 (hF := At_fun d.steps x (by omega)) (h := S.o q.ex (S.o q.ex (S.o q.as (S.o q.as (S.end (hK _ ?_)))))))))
    clear hK K
    refine Ev.ret ?_
    refine Ev.ret2 ?_
    refine ⟨?_, rfl⟩
    first | rfl | (rw [e3, e4]; done)
def inDV (d : Dem) (b : Bx) : Prop := okDem d ∧ okBx b ∧ b.ly = b.hy ∧ b.lz = b.hz ∧ inB b d.zone
instance (d b) : Decidable (inDV d b) := by unfold inDV; infer_instance
def inDE (d : Dem) (b : Bx) : Int := okE1 (okDem d ∧ okBx b)
theorem demIn_fun (d : Dem) (b : Bx) (hw : d.w) : Fun Tryd.prog 22 [.agg d.c, .agg b.c] (Ret (.tup [.lit (.bool (decide (inDV d b))), .lit (.int .i64 (inDE d b))]) []) := by
  refine Fun.of (nt := 36) (rs := [.tmp 4, .tmp 5]) Tryd.func22 rfl rfl rfl rfl rfl ?_
  refine Ev.sr fun K hK => S.nn (q.bx [_, _, _, _, _, _, _, _] true) (S.nn (q.bx [_, _, _, _, _, _] true) (S.o q.as (S.o q.as (S.end (hK _ ?_)))))
  clear hK K
  refine Ev.seq ?_
  refine Ev.sr fun K hK => S.o (q.lvA [_, _, _, _, _, _, _, _] am_ag48 am_cl48) (S.c0 (hF := right_fun _ (by assumption)) (h := S.o q.not (S.bn q.mv (fun c1 => ?_) (fun c1 => ?_))))
  · first
  | (first | omega | contradiction)
  | refine S.sk (S.sk (S.sk (S.o q.pt (S.end (hK _ ?_)))))
    clear hK K
    refine Ev.ct ?_
    have hno : ¬ (okDem d ∧ okBx b) := by rintro ⟨h1, h2⟩; first | exact absurd h1 ‹_› | exact absurd h2 ‹_›
    rw [show inDE d b = 1 from if_neg hno, decide_eq_false (show ¬ inDV d b from fun h => hno ⟨h.1, h.2.1⟩)]
    refine Ev.sr fun K hK => S.o q.as (S.o q.as (S.end (hK _ ?_)))
    clear hK K
    refine Ev.ret ?_
    refine Ev.ret2 ?_
    refine ⟨?_, rfl⟩
    first
     | rfl
     | (rw [decide_eq_false (show ¬ inDV d b from fun h => by have h1 := h.2.2.1; omega)]; done)
     | (rw [decide_eq_false (show ¬ inDV d b from fun h => by have h1 := h.2.2.2.1; omega)]; done)
     | (rw [decide_eq_decide.2 (show inDV d b ↔ inB b d.zone from ⟨fun h => h.2.2.2.2, fun h => ⟨hyes.1, hyes.2, by omega, by omega, h⟩⟩)]; done)
  · first
  | (first | omega | contradiction)
  | refine S.o (q.lvA [_, _, _, _, _, _] am_ag26 am_cl26) (S.c0 (hF := boxValid_fun b) (h := S.o q.not (S.o q.pf (S.end (hK _ ?_)))))
    clear hK K
    refine Ev.cn (fun c2 => ?_) (fun c2 => ?_)
    · first
    | (first | omega | contradiction)
    | have hno : ¬ (okDem d ∧ okBx b) := by rintro ⟨h1, h2⟩; first | exact absurd h1 ‹_› | exact absurd h2 ‹_›
      rw [show inDE d b = 1 from if_neg hno, decide_eq_false (show ¬ inDV d b from fun h => hno ⟨h.1, h.2.1⟩)]
      refine Ev.sr fun K hK => S.o q.as (S.o q.as (S.end (hK _ ?_)))
      clear hK K
      refine Ev.ret ?_
      refine Ev.ret2 ?_
      refine ⟨?_, rfl⟩
      first
       | rfl
       | (rw [decide_eq_false (show ¬ inDV d b from fun h => by have h1 := h.2.2.1; omega)]; done)
       | (rw [decide_eq_false (show ¬ inDV d b from fun h => by have h1 := h.2.2.2.1; omega)]; done)
       | (rw [decide_eq_decide.2 (show inDV d b ↔ inB b d.zone from ⟨fun h => h.2.2.2.2, fun h => ⟨hyes.1, hyes.2, by omega, by omega, h⟩⟩)]; done)
    · first
    | (first | omega | contradiction)
    | refine Ev.skip ?_
      show Ev _ _ _ _
      have hyes : okDem d ∧ okBx b := ⟨‹okDem d›, ‹okBx b›⟩
      rw [show inDE d b = 0 from if_pos hyes]
      refine Ev.sr fun K hK => S.o (q.fa 0 am_fi26_0 am_cl24) (S.o (q.fa 1 am_fi24_1 am_cl3) (S.o (q.lv am_ag3) (S.o (q.fa 3 am_fi26_1 am_cl24) (S.o (q.fa 4 am_fi24_1 am_cl3) (S.o (q.lv am_ag3) (S.o q.eql (S.bd q.mv (fun c3 => ?_) (fun c3 => ?_))))))))
      · first
      | (first | omega | contradiction)
      | refine S.o (q.fa 0 am_fi26_0 am_cl24) (S.o (q.fa 2 am_fi24_2 am_cl3) (S.o (q.lv am_ag3) (S.o (q.fa 3 am_fi26_1 am_cl24) (S.o (q.fa 5 am_fi24_2 am_cl3) (S.o (q.lv am_ag3) (S.o q.eql (S.o q.pt (S.bd q.mv (fun c4 => ?_) (fun c4 => ?_)))))))))
        · first
        | (first | omega | contradiction)
        | refine S.o (q.lvA [_, _, _, _, _, _] am_ag26 am_cl26) (S.o (q.fa 1 am_fi48_1 am_cl26) (S.o (q.lvA [_, _, _, _, _, _] am_ag26 am_cl26) (S.c0 (hF := inside_fun b d.zone) (h := S.o q.pt (S.o q.as (S.o q.as (S.end (hK _ ?_))))))))
          clear hK K
          refine Ev.ret ?_
          refine Ev.ret2 ?_
          refine ⟨?_, rfl⟩
          first
           | rfl
           | (rw [decide_eq_false (show ¬ inDV d b from fun h => by have h1 := h.2.2.1; omega)]; done)
           | (rw [decide_eq_false (show ¬ inDV d b from fun h => by have h1 := h.2.2.2.1; omega)]; done)
           | (rw [decide_eq_decide.2 (show inDV d b ↔ inB b d.zone from ⟨fun h => h.2.2.2.2, fun h => ⟨hyes.1, hyes.2, by omega, by omega, h⟩⟩)]; done)
        · first
        | (first | omega | contradiction)
        | refine S.sk (S.sk (S.sk (S.sk (S.o q.pf (S.o q.as (S.o q.as (S.end (hK _ ?_))))))))
          clear hK K
          refine Ev.ret ?_
          refine Ev.ret2 ?_
          refine ⟨?_, rfl⟩
          first
           | rfl
           | (rw [decide_eq_false (show ¬ inDV d b from fun h => by have h1 := h.2.2.1; omega)]; done)
           | (rw [decide_eq_false (show ¬ inDV d b from fun h => by have h1 := h.2.2.2.1; omega)]; done)
           | (rw [decide_eq_decide.2 (show inDV d b ↔ inB b d.zone from ⟨fun h => h.2.2.2.2, fun h => ⟨hyes.1, hyes.2, by omega, by omega, h⟩⟩)]; done)
      · first
      | (first | omega | contradiction)
      | refine S.sk (S.sk (S.sk (S.sk (S.sk (S.sk (S.sk (S.o q.pf (S.o q.mv (S.sk (S.sk (S.sk (S.sk (S.o q.pf (S.o q.as (S.o q.as (S.end (hK _ ?_)))))))))))))))))
        clear hK K
        refine Ev.ret ?_
        refine Ev.ret2 ?_
        refine ⟨?_, rfl⟩
        first
         | rfl
         | (rw [decide_eq_false (show ¬ inDV d b from fun h => by have h1 := h.2.2.1; omega)]; done)
         | (rw [decide_eq_false (show ¬ inDV d b from fun h => by have h1 := h.2.2.2.1; omega)]; done)
         | (rw [decide_eq_decide.2 (show inDV d b ↔ inB b d.zone from ⟨fun h => h.2.2.2.2, fun h => ⟨hyes.1, hyes.2, by omega, by omega, h⟩⟩)]; done)
def rInP (z b : Bx) : Prop := b.ly = b.hy ∧ b.lz = b.hz ∧ inB b z
instance (z b) : Decidable (rInP z b) := by unfold rInP; infer_instance
theorem demPeak_fun (d : Dem) (hw : d.w) : Fun Tryd.prog 19 [.agg d.c] (Ret (.tup [.lit (.int .i64 (pkS d).2), .lit (.int .i64 (pkS d).1), .lit (.int .i64 (pkE d))]) []) := by
  refine Fun.of (nt := 39) (rs := [.tmp 2, .tmp 3, .tmp 4]) Tryd.func19 rfl rfl rfl rfl rfl ?_
  refine Ev.sr fun K hK => S.nn (q.bx [_, _, _, _, _, _, _, _] true) (S.o q.as (S.o q.as (S.o q.as (S.end (hK _ ?_)))))
  clear hK K
  refine Ev.seq ?_
  refine Ev.block ?_
  refine Ev.sr fun K hK => S.o (q.lvA [_, _, _, _, _, _, _, _] am_ag48 am_cl48) (S.c0 (hF := right_fun _ (by assumption)) (h := S.o q.not (S.o q.as (S.end (hK _ ?_)))))
  clear hK K
  refine Ev.cn (fun c1 => ?_) (fun c1 => ?_)
  · first
  | (first | omega | contradiction)
  | obtain ⟨e1, e2⟩ := pk_no ‹¬ okDem d›
    rw [e1, e2]
    refine Ev.sr fun K hK => S.o q.as (S.o q.as (S.o q.as (S.end (hK _ ?_))))
    clear hK K
    refine Ev.ret ?_
    refine Ev.ret3 ?_
    refine ⟨?_, rfl⟩
    rfl
  · first
  | (first | omega | contradiction)
  | refine Ev.sr fun K hK => S.o (q.fa 7 am_fi48_2 am_cl29) (S.o (q.lv am_ag29) (S.o (q.lens am_el29) (S.o q.eql (S.o q.as (S.end (hK _ ?_))))))
    clear hK K
    refine Ev.cd (fun c2 => ?_) (fun c2 => ?_)
    · first
    | (first | omega | contradiction)
    | obtain ⟨e1, e2⟩ := pk_nil (d := d) ‹okDem d› (by omega)
      rw [e1, e2]
      refine Ev.sr fun K hK => S.o q.as (S.o q.as (S.o q.as (S.end (hK _ ?_))))
      clear hK K
      refine Ev.ret ?_
      refine Ev.ret3 ?_
      refine ⟨?_, rfl⟩
      rfl
    · first
    | (first | omega | contradiction)
    | refine Ev.skip ?_
      show Ev _ _ _ _
      have hl0 : 0 < d.steps.length := by omega
      obtain ⟨⟨ax, ay⟩, rest, hs0⟩ : ∃ s0 rest, d.steps = s0 :: rest := List.exists_cons_of_length_pos hl0
      have hidx0 : d.steps[0]? = some (ax, ay) := by rw [hs0]; rfl
      have hwl := hw.2
      obtain ⟨e1, e2⟩ := pk_cons (d := d) ‹okDem d› hs0
      rw [e1, e2]
      refine Ev.sr fun K hK => S.o (q.fa 7 am_fi48_2 am_cl29) (S.o (q.lv am_ag29) (S.o (q.ix am_el29 am_cl39 (hl := (by first | exact ati hidx0 (by omega) | exact atig (by omega)))) (S.o (q.lsA [_, _] am_ag39 am_cl39) (S.nn (q.al am_ze39) (S.sv [_, _] true [_] am_in39 am_cl39 (h := S.end (hK _ ?_)))))))
      clear hK K
      refine Ev.seq ?_
      refine Ev.sr fun K hK => S.o (q.fa 7 am_fi48_2 am_cl29) (S.o (q.lv am_ag29) (S.o (q.lens am_el29) (S.o q.mv (S.end (hK _ ?_)))))
      clear hK K
      refine Ev.block ?_
      refine Ev.loopU (ι := {p : List (Int × Int) × List (Int × Int) // p.1 ++ p.2 = d.steps ∧ True}) [1] [2, 3, 4, 5, 22, 23] (fun ⟨(pre, suf), _⟩ => [(24, .lit (.int .i64 ((pre.length : Int))))]) (fun ⟨(pre, suf), _⟩ => [(0, ⟨false, 39, 2, [[.lit (.int .i64 ((bestF (ax, ay) pre).1)), .lit (.int .i64 ((bestF (ax, ay) pre).2))]], true⟩)]) (fun ⟨(pre, suf), _⟩ => suf.length) ⟨([], d.steps), rfl, trivial⟩ (.c (.c (.c (.c (.c (.c .n)))))) (keep_c (he := (by first | rfl | (rw [best_t ‹_›]; done) | (rw [best_f ‹_›]; done))) (h := keep_n)) (slots_c (he := (by first | rfl | (congr 2; simp; done))) (h := trivial)) ?_
      rintro ⟨⟨pre, suf⟩, hp, hinv⟩ R1 hR1
      dsimp only [List.cons_append, List.nil_append, List.length_cons, List.length_nil]
      simp only at hp hinv
      have hpl : pre.length + suf.length = (d.steps).length := by rw [← hp, List.length_append]
      rcases suf with _ | ⟨s, suf⟩
      · rw [List.append_nil] at hp; simp only [List.length_nil] at hpl
        refine Ev.sr fun K hK => S.o q.lss (S.end (hK _ ?_))
        clear hK K
        refine Ev.ud (fun c3 => ?_) (fun c3 => ?_)
        · first | omega | contradiction | (exfalso; simp at *; done)
        · first
        | (first | omega | contradiction)
        | refine Ev.exit ?_
          refine hR1 _ _ ?_
          show Ev _ _ _ _
          refine Ev.weaken (Wk.forget [2]) ?_
          have hfin : bestF (ax, ay) d.steps = bestF (ax, ay) pre := by rw [← hp]
          rw [hfin]
          refine Ev.sm (tbs [(0, 0), (1, 1), (0, 0), (3, 4), (2, 3), (5, 31), (6, 63)]) 5 fun K hK => M.o (q.fa 1 am_fi39_1 am_cl3) (M.o (q.lv am_ag3) (M.o (q.fa 0 am_fi39_0 am_cl3) (M.o (q.lv am_ag3) (M.o q.as (M.end [_] (h := S.o q.as (S.o q.as (S.end (hK _ ?_)))))))))
          clear hK K
          refine Ev.ret ?_
          refine Ev.ret3 ?_
          refine ⟨?_, rfl⟩
          rfl
      · simp only [List.length_cons] at hpl
        have hidx : d.steps[pre.length]? = some s := by rw [← hp]; simp
        obtain ⟨sx, sy⟩ := s
        refine Ev.sr fun K hK => S.o q.lss (S.end (hK _ ?_))
        clear hK K
        refine Ev.ud (fun c4 => ?_) (fun c4 => ?_)
        · first
        | (first | omega | contradiction)
        | refine Ev.seq ?_
          refine Ev.block ?_
          refine Ev.sr fun K hK => S.o (q.ix am_el29 am_cl39 (hl := (by first | exact ati hidx0 (by omega) | exact ati hidx (by omega) | exact atig (by omega)))) (S.o (q.lsA [_, _] am_ag39 am_cl39) (S.nn (q.al am_ze39) (S.sv [_, _] true [_] am_in39 am_cl39 (h := S.end (hK _ ?_)))))
          clear hK K
          refine Ev.sr fun K hK => S.o (q.fa 1 am_fi39_1 am_cl3) (S.o (q.lv am_ag3) (S.o (q.fa 1 am_fi39_1 am_cl3) (S.o (q.lv am_ag3) (S.o q.gtr (S.end (hK _ ?_))))))
          clear hK K
          refine Ev.cd (fun c5 => ?_) (fun c5 => ?_)
          · first
          | (first | omega | contradiction)
          | refine Ev.region_S fun K hK => S.o (q.lvA [_, _] am_ag39 am_cl39) (S.sv [_, _] true [_] am_in39 am_cl39 (h := S.end (hK _ ?_)))
            clear hK K
            show Ev _ _ _ _
            refine Ev.region_S fun K hK => S.o q.add (S.o q.mv (S.end (hK _ ?_)))
            clear hK K
            refine hR1 _ _ ?_
            refine roundU [0] [2, 3, 4, 5, 22, 23] ⟨(pre ++ [(sx, sy)], suf), by rw [← hp]; simp, ?_⟩ ?_ (keep_c (he := (by first | rfl | (rw [best_t ‹_›]; done) | (rw [best_f ‹_›]; done))) (h := keep_n)) (slots_c (he := (by first | rfl | (congr 2; simp; done))) (h := trivial)) (.c (.c (.c (.c (.c (.c .n))))))
            trivial
            all_goals (dsimp only; simp only [List.length_cons]; omega)
          · first
          | (first | omega | contradiction)
          | refine Ev.skip ?_
            show Ev _ _ _ _
            refine Ev.region_S fun K hK => S.o q.add (S.o q.mv (S.end (hK _ ?_)))
            clear hK K
            refine hR1 _ _ ?_
            refine roundU [0] [2, 3, 4, 5, 22, 23] ⟨(pre ++ [(sx, sy)], suf), by rw [← hp]; simp, ?_⟩ ?_ (keep_c (he := (by first | rfl | (rw [best_t ‹_›]; done) | (rw [best_f ‹_›]; done))) (h := keep_n)) (slots_c (he := (by first | rfl | (congr 2; simp; done))) (h := trivial)) (.c (.c (.c (.c (.c (.c .n))))))
            trivial
            all_goals (dsimp only; simp only [List.length_cons]; omega)
        · first | omega | contradiction | (exfalso; simp at *; done)

end Go.Proofs.YtdegjlhcchimbaaDoor
