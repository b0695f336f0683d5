/-
  Chapter 23: boxes, walked.
  Conditions: none.
-/
import Derived.Test.YtdegjlhcchimbaaDoorDm1
import Derived.Test.YtdegjlhcchimbaaDoorAmArr
import Derived.Test.YtdegjlhcchimbaaDoorAmRes
namespace Go.Proofs.YtdegjlhcchimbaaDoor
open Go Go.AM
set_option linter.unusedSimpArgs false
set_option linter.unusedVariables false
set_option maxRecDepth 100000
set_option maxHeartbeats 1000000

def co3 (a b c : Int) (k : Nat) : Int := if k = 0 then a else if k = 1 then b else c
def loB (b : Bx) (k : Nat) : Int := co3 b.lx b.ly b.lz k
def hiB (b : Bx) (k : Nat) : Int := co3 b.hx b.hy b.hz k
def okAx (b : Bx) (k : Nat) : Prop := loB b k ≤ hiB b k ∧ -1048576 ≤ loB b k ∧ hiB b k ≤ 1048576
theorem okBx_ax (b : Bx) : okBx b ↔ ∀ k, k < 3 → okAx b k := by
  constructor
  · rintro ⟨h1, h2, h3⟩ k hk
    match k, hk with
    | 0, _ => exact h1
    | 1, _ => exact h2
    | 2, _ => exact h3
  · intro h
    exact ⟨h 0 (by decide), h 1 (by decide), h 2 (by decide)⟩
theorem ax_snoc {b : Bx} {k : Nat} (h : ∀ j, j < k → okAx b j) (h1 : okAx b k) : ∀ j, j < k + 1 → okAx b j := fun j hj => by
  by_cases e : j = k
  · subst e; exact h1
  · exact h j (by omega)

theorem coords_fun (a b c : Int) : Fun Tryd.prog 63 [.agg [.lit (.int .i64 a), .lit (.int .i64 b), .lit (.int .i64 c)]] (Ret (.agg [.lit (.int .i64 a), .lit (.int .i64 b), .lit (.int .i64 c)]) []) := by
  refine Fun.of (nt := 10) (rs := [.cell 2 93]) Tryd.func63 rfl rfl rfl rfl rfl ?_
  refine Ev.sr fun K hK => S.nn (q.bx [_, _, _] true) (S.nn (q.al am_ze93) (S.end (hK _ ?_)))
  clear hK K
  refine Ev.sr fun K hK => S.o (q.fa 0 am_fi24_0 am_cl3) (S.o (q.lv am_ag3) (S.o (q.fa 1 am_fi24_1 am_cl3) (S.o (q.lv am_ag3) (S.o (q.fa 2 am_fi24_2 am_cl3) (S.o (q.lv am_ag3) (S.o (q.bda [_, _, _] am_ze93 am_pn93 am_ar93 am_cl3) (S.sv [_, _, _] true [_] am_in93 am_cl93 (h := S.end (hK _ ?_)))))))))
  clear hK K
  refine Ev.ret ?_
  refine Ev.retv1 (res_c [_, _, _] am_ag93 am_cl93 res_n) ?_
  refine ⟨?_, rfl⟩
  rfl
theorem ends0_fun (b : Bx) : Fun Tryd.prog 49 [.agg b.c, .lit (.int .i64 0)] (Ret (.tup [.lit (.int .i64 b.lx), .lit (.int .i64 b.hx)]) []) := by
  refine Fun.of (nt := 16) (rs := [.tmp 4, .tmp 5]) Tryd.func49 rfl rfl rfl rfl rfl ?_
  refine Ev.sr fun K hK => S.nn (q.bx [_, _, _, _, _, _] true) (S.o q.as (S.o q.as (S.end (hK _ ?_))))
  clear hK K
  refine Ev.weaken (Wk.forget [4]) ?_
  refine Ev.sm (tbs [(0, 0), (1, 1), (2, 3), (0, 0), (4, 15), (0, 0), (6, 32), (7, 103), (0, 0), (9, 487), (8, 255), (11, 2047)]) 11 fun K hK => M.o (q.fa 0 am_fi26_0 am_cl24) (M.o (q.lvA [_, _, _] am_ag24 am_cl24) (M.c0 (hF := coords_fun _ _ _) (h := M.o q.mv (M.o (q.ixg am_ar93 am_ag3 am_cl3) (M.o (q.fa 3 am_fi26_1 am_cl24) (M.o (q.lvA [_, _, _] am_ag24 am_cl24) (M.c0 (hF := coords_fun _ _ _) (h := M.o q.mv (M.o (q.ixg am_ar93 am_ag3 am_cl3) (M.o q.as (M.end [_] (h := S.o q.as (S.end (hK _ ?_))))))))))))))
  clear hK K
  refine Ev.ret ?_
  refine Ev.ret2 ?_
  refine ⟨?_, rfl⟩
  rfl
theorem ends1_fun (b : Bx) : Fun Tryd.prog 49 [.agg b.c, .lit (.int .i64 1)] (Ret (.tup [.lit (.int .i64 b.ly), .lit (.int .i64 b.hy)]) []) := by
  refine Fun.of (nt := 16) (rs := [.tmp 4, .tmp 5]) Tryd.func49 rfl rfl rfl rfl rfl ?_
  refine Ev.sr fun K hK => S.nn (q.bx [_, _, _, _, _, _] true) (S.o q.as (S.o q.as (S.end (hK _ ?_))))
  clear hK K
  refine Ev.weaken (Wk.forget [4]) ?_
  refine Ev.sm (tbs [(0, 0), (1, 1), (2, 3), (0, 0), (4, 15), (0, 0), (6, 32), (7, 103), (0, 0), (9, 487), (8, 255), (11, 2047)]) 11 fun K hK => M.o (q.fa 0 am_fi26_0 am_cl24) (M.o (q.lvA [_, _, _] am_ag24 am_cl24) (M.c0 (hF := coords_fun _ _ _) (h := M.o q.mv (M.o (q.ixg am_ar93 am_ag3 am_cl3) (M.o (q.fa 3 am_fi26_1 am_cl24) (M.o (q.lvA [_, _, _] am_ag24 am_cl24) (M.c0 (hF := coords_fun _ _ _) (h := M.o q.mv (M.o (q.ixg am_ar93 am_ag3 am_cl3) (M.o q.as (M.end [_] (h := S.o q.as (S.end (hK _ ?_))))))))))))))
  clear hK K
  refine Ev.ret ?_
  refine Ev.ret2 ?_
  refine ⟨?_, rfl⟩
  rfl
theorem ends2_fun (b : Bx) : Fun Tryd.prog 49 [.agg b.c, .lit (.int .i64 2)] (Ret (.tup [.lit (.int .i64 b.lz), .lit (.int .i64 b.hz)]) []) := by
  refine Fun.of (nt := 16) (rs := [.tmp 4, .tmp 5]) Tryd.func49 rfl rfl rfl rfl rfl ?_
  refine Ev.sr fun K hK => S.nn (q.bx [_, _, _, _, _, _] true) (S.o q.as (S.o q.as (S.end (hK _ ?_))))
  clear hK K
  refine Ev.weaken (Wk.forget [4]) ?_
  refine Ev.sm (tbs [(0, 0), (1, 1), (2, 3), (0, 0), (4, 15), (0, 0), (6, 32), (7, 103), (0, 0), (9, 487), (8, 255), (11, 2047)]) 11 fun K hK => M.o (q.fa 0 am_fi26_0 am_cl24) (M.o (q.lvA [_, _, _] am_ag24 am_cl24) (M.c0 (hF := coords_fun _ _ _) (h := M.o q.mv (M.o (q.ixg am_ar93 am_ag3 am_cl3) (M.o (q.fa 3 am_fi26_1 am_cl24) (M.o (q.lvA [_, _, _] am_ag24 am_cl24) (M.c0 (hF := coords_fun _ _ _) (h := M.o q.mv (M.o (q.ixg am_ar93 am_ag3 am_cl3) (M.o q.as (M.end [_] (h := S.o q.as (S.end (hK _ ?_))))))))))))))
  clear hK K
  refine Ev.ret ?_
  refine Ev.ret2 ?_
  refine ⟨?_, rfl⟩
  rfl
theorem ends_fun (b : Bx) (k : Nat) (hk : k < 3) : Fun Tryd.prog 49 [.agg b.c, .lit (.int .i64 (k : Int))] (Ret (.tup [.lit (.int .i64 (loB b k)), .lit (.int .i64 (hiB b k))]) []) := by
  match k, hk with
  | 0, _ => exact ends0_fun b
  | 1, _ => exact ends1_fun b
  | 2, _ => exact ends2_fun b
theorem boxValid_fun (b : Bx) : Fun Tryd.prog 25 [.agg b.c] (Ret (.lit (.bool (decide (okBx b)))) []) := by
  have hax := okBx_ax b
  refine Fun.of (nt := 27) (rs := [.tmp 2]) Tryd.func25 rfl rfl rfl rfl rfl ?_
  refine Ev.sr fun K hK => S.nn (q.bx [_, _, _, _, _, _] true) (S.o q.as (S.end (hK _ ?_)))
  clear hK K
  refine Ev.seq ?_
  refine Ev.sr fun K hK => S.o q.mv (S.end (hK _ ?_))
  clear hK K
  refine Ev.block ?_
  refine Ev.loopU (ι := {k : Nat // k ≤ 3 ∧ ∀ j, j < k → okAx b j}) [0] [1] (fun ⟨k, _⟩ => [(6, .lit (.int .i64 ((k : Int))))]) (fun ⟨k, _⟩ => [(0, ⟨false, 26, 6, [[.lit (.int .i64 (b.lx)), .lit (.int .i64 (b.ly)), .lit (.int .i64 (b.lz)), .lit (.int .i64 (b.hx)), .lit (.int .i64 (b.hy)), .lit (.int .i64 (b.hz))]], true⟩)]) (fun ⟨k, _⟩ => 3 - k) ⟨0, by decide, fun j hj => absurd hj (by omega)⟩ (.c .n) (keep_c (he := (by first | rfl | (simp; done))) (h := keep_n)) (slots_c (he := (by first | rfl | (simp; done) | (congr 2; omega))) (h := trivial)) ?_
  rintro ⟨k, hk, hinv⟩ R0 hR0
  dsimp only [List.cons_append, List.nil_append, List.length_cons, List.length_nil]
  by_cases hk3 : k < 3
  rotate_left
  · obtain rfl : k = 3 := by omega
    refine Ev.sr fun K hK => S.o q.lss (S.end (hK _ ?_))
    clear hK K
    refine Ev.ud (fun c1 => ?_) (fun c1 => ?_)
    · first | omega | contradiction | (exfalso; simp at *; done)
    · first
    | (first | omega | contradiction)
    | refine Ev.exit ?_
      refine hR0 _ _ ?_
      show Ev _ _ _ _
      refine Ev.sr fun K hK => S.o q.as (S.end (hK _ ?_))
      clear hK K
      refine Ev.ret ?_
      refine Ev.ret1 ?_
      refine ⟨?_, rfl⟩
      first
       | exact bT (hax.2 hinv)
       | exact bF (fun h => by have h1 := hax3.1 (hax.1 h k hk3); omega)
  · have hax3 : okAx b k ↔ loB b k ≤ hiB b k ∧ -1048576 ≤ loB b k ∧ hiB b k ≤ 1048576 := Iff.rfl
    refine Ev.sr fun K hK => S.o q.lss (S.end (hK _ ?_))
    clear hK K
    refine Ev.ud (fun c2 => ?_) (fun c2 => ?_)
    · first
    | (first | omega | contradiction)
    | refine Ev.seq ?_
      refine Ev.block ?_
      refine Ev.sr fun K hK => S.o q.mv (S.o q.as (S.end (hK _ ?_)))
      clear hK K
      refine Ev.sr fun K hK => S.o (q.lvA [_, _, _, _, _, _] am_ag26 am_cl26) (S.o q.mv (S.c0 (hF := ends_fun b k hk3) (h := S.o q.mv (S.o q.ex (S.o q.ex (S.o q.as (S.o q.as (S.end (hK _ ?_)))))))))
      clear hK K
      refine Ev.sr fun K hK => S.o q.mv (S.o q.mv (S.o q.gtr (S.bd q.mv (fun c3 => ?_) (fun c3 => ?_))))
      · first
      | (first | omega | contradiction)
      | refine S.sk (S.sk (S.o q.pt (S.o q.mv (S.sk (S.sk (S.o q.pt (S.end (hK _ ?_))))))))
        clear hK K
        refine Ev.ct ?_
        refine Ev.sr fun K hK => S.o q.as (S.end (hK _ ?_))
        clear hK K
        refine Ev.ret ?_
        refine hR0 _ _ ?_
        refine Ev.ret1 ?_
        refine ⟨?_, rfl⟩
        first
         | exact bT (hax.2 hinv)
         | exact bF (fun h => by have h1 := hax3.1 (hax.1 h k hk3); omega)
      · first
      | (first | omega | contradiction)
      | refine S.o q.mv (S.o q.lss (S.o q.pf (S.bd q.mv (fun c4 => ?_) (fun c4 => ?_))))
        · first
        | (first | omega | contradiction)
        | refine S.sk (S.sk (S.o q.pt (S.end (hK _ ?_))))
          clear hK K
          refine Ev.ct ?_
          refine Ev.sr fun K hK => S.o q.as (S.end (hK _ ?_))
          clear hK K
          refine Ev.ret ?_
          refine hR0 _ _ ?_
          refine Ev.ret1 ?_
          refine ⟨?_, rfl⟩
          first
           | exact bT (hax.2 hinv)
           | exact bF (fun h => by have h1 := hax3.1 (hax.1 h k hk3); omega)
        · first
        | (first | omega | contradiction)
        | refine S.o q.mv (S.o q.gtr (S.o q.pf (S.end (hK _ ?_))))
          clear hK K
          refine Ev.cd (fun c5 => ?_) (fun c5 => ?_)
          · first
          | (first | omega | contradiction)
          | refine Ev.sr fun K hK => S.o q.as (S.end (hK _ ?_))
            clear hK K
            refine Ev.ret ?_
            refine hR0 _ _ ?_
            refine Ev.ret1 ?_
            refine ⟨?_, rfl⟩
            first
             | exact bT (hax.2 hinv)
             | exact bF (fun h => by have h1 := hax3.1 (hax.1 h k hk3); omega)
          · first
          | (first | omega | contradiction)
          | refine Ev.skip ?_
            show Ev _ _ _ _
            refine Ev.region_S fun K hK => S.o q.add (S.o q.mv (S.end (hK _ ?_)))
            clear hK K
            refine hR0 _ _ ?_
            refine roundU [0] [1] ⟨k + 1, by omega, ax_snoc hinv (hax3.2 (by omega))⟩ ?_ (keep_c (he := (by first | rfl | (simp; done))) (h := keep_n)) (slots_c (he := (by first | rfl | (simp; done) | (congr 2; omega))) (h := trivial)) (.c .n)
            skip
            all_goals (dsimp only; omega)
    · first | omega | contradiction | (exfalso; simp at *; done)
theorem coord_fun (a b c : Int) (k : Nat) : Fun Tryd.prog 38 [.agg [.lit (.int .i64 a), .lit (.int .i64 b), .lit (.int .i64 c)], .lit (.int .i64 (k : Int))] (Ret (.lit (.int .i64 (co3 a b c k))) []) := by
  refine Fun.of (nt := 16) (rs := [.tmp 4]) Tryd.func38 rfl rfl rfl rfl rfl ?_
  refine Ev.sr fun K hK => S.nn (q.bx [_, _, _] true) (S.o q.as (S.end (hK _ ?_)))
  clear hK K
  refine Ev.seq ?_
  refine Ev.sr fun K hK => S.o q.mv (S.end (hK _ ?_))
  clear hK K
  refine Ev.block ?_
  refine Ev.sr fun K hK => S.o q.eql (S.o q.as (S.end (hK _ ?_)))
  clear hK K
  refine Ev.cd (fun c1 => ?_) (fun c1 => ?_)
  · first
  | (first | omega | contradiction)
  | refine Ev.sr fun K hK => S.o (q.fa 0 am_fi24_0 am_cl3) (S.o (q.lv am_ag3) (S.o q.as (S.end (hK _ ?_))))
    clear hK K
    refine Ev.ret ?_
    refine Ev.ret1 ?_
    refine ⟨?_, rfl⟩
    first | (rw [show co3 a b c k = a from if_pos (by omega)]; done) | (rw [show co3 a b c k = b from (if_neg (by omega)).trans (if_pos (by omega))]; done) | (rw [show co3 a b c k = c from (if_neg (by omega)).trans (if_neg (by omega))]; done)
  · first
  | (first | omega | contradiction)
  | refine Ev.sr fun K hK => S.o q.eql (S.o q.as (S.end (hK _ ?_)))
    clear hK K
    refine Ev.cd (fun c2 => ?_) (fun c2 => ?_)
    · first
    | (first | omega | contradiction)
    | refine Ev.sr fun K hK => S.o (q.fa 1 am_fi24_1 am_cl3) (S.o (q.lv am_ag3) (S.o q.as (S.end (hK _ ?_))))
      clear hK K
      refine Ev.ret ?_
      refine Ev.ret1 ?_
      refine ⟨?_, rfl⟩
      first | (rw [show co3 a b c k = a from if_pos (by omega)]; done) | (rw [show co3 a b c k = b from (if_neg (by omega)).trans (if_pos (by omega))]; done) | (rw [show co3 a b c k = c from (if_neg (by omega)).trans (if_neg (by omega))]; done)
    · first
    | (first | omega | contradiction)
    | refine Ev.skip ?_
      show Ev _ _ _ _
      refine Ev.sr fun K hK => S.o (q.fa 2 am_fi24_2 am_cl3) (S.o (q.lv am_ag3) (S.o q.as (S.end (hK _ ?_))))
      clear hK K
      refine Ev.ret ?_
      refine Ev.ret1 ?_
      refine ⟨?_, rfl⟩
      first | (rw [show co3 a b c k = a from if_pos (by omega)]; done) | (rw [show co3 a b c k = b from (if_neg (by omega)).trans (if_pos (by omega))]; done) | (rw [show co3 a b c k = c from (if_neg (by omega)).trans (if_neg (by omega))]; done)
theorem isLength_fun (n : Int) : Fun Tryd.prog 37 [.lit (.int .i64 n)] (Ret (.lit (.bool (decide (-1048576 ≤ n ∧ n ≤ 1048576)))) []) := by
  refine Fun.of (nt := 9) (rs := [.tmp 2]) Tryd.func37 rfl rfl rfl rfl rfl ?_
  refine Ev.sr fun K hK => S.o q.as (S.end (hK _ ?_))
  clear hK K
  refine Ev.sr fun K hK => S.o q.mv (S.o q.geq (S.bd q.mv (fun c1 => ?_) (fun c1 => ?_)))
  · first
  | (first | omega | contradiction)
  | refine S.o q.mv (S.o q.leq (S.o q.pt (S.o q.as (S.end (hK _ ?_)))))
    clear hK K
    refine Ev.ret ?_
    refine Ev.ret1 ?_
    refine ⟨?_, rfl⟩
    first | exact bT (by omega) | exact bF (by omega) | exact dI (by omega)
  · first
  | (first | omega | contradiction)
  | refine S.sk (S.sk (S.o q.pf (S.o q.as (S.end (hK _ ?_)))))
    clear hK K
    refine Ev.ret ?_
    refine Ev.ret1 ?_
    refine ⟨?_, rfl⟩
    first | exact bT (by omega) | exact bF (by omega) | exact dI (by omega)
theorem rboxValid_fun (b : Bx) : Fun Tryd.prog 13 [.agg b.c] (Ret (.lit (.bool (decide (okBx b)))) []) := by
  have hax := okBx_ax b
  refine Fun.of (nt := 33) (rs := [.tmp 2]) Tryd.func13 rfl rfl rfl rfl rfl ?_
  refine Ev.sr fun K hK => S.nn (q.bx [_, _, _, _, _, _] true) (S.o q.as (S.end (hK _ ?_)))
  clear hK K
  refine Ev.seq ?_
  refine Ev.sr fun K hK => S.o q.as (S.end (hK _ ?_))
  clear hK K
  refine Ev.block ?_
  refine Ev.loopU (ι := {k : Nat // k ≤ 3 ∧ ∀ j, j < k → okAx b j}) [0] [1] (fun ⟨k, _⟩ => [(3, .lit (.int .i64 ((k : Int))))]) (fun ⟨k, _⟩ => [(0, ⟨false, 26, 6, [[.lit (.int .i64 (b.lx)), .lit (.int .i64 (b.ly)), .lit (.int .i64 (b.lz)), .lit (.int .i64 (b.hx)), .lit (.int .i64 (b.hy)), .lit (.int .i64 (b.hz))]], true⟩)]) (fun ⟨k, _⟩ => 3 - k) ⟨0, by decide, fun j hj => absurd hj (by omega)⟩ (.c .n) (keep_c (he := (by first | rfl | (simp; done))) (h := keep_n)) (slots_c (he := (by first | rfl | (simp; done) | (congr 2; omega))) (h := trivial)) ?_
  rintro ⟨k, hk, hinv⟩ R0 hR0
  dsimp only [List.cons_append, List.nil_append, List.length_cons, List.length_nil]
  by_cases hk3 : k < 3
  rotate_left
  · obtain rfl : k = 3 := by omega
    refine Ev.seq ?_
    refine Ev.sr fun K hK => S.o q.mv (S.o q.lss (S.end (hK _ ?_)))
    clear hK K
    refine Ev.cd (fun c1 => ?_) (fun c1 => ?_)
    · first | omega | contradiction | (exfalso; simp at *; done)
    · first
    | (first | omega | contradiction)
    | refine Ev.exit ?_
      refine hR0 _ _ ?_
      show Ev _ _ _ _
      refine Ev.sr fun K hK => S.o q.as (S.end (hK _ ?_))
      clear hK K
      refine Ev.ret ?_
      refine Ev.ret1 ?_
      refine ⟨?_, rfl⟩
      first
       | exact bT (hax.2 hinv)
       | exact bF (fun h => by have h1 := hax3.1 (hax.1 h k hk3); omega)
  · have hax3 : okAx b k ↔ co3 b.lx b.ly b.lz k ≤ co3 b.hx b.hy b.hz k ∧ -1048576 ≤ co3 b.lx b.ly b.lz k ∧ co3 b.hx b.hy b.hz k ≤ 1048576 := Iff.rfl
    refine Ev.seq ?_
    refine Ev.sr fun K hK => S.o q.mv (S.o q.lss (S.end (hK _ ?_)))
    clear hK K
    refine Ev.cd (fun c2 => ?_) (fun c2 => ?_)
    · first
    | (first | omega | contradiction)
    | refine Ev.skip ?_
      show Ev _ _ _ _
      refine Ev.seq ?_
      refine Ev.block ?_
      refine Ev.sm (tbs [(0, 0), (1, 1), (0, 0), (3, 7), (4, 15), (5, 31), (6, 63), (7, 127), (8, 255), (7, 127), (10, 1023), (11, 2047), (12, 4095), (13, 8191), (14, 16383), (15, 32767), (16, 65535), (15, 32767), (18, 262143), (15, 32767), (20, 557055), (15, 32767), (22, 4194303), (23, 8388607), (24, 16777215)]) 25 fun K hK => M.o (q.fa 0 am_fi26_0 am_cl24) (M.o (q.lvA [_, _, _] am_ag24 am_cl24) (M.o q.mv (M.c0 (hF := coord_fun _ _ _ k) (h := M.c0 (hF := isLength_fun _) (h := M.o q.not (M.bn q.mv (fun c3 => ?_) (fun c3 => ?_)))))))
      · first
      | (first | omega | contradiction)
      | refine M.sk (M.sk (M.sk (M.sk (M.sk (M.sk (M.o q.pt (M.o q.mv (M.sk (M.sk (M.sk (M.sk (M.sk (M.sk (M.sk (M.sk (M.sk (M.o q.pt (M.end [_] (h := S.end (hK _ ?_))))))))))))))))))))
        clear hK K
        refine Ev.ct ?_
        refine Ev.sr fun K hK => S.o q.as (S.end (hK _ ?_))
        clear hK K
        refine Ev.ret ?_
        refine hR0 _ _ ?_
        refine Ev.ret1 ?_
        refine ⟨?_, rfl⟩
        first
         | exact bT (hax.2 hinv)
         | exact bF (fun h => by have h1 := hax3.1 (hax.1 h k hk3); omega)
      · first
      | (first | omega | contradiction)
      | refine M.o (q.fa 3 am_fi26_1 am_cl24) (M.o (q.lvA [_, _, _] am_ag24 am_cl24) (M.o q.mv (M.c0 (hF := coord_fun _ _ _ k) (h := M.c0 (hF := isLength_fun _) (h := M.o q.not (M.o q.pf (M.bn q.mv (fun c4 => ?_) (fun c4 => ?_))))))))
        · first
        | (first | omega | contradiction)
        | refine M.sk (M.sk (M.sk (M.sk (M.sk (M.sk (M.sk (M.sk (M.sk (M.o q.pt (M.end [_] (h := S.end (hK _ ?_))))))))))))
          clear hK K
          refine Ev.ct ?_
          refine Ev.sr fun K hK => S.o q.as (S.end (hK _ ?_))
          clear hK K
          refine Ev.ret ?_
          refine hR0 _ _ ?_
          refine Ev.ret1 ?_
          refine ⟨?_, rfl⟩
          first
           | exact bT (hax.2 hinv)
           | exact bF (fun h => by have h1 := hax3.1 (hax.1 h k hk3); omega)
        · first
        | (first | omega | contradiction)
        | refine M.o (q.fa 0 am_fi26_0 am_cl24) (M.o (q.lvA [_, _, _] am_ag24 am_cl24) (M.o q.mv (M.c0 (hF := coord_fun _ _ _ k) (h := M.o (q.fa 3 am_fi26_1 am_cl24) (M.o (q.lvA [_, _, _] am_ag24 am_cl24) (M.o q.mv (M.c0 (hF := coord_fun _ _ _ k) (h := M.o q.gtr (M.o q.pf (M.end [_] (h := S.end (hK _ ?_))))))))))))
          clear hK K
          refine Ev.cd (fun c5 => ?_) (fun c5 => ?_)
          · first
          | (first | omega | contradiction)
          | refine Ev.sr fun K hK => S.o q.as (S.end (hK _ ?_))
            clear hK K
            refine Ev.ret ?_
            refine hR0 _ _ ?_
            refine Ev.ret1 ?_
            refine ⟨?_, rfl⟩
            first
             | exact bT (hax.2 hinv)
             | exact bF (fun h => by have h1 := hax3.1 (hax.1 h k hk3); omega)
          · first
          | (first | omega | contradiction)
          | refine Ev.skip ?_
            show Ev _ _ _ _
            refine Ev.region_S fun K hK => S.o q.mv (S.o q.add (S.o q.as (S.end (hK _ ?_))))
            clear hK K
            refine hR0 _ _ ?_
            refine roundU [0] [1] ⟨k + 1, by omega, ax_snoc hinv (hax3.2 (by omega))⟩ ?_ (keep_c (he := (by first | rfl | (simp; done))) (h := keep_n)) (slots_c (he := (by first | rfl | (simp; done) | (congr 2; omega))) (h := trivial)) (.c .n)
            skip
            all_goals (dsimp only; omega)
    · first | omega | contradiction | (exfalso; simp at *; done)
end Go.Proofs.YtdegjlhcchimbaaDoor
