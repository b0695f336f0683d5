/-
  Chapter 23: boxes, walked.
  Conditions: none.
-/
import Derived.Test.YthiockdlhehhoaaDoorDm1
import Derived.Test.YthiockdlhehhoaaDoorAmArr
import Derived.Test.YthiockdlhehhoaaDoorAmRes
import Derived.Test.YthiockdlhehhoaaDoorAmOwn
namespace Go.Proofs.YthiockdlhehhoaaDoor
open Go Go.AM
set_option linter.unusedSimpArgs false
set_option linter.unusedVariables false
set_option maxRecDepth 100000
set_option maxHeartbeats 1000000

def co3 (a b c : Int) (k : Nat) : Int := if k = 0 then a else if k = 1 then b else c
def loB (b : Bx) (k : Nat) : Int := co3 b.lx b.ly b.lz k
def hiB (b : Bx) (k : Nat) : Int := co3 b.hx b.hy b.hz k
def okAx (b : Bx) (k : Nat) : Prop := loB b k ≤ hiB b k ∧ -1048576 ≤ loB b k ∧ hiB b k ≤ 1048576
theorem okBx_ax (b : Bx) : okBx b ↔ ∀ k, k < 3 → okAx b k := by
  constructor
  · rintro ⟨h1, h2, h3⟩ k hk
    match k, hk with
    | 0, _ => exact h1
    | 1, _ => exact h2
    | 2, _ => exact h3
  · intro h
    exact ⟨h 0 (by decide), h 1 (by decide), h 2 (by decide)⟩
theorem ax_snoc {b : Bx} {k : Nat} (h : ∀ j, j < k → okAx b j) (h1 : okAx b k) : ∀ j, j < k + 1 → okAx b j := fun j hj => by
  by_cases e : j = k
  · subst e; exact h1
  · exact h j (by omega)

theorem coords_fun (a b c : Int) : Fun Tryd.prog 57 [.agg [.lit (.int .i64 a), .lit (.int .i64 b), .lit (.int .i64 c)]] (Ret (.agg [.lit (.int .i64 a), .lit (.int .i64 b), .lit (.int .i64 c)]) []) := by
  refine Fun.of (nt := 10) (rs := [.cell 2 85]) Tryd.func57 rfl rfl rfl rfl rfl ?_
  refine Ev.sr fun K hK => S.nn (q.bx [_, _, _] true) (S.nn (q.al am_ze85) (S.end (hK _ ?_)))
  clear hK K
  refine Ev.sr fun K hK => S.o (q.fa 0 am_fi24_0 am_cl3) (S.o (q.lv am_ag3) (S.o (q.fa 1 am_fi24_1 am_cl3) (S.o (q.lv am_ag3) (S.o (q.fa 2 am_fi24_2 am_cl3) (S.o (q.lv am_ag3) (S.o (q.bda [_, _, _] am_ze85 am_pn85 am_ar85 am_cl3) (S.sv [_, _, _] true [_] am_in85 am_cl85 (h := S.end (hK _ ?_)))))))))
  clear hK K
  refine Ev.ret ?_
  refine Ev.retv1 (res_c [_, _, _] am_ag85 am_cl85 res_n) ?_
  refine ⟨?_, rfl⟩
  rfl
theorem ends0_fun (b : Bx) : Fun Tryd.prog 47 [.agg b.c, .lit (.int .i64 0)] (Ret (.tup [.lit (.int .i64 b.lx), .lit (.int .i64 b.hx)]) []) := by
  refine Fun.of (nt := 16) (rs := [.tmp 4, .tmp 5]) Tryd.func47 rfl rfl rfl rfl rfl ?_
  refine Ev.sr fun K hK => S.nn (q.bx [_, _, _, _, _, _] true) (S.o q.as (S.o q.as (S.end (hK _ ?_))))
  clear hK K
  refine Ev.weaken (Wk.forget [4]) ?_
  refine Ev.sm (tbs [(0, 0), (1, 1), (2, 3), (0, 0), (4, 15), (0, 0), (6, 32), (7, 103), (0, 0), (9, 487), (8, 255), (11, 2047)]) 11 fun K hK => M.o (q.fa 0 am_fi26_0 am_cl24) (M.o (q.lvA [_, _, _] am_ag24 am_cl24) (M.c0 (hF := coords_fun _ _ _) (h := M.o q.mv (M.o (q.ixg am_ar85 am_ag3 am_cl3) (M.o (q.fa 3 am_fi26_1 am_cl24) (M.o (q.lvA [_, _, _] am_ag24 am_cl24) (M.c0 (hF := coords_fun _ _ _) (h := M.o q.mv (M.o (q.ixg am_ar85 am_ag3 am_cl3) (M.o q.as (M.end [_] (h := S.o q.as (S.end (hK _ ?_))))))))))))))
  clear hK K
  refine Ev.ret ?_
  refine Ev.ret2 ?_
  refine ⟨?_, rfl⟩
  rfl
theorem ends1_fun (b : Bx) : Fun Tryd.prog 47 [.agg b.c, .lit (.int .i64 1)] (Ret (.tup [.lit (.int .i64 b.ly), .lit (.int .i64 b.hy)]) []) := by
  refine Fun.of (nt := 16) (rs := [.tmp 4, .tmp 5]) Tryd.func47 rfl rfl rfl rfl rfl ?_
  refine Ev.sr fun K hK => S.nn (q.bx [_, _, _, _, _, _] true) (S.o q.as (S.o q.as (S.end (hK _ ?_))))
  clear hK K
  refine Ev.weaken (Wk.forget [4]) ?_
  refine Ev.sm (tbs [(0, 0), (1, 1), (2, 3), (0, 0), (4, 15), (0, 0), (6, 32), (7, 103), (0, 0), (9, 487), (8, 255), (11, 2047)]) 11 fun K hK => M.o (q.fa 0 am_fi26_0 am_cl24) (M.o (q.lvA [_, _, _] am_ag24 am_cl24) (M.c0 (hF := coords_fun _ _ _) (h := M.o q.mv (M.o (q.ixg am_ar85 am_ag3 am_cl3) (M.o (q.fa 3 am_fi26_1 am_cl24) (M.o (q.lvA [_, _, _] am_ag24 am_cl24) (M.c0 (hF := coords_fun _ _ _) (h := M.o q.mv (M.o (q.ixg am_ar85 am_ag3 am_cl3) (M.o q.as (M.end [_] (h := S.o q.as (S.end (hK _ ?_))))))))))))))
  clear hK K
  refine Ev.ret ?_
  refine Ev.ret2 ?_
  refine ⟨?_, rfl⟩
  rfl
theorem ends2_fun (b : Bx) : Fun Tryd.prog 47 [.agg b.c, .lit (.int .i64 2)] (Ret (.tup [.lit (.int .i64 b.lz), .lit (.int .i64 b.hz)]) []) := by
  refine Fun.of (nt := 16) (rs := [.tmp 4, .tmp 5]) Tryd.func47 rfl rfl rfl rfl rfl ?_
  refine Ev.sr fun K hK => S.nn (q.bx [_, _, _, _, _, _] true) (S.o q.as (S.o q.as (S.end (hK _ ?_))))
  clear hK K
  refine Ev.weaken (Wk.forget [4]) ?_
  refine Ev.sm (tbs [(0, 0), (1, 1), (2, 3), (0, 0), (4, 15), (0, 0), (6, 32), (7, 103), (0, 0), (9, 487), (8, 255), (11, 2047)]) 11 fun K hK => M.o (q.fa 0 am_fi26_0 am_cl24) (M.o (q.lvA [_, _, _] am_ag24 am_cl24) (M.c0 (hF := coords_fun _ _ _) (h := M.o q.mv (M.o (q.ixg am_ar85 am_ag3 am_cl3) (M.o (q.fa 3 am_fi26_1 am_cl24) (M.o (q.lvA [_, _, _] am_ag24 am_cl24) (M.c0 (hF := coords_fun _ _ _) (h := M.o q.mv (M.o (q.ixg am_ar85 am_ag3 am_cl3) (M.o q.as (M.end [_] (h := S.o q.as (S.end (hK _ ?_))))))))))))))
  clear hK K
  refine Ev.ret ?_
  refine Ev.ret2 ?_
  refine ⟨?_, rfl⟩
  rfl
theorem ends_fun (b : Bx) (k : Nat) (hk : k < 3) : Fun Tryd.prog 47 [.agg b.c, .lit (.int .i64 (k : Int))] (Ret (.tup [.lit (.int .i64 (loB b k)), .lit (.int .i64 (hiB b k))]) []) := by
  match k, hk with
  | 0, _ => exact ends0_fun b
  | 1, _ => exact ends1_fun b
  | 2, _ => exact ends2_fun b
theorem boxValid_fun (b : Bx) : Fun Tryd.prog 27 [.agg b.c] (Ret (.lit (.bool (decide (okBx b)))) []) := by
  have hax := okBx_ax b
  refine Fun.of (nt := 27) (rs := [.tmp 2]) Tryd.func27 rfl rfl rfl rfl rfl ?_
  refine Ev.sr fun K hK => S.nn (q.bx [_, _, _, _, _, _] true) (S.o q.as (S.end (hK _ ?_)))
  clear hK K
  refine Ev.seq ?_
  refine Ev.sr fun K hK => S.o q.mv (S.end (hK _ ?_))
  clear hK K
  refine Ev.block ?_
  refine Ev.loopU (ι := {k : Nat // k ≤ 3 ∧ ∀ j, j < k → okAx b j}) [0] [1] (fun ⟨k, _⟩ => [(6, .lit (.int .i64 ((k : Int))))]) (fun ⟨k, _⟩ => [(0, ⟨false, 26, 6, [[.lit (.int .i64 (b.lx)), .lit (.int .i64 (b.ly)), .lit (.int .i64 (b.lz)), .lit (.int .i64 (b.hx)), .lit (.int .i64 (b.hy)), .lit (.int .i64 (b.hz))]], true⟩)]) (fun ⟨k, _⟩ => 3 - k) ⟨0, by decide, fun j hj => absurd hj (by omega)⟩ (.c .n) (keep_c (he := (by first | rfl | (simp; done))) (h := keep_n)) (slots_c (he := (by first | rfl | (simp; done) | (congr 2; omega))) (h := trivial)) ?_
  rintro ⟨k, hk, hinv⟩ R0 hR0
  dsimp only [List.cons_append, List.nil_append, List.length_cons, List.length_nil]
  by_cases hk3 : k < 3
  rotate_left
  · obtain rfl : k = 3 := by omega
    refine Ev.sr fun K hK => S.o q.lss (S.end (hK _ ?_))
    clear hK K
    refine Ev.ud (fun c1 => ?_) (fun c1 => ?_)
    · first | omega | contradiction | (exfalso; simp at *; done)
    · first
    | (first | omega | contradiction)
    | refine Ev.exit ?_
      refine hR0 _ _ ?_
      show Ev _ _ _ _
      refine Ev.sr fun K hK => S.o q.as (S.end (hK _ ?_))
      clear hK K
      refine Ev.ret ?_
      refine Ev.ret1 ?_
      refine ⟨?_, rfl⟩
      first
       | exact bT (hax.2 hinv)
       | exact bF (fun h => by have h1 := hax3.1 (hax.1 h k hk3); omega)
  · have hax3 : okAx b k ↔ loB b k ≤ hiB b k ∧ -1048576 ≤ loB b k ∧ hiB b k ≤ 1048576 := Iff.rfl
    refine Ev.sr fun K hK => S.o q.lss (S.end (hK _ ?_))
    clear hK K
    refine Ev.ud (fun c2 => ?_) (fun c2 => ?_)
    · first
    | (first | omega | contradiction)
    | refine Ev.seq ?_
      refine Ev.block ?_
      refine Ev.sr fun K hK => S.o q.mv (S.o q.as (S.end (hK _ ?_)))
      clear hK K
      refine Ev.sr fun K hK => S.o (q.lvA [_, _, _, _, _, _] am_ag26 am_cl26) (S.o q.mv (S.c0 (hF := ends_fun b k hk3) (h := S.o q.mv (S.o q.ex (S.o q.ex (S.o q.as (S.o q.as (S.end (hK _ ?_)))))))))
      clear hK K
      refine Ev.sr fun K hK => S.o q.mv (S.o q.mv (S.o q.gtr (S.bd q.mv (fun c3 => ?_) (fun c3 => ?_))))
      · first
      | (first | omega | contradiction)
      | refine S.sk (S.sk (S.o q.pt (S.o q.mv (S.sk (S.sk (S.o q.pt (S.end (hK _ ?_))))))))
        clear hK K
        refine Ev.ct ?_
        refine Ev.sr fun K hK => S.o q.as (S.end (hK _ ?_))
        clear hK K
        refine Ev.ret ?_
        refine hR0 _ _ ?_
        refine Ev.ret1 ?_
        refine ⟨?_, rfl⟩
        first
         | exact bT (hax.2 hinv)
         | exact bF (fun h => by have h1 := hax3.1 (hax.1 h k hk3); omega)
      · first
      | (first | omega | contradiction)
      | refine S.o q.mv (S.o q.lss (S.o q.pf (S.bd q.mv (fun c4 => ?_) (fun c4 => ?_))))
        · first
        | (first | omega | contradiction)
        | refine S.sk (S.sk (S.o q.pt (S.end (hK _ ?_))))
          clear hK K
          refine Ev.ct ?_
          refine Ev.sr fun K hK => S.o q.as (S.end (hK _ ?_))
          clear hK K
          refine Ev.ret ?_
          refine hR0 _ _ ?_
          refine Ev.ret1 ?_
          refine ⟨?_, rfl⟩
          first
           | exact bT (hax.2 hinv)
           | exact bF (fun h => by have h1 := hax3.1 (hax.1 h k hk3); omega)
        · first
        | (first | omega | contradiction)
        | refine S.o q.mv (S.o q.gtr (S.o q.pf (S.end (hK _ ?_))))
          clear hK K
          refine Ev.cd (fun c5 => ?_) (fun c5 => ?_)
          · first
          | (first | omega | contradiction)
          | refine Ev.sr fun K hK => S.o q.as (S.end (hK _ ?_))
            clear hK K
            refine Ev.ret ?_
            refine hR0 _ _ ?_
            refine Ev.ret1 ?_
            refine ⟨?_, rfl⟩
            first
             | exact bT (hax.2 hinv)
             | exact bF (fun h => by have h1 := hax3.1 (hax.1 h k hk3); omega)
          · first
          | (first | omega | contradiction)
          | refine Ev.skip ?_
            show Ev _ _ _ _
            refine Ev.region_S fun K hK => S.o q.add (S.o q.mv (S.end (hK _ ?_)))
            clear hK K
            refine hR0 _ _ ?_
            refine roundU [0] [1] ⟨k + 1, by omega, ax_snoc hinv (hax3.2 (by omega))⟩ ?_ (keep_c (he := (by first | rfl | (simp; done))) (h := keep_n)) (slots_c (he := (by first | rfl | (simp; done) | (congr 2; omega))) (h := trivial)) (.c .n)
            skip
            all_goals (dsimp only; omega)
    · first | omega | contradiction | (exfalso; simp at *; done)
theorem coord_fun (a b c : Int) (k : Nat) : Fun Tryd.prog 25 [.agg [.lit (.int .i64 a), .lit (.int .i64 b), .lit (.int .i64 c)], .lit (.int .i64 (k : Int))] (Ret (.lit (.int .i64 (co3 a b c k))) []) := by
  refine Fun.of (nt := 16) (rs := [.tmp 4]) Tryd.func25 rfl rfl rfl rfl rfl ?_
  refine Ev.sr fun K hK => S.nn (q.bx [_, _, _] true) (S.o q.as (S.end (hK _ ?_)))
  clear hK K
  refine Ev.seq ?_
  refine Ev.sr fun K hK => S.o q.mv (S.end (hK _ ?_))
  clear hK K
  refine Ev.block ?_
  refine Ev.sr fun K hK => S.o q.eql (S.o q.as (S.end (hK _ ?_)))
  clear hK K
  refine Ev.cd (fun c1 => ?_) (fun c1 => ?_)
  · first
  | (first | omega | contradiction)
  | refine Ev.sr fun K hK => S.o (q.fa 0 am_fi24_0 am_cl3) (S.o (q.lv am_ag3) (S.o q.as (S.end (hK _ ?_))))
    clear hK K
    refine Ev.ret ?_
    refine Ev.ret1 ?_
    refine ⟨?_, rfl⟩
    first | (rw [show co3 a b c k = a from if_pos (by omega)]; done) | (rw [show co3 a b c k = b from (if_neg (by omega)).trans (if_pos (by omega))]; done) | (rw [show co3 a b c k = c from (if_neg (by omega)).trans (if_neg (by omega))]; done)
  · first
  | (first | omega | contradiction)
  | refine Ev.sr fun K hK => S.o q.eql (S.o q.as (S.end (hK _ ?_)))
    clear hK K
    refine Ev.cd (fun c2 => ?_) (fun c2 => ?_)
    · first
    | (first | omega | contradiction)
    | refine Ev.sr fun K hK => S.o (q.fa 1 am_fi24_1 am_cl3) (S.o (q.lv am_ag3) (S.o q.as (S.end (hK _ ?_))))
      clear hK K
      refine Ev.ret ?_
      refine Ev.ret1 ?_
      refine ⟨?_, rfl⟩
      first | (rw [show co3 a b c k = a from if_pos (by omega)]; done) | (rw [show co3 a b c k = b from (if_neg (by omega)).trans (if_pos (by omega))]; done) | (rw [show co3 a b c k = c from (if_neg (by omega)).trans (if_neg (by omega))]; done)
    · first
    | (first | omega | contradiction)
    | refine Ev.skip ?_
      show Ev _ _ _ _
      refine Ev.sr fun K hK => S.o (q.fa 2 am_fi24_2 am_cl3) (S.o (q.lv am_ag3) (S.o q.as (S.end (hK _ ?_))))
      clear hK K
      refine Ev.ret ?_
      refine Ev.ret1 ?_
      refine ⟨?_, rfl⟩
      first | (rw [show co3 a b c k = a from if_pos (by omega)]; done) | (rw [show co3 a b c k = b from (if_neg (by omega)).trans (if_pos (by omega))]; done) | (rw [show co3 a b c k = c from (if_neg (by omega)).trans (if_neg (by omega))]; done)
theorem isLength_fun (n : Int) : Fun Tryd.prog 24 [.lit (.int .i64 n)] (Ret (.lit (.bool (decide (-1048576 ≤ n ∧ n ≤ 1048576)))) []) := by
  refine Fun.of (nt := 9) (rs := [.tmp 2]) Tryd.func24 rfl rfl rfl rfl rfl ?_
  refine Ev.sr fun K hK => S.o q.as (S.end (hK _ ?_))
  clear hK K
  refine Ev.sr fun K hK => S.o q.mv (S.o q.geq (S.bd q.mv (fun c1 => ?_) (fun c1 => ?_)))
  · first
  | (first | omega | contradiction)
  | refine S.o q.mv (S.o q.leq (S.o q.pt (S.o q.as (S.end (hK _ ?_)))))
    clear hK K
    refine Ev.ret ?_
    refine Ev.ret1 ?_
    refine ⟨?_, rfl⟩
    first | exact bT (by omega) | exact bF (by omega) | exact dI (by omega)
  · first
  | (first | omega | contradiction)
  | refine S.sk (S.sk (S.o q.pf (S.o q.as (S.end (hK _ ?_)))))
    clear hK K
    refine Ev.ret ?_
    refine Ev.ret1 ?_
    refine ⟨?_, rfl⟩
    first | exact bT (by omega) | exact bF (by omega) | exact dI (by omega)
theorem rboxValid_fun (b : Bx) : Fun Tryd.prog 7 [.agg b.c] (Ret (.lit (.bool (decide (okBx b)))) []) := by
  have hax := okBx_ax b
  refine Fun.of (nt := 33) (rs := [.tmp 2]) Tryd.func7 rfl rfl rfl rfl rfl ?_
  refine Ev.sr fun K hK => S.nn (q.bx [_, _, _, _, _, _] true) (S.o q.as (S.end (hK _ ?_)))
  clear hK K
  refine Ev.seq ?_
  refine Ev.sr fun K hK => S.o q.as (S.end (hK _ ?_))
  clear hK K
  refine Ev.block ?_
  refine Ev.loopU (ι := {k : Nat // k ≤ 3 ∧ ∀ j, j < k → okAx b j}) [0] [1] (fun ⟨k, _⟩ => [(3, .lit (.int .i64 ((k : Int))))]) (fun ⟨k, _⟩ => [(0, ⟨false, 26, 6, [[.lit (.int .i64 (b.lx)), .lit (.int .i64 (b.ly)), .lit (.int .i64 (b.lz)), .lit (.int .i64 (b.hx)), .lit (.int .i64 (b.hy)), .lit (.int .i64 (b.hz))]], true⟩)]) (fun ⟨k, _⟩ => 3 - k) ⟨0, by decide, fun j hj => absurd hj (by omega)⟩ (.c .n) (keep_c (he := (by first | rfl | (simp; done))) (h := keep_n)) (slots_c (he := (by first | rfl | (simp; done) | (congr 2; omega))) (h := trivial)) ?_
  rintro ⟨k, hk, hinv⟩ R0 hR0
  dsimp only [List.cons_append, List.nil_append, List.length_cons, List.length_nil]
  by_cases hk3 : k < 3
  rotate_left
  · obtain rfl : k = 3 := by omega
    refine Ev.seq ?_
    refine Ev.sr fun K hK => S.o q.mv (S.o q.lss (S.end (hK _ ?_)))
    clear hK K
    refine Ev.cd (fun c1 => ?_) (fun c1 => ?_)
    · first | omega | contradiction | (exfalso; simp at *; done)
    · first
    | (first | omega | contradiction)
    | refine Ev.exit ?_
      refine hR0 _ _ ?_
      show Ev _ _ _ _
      refine Ev.sr fun K hK => S.o q.as (S.end (hK _ ?_))
      clear hK K
      refine Ev.ret ?_
      refine Ev.ret1 ?_
      refine ⟨?_, rfl⟩
      first
       | exact bT (hax.2 hinv)
       | exact bF (fun h => by have h1 := hax3.1 (hax.1 h k hk3); omega)
  · have hax3 : okAx b k ↔ co3 b.lx b.ly b.lz k ≤ co3 b.hx b.hy b.hz k ∧ -1048576 ≤ co3 b.lx b.ly b.lz k ∧ co3 b.hx b.hy b.hz k ≤ 1048576 := Iff.rfl
    refine Ev.seq ?_
    refine Ev.sr fun K hK => S.o q.mv (S.o q.lss (S.end (hK _ ?_)))
    clear hK K
    refine Ev.cd (fun c2 => ?_) (fun c2 => ?_)
    · first
    | (first | omega | contradiction)
    | refine Ev.skip ?_
      show Ev _ _ _ _
      refine Ev.seq ?_
      refine Ev.block ?_
      refine Ev.sm (tbs [(0, 0), (1, 1), (0, 0), (3, 7), (4, 15), (5, 31), (6, 63), (7, 127), (8, 255), (7, 127), (10, 1023), (11, 2047), (12, 4095), (13, 8191), (14, 16383), (15, 32767), (16, 65535), (15, 32767), (18, 262143), (15, 32767), (20, 557055), (15, 32767), (22, 4194303), (23, 8388607), (24, 16777215)]) 25 fun K hK => M.o (q.fa 0 am_fi26_0 am_cl24) (M.o (q.lvA [_, _, _] am_ag24 am_cl24) (M.o q.mv (M.c0 (hF := coord_fun _ _ _ k) (h := M.c0 (hF := isLength_fun _) (h := M.o q.not (M.bn q.mv (fun c3 => ?_) (fun c3 => ?_)))))))
      · first
      | (first | omega | contradiction)
      | refine M.sk (M.sk (M.sk (M.sk (M.sk (M.sk (M.o q.pt (M.o q.mv (M.sk (M.sk (M.sk (M.sk (M.sk (M.sk (M.sk (M.sk (M.sk (M.o q.pt (M.end [_] (h := S.end (hK _ ?_))))))))))))))))))))
        clear hK K
        refine Ev.ct ?_
        refine Ev.sr fun K hK => S.o q.as (S.end (hK _ ?_))
        clear hK K
        refine Ev.ret ?_
        refine hR0 _ _ ?_
        refine Ev.ret1 ?_
        refine ⟨?_, rfl⟩
        first
         | exact bT (hax.2 hinv)
         | exact bF (fun h => by have h1 := hax3.1 (hax.1 h k hk3); omega)
      · first
      | (first | omega | contradiction)
      | refine M.o (q.fa 3 am_fi26_1 am_cl24) (M.o (q.lvA [_, _, _] am_ag24 am_cl24) (M.o q.mv (M.c0 (hF := coord_fun _ _ _ k) (h := M.c0 (hF := isLength_fun _) (h := M.o q.not (M.o q.pf (M.bn q.mv (fun c4 => ?_) (fun c4 => ?_))))))))
        · first
        | (first | omega | contradiction)
        | refine M.sk (M.sk (M.sk (M.sk (M.sk (M.sk (M.sk (M.sk (M.sk (M.o q.pt (M.end [_] (h := S.end (hK _ ?_))))))))))))
          clear hK K
          refine Ev.ct ?_
          refine Ev.sr fun K hK => S.o q.as (S.end (hK _ ?_))
          clear hK K
          refine Ev.ret ?_
          refine hR0 _ _ ?_
          refine Ev.ret1 ?_
          refine ⟨?_, rfl⟩
          first
           | exact bT (hax.2 hinv)
           | exact bF (fun h => by have h1 := hax3.1 (hax.1 h k hk3); omega)
        · first
        | (first | omega | contradiction)
        | refine M.o (q.fa 0 am_fi26_0 am_cl24) (M.o (q.lvA [_, _, _] am_ag24 am_cl24) (M.o q.mv (M.c0 (hF := coord_fun _ _ _ k) (h := M.o (q.fa 3 am_fi26_1 am_cl24) (M.o (q.lvA [_, _, _] am_ag24 am_cl24) (M.o q.mv (M.c0 (hF := coord_fun _ _ _ k) (h := M.o q.gtr (M.o q.pf (M.end [_] (h := S.end (hK _ ?_))))))))))))
          clear hK K
          refine Ev.cd (fun c5 => ?_) (fun c5 => ?_)
          · first
          | (first | omega | contradiction)
          | refine Ev.sr fun K hK => S.o q.as (S.end (hK _ ?_))
            clear hK K
            refine Ev.ret ?_
            refine hR0 _ _ ?_
            refine Ev.ret1 ?_
            refine ⟨?_, rfl⟩
            first
             | exact bT (hax.2 hinv)
             | exact bF (fun h => by have h1 := hax3.1 (hax.1 h k hk3); omega)
          · first
          | (first | omega | contradiction)
          | refine Ev.skip ?_
            show Ev _ _ _ _
            refine Ev.region_S fun K hK => S.o q.mv (S.o q.add (S.o q.as (S.end (hK _ ?_))))
            clear hK K
            refine hR0 _ _ ?_
            refine roundU [0] [1] ⟨k + 1, by omega, ax_snoc hinv (hax3.2 (by omega))⟩ ?_ (keep_c (he := (by first | rfl | (simp; done))) (h := keep_n)) (slots_c (he := (by first | rfl | (simp; done) | (congr 2; omega))) (h := trivial)) (.c .n)
            skip
            all_goals (dsimp only; omega)
    · first | omega | contradiction | (exfalso; simp at *; done)
end Go.Proofs.YthiockdlhehhoaaDoor
namespace Go.Proofs.YthiockdlhehhoaaDoor
open Go Go.AM
set_option linter.unusedSimpArgs false
set_option linter.unusedVariables false
set_option maxRecDepth 100000
set_option maxHeartbeats 1000000
theorem right_fun (d : Dem) (hw : d.w) : Fun Tryd.prog 34 [.agg d.c] (Ret (.lit (.bool (decide (okDem d)))) []) := by
  obtain ⟨n, b, s⟩ := d
  obtain ⟨hw1, hw2⟩ := hw
  simp only at hw1 hw2
  have hok : okDem ⟨n, b, s⟩ ↔ IsName n ∧ okBx b ∧ okSteps s := Iff.rfl
  refine Fun.of (nt := 16) (rs := [.tmp 2]) Tryd.func34 rfl rfl rfl rfl rfl ?_
  refine Ev.sr fun K hK => S.nn (q.bx [_, _, _, _, _, _, _, _] true) (S.o q.as (S.end (hK _ ?_)))
  clear hK K
  refine Ev.sr fun K hK => S.o (q.fa 0 am_fi42_0 am_cl9) (S.o (q.lv am_ag9) (S.c0 (hF := isName_fun _ (by omega)) (h := S.bd q.mv (fun c1 => ?_) (fun c1 => ?_))))
  · first
  | (first | omega | contradiction)
  | refine S.o (q.fa 1 am_fi42_1 am_cl26) (S.o (q.lvA [_, _, _, _, _, _] am_ag26 am_cl26) (S.c0 (hF := boxValid_fun b) (h := S.o q.pt (S.bd q.mv (fun c2 => ?_) (fun c2 => ?_)))))
    · first
    | (first | omega | contradiction)
    | refine S.o (q.fa 7 am_fi42_2 am_cl31) (S.o (q.lv am_ag31) (S.c0 (hF := stepsValid_fun _ (by omega)) (h := S.o q.pt (S.o q.as (S.end (hK _ ?_))))))
      clear hK K
      refine Ev.ret ?_
      refine Ev.ret1 ?_
      refine ⟨?_, rfl⟩
      first | exact dI ⟨fun h => hok.2 ⟨‹_›, ‹_›, h⟩, fun h => (hok.1 h).2.2⟩ | exact bF (fun h => absurd (hok.1 h).1 ‹_›) | exact bF (fun h => absurd (hok.1 h).2.1 ‹_›)
    · first
    | (first | omega | contradiction)
    | refine S.sk (S.sk (S.sk (S.o q.pf (S.o q.as (S.end (hK _ ?_))))))
      clear hK K
      refine Ev.ret ?_
      refine Ev.ret1 ?_
      refine ⟨?_, rfl⟩
      first | exact dI ⟨fun h => hok.2 ⟨‹_›, ‹_›, h⟩, fun h => (hok.1 h).2.2⟩ | exact bF (fun h => absurd (hok.1 h).1 ‹_›) | exact bF (fun h => absurd (hok.1 h).2.1 ‹_›)
  · first
  | (first | omega | contradiction)
  | refine S.sk (S.sk (S.sk (S.o q.pf (S.o q.mv (S.sk (S.sk (S.sk (S.o q.pf (S.o q.as (S.end (hK _ ?_)))))))))))
    clear hK K
    refine Ev.ret ?_
    refine Ev.ret1 ?_
    refine ⟨?_, rfl⟩
    first | exact dI ⟨fun h => hok.2 ⟨‹_›, ‹_›, h⟩, fun h => (hok.1 h).2.2⟩ | exact bF (fun h => absurd (hok.1 h).1 ‹_›) | exact bF (fun h => absurd (hok.1 h).2.1 ‹_›)
theorem indexFuncDem1 (g : FuncId) (c0 : List AV) (p : Dem → Bool) (hg : ∀ s, Fun Tryd.prog g [.agg (Dem.c s), .sadr c0 0] (Ret (.lit (.bool (p s))) [])) (l : List (Dem)) (hlen : l.length ≤ 140737488355328) :
    Fun Tryd.prog 56 [.sh 8 (l.map Dem.c), .fn (.func g) [] [.sadr c0 0]] (Ret (.lit (.int .i64 (idxP p l 0))) []) := by
  refine Fun.of (nt := 19) (rs := [.tmp 4]) Tryd.func56 rfl rfl rfl rfl rfl ?_
  refine Ev.sr fun K hK => S.o q.as (S.end (hK _ ?_))
  clear hK K
  refine Ev.seq ?_
  refine Ev.sr fun K hK => S.o q.mv (S.o (q.lens am_el22) (S.o q.mv (S.end (hK _ ?_))))
  clear hK K
  refine Ev.block ?_
  refine Ev.loopU (ι := {q : List (Dem) × List (Dem) // q.1 ++ q.2 = l ∧ ∀ x ∈ q.1, p x = false}) [] [0, 1, 7] (fun ⟨(pre, suf), _⟩ => [(8, .lit (.int .i64 ((pre.length : Int))))]) (fun ⟨(pre, suf), _⟩ => []) (fun ⟨(pre, suf), _⟩ => suf.length) ⟨([], l), rfl, fun x hx => by simp at hx⟩ (.c (.c (.c .n))) keep_n (slots_c (he := (by first | rfl | (simp; done) | (congr 2; omega))) (h := trivial)) ?_
  rintro ⟨⟨pre, suf⟩, hp, hinv⟩ R0 hR0
  dsimp only [List.cons_append, List.nil_append, List.length_cons, List.length_nil]
  simp only at hp hinv
  have hpl : pre.length + suf.length = (l).length := by rw [← hp, List.length_append]
  rcases suf with _ | ⟨s, suf⟩
  · rw [List.append_nil] at hp; subst hp; simp only [List.length_nil] at hpl
    refine Ev.sr fun K hK => S.o q.lss (S.end (hK _ ?_))
    clear hK K
    refine Ev.ud (fun c1 => ?_) (fun c1 => ?_)
    · first
    | (first | omega | contradiction)
    | refine Ev.seq ?_
      refine Ev.block ?_
      refine Ev.sr fun K hK => S.o q.mv (S.o q.as (S.end (hK _ ?_)))
      clear hK K
      refine Ev.sr fun K hK => S.o q.mv (S.o q.mv (S.o q.mv (S.o (q.ix am_el22 am_cl42 (hl := (by first | exact atig (by omega)))) (S.o (q.lsA [_, _, _, _, _, _, _, _] am_ag42 am_cl42) (S.c0 (hF := hg s) (h := S.end (hK _ ?_)))))))
      clear hK K
      refine Ev.c (fun c2 => ?_) (fun c2 => ?_)
      · first
      | (first | omega | contradiction)
      | refine Ev.sr fun K hK => S.o q.mv (S.o q.as (S.end (hK _ ?_)))
        clear hK K
        refine Ev.ret ?_
        refine hR0 _ _ ?_
        refine Ev.ret1 ?_
        refine ⟨?_, rfl⟩
        first | (congr 2; rw [← hp, idxP_append p pre _ 0 hinv, idxP, if_pos ‹_›]; omega) | (congr 2; rw [idxP_none p pre 0 hinv])
      · first
      | (first | omega | contradiction)
      | refine Ev.skip ?_
        show Ev _ _ _ _
        refine Ev.region_S fun K hK => S.o q.add (S.o q.mv (S.end (hK _ ?_)))
        clear hK K
        refine hR0 _ _ ?_
        refine roundU [] [0, 1, 7] ⟨(pre ++ [s], suf), by rw [← hp]; simp, ?_⟩ ?_ keep_n (slots_c (he := (by first | rfl | (simp; done) | (congr 2; omega))) (h := trivial)) (.c (.c (.c .n)))
        intro x hx; simp only [List.mem_append, List.mem_singleton] at hx; rcases hx with hx | rfl
        · exact hinv x hx
        · assumption
        all_goals (dsimp only; simp only [List.length_cons]; omega)
    · first
    | (first | omega | contradiction)
    | refine Ev.exit ?_
      refine hR0 _ _ ?_
      show Ev _ _ _ _
      refine Ev.sr fun K hK => S.o q.as (S.end (hK _ ?_))
      clear hK K
      refine Ev.ret ?_
      refine Ev.ret1 ?_
      refine ⟨?_, rfl⟩
      first | (congr 2; rw [← hp, idxP_append p pre _ 0 hinv, idxP, if_pos ‹_›]; omega) | (congr 2; rw [idxP_none p pre 0 hinv])
  · simp only [List.length_cons] at hpl
    have hidx : (l)[pre.length]? = some s := by rw [← hp]; simp
    refine Ev.sr fun K hK => S.o q.lss (S.end (hK _ ?_))
    clear hK K
    refine Ev.ud (fun c3 => ?_) (fun c3 => ?_)
    · first
    | (first | omega | contradiction)
    | refine Ev.seq ?_
      refine Ev.block ?_
      refine Ev.sr fun K hK => S.o q.mv (S.o q.as (S.end (hK _ ?_)))
      clear hK K
      refine Ev.sr fun K hK => S.o q.mv (S.o q.mv (S.o q.mv (S.o (q.ix am_el22 am_cl42 (hl := (by first | exact ati hidx (by omega) | exact atig (by omega)))) (S.o (q.lsA [_, _, _, _, _, _, _, _] am_ag42 am_cl42) (S.c0 (hF := hg s) (h := S.end (hK _ ?_)))))))
      clear hK K
      refine Ev.c (fun c4 => ?_) (fun c4 => ?_)
      · first
      | (first | omega | contradiction)
      | refine Ev.sr fun K hK => S.o q.mv (S.o q.as (S.end (hK _ ?_)))
        clear hK K
        refine Ev.ret ?_
        refine hR0 _ _ ?_
        refine Ev.ret1 ?_
        refine ⟨?_, rfl⟩
        first | (congr 2; rw [← hp, idxP_append p pre _ 0 hinv, idxP, if_pos ‹_›]; omega) | (congr 2; rw [idxP_none p pre 0 hinv])
      · first
      | (first | omega | contradiction)
      | refine Ev.skip ?_
        show Ev _ _ _ _
        refine Ev.region_S fun K hK => S.o q.add (S.o q.mv (S.end (hK _ ?_)))
        clear hK K
        refine hR0 _ _ ?_
        refine roundU [] [0, 1, 7] ⟨(pre ++ [s], suf), by rw [← hp]; simp, ?_⟩ ?_ keep_n (slots_c (he := (by first | rfl | (simp; done) | (congr 2; omega))) (h := trivial)) (.c (.c (.c .n)))
        intro x hx; simp only [List.mem_append, List.mem_singleton] at hx; rcases hx with hx | rfl
        · exact hinv x hx
        · assumption
        all_goals (dsimp only; simp only [List.length_cons]; omega)
    · first
    | (first | omega | contradiction)
    | refine Ev.exit ?_
      refine hR0 _ _ ?_
      show Ev _ _ _ _
      refine Ev.sr fun K hK => S.o q.as (S.end (hK _ ?_))
      clear hK K
      refine Ev.ret ?_
      refine Ev.ret1 ?_
      refine ⟨?_, rfl⟩
      first | (congr 2; rw [← hp, idxP_append p pre _ 0 hinv, idxP, if_pos ‹_›]; omega) | (congr 2; rw [idxP_none p pre 0 hinv])
theorem containsFuncDem1 (g : FuncId) (c0 : List AV) (p : Dem → Bool) (hg : ∀ s, Fun Tryd.prog g [.agg (Dem.c s), .sadr c0 0] (Ret (.lit (.bool (p s))) [])) (l : List (Dem)) (hlen : l.length ≤ 140737488355328) :
    Fun Tryd.prog 45 [.sh 8 (l.map Dem.c), .fn (.func g) [] [.sadr c0 0]] (Ret (.lit (.bool (decide (∃ x ∈ l, p x = true)))) []) := by
  have hd : (decide (∃ x ∈ l, p x = true)) = decide (0 ≤ idxP p l 0) := by simp only [idxP_nonneg p l 0 (Int.le_refl _)]
  rw [hd]
  refine Fun.of (nt := 9) (rs := [.tmp 4]) Tryd.func45 rfl rfl rfl rfl rfl ?_
  refine Ev.sr fun K hK => S.o q.as (S.end (hK _ ?_))
  clear hK K
  refine Ev.sr fun K hK => S.o q.mv (S.o q.mv (S.c0 (hF := indexFuncDem1 g c0 p hg l hlen) (h := S.o q.geq (S.o q.as (S.end (hK _ ?_))))))
  clear hK K
  refine Ev.ret ?_
  refine Ev.ret1 ?_
  refine ⟨?_, rfl⟩
  rfl
theorem named_fun (d : Dem) (x : Dem) : Fun Tryd.prog 46 [.agg x.c, .sadr d.c 0] (Ret (.lit (.bool (decide (x.name = d.name)))) []) := by
  refine Fun.of (nt := 9) (rs := [.tmp 3]) Tryd.func46 rfl rfl rfl rfl rfl ?_
  refine Ev.sr fun K hK => S.nn (q.bx [_, _, _, _, _, _, _, _] true) (S.o q.as (S.end (hK _ ?_)))
  clear hK K
  refine Ev.sr fun K hK => S.o (q.fa 0 am_fi42_0 am_cl9) (S.o (q.lv am_ag9) (S.o (q.fs 0 am_fi42_0 am_cl9) (S.o (q.ls am_ag9) (S.o q.seqs (S.o q.as (S.end (hK _ ?_)))))))
  clear hK K
  refine Ev.ret ?_
  refine Ev.ret1 ?_
  refine ⟨?_, rfl⟩
  rfl
theorem demValid_fun (l : List Dem) (hlen : l.length ≤ 140737488355328) (hw : demW l) : Fun Tryd.prog 26 [.sh 8 (l.map Dem.c)] (Ret (.lit (.bool (decide (okDems l)))) []) := by
  refine Fun.of (nt := 26) (rs := [.tmp 2]) Tryd.func26 rfl rfl rfl rfl rfl ?_
  refine Ev.sr fun K hK => S.o q.as (S.end (hK _ ?_))
  clear hK K
  refine Ev.seq ?_
  refine Ev.sr fun K hK => S.o q.mv (S.o (q.lens am_el22) (S.o q.gtr (S.end (hK _ ?_))))
  clear hK K
  refine Ev.cd (fun c1 => ?_) (fun c1 => ?_)
  · first
  | (first | omega | contradiction)
  | refine Ev.sr fun K hK => S.o q.as (S.end (hK _ ?_))
    clear hK K
    refine Ev.ret ?_
    refine Ev.ret1 ?_
    refine ⟨?_, rfl⟩
    first
     | exact bF (fun h => by have h1 := h.1; omega)
     | exact bF (fun h => absurd (dems_cut hp h).1 ‹_›)
     | exact bF (fun h => by obtain ⟨x, hx, hn⟩ := ‹∃ x ∈ pre, _›; exact (dems_cut hp h).2 x hx (by simpa using hn))
     | exact bF (fun h => by have h1 := (demI_at hp).2 (dems_cut hp h).2; omega)
     | exact bF (fun h => absurd (dems_cut hp h).1.1 ‹_›)
     | exact bF (fun h => absurd (dems_cut hp h).1.2.1 ‹_›)
     | exact bF (fun h => absurd (dems_cut hp h).1.2.2 ‹_›)
     | exact bT ⟨by omega, by rw [← hp]; exact hinv⟩
  · first
  | (first | omega | contradiction)
  | refine Ev.skip ?_
    show Ev _ _ _ _
    refine Ev.seq ?_
    refine Ev.sr fun K hK => S.o q.mv (S.o (q.lens am_el22) (S.o q.mv (S.end (hK _ ?_))))
    clear hK K
    refine Ev.block ?_
    refine Ev.loopU (ι := {q : List Dem × List Dem // q.1 ++ q.2 = l ∧ (∀ b ∈ q.1, okDem b) ∧ q.1.Pairwise (fun a b => a.name ≠ b.name)}) [] [0, 8, 9] (fun ⟨(pre, suf), _⟩ => [(10, .lit (.int .i64 ((pre.length : Int))))]) (fun ⟨(pre, suf), _⟩ => []) (fun ⟨(pre, suf), _⟩ => suf.length) ⟨([], l), rfl, ⟨fun b hb => by simp at hb, by simp⟩⟩ (.c (.c (.c .n))) keep_n (slots_c (he := (by first | rfl | (simp; done) | (congr 2; omega))) (h := trivial)) ?_
    rintro ⟨⟨pre, suf⟩, hp, hinv⟩ R0 hR0
    dsimp only [List.cons_append, List.nil_append, List.length_cons, List.length_nil]
    simp only at hp hinv
    have hpl : pre.length + suf.length = (l).length := by rw [← hp, List.length_append]
    rcases suf with _ | ⟨s, suf⟩
    · rw [List.append_nil] at hp; simp only [List.length_nil] at hpl
      refine Ev.sr fun K hK => S.o q.lss (S.end (hK _ ?_))
      clear hK K
      refine Ev.ud (fun c2 => ?_) (fun c2 => ?_)
      · first
      | (first | omega | contradiction)
      | refine Ev.seq ?_
        refine Ev.block ?_
        refine Ev.sr fun K hK => S.o q.mv (S.o (q.ix am_el22 am_cl42 (hl := (by first | exact atig (by omega)))) (S.o (q.lsA [_, _, _, _, _, _, _, _] am_ag42 am_cl42) (S.nn (q.al am_ze42) (S.o q.as (S.sv [_, _, _, _, _, _, _, _] true [] am_in42 am_cl42 (h := S.end (hK _ ?_)))))))
        clear hK K
        refine Ev.sr fun K hK => S.o (q.lvA [_, _, _, _, _, _, _, _] am_ag42 am_cl42) (S.c0 (hF := right_fun _ (by assumption)) (h := S.o q.not (S.bn q.mv (fun c3 => ?_) (fun c3 => ?_))))
        · first
        | (first | omega | contradiction)
        | refine S.sk (S.sk (S.sk (S.sk (S.sk (S.o q.pt (S.end (hK _ ?_)))))))
          clear hK K
          refine Ev.ct ?_
          refine Ev.sr fun K hK => S.o q.as (S.end (hK _ ?_))
          clear hK K
          refine Ev.ret ?_
          refine hR0 _ _ ?_
          refine Ev.ret1 ?_
          refine ⟨?_, rfl⟩
          first
           | exact bF (fun h => by have h1 := h.1; omega)
           | exact bF (fun h => absurd (dems_cut hp h).1 ‹_›)
           | exact bF (fun h => by obtain ⟨x, hx, hn⟩ := ‹∃ x ∈ pre, _›; exact (dems_cut hp h).2 x hx (by simpa using hn))
           | exact bF (fun h => by have h1 := (demI_at hp).2 (dems_cut hp h).2; omega)
           | exact bF (fun h => absurd (dems_cut hp h).1.1 ‹_›)
           | exact bF (fun h => absurd (dems_cut hp h).1.2.1 ‹_›)
           | exact bF (fun h => absurd (dems_cut hp h).1.2.2 ‹_›)
           | exact bT ⟨by omega, by rw [← hp]; exact hinv⟩
        · first
        | (first | omega | contradiction)
        | refine S.o q.mv (S.o q.mv (S.o (q.sh am_el22 am_cl42) (S.o q.mf ?_)))
          rw [htk]
          refine S.c0 (hF := containsFuncDem1 _ _ _ (named_fun s) pre (by omega)) (h := S.o q.pf (S.end (hK _ ?_)))
          clear hK K
          refine Ev.cd (fun c4 => ?_) (fun c4 => ?_)
          · first
          | (first | omega | contradiction)
          | refine Ev.sr fun K hK => S.o q.as (S.end (hK _ ?_))
            clear hK K
            refine Ev.ret ?_
            refine hR0 _ _ ?_
            refine Ev.ret1 ?_
            refine ⟨?_, rfl⟩
            first
             | exact bF (fun h => by have h1 := h.1; omega)
             | exact bF (fun h => absurd (dems_cut hp h).1 ‹_›)
             | exact bF (fun h => by obtain ⟨x, hx, hn⟩ := ‹∃ x ∈ pre, _›; exact (dems_cut hp h).2 x hx (by simpa using hn))
             | exact bF (fun h => by have h1 := (demI_at hp).2 (dems_cut hp h).2; omega)
             | exact bF (fun h => absurd (dems_cut hp h).1.1 ‹_›)
             | exact bF (fun h => absurd (dems_cut hp h).1.2.1 ‹_›)
             | exact bF (fun h => absurd (dems_cut hp h).1.2.2 ‹_›)
             | exact bT ⟨by omega, by rw [← hp]; exact hinv⟩
          · first
          | (first | omega | contradiction)
          | refine Ev.skip ?_
            show Ev _ _ _ _
            refine Ev.region_S fun K hK => S.o q.add (S.o q.mv (S.end (hK _ ?_)))
            clear hK K
            refine hR0 _ _ ?_
            refine roundU [] [0, 8, 9] ⟨(pre ++ [s], suf), by rw [← hp]; simp, ?_⟩ ?_ keep_n (slots_c (he := (by first | rfl | (simp; done) | (congr 2; omega))) (h := trivial)) (.c (.c (.c .n)))
            exact dems_snoc hinv ‹_› (fun a ha he => by have h := ‹¬ ∃ x ∈ pre, _›; exact h ⟨a, ha, by simpa using he⟩)
            all_goals (dsimp only; simp only [List.length_cons]; omega)
      · first
      | (first | omega | contradiction)
      | refine Ev.exit ?_
        refine hR0 _ _ ?_
        show Ev _ _ _ _
        refine Ev.sr fun K hK => S.o q.as (S.end (hK _ ?_))
        clear hK K
        refine Ev.ret ?_
        refine Ev.ret1 ?_
        refine ⟨?_, rfl⟩
        first
         | exact bF (fun h => by have h1 := h.1; omega)
         | exact bF (fun h => absurd (dems_cut hp h).1 ‹_›)
         | exact bF (fun h => by obtain ⟨x, hx, hn⟩ := ‹∃ x ∈ pre, _›; exact (dems_cut hp h).2 x hx (by simpa using hn))
         | exact bF (fun h => by have h1 := (demI_at hp).2 (dems_cut hp h).2; omega)
         | exact bF (fun h => absurd (dems_cut hp h).1.1 ‹_›)
         | exact bF (fun h => absurd (dems_cut hp h).1.2.1 ‹_›)
         | exact bF (fun h => absurd (dems_cut hp h).1.2.2 ‹_›)
         | exact bT ⟨by omega, by rw [← hp]; exact hinv⟩
    · simp only [List.length_cons] at hpl
      have hidx : l[pre.length]? = some s := by rw [← hp]; simp
      have hsw : s.w := hw s (by rw [← hp]; simp)
      have htk : List.take ((pre.length : Int).toNat - ((0 : Nat) : Int).toNat) (List.drop ((0 : Nat) : Int).toNat l) = pre := by simpa using take_pre hp
      refine Ev.sr fun K hK => S.o q.lss (S.end (hK _ ?_))
      clear hK K
      refine Ev.ud (fun c5 => ?_) (fun c5 => ?_)
      · first
      | (first | omega | contradiction)
      | refine Ev.seq ?_
        refine Ev.block ?_
        refine Ev.sr fun K hK => S.o q.mv (S.o (q.ix am_el22 am_cl42 (hl := (by first | exact ati hidx (by omega) | exact atig (by omega)))) (S.o (q.lsA [_, _, _, _, _, _, _, _] am_ag42 am_cl42) (S.nn (q.al am_ze42) (S.o q.as (S.sv [_, _, _, _, _, _, _, _] true [] am_in42 am_cl42 (h := S.end (hK _ ?_)))))))
        clear hK K
        refine Ev.sr fun K hK => S.o (q.lvA [_, _, _, _, _, _, _, _] am_ag42 am_cl42) (S.c0 (hF := right_fun _ (by assumption)) (h := S.o q.not (S.bn q.mv (fun c6 => ?_) (fun c6 => ?_))))
        · first
        | (first | omega | contradiction)
        | refine S.sk (S.sk (S.sk (S.sk (S.sk (S.o q.pt (S.end (hK _ ?_)))))))
          clear hK K
          refine Ev.ct ?_
          refine Ev.sr fun K hK => S.o q.as (S.end (hK _ ?_))
          clear hK K
          refine Ev.ret ?_
          refine hR0 _ _ ?_
          refine Ev.ret1 ?_
          refine ⟨?_, rfl⟩
          first
           | exact bF (fun h => by have h1 := h.1; omega)
           | exact bF (fun h => absurd (dems_cut hp h).1 ‹_›)
           | exact bF (fun h => by obtain ⟨x, hx, hn⟩ := ‹∃ x ∈ pre, _›; exact (dems_cut hp h).2 x hx (by simpa using hn))
           | exact bF (fun h => by have h1 := (demI_at hp).2 (dems_cut hp h).2; omega)
           | exact bF (fun h => absurd (dems_cut hp h).1.1 ‹_›)
           | exact bF (fun h => absurd (dems_cut hp h).1.2.1 ‹_›)
           | exact bF (fun h => absurd (dems_cut hp h).1.2.2 ‹_›)
           | exact bT ⟨by omega, by rw [← hp]; exact hinv⟩
        · first
        | (first | omega | contradiction)
        | refine S.o q.mv (S.o q.mv (S.o (q.sh am_el22 am_cl42) (S.o q.mf ?_)))
          rw [htk]
          refine S.c0 (hF := containsFuncDem1 _ _ _ (named_fun s) pre (by omega)) (h := S.o q.pf (S.end (hK _ ?_)))
          clear hK K
          refine Ev.cd (fun c7 => ?_) (fun c7 => ?_)
          · first
          | (first | omega | contradiction)
          | refine Ev.sr fun K hK => S.o q.as (S.end (hK _ ?_))
            clear hK K
            refine Ev.ret ?_
            refine hR0 _ _ ?_
            refine Ev.ret1 ?_
            refine ⟨?_, rfl⟩
            first
             | exact bF (fun h => by have h1 := h.1; omega)
             | exact bF (fun h => absurd (dems_cut hp h).1 ‹_›)
             | exact bF (fun h => by obtain ⟨x, hx, hn⟩ := ‹∃ x ∈ pre, _›; exact (dems_cut hp h).2 x hx (by simpa using hn))
             | exact bF (fun h => by have h1 := (demI_at hp).2 (dems_cut hp h).2; omega)
             | exact bF (fun h => absurd (dems_cut hp h).1.1 ‹_›)
             | exact bF (fun h => absurd (dems_cut hp h).1.2.1 ‹_›)
             | exact bF (fun h => absurd (dems_cut hp h).1.2.2 ‹_›)
             | exact bT ⟨by omega, by rw [← hp]; exact hinv⟩
          · first
          | (first | omega | contradiction)
          | refine Ev.skip ?_
            show Ev _ _ _ _
            refine Ev.region_S fun K hK => S.o q.add (S.o q.mv (S.end (hK _ ?_)))
            clear hK K
            refine hR0 _ _ ?_
            refine roundU [] [0, 8, 9] ⟨(pre ++ [s], suf), by rw [← hp]; simp, ?_⟩ ?_ keep_n (slots_c (he := (by first | rfl | (simp; done) | (congr 2; omega))) (h := trivial)) (.c (.c (.c .n)))
            exact dems_snoc hinv ‹_› (fun a ha he => by have h := ‹¬ ∃ x ∈ pre, _›; exact h ⟨a, ha, by simpa using he⟩)
            all_goals (dsimp only; simp only [List.length_cons]; omega)
      · first
      | (first | omega | contradiction)
      | refine Ev.exit ?_
        refine hR0 _ _ ?_
        show Ev _ _ _ _
        refine Ev.sr fun K hK => S.o q.as (S.end (hK _ ?_))
        clear hK K
        refine Ev.ret ?_
        refine Ev.ret1 ?_
        refine ⟨?_, rfl⟩
        first
         | exact bF (fun h => by have h1 := h.1; omega)
         | exact bF (fun h => absurd (dems_cut hp h).1 ‹_›)
         | exact bF (fun h => by obtain ⟨x, hx, hn⟩ := ‹∃ x ∈ pre, _›; exact (dems_cut hp h).2 x hx (by simpa using hn))
         | exact bF (fun h => by have h1 := (demI_at hp).2 (dems_cut hp h).2; omega)
         | exact bF (fun h => absurd (dems_cut hp h).1.1 ‹_›)
         | exact bF (fun h => absurd (dems_cut hp h).1.2.1 ‹_›)
         | exact bF (fun h => absurd (dems_cut hp h).1.2.2 ‹_›)
         | exact bT ⟨by omega, by rw [← hp]; exact hinv⟩
theorem rfindD_fun (l : List Dem) (nm : List UInt8) (hlen : l.length ≤ 140737488355328) : Fun Tryd.prog 22 [.sh 8 (l.map Dem.c), .lit (str nm)] (Ret (.lit (.int .i64 (demI l nm))) []) := by
  unfold demI
  refine Fun.of (nt := 20) (rs := [.tmp 4]) Tryd.func22 rfl rfl rfl rfl rfl ?_
  refine Ev.sr fun K hK => S.o q.as (S.end (hK _ ?_))
  clear hK K
  refine Ev.seq ?_
  refine Ev.sr fun K hK => S.o q.as (S.end (hK _ ?_))
  clear hK K
  refine Ev.block ?_
  refine Ev.loopU (ι := {q : List Dem × List Dem // q.1 ++ q.2 = l ∧ ∀ x ∈ q.1, decide (x.name = nm) = false}) [] [0, 1] (fun ⟨(pre, suf), _⟩ => [(5, .lit (.int .i64 ((pre.length : Int))))]) (fun ⟨(pre, suf), _⟩ => []) (fun ⟨(pre, suf), _⟩ => suf.length) ⟨([], l), rfl, fun x hx => by simp at hx⟩ (.c (.c .n)) keep_n (slots_c (he := (by first | rfl | (simp; done) | (congr 2; omega))) (h := trivial)) ?_
  rintro ⟨⟨pre, suf⟩, hp, hinv⟩ R0 hR0
  dsimp only [List.cons_append, List.nil_append, List.length_cons, List.length_nil]
  simp only at hp hinv
  have hpl : pre.length + suf.length = (l).length := by rw [← hp, List.length_append]
  rcases suf with _ | ⟨s, suf⟩
  · rw [List.append_nil] at hp; subst hp; simp only [List.length_nil] at hpl
    refine Ev.seq ?_
    refine Ev.sr fun K hK => S.o q.mv (S.o q.mv (S.o (q.lens am_el22) (S.o q.lss (S.end (hK _ ?_)))))
    clear hK K
    refine Ev.cd (fun c1 => ?_) (fun c1 => ?_)
    · first
    | (first | omega | contradiction)
    | refine Ev.skip ?_
      show Ev _ _ _ _
      refine Ev.seq ?_
      refine Ev.block ?_
      refine Ev.sr fun K hK => S.o q.mv (S.o q.mv (S.o (q.ix am_el22 am_cl42 (hl := (by first | exact atig (by omega)))) (S.o (q.fs 0 am_fi42_0 am_cl9) (S.o (q.ls am_ag9) (S.o q.mv (S.o q.seqs (S.end (hK _ ?_))))))))
      clear hK K
      refine Ev.cd (fun c2 => ?_) (fun c2 => ?_)
      · first
      | (first | omega | contradiction)
      | refine Ev.sr fun K hK => S.o q.mv (S.o q.as (S.end (hK _ ?_)))
        clear hK K
        refine Ev.ret ?_
        refine hR0 _ _ ?_
        refine Ev.ret1 ?_
        refine ⟨?_, rfl⟩
        first | (congr 2; rw [← hp, idxP_append _ pre _ 0 hinv, idxP, if_pos (decide_eq_true ‹_›)]; omega) | (congr 2; rw [idxP_none _ pre 0 hinv])
      · first
      | (first | omega | contradiction)
      | refine Ev.skip ?_
        show Ev _ _ _ _
        refine Ev.region_S fun K hK => S.o q.mv (S.o q.add (S.o q.as (S.end (hK _ ?_))))
        clear hK K
        refine hR0 _ _ ?_
        refine roundU [] [0, 1] ⟨(pre ++ [s], suf), by rw [← hp]; simp, ?_⟩ ?_ keep_n (slots_c (he := (by first | rfl | (simp; done) | (congr 2; omega))) (h := trivial)) (.c (.c .n))
        intro x hx; simp only [List.mem_append, List.mem_singleton] at hx; rcases hx with hx | rfl
        · exact hinv x hx
        · exact decide_eq_false ‹_›
        all_goals (dsimp only; simp only [List.length_cons]; omega)
    · first
    | (first | omega | contradiction)
    | refine Ev.exit ?_
      refine hR0 _ _ ?_
      show Ev _ _ _ _
      refine Ev.sr fun K hK => S.o q.as (S.end (hK _ ?_))
      clear hK K
      refine Ev.ret ?_
      refine Ev.ret1 ?_
      refine ⟨?_, rfl⟩
      first | (congr 2; rw [← hp, idxP_append _ pre _ 0 hinv, idxP, if_pos (decide_eq_true ‹_›)]; omega) | (congr 2; rw [idxP_none _ pre 0 hinv])
  · simp only [List.length_cons] at hpl
    have hidx : (l)[pre.length]? = some s := by rw [← hp]; simp
    refine Ev.seq ?_
    refine Ev.sr fun K hK => S.o q.mv (S.o q.mv (S.o (q.lens am_el22) (S.o q.lss (S.end (hK _ ?_)))))
    clear hK K
    refine Ev.cd (fun c3 => ?_) (fun c3 => ?_)
    · first
    | (first | omega | contradiction)
    | refine Ev.skip ?_
      show Ev _ _ _ _
      refine Ev.seq ?_
      refine Ev.block ?_
      refine Ev.sr fun K hK => S.o q.mv (S.o q.mv (S.o (q.ix am_el22 am_cl42 (hl := (by first | exact ati hidx (by omega) | exact atig (by omega)))) (S.o (q.fs 0 am_fi42_0 am_cl9) (S.o (q.ls am_ag9) (S.o q.mv (S.o q.seqs (S.end (hK _ ?_))))))))
      clear hK K
      refine Ev.cd (fun c4 => ?_) (fun c4 => ?_)
      · first
      | (first | omega | contradiction)
      | refine Ev.sr fun K hK => S.o q.mv (S.o q.as (S.end (hK _ ?_)))
        clear hK K
        refine Ev.ret ?_
        refine hR0 _ _ ?_
        refine Ev.ret1 ?_
        refine ⟨?_, rfl⟩
        first | (congr 2; rw [← hp, idxP_append _ pre _ 0 hinv, idxP, if_pos (decide_eq_true ‹_›)]; omega) | (congr 2; rw [idxP_none _ pre 0 hinv])
      · first
      | (first | omega | contradiction)
      | refine Ev.skip ?_
        show Ev _ _ _ _
        refine Ev.region_S fun K hK => S.o q.mv (S.o q.add (S.o q.as (S.end (hK _ ?_))))
        clear hK K
        refine hR0 _ _ ?_
        refine roundU [] [0, 1] ⟨(pre ++ [s], suf), by rw [← hp]; simp, ?_⟩ ?_ keep_n (slots_c (he := (by first | rfl | (simp; done) | (congr 2; omega))) (h := trivial)) (.c (.c .n))
        intro x hx; simp only [List.mem_append, List.mem_singleton] at hx; rcases hx with hx | rfl
        · exact hinv x hx
        · exact decide_eq_false ‹_›
        all_goals (dsimp only; simp only [List.length_cons]; omega)
    · first
    | (first | omega | contradiction)
    | refine Ev.exit ?_
      refine hR0 _ _ ?_
      show Ev _ _ _ _
      refine Ev.sr fun K hK => S.o q.as (S.end (hK _ ?_))
      clear hK K
      refine Ev.ret ?_
      refine Ev.ret1 ?_
      refine ⟨?_, rfl⟩
      first | (congr 2; rw [← hp, idxP_append _ pre _ 0 hinv, idxP, if_pos (decide_eq_true ‹_›)]; omega) | (congr 2; rw [idxP_none _ pre 0 hinv])
theorem rdemValid_fun (l : List Dem) (hlen : l.length ≤ 140737488355328) (hw : demW l) : Fun Tryd.prog 6 [.sh 8 (l.map Dem.c)] (Ret (.lit (.bool (decide (okDems l)))) []) := by
  refine Fun.of (nt := 49) (rs := [.tmp 2]) Tryd.func6 rfl rfl rfl rfl rfl ?_
  refine Ev.sr fun K hK => S.o q.as (S.end (hK _ ?_))
  clear hK K
  refine Ev.seq ?_
  refine Ev.sr fun K hK => S.o q.mv (S.o (q.lens am_el22) (S.o q.gtr (S.end (hK _ ?_))))
  clear hK K
  refine Ev.cd (fun c1 => ?_) (fun c1 => ?_)
  · first
  | (first | omega | contradiction)
  | refine Ev.sr fun K hK => S.o q.as (S.end (hK _ ?_))
    clear hK K
    refine Ev.ret ?_
    refine Ev.ret1 ?_
    refine ⟨?_, rfl⟩
    first
     | exact bF (fun h => by have h1 := h.1; omega)
     | exact bF (fun h => absurd (dems_cut hp h).1 ‹_›)
     | exact bF (fun h => by obtain ⟨x, hx, hn⟩ := ‹∃ x ∈ pre, _›; exact (dems_cut hp h).2 x hx (by simpa using hn))
     | exact bF (fun h => by have h1 := (demI_at hp).2 (dems_cut hp h).2; omega)
     | exact bF (fun h => absurd (dems_cut hp h).1.1 ‹_›)
     | exact bF (fun h => absurd (dems_cut hp h).1.2.1 ‹_›)
     | exact bF (fun h => absurd (dems_cut hp h).1.2.2 ‹_›)
     | exact bT ⟨by omega, by rw [← hp]; exact hinv⟩
  · first
  | (first | omega | contradiction)
  | refine Ev.skip ?_
    show Ev _ _ _ _
    refine Ev.seq ?_
    refine Ev.sr fun K hK => S.o q.as (S.end (hK _ ?_))
    clear hK K
    refine Ev.block ?_
    refine Ev.loopU (ι := {q : List Dem × List Dem // q.1 ++ q.2 = l ∧ (∀ b ∈ q.1, okDem b) ∧ q.1.Pairwise (fun a b => a.name ≠ b.name)}) [] [0] (fun ⟨(pre, suf), _⟩ => [(3, .lit (.int .i64 ((pre.length : Int))))]) (fun ⟨(pre, suf), _⟩ => []) (fun ⟨(pre, suf), _⟩ => suf.length) ⟨([], l), rfl, ⟨fun b hb => by simp at hb, by simp⟩⟩ (.c .n) keep_n (slots_c (he := (by first | rfl | (simp; done) | (congr 2; omega))) (h := trivial)) ?_
    rintro ⟨⟨pre, suf⟩, hp, hinv⟩ R0 hR0
    dsimp only [List.cons_append, List.nil_append, List.length_cons, List.length_nil]
    simp only at hp hinv
    have hpl : pre.length + suf.length = (l).length := by rw [← hp, List.length_append]
    rcases suf with _ | ⟨s, suf⟩
    · rw [List.append_nil] at hp; simp only [List.length_nil] at hpl
      refine Ev.seq ?_
      refine Ev.sr fun K hK => S.o q.mv (S.o q.mv (S.o (q.lens am_el22) (S.o q.lss (S.end (hK _ ?_)))))
      clear hK K
      refine Ev.cd (fun c2 => ?_) (fun c2 => ?_)
      · first
      | (first | omega | contradiction)
      | refine Ev.skip ?_
        show Ev _ _ _ _
        refine Ev.seq ?_
        refine Ev.block ?_
        refine Ev.sr fun K hK => S.o q.mv (S.o q.mv (S.o (q.ix am_el22 am_cl42 (hl := (by first | exact atig (by omega)))) (S.o (q.fs 0 am_fi42_0 am_cl9) (S.o (q.ls am_ag9) (S.c0 (hF := risName_fun _ (by omega)) (h := S.o q.not (S.bn q.mv (fun c3 => ?_) (fun c3 => ?_))))))))
        · first
        | (first | omega | contradiction)
        | refine S.sk (S.sk (S.sk (S.sk (S.sk (S.sk (S.sk (S.sk (S.sk (S.o q.pt (S.o q.mv (S.sk (S.sk (S.sk (S.sk (S.sk (S.sk (S.sk (S.o q.pt (S.o q.mv (S.sk (S.sk (S.sk (S.sk (S.sk (S.sk (S.sk (S.o q.pt (S.end (hK _ ?_)))))))))))))))))))))))))))))
          clear hK K
          refine Ev.ct ?_
          refine Ev.sr fun K hK => S.o q.as (S.end (hK _ ?_))
          clear hK K
          refine Ev.ret ?_
          refine hR0 _ _ ?_
          refine Ev.ret1 ?_
          refine ⟨?_, rfl⟩
          first
           | exact bF (fun h => by have h1 := h.1; omega)
           | exact bF (fun h => absurd (dems_cut hp h).1 ‹_›)
           | exact bF (fun h => by obtain ⟨x, hx, hn⟩ := ‹∃ x ∈ pre, _›; exact (dems_cut hp h).2 x hx (by simpa using hn))
           | exact bF (fun h => by have h1 := (demI_at hp).2 (dems_cut hp h).2; omega)
           | exact bF (fun h => absurd (dems_cut hp h).1.1 ‹_›)
           | exact bF (fun h => absurd (dems_cut hp h).1.2.1 ‹_›)
           | exact bF (fun h => absurd (dems_cut hp h).1.2.2 ‹_›)
           | exact bT ⟨by omega, by rw [← hp]; exact hinv⟩
        · first
        | (first | omega | contradiction)
        | refine S.o q.mv (S.o q.mv (S.o q.mv (S.o (q.ix am_el22 am_cl42 (hl := (by first | exact atig (by omega)))) (S.o (q.fs 0 am_fi42_0 am_cl9) (S.o (q.ls am_ag9) (S.c0 (hF := rfindD_fun _ _ (by omega)) (h := S.o q.mv (S.o q.neq (S.o q.pf (S.bn q.mv (fun c4 => ?_) (fun c4 => ?_)))))))))))
          · first
          | (first | omega | contradiction)
          | refine S.sk (S.sk (S.sk (S.sk (S.sk (S.sk (S.sk (S.o q.pt (S.o q.mv (S.sk (S.sk (S.sk (S.sk (S.sk (S.sk (S.sk (S.o q.pt (S.end (hK _ ?_))))))))))))))))))
            clear hK K
            refine Ev.ct ?_
            refine Ev.sr fun K hK => S.o q.as (S.end (hK _ ?_))
            clear hK K
            refine Ev.ret ?_
            refine hR0 _ _ ?_
            refine Ev.ret1 ?_
            refine ⟨?_, rfl⟩
            first
             | exact bF (fun h => by have h1 := h.1; omega)
             | exact bF (fun h => absurd (dems_cut hp h).1 ‹_›)
             | exact bF (fun h => by obtain ⟨x, hx, hn⟩ := ‹∃ x ∈ pre, _›; exact (dems_cut hp h).2 x hx (by simpa using hn))
             | exact bF (fun h => by have h1 := (demI_at hp).2 (dems_cut hp h).2; omega)
             | exact bF (fun h => absurd (dems_cut hp h).1.1 ‹_›)
             | exact bF (fun h => absurd (dems_cut hp h).1.2.1 ‹_›)
             | exact bF (fun h => absurd (dems_cut hp h).1.2.2 ‹_›)
             | exact bT ⟨by omega, by rw [← hp]; exact hinv⟩
          · first
          | (first | omega | contradiction)
          | refine S.o q.mv (S.o q.mv (S.o (q.ix am_el22 am_cl42 (hl := (by first | exact atig (by omega)))) (S.o (q.fs 1 am_fi42_1 am_cl26) (S.o (q.lsA [_, _, _, _, _, _] am_ag26 am_cl26) (S.c0 (hF := rboxValid_fun s.zone) (h := S.o q.not (S.o q.pf (S.bn q.mv (fun c5 => ?_) (fun c5 => ?_)))))))))
            · first
            | (first | omega | contradiction)
            | refine S.sk (S.sk (S.sk (S.sk (S.sk (S.sk (S.sk (S.o q.pt (S.end (hK _ ?_)))))))))
              clear hK K
              refine Ev.ct ?_
              refine Ev.sr fun K hK => S.o q.as (S.end (hK _ ?_))
              clear hK K
              refine Ev.ret ?_
              refine hR0 _ _ ?_
              refine Ev.ret1 ?_
              refine ⟨?_, rfl⟩
              first
               | exact bF (fun h => by have h1 := h.1; omega)
               | exact bF (fun h => absurd (dems_cut hp h).1 ‹_›)
               | exact bF (fun h => by obtain ⟨x, hx, hn⟩ := ‹∃ x ∈ pre, _›; exact (dems_cut hp h).2 x hx (by simpa using hn))
               | exact bF (fun h => by have h1 := (demI_at hp).2 (dems_cut hp h).2; omega)
               | exact bF (fun h => absurd (dems_cut hp h).1.1 ‹_›)
               | exact bF (fun h => absurd (dems_cut hp h).1.2.1 ‹_›)
               | exact bF (fun h => absurd (dems_cut hp h).1.2.2 ‹_›)
               | exact bT ⟨by omega, by rw [← hp]; exact hinv⟩
            · first
            | (first | omega | contradiction)
            | refine S.o q.mv (S.o q.mv (S.o (q.ix am_el22 am_cl42 (hl := (by first | exact atig (by omega)))) (S.o (q.fs 7 am_fi42_2 am_cl31) (S.o (q.ls am_ag31) (S.c0 (hF := rstepsValid_fun _ (by omega)) (h := S.o q.not (S.o q.pf (S.end (hK _ ?_)))))))))
              clear hK K
              refine Ev.cn (fun c6 => ?_) (fun c6 => ?_)
              · first
              | (first | omega | contradiction)
              | refine Ev.sr fun K hK => S.o q.as (S.end (hK _ ?_))
                clear hK K
                refine Ev.ret ?_
                refine hR0 _ _ ?_
                refine Ev.ret1 ?_
                refine ⟨?_, rfl⟩
                first
                 | exact bF (fun h => by have h1 := h.1; omega)
                 | exact bF (fun h => absurd (dems_cut hp h).1 ‹_›)
                 | exact bF (fun h => by obtain ⟨x, hx, hn⟩ := ‹∃ x ∈ pre, _›; exact (dems_cut hp h).2 x hx (by simpa using hn))
                 | exact bF (fun h => by have h1 := (demI_at hp).2 (dems_cut hp h).2; omega)
                 | exact bF (fun h => absurd (dems_cut hp h).1.1 ‹_›)
                 | exact bF (fun h => absurd (dems_cut hp h).1.2.1 ‹_›)
                 | exact bF (fun h => absurd (dems_cut hp h).1.2.2 ‹_›)
                 | exact bT ⟨by omega, by rw [← hp]; exact hinv⟩
              · first
              | (first | omega | contradiction)
              | refine Ev.skip ?_
                show Ev _ _ _ _
                refine Ev.region_S fun K hK => S.o q.mv (S.o q.add (S.o q.as (S.end (hK _ ?_))))
                clear hK K
                refine hR0 _ _ ?_
                refine roundU [] [0] ⟨(pre ++ [s], suf), by rw [← hp]; simp, ?_⟩ ?_ keep_n (slots_c (he := (by first | rfl | (simp; done) | (congr 2; omega))) (h := trivial)) (.c .n)
                exact dems_snoc hinv ⟨‹_›, ‹_›, ‹_›⟩ ((demI_at hp).1 (by omega))
                all_goals (dsimp only; simp only [List.length_cons]; omega)
      · first
      | (first | omega | contradiction)
      | refine Ev.exit ?_
        refine hR0 _ _ ?_
        show Ev _ _ _ _
        refine Ev.sr fun K hK => S.o q.as (S.end (hK _ ?_))
        clear hK K
        refine Ev.ret ?_
        refine Ev.ret1 ?_
        refine ⟨?_, rfl⟩
        first
         | exact bF (fun h => by have h1 := h.1; omega)
         | exact bF (fun h => absurd (dems_cut hp h).1 ‹_›)
         | exact bF (fun h => by obtain ⟨x, hx, hn⟩ := ‹∃ x ∈ pre, _›; exact (dems_cut hp h).2 x hx (by simpa using hn))
         | exact bF (fun h => by have h1 := (demI_at hp).2 (dems_cut hp h).2; omega)
         | exact bF (fun h => absurd (dems_cut hp h).1.1 ‹_›)
         | exact bF (fun h => absurd (dems_cut hp h).1.2.1 ‹_›)
         | exact bF (fun h => absurd (dems_cut hp h).1.2.2 ‹_›)
         | exact bT ⟨by omega, by rw [← hp]; exact hinv⟩
    · simp only [List.length_cons] at hpl
      have hidx : l[pre.length]? = some s := by rw [← hp]; simp
      have hsw : s.w := hw s (by rw [← hp]; simp)
      obtain ⟨hsw1, hsw2⟩ := hsw
      refine Ev.seq ?_
      refine Ev.sr fun K hK => S.o q.mv (S.o q.mv (S.o (q.lens am_el22) (S.o q.lss (S.end (hK _ ?_)))))
      clear hK K
      refine Ev.cd (fun c7 => ?_) (fun c7 => ?_)
      · first
      | (first | omega | contradiction)
      | refine Ev.skip ?_
        show Ev _ _ _ _
        refine Ev.seq ?_
        refine Ev.block ?_
        refine Ev.sr fun K hK => S.o q.mv (S.o q.mv (S.o (q.ix am_el22 am_cl42 (hl := (by first | exact ati hidx (by omega) | exact atig (by omega)))) (S.o (q.fs 0 am_fi42_0 am_cl9) (S.o (q.ls am_ag9) (S.c0 (hF := risName_fun _ (by omega)) (h := S.o q.not (S.bn q.mv (fun c8 => ?_) (fun c8 => ?_))))))))
        · first
        | (first | omega | contradiction)
        | refine S.sk (S.sk (S.sk (S.sk (S.sk (S.sk (S.sk (S.sk (S.sk (S.o q.pt (S.o q.mv (S.sk (S.sk (S.sk (S.sk (S.sk (S.sk (S.sk (S.o q.pt (S.o q.mv (S.sk (S.sk (S.sk (S.sk (S.sk (S.sk (S.sk (S.o q.pt (S.end (hK _ ?_)))))))))))))))))))))))))))))
          clear hK K
          refine Ev.ct ?_
          refine Ev.sr fun K hK => S.o q.as (S.end (hK _ ?_))
          clear hK K
          refine Ev.ret ?_
          refine hR0 _ _ ?_
          refine Ev.ret1 ?_
          refine ⟨?_, rfl⟩
          first
           | exact bF (fun h => by have h1 := h.1; omega)
           | exact bF (fun h => absurd (dems_cut hp h).1 ‹_›)
           | exact bF (fun h => by obtain ⟨x, hx, hn⟩ := ‹∃ x ∈ pre, _›; exact (dems_cut hp h).2 x hx (by simpa using hn))
           | exact bF (fun h => by have h1 := (demI_at hp).2 (dems_cut hp h).2; omega)
           | exact bF (fun h => absurd (dems_cut hp h).1.1 ‹_›)
           | exact bF (fun h => absurd (dems_cut hp h).1.2.1 ‹_›)
           | exact bF (fun h => absurd (dems_cut hp h).1.2.2 ‹_›)
           | exact bT ⟨by omega, by rw [← hp]; exact hinv⟩
        · first
        | (first | omega | contradiction)
        | refine S.o q.mv (S.o q.mv (S.o q.mv (S.o (q.ix am_el22 am_cl42 (hl := (by first | exact ati hidx (by omega) | exact atig (by omega)))) (S.o (q.fs 0 am_fi42_0 am_cl9) (S.o (q.ls am_ag9) (S.c0 (hF := rfindD_fun _ _ (by omega)) (h := S.o q.mv (S.o q.neq (S.o q.pf (S.bn q.mv (fun c9 => ?_) (fun c9 => ?_)))))))))))
          · first
          | (first | omega | contradiction)
          | refine S.sk (S.sk (S.sk (S.sk (S.sk (S.sk (S.sk (S.o q.pt (S.o q.mv (S.sk (S.sk (S.sk (S.sk (S.sk (S.sk (S.sk (S.o q.pt (S.end (hK _ ?_))))))))))))))))))
            clear hK K
            refine Ev.ct ?_
            refine Ev.sr fun K hK => S.o q.as (S.end (hK _ ?_))
            clear hK K
            refine Ev.ret ?_
            refine hR0 _ _ ?_
            refine Ev.ret1 ?_
            refine ⟨?_, rfl⟩
            first
             | exact bF (fun h => by have h1 := h.1; omega)
             | exact bF (fun h => absurd (dems_cut hp h).1 ‹_›)
             | exact bF (fun h => by obtain ⟨x, hx, hn⟩ := ‹∃ x ∈ pre, _›; exact (dems_cut hp h).2 x hx (by simpa using hn))
             | exact bF (fun h => by have h1 := (demI_at hp).2 (dems_cut hp h).2; omega)
             | exact bF (fun h => absurd (dems_cut hp h).1.1 ‹_›)
             | exact bF (fun h => absurd (dems_cut hp h).1.2.1 ‹_›)
             | exact bF (fun h => absurd (dems_cut hp h).1.2.2 ‹_›)
             | exact bT ⟨by omega, by rw [← hp]; exact hinv⟩
          · first
          | (first | omega | contradiction)
          | refine S.o q.mv (S.o q.mv (S.o (q.ix am_el22 am_cl42 (hl := (by first | exact ati hidx (by omega) | exact atig (by omega)))) (S.o (q.fs 1 am_fi42_1 am_cl26) (S.o (q.lsA [_, _, _, _, _, _] am_ag26 am_cl26) (S.c0 (hF := rboxValid_fun s.zone) (h := S.o q.not (S.o q.pf (S.bn q.mv (fun c10 => ?_) (fun c10 => ?_)))))))))
            · first
            | (first | omega | contradiction)
            | refine S.sk (S.sk (S.sk (S.sk (S.sk (S.sk (S.sk (S.o q.pt (S.end (hK _ ?_)))))))))
              clear hK K
              refine Ev.ct ?_
              refine Ev.sr fun K hK => S.o q.as (S.end (hK _ ?_))
              clear hK K
              refine Ev.ret ?_
              refine hR0 _ _ ?_
              refine Ev.ret1 ?_
              refine ⟨?_, rfl⟩
              first
               | exact bF (fun h => by have h1 := h.1; omega)
               | exact bF (fun h => absurd (dems_cut hp h).1 ‹_›)
               | exact bF (fun h => by obtain ⟨x, hx, hn⟩ := ‹∃ x ∈ pre, _›; exact (dems_cut hp h).2 x hx (by simpa using hn))
               | exact bF (fun h => by have h1 := (demI_at hp).2 (dems_cut hp h).2; omega)
               | exact bF (fun h => absurd (dems_cut hp h).1.1 ‹_›)
               | exact bF (fun h => absurd (dems_cut hp h).1.2.1 ‹_›)
               | exact bF (fun h => absurd (dems_cut hp h).1.2.2 ‹_›)
               | exact bT ⟨by omega, by rw [← hp]; exact hinv⟩
            · first
            | (first | omega | contradiction)
            | refine S.o q.mv (S.o q.mv (S.o (q.ix am_el22 am_cl42 (hl := (by first | exact ati hidx (by omega) | exact atig (by omega)))) (S.o (q.fs 7 am_fi42_2 am_cl31) (S.o (q.ls am_ag31) (S.c0 (hF := rstepsValid_fun _ (by omega)) (h := S.o q.not (S.o q.pf (S.end (hK _ ?_)))))))))
              clear hK K
              refine Ev.cn (fun c11 => ?_) (fun c11 => ?_)
              · first
              | (first | omega | contradiction)
              | refine Ev.sr fun K hK => S.o q.as (S.end (hK _ ?_))
                clear hK K
                refine Ev.ret ?_
                refine hR0 _ _ ?_
                refine Ev.ret1 ?_
                refine ⟨?_, rfl⟩
                first
                 | exact bF (fun h => by have h1 := h.1; omega)
                 | exact bF (fun h => absurd (dems_cut hp h).1 ‹_›)
                 | exact bF (fun h => by obtain ⟨x, hx, hn⟩ := ‹∃ x ∈ pre, _›; exact (dems_cut hp h).2 x hx (by simpa using hn))
                 | exact bF (fun h => by have h1 := (demI_at hp).2 (dems_cut hp h).2; omega)
                 | exact bF (fun h => absurd (dems_cut hp h).1.1 ‹_›)
                 | exact bF (fun h => absurd (dems_cut hp h).1.2.1 ‹_›)
                 | exact bF (fun h => absurd (dems_cut hp h).1.2.2 ‹_›)
                 | exact bT ⟨by omega, by rw [← hp]; exact hinv⟩
              · first
              | (first | omega | contradiction)
              | refine Ev.skip ?_
                show Ev _ _ _ _
                refine Ev.region_S fun K hK => S.o q.mv (S.o q.add (S.o q.as (S.end (hK _ ?_))))
                clear hK K
                refine hR0 _ _ ?_
                refine roundU [] [0] ⟨(pre ++ [s], suf), by rw [← hp]; simp, ?_⟩ ?_ keep_n (slots_c (he := (by first | rfl | (simp; done) | (congr 2; omega))) (h := trivial)) (.c .n)
                exact dems_snoc hinv ⟨‹_›, ‹_›, ‹_›⟩ ((demI_at hp).1 (by omega))
                all_goals (dsimp only; simp only [List.length_cons]; omega)
      · first
      | (first | omega | contradiction)
      | refine Ev.exit ?_
        refine hR0 _ _ ?_
        show Ev _ _ _ _
        refine Ev.sr fun K hK => S.o q.as (S.end (hK _ ?_))
        clear hK K
        refine Ev.ret ?_
        refine Ev.ret1 ?_
        refine ⟨?_, rfl⟩
        first
         | exact bF (fun h => by have h1 := h.1; omega)
         | exact bF (fun h => absurd (dems_cut hp h).1 ‹_›)
         | exact bF (fun h => by obtain ⟨x, hx, hn⟩ := ‹∃ x ∈ pre, _›; exact (dems_cut hp h).2 x hx (by simpa using hn))
         | exact bF (fun h => by have h1 := (demI_at hp).2 (dems_cut hp h).2; omega)
         | exact bF (fun h => absurd (dems_cut hp h).1.1 ‹_›)
         | exact bF (fun h => absurd (dems_cut hp h).1.2.1 ‹_›)
         | exact bF (fun h => absurd (dems_cut hp h).1.2.2 ‹_›)
         | exact bT ⟨by omega, by rw [← hp]; exact hinv⟩
theorem okOne (d : Dem) : okDems [d] ↔ okDem d := ⟨fun h => h.2.1 d (by simp), fun h => ⟨by simp, by simpa using h, by simp⟩⟩
theorem demW_one {d : Dem} (h : d.w) : demW [d] := fun x hx => by rw [List.mem_singleton] at hx; subst hx; exact h
theorem smD_fun (l : List Dem) (most : Int) (h0 : 0 ≤ most) (h1 : most ≤ 1000) (hlen : l.length ≤ 140737488355328) : Fun Tryd.prog 20 [.sh 8 (l.map Dem.c), .lit (.int .i64 most)] (Ret (.lit (.bool (decide (smD l most)))) []) := by
  refine Fun.of (nt := 54) (rs := [.tmp 4]) Tryd.func20 rfl rfl rfl rfl rfl ?_
  refine Ev.sr fun K hK => S.o q.as (S.end (hK _ ?_))
  clear hK K
  refine Ev.seq ?_
  refine Ev.sr fun K hK => S.o q.mv (S.o (q.lens am_el22) (S.o q.mv (S.o q.gtr (S.bd q.mv (fun c1 => ?_) (fun c1 => ?_)))))
  · first
  | (first | omega | contradiction)
  | refine S.o q.mv (S.o (q.lens am_el22) (S.o q.leq (S.o q.pt (S.bd q.mv (fun c2 => ?_) (fun c2 => ?_)))))
    · first
    | (first | omega | contradiction)
    | refine S.sk (S.sk (S.sk (S.o q.pt (S.end (hK _ ?_)))))
      clear hK K
      refine Ev.ct ?_
      refine Ev.sr fun K hK => S.o q.as (S.end (hK _ ?_))
      clear hK K
      refine Ev.ret ?_
      refine Ev.ret1 ?_
      refine ⟨?_, rfl⟩
      first
       | exact bF (fun h => by have h1 := h.1; omega)
       | exact bF (fun h => by have h1 := h.2 s (by rw [← hp]; simp); omega)
       | exact bT ⟨by omega, by rw [← hp]; exact hinv⟩
    · first
    | (first | omega | contradiction)
    | refine S.o q.mv (S.o (q.lens am_el22) (S.o q.gtr (S.o q.pf (S.end (hK _ ?_)))))
      clear hK K
      refine Ev.cd (fun c3 => ?_) (fun c3 => ?_)
      · first
      | (first | omega | contradiction)
      | refine Ev.sr fun K hK => S.o q.as (S.end (hK _ ?_))
        clear hK K
        refine Ev.ret ?_
        refine Ev.ret1 ?_
        refine ⟨?_, rfl⟩
        first
         | exact bF (fun h => by have h1 := h.1; omega)
         | exact bF (fun h => by have h1 := h.2 s (by rw [← hp]; simp); omega)
         | exact bT ⟨by omega, by rw [← hp]; exact hinv⟩
      · first
      | (first | omega | contradiction)
      | refine Ev.skip ?_
        show Ev _ _ _ _
        refine Ev.seq ?_
        refine Ev.sr fun K hK => S.o q.as (S.end (hK _ ?_))
        clear hK K
        refine Ev.block ?_
        refine Ev.loopU (ι := {q : List Dem × List Dem // q.1 ++ q.2 = l ∧ ∀ d ∈ q.1, ¬ (d.name.length > 60 ∨ (d.steps.length : Int) > 2 * most ∧ d.steps.length ≤ 200 ∨ d.steps.length > 205)}) [] [0, 1] (fun ⟨(pre, suf), _⟩ => [(5, .lit (.int .i64 ((pre.length : Int))))]) (fun ⟨(pre, suf), _⟩ => []) (fun ⟨(pre, suf), _⟩ => suf.length) ⟨([], l), rfl, fun x hx => by simp at hx⟩ (.c (.c .n)) keep_n (slots_c (he := (by first | rfl | (simp; done) | (congr 2; omega))) (h := trivial)) ?_
        rintro ⟨⟨pre, suf⟩, hp, hinv⟩ R0 hR0
        dsimp only [List.cons_append, List.nil_append, List.length_cons, List.length_nil]
        simp only at hp hinv
        have hpl : pre.length + suf.length = (l).length := by rw [← hp, List.length_append]
        rcases suf with _ | ⟨s, suf⟩
        · rw [List.append_nil] at hp; simp only [List.length_nil] at hpl
          refine Ev.seq ?_
          refine Ev.sr fun K hK => S.o q.mv (S.o q.mv (S.o (q.lens am_el22) (S.o q.lss (S.end (hK _ ?_)))))
          clear hK K
          refine Ev.cd (fun c4 => ?_) (fun c4 => ?_)
          · first
          | (first | omega | contradiction)
          | refine Ev.skip ?_
            show Ev _ _ _ _
            refine Ev.seq ?_
            refine Ev.block ?_
            refine Ev.sr fun K hK => S.o q.mv (S.o q.mv (S.o (q.ix am_el22 am_cl42 (hl := (by first | exact atig (by omega)))) (S.o (q.fs 7 am_fi42_2 am_cl31) (S.o (q.ls am_ag31) (S.o (q.lens am_el31) (S.o q.as (S.end (hK _ ?_))))))))
            clear hK K
            refine Ev.sr fun K hK => S.o q.mv (S.o q.mv (S.o (q.ix am_el22 am_cl42 (hl := (by first | exact atig (by omega)))) (S.o (q.fs 0 am_fi42_0 am_cl9) (S.o (q.ls am_ag9) (S.o (q.slen am_el9 am_un9) (S.o q.gtr (S.bd q.mv (fun c5 => ?_) (fun c5 => ?_))))))))
            · first
            | (first | omega | contradiction)
            | refine S.sk (S.sk (S.sk (S.sk (S.sk (S.sk (S.sk (S.sk (S.o q.pt (S.o q.mv (S.sk (S.sk (S.o q.pt (S.end (hK _ ?_))))))))))))))
              clear hK K
              refine Ev.ct ?_
              refine Ev.sr fun K hK => S.o q.as (S.end (hK _ ?_))
              clear hK K
              refine Ev.ret ?_
              refine hR0 _ _ ?_
              refine Ev.ret1 ?_
              refine ⟨?_, rfl⟩
              first
               | exact bF (fun h => by have h1 := h.1; omega)
               | exact bF (fun h => by have h1 := h.2 s (by rw [← hp]; simp); omega)
               | exact bT ⟨by omega, by rw [← hp]; exact hinv⟩
            · first
            | (first | omega | contradiction)
            | refine S.o q.mv (S.o q.mv (S.o q.mul (S.o q.gtr (S.bd q.mv (fun c6 => ?_) (fun c6 => ?_)))))
              · first
              | (first | omega | contradiction)
              | refine S.o q.mv (S.o q.leq (S.o q.pt (S.o q.pf (S.bd q.mv (fun c7 => ?_) (fun c7 => ?_)))))
                · first
                | (first | omega | contradiction)
                | refine S.sk (S.sk (S.o q.pt (S.end (hK _ ?_))))
                  clear hK K
                  refine Ev.ct ?_
                  refine Ev.sr fun K hK => S.o q.as (S.end (hK _ ?_))
                  clear hK K
                  refine Ev.ret ?_
                  refine hR0 _ _ ?_
                  refine Ev.ret1 ?_
                  refine ⟨?_, rfl⟩
                  first
                   | exact bF (fun h => by have h1 := h.1; omega)
                   | exact bF (fun h => by have h1 := h.2 s (by rw [← hp]; simp); omega)
                   | exact bT ⟨by omega, by rw [← hp]; exact hinv⟩
                · first
                | (first | omega | contradiction)
                | refine S.o q.mv (S.o q.gtr (S.o q.pf (S.end (hK _ ?_))))
                  clear hK K
                  refine Ev.cd (fun c8 => ?_) (fun c8 => ?_)
                  · first
                  | (first | omega | contradiction)
                  | refine Ev.sr fun K hK => S.o q.as (S.end (hK _ ?_))
                    clear hK K
                    refine Ev.ret ?_
                    refine hR0 _ _ ?_
                    refine Ev.ret1 ?_
                    refine ⟨?_, rfl⟩
                    first
                     | exact bF (fun h => by have h1 := h.1; omega)
                     | exact bF (fun h => by have h1 := h.2 s (by rw [← hp]; simp); omega)
                     | exact bT ⟨by omega, by rw [← hp]; exact hinv⟩
                  · first
                  | (first | omega | contradiction)
                  | refine Ev.skip ?_
                    show Ev _ _ _ _
                    refine Ev.region_S fun K hK => S.o q.mv (S.o q.add (S.o q.as (S.end (hK _ ?_))))
                    clear hK K
                    refine hR0 _ _ ?_
                    refine roundU [] [0, 1] ⟨(pre ++ [s], suf), by rw [← hp]; simp, ?_⟩ ?_ keep_n (slots_c (he := (by first | rfl | (simp; done) | (congr 2; omega))) (h := trivial)) (.c (.c .n))
                    intro x hx; simp only [List.mem_append, List.mem_singleton] at hx; rcases hx with hx | rfl
                    · exact hinv x hx
                    · omega
                    all_goals (dsimp only; simp only [List.length_cons]; omega)
              · first
              | (first | omega | contradiction)
              | refine S.sk (S.sk (S.o q.pf (S.o q.pf (S.o q.mv (S.o q.mv (S.o q.gtr (S.o q.pf (S.end (hK _ ?_)))))))))
                clear hK K
                refine Ev.cd (fun c9 => ?_) (fun c9 => ?_)
                · first
                | (first | omega | contradiction)
                | refine Ev.sr fun K hK => S.o q.as (S.end (hK _ ?_))
                  clear hK K
                  refine Ev.ret ?_
                  refine hR0 _ _ ?_
                  refine Ev.ret1 ?_
                  refine ⟨?_, rfl⟩
                  first
                   | exact bF (fun h => by have h1 := h.1; omega)
                   | exact bF (fun h => by have h1 := h.2 s (by rw [← hp]; simp); omega)
                   | exact bT ⟨by omega, by rw [← hp]; exact hinv⟩
                · first
                | (first | omega | contradiction)
                | refine Ev.skip ?_
                  show Ev _ _ _ _
                  refine Ev.region_S fun K hK => S.o q.mv (S.o q.add (S.o q.as (S.end (hK _ ?_))))
                  clear hK K
                  refine hR0 _ _ ?_
                  refine roundU [] [0, 1] ⟨(pre ++ [s], suf), by rw [← hp]; simp, ?_⟩ ?_ keep_n (slots_c (he := (by first | rfl | (simp; done) | (congr 2; omega))) (h := trivial)) (.c (.c .n))
                  intro x hx; simp only [List.mem_append, List.mem_singleton] at hx; rcases hx with hx | rfl
                  · exact hinv x hx
                  · omega
                  all_goals (dsimp only; simp only [List.length_cons]; omega)
          · first
          | (first | omega | contradiction)
          | refine Ev.exit ?_
            refine hR0 _ _ ?_
            show Ev _ _ _ _
            refine Ev.sr fun K hK => S.o q.as (S.end (hK _ ?_))
            clear hK K
            refine Ev.ret ?_
            refine Ev.ret1 ?_
            refine ⟨?_, rfl⟩
            first
             | exact bF (fun h => by have h1 := h.1; omega)
             | exact bF (fun h => by have h1 := h.2 s (by rw [← hp]; simp); omega)
             | exact bT ⟨by omega, by rw [← hp]; exact hinv⟩
        · simp only [List.length_cons] at hpl
          have hidx : l[pre.length]? = some s := by rw [← hp]; simp
          refine Ev.seq ?_
          refine Ev.sr fun K hK => S.o q.mv (S.o q.mv (S.o (q.lens am_el22) (S.o q.lss (S.end (hK _ ?_)))))
          clear hK K
          refine Ev.cd (fun c10 => ?_) (fun c10 => ?_)
          · first
          | (first | omega | contradiction)
          | refine Ev.skip ?_
            show Ev _ _ _ _
            refine Ev.seq ?_
            refine Ev.block ?_
            refine Ev.sr fun K hK => S.o q.mv (S.o q.mv (S.o (q.ix am_el22 am_cl42 (hl := (by first | exact ati hidx (by omega) | exact atig (by omega)))) (S.o (q.fs 7 am_fi42_2 am_cl31) (S.o (q.ls am_ag31) (S.o (q.lens am_el31) (S.o q.as (S.end (hK _ ?_))))))))
            clear hK K
            refine Ev.sr fun K hK => S.o q.mv (S.o q.mv (S.o (q.ix am_el22 am_cl42 (hl := (by first | exact ati hidx (by omega) | exact atig (by omega)))) (S.o (q.fs 0 am_fi42_0 am_cl9) (S.o (q.ls am_ag9) (S.o (q.slen am_el9 am_un9) (S.o q.gtr (S.bd q.mv (fun c11 => ?_) (fun c11 => ?_))))))))
            · first
            | (first | omega | contradiction)
            | refine S.sk (S.sk (S.sk (S.sk (S.sk (S.sk (S.sk (S.sk (S.o q.pt (S.o q.mv (S.sk (S.sk (S.o q.pt (S.end (hK _ ?_))))))))))))))
              clear hK K
              refine Ev.ct ?_
              refine Ev.sr fun K hK => S.o q.as (S.end (hK _ ?_))
              clear hK K
              refine Ev.ret ?_
              refine hR0 _ _ ?_
              refine Ev.ret1 ?_
              refine ⟨?_, rfl⟩
              first
               | exact bF (fun h => by have h1 := h.1; omega)
               | exact bF (fun h => by have h1 := h.2 s (by rw [← hp]; simp); omega)
               | exact bT ⟨by omega, by rw [← hp]; exact hinv⟩
            · first
            | (first | omega | contradiction)
            | refine S.o q.mv (S.o q.mv (S.o q.mul (S.o q.gtr (S.bd q.mv (fun c12 => ?_) (fun c12 => ?_)))))
              · first
              | (first | omega | contradiction)
              | refine S.o q.mv (S.o q.leq (S.o q.pt (S.o q.pf (S.bd q.mv (fun c13 => ?_) (fun c13 => ?_)))))
                · first
                | (first | omega | contradiction)
                | refine S.sk (S.sk (S.o q.pt (S.end (hK _ ?_))))
                  clear hK K
                  refine Ev.ct ?_
                  refine Ev.sr fun K hK => S.o q.as (S.end (hK _ ?_))
                  clear hK K
                  refine Ev.ret ?_
                  refine hR0 _ _ ?_
                  refine Ev.ret1 ?_
                  refine ⟨?_, rfl⟩
                  first
                   | exact bF (fun h => by have h1 := h.1; omega)
                   | exact bF (fun h => by have h1 := h.2 s (by rw [← hp]; simp); omega)
                   | exact bT ⟨by omega, by rw [← hp]; exact hinv⟩
                · first
                | (first | omega | contradiction)
                | refine S.o q.mv (S.o q.gtr (S.o q.pf (S.end (hK _ ?_))))
                  clear hK K
                  refine Ev.cd (fun c14 => ?_) (fun c14 => ?_)
                  · first
                  | (first | omega | contradiction)
                  | refine Ev.sr fun K hK => S.o q.as (S.end (hK _ ?_))
                    clear hK K
                    refine Ev.ret ?_
                    refine hR0 _ _ ?_
                    refine Ev.ret1 ?_
                    refine ⟨?_, rfl⟩
                    first
                     | exact bF (fun h => by have h1 := h.1; omega)
                     | exact bF (fun h => by have h1 := h.2 s (by rw [← hp]; simp); omega)
                     | exact bT ⟨by omega, by rw [← hp]; exact hinv⟩
                  · first
                  | (first | omega | contradiction)
                  | refine Ev.skip ?_
                    show Ev _ _ _ _
                    refine Ev.region_S fun K hK => S.o q.mv (S.o q.add (S.o q.as (S.end (hK _ ?_))))
                    clear hK K
                    refine hR0 _ _ ?_
                    refine roundU [] [0, 1] ⟨(pre ++ [s], suf), by rw [← hp]; simp, ?_⟩ ?_ keep_n (slots_c (he := (by first | rfl | (simp; done) | (congr 2; omega))) (h := trivial)) (.c (.c .n))
                    intro x hx; simp only [List.mem_append, List.mem_singleton] at hx; rcases hx with hx | rfl
                    · exact hinv x hx
                    · omega
                    all_goals (dsimp only; simp only [List.length_cons]; omega)
              · first
              | (first | omega | contradiction)
              | refine S.sk (S.sk (S.o q.pf (S.o q.pf (S.o q.mv (S.o q.mv (S.o q.gtr (S.o q.pf (S.end (hK _ ?_)))))))))
                clear hK K
                refine Ev.cd (fun c15 => ?_) (fun c15 => ?_)
                · first
                | (first | omega | contradiction)
                | refine Ev.sr fun K hK => S.o q.as (S.end (hK _ ?_))
                  clear hK K
                  refine Ev.ret ?_
                  refine hR0 _ _ ?_
                  refine Ev.ret1 ?_
                  refine ⟨?_, rfl⟩
                  first
                   | exact bF (fun h => by have h1 := h.1; omega)
                   | exact bF (fun h => by have h1 := h.2 s (by rw [← hp]; simp); omega)
                   | exact bT ⟨by omega, by rw [← hp]; exact hinv⟩
                · first
                | (first | omega | contradiction)
                | refine Ev.skip ?_
                  show Ev _ _ _ _
                  refine Ev.region_S fun K hK => S.o q.mv (S.o q.add (S.o q.as (S.end (hK _ ?_))))
                  clear hK K
                  refine hR0 _ _ ?_
                  refine roundU [] [0, 1] ⟨(pre ++ [s], suf), by rw [← hp]; simp, ?_⟩ ?_ keep_n (slots_c (he := (by first | rfl | (simp; done) | (congr 2; omega))) (h := trivial)) (.c (.c .n))
                  intro x hx; simp only [List.mem_append, List.mem_singleton] at hx; rcases hx with hx | rfl
                  · exact hinv x hx
                  · omega
                  all_goals (dsimp only; simp only [List.length_cons]; omega)
          · first
          | (first | omega | contradiction)
          | refine Ev.exit ?_
            refine hR0 _ _ ?_
            show Ev _ _ _ _
            refine Ev.sr fun K hK => S.o q.as (S.end (hK _ ?_))
            clear hK K
            refine Ev.ret ?_
            refine Ev.ret1 ?_
            refine ⟨?_, rfl⟩
            first
             | exact bF (fun h => by have h1 := h.1; omega)
             | exact bF (fun h => by have h1 := h.2 s (by rw [← hp]; simp); omega)
             | exact bT ⟨by omega, by rw [← hp]; exact hinv⟩
  · first
  | (first | omega | contradiction)
  | refine S.sk (S.sk (S.sk (S.o q.pf (S.o q.mv (S.o q.mv (S.o (q.lens am_el22) (S.o q.gtr (S.o q.pf (S.end (hK _ ?_))))))))))
    clear hK K
    refine Ev.cd (fun c16 => ?_) (fun c16 => ?_)
    · first
    | (first | omega | contradiction)
    | refine Ev.sr fun K hK => S.o q.as (S.end (hK _ ?_))
      clear hK K
      refine Ev.ret ?_
      refine Ev.ret1 ?_
      refine ⟨?_, rfl⟩
      first
       | exact bF (fun h => by have h1 := h.1; omega)
       | exact bF (fun h => by have h1 := h.2 s (by rw [← hp]; simp); omega)
       | exact bT ⟨by omega, by rw [← hp]; exact hinv⟩
    · first
    | (first | omega | contradiction)
    | refine Ev.skip ?_
      show Ev _ _ _ _
      refine Ev.seq ?_
      refine Ev.sr fun K hK => S.o q.as (S.end (hK _ ?_))
      clear hK K
      refine Ev.block ?_
      refine Ev.loopU (ι := {q : List Dem × List Dem // q.1 ++ q.2 = l ∧ ∀ d ∈ q.1, ¬ (d.name.length > 60 ∨ (d.steps.length : Int) > 2 * most ∧ d.steps.length ≤ 200 ∨ d.steps.length > 205)}) [] [0, 1] (fun ⟨(pre, suf), _⟩ => [(5, .lit (.int .i64 ((pre.length : Int))))]) (fun ⟨(pre, suf), _⟩ => []) (fun ⟨(pre, suf), _⟩ => suf.length) ⟨([], l), rfl, fun x hx => by simp at hx⟩ (.c (.c .n)) keep_n (slots_c (he := (by first | rfl | (simp; done) | (congr 2; omega))) (h := trivial)) ?_
      rintro ⟨⟨pre, suf⟩, hp, hinv⟩ R0 hR0
      dsimp only [List.cons_append, List.nil_append, List.length_cons, List.length_nil]
      simp only at hp hinv
      have hpl : pre.length + suf.length = (l).length := by rw [← hp, List.length_append]
      rcases suf with _ | ⟨s, suf⟩
      · rw [List.append_nil] at hp; simp only [List.length_nil] at hpl
        refine Ev.seq ?_
        refine Ev.sr fun K hK => S.o q.mv (S.o q.mv (S.o (q.lens am_el22) (S.o q.lss (S.end (hK _ ?_)))))
        clear hK K
        refine Ev.cd (fun c17 => ?_) (fun c17 => ?_)
        · first
        | (first | omega | contradiction)
        | refine Ev.skip ?_
          show Ev _ _ _ _
          refine Ev.seq ?_
          refine Ev.block ?_
          refine Ev.sr fun K hK => S.o q.mv (S.o q.mv (S.o (q.ix am_el22 am_cl42 (hl := (by first | exact atig (by omega)))) (S.o (q.fs 7 am_fi42_2 am_cl31) (S.o (q.ls am_ag31) (S.o (q.lens am_el31) (S.o q.as (S.end (hK _ ?_))))))))
          clear hK K
          refine Ev.sr fun K hK => S.o q.mv (S.o q.mv (S.o (q.ix am_el22 am_cl42 (hl := (by first | exact atig (by omega)))) (S.o (q.fs 0 am_fi42_0 am_cl9) (S.o (q.ls am_ag9) (S.o (q.slen am_el9 am_un9) (S.o q.gtr (S.bd q.mv (fun c18 => ?_) (fun c18 => ?_))))))))
          · first
          | (first | omega | contradiction)
          | refine S.sk (S.sk (S.sk (S.sk (S.sk (S.sk (S.sk (S.sk (S.o q.pt (S.o q.mv (S.sk (S.sk (S.o q.pt (S.end (hK _ ?_))))))))))))))
            clear hK K
            refine Ev.ct ?_
            refine Ev.sr fun K hK => S.o q.as (S.end (hK _ ?_))
            clear hK K
            refine Ev.ret ?_
            refine hR0 _ _ ?_
            refine Ev.ret1 ?_
            refine ⟨?_, rfl⟩
            first
             | exact bF (fun h => by have h1 := h.1; omega)
             | exact bF (fun h => by have h1 := h.2 s (by rw [← hp]; simp); omega)
             | exact bT ⟨by omega, by rw [← hp]; exact hinv⟩
          · first
          | (first | omega | contradiction)
          | refine S.o q.mv (S.o q.mv (S.o q.mul (S.o q.gtr (S.bd q.mv (fun c19 => ?_) (fun c19 => ?_)))))
            · first
            | (first | omega | contradiction)
            | refine S.o q.mv (S.o q.leq (S.o q.pt (S.o q.pf (S.bd q.mv (fun c20 => ?_) (fun c20 => ?_)))))
              · first
              | (first | omega | contradiction)
              | refine S.sk (S.sk (S.o q.pt (S.end (hK _ ?_))))
                clear hK K
                refine Ev.ct ?_
                refine Ev.sr fun K hK => S.o q.as (S.end (hK _ ?_))
                clear hK K
                refine Ev.ret ?_
                refine hR0 _ _ ?_
                refine Ev.ret1 ?_
                refine ⟨?_, rfl⟩
                first
                 | exact bF (fun h => by have h1 := h.1; omega)
                 | exact bF (fun h => by have h1 := h.2 s (by rw [← hp]; simp); omega)
                 | exact bT ⟨by omega, by rw [← hp]; exact hinv⟩
              · first
              | (first | omega | contradiction)
              | refine S.o q.mv (S.o q.gtr (S.o q.pf (S.end (hK _ ?_))))
                clear hK K
                refine Ev.cd (fun c21 => ?_) (fun c21 => ?_)
                · first
                | (first | omega | contradiction)
                | refine Ev.sr fun K hK => S.o q.as (S.end (hK _ ?_))
                  clear hK K
                  refine Ev.ret ?_
                  refine hR0 _ _ ?_
                  refine Ev.ret1 ?_
                  refine ⟨?_, rfl⟩
                  first
                   | exact bF (fun h => by have h1 := h.1; omega)
                   | exact bF (fun h => by have h1 := h.2 s (by rw [← hp]; simp); omega)
                   | exact bT ⟨by omega, by rw [← hp]; exact hinv⟩
                · first
                | (first | omega | contradiction)
                | refine Ev.skip ?_
                  show Ev _ _ _ _
                  refine Ev.region_S fun K hK => S.o q.mv (S.o q.add (S.o q.as (S.end (hK _ ?_))))
                  clear hK K
                  refine hR0 _ _ ?_
                  refine roundU [] [0, 1] ⟨(pre ++ [s], suf), by rw [← hp]; simp, ?_⟩ ?_ keep_n (slots_c (he := (by first | rfl | (simp; done) | (congr 2; omega))) (h := trivial)) (.c (.c .n))
                  intro x hx; simp only [List.mem_append, List.mem_singleton] at hx; rcases hx with hx | rfl
                  · exact hinv x hx
                  · omega
                  all_goals (dsimp only; simp only [List.length_cons]; omega)
            · first
            | (first | omega | contradiction)
            | refine S.sk (S.sk (S.o q.pf (S.o q.pf (S.o q.mv (S.o q.mv (S.o q.gtr (S.o q.pf (S.end (hK _ ?_)))))))))
              clear hK K
              refine Ev.cd (fun c22 => ?_) (fun c22 => ?_)
              · first
              | (first | omega | contradiction)
              | refine Ev.sr fun K hK => S.o q.as (S.end (hK _ ?_))
                clear hK K
                refine Ev.ret ?_
                refine hR0 _ _ ?_
                refine Ev.ret1 ?_
                refine ⟨?_, rfl⟩
                first
                 | exact bF (fun h => by have h1 := h.1; omega)
                 | exact bF (fun h => by have h1 := h.2 s (by rw [← hp]; simp); omega)
                 | exact bT ⟨by omega, by rw [← hp]; exact hinv⟩
              · first
              | (first | omega | contradiction)
              | refine Ev.skip ?_
                show Ev _ _ _ _
                refine Ev.region_S fun K hK => S.o q.mv (S.o q.add (S.o q.as (S.end (hK _ ?_))))
                clear hK K
                refine hR0 _ _ ?_
                refine roundU [] [0, 1] ⟨(pre ++ [s], suf), by rw [← hp]; simp, ?_⟩ ?_ keep_n (slots_c (he := (by first | rfl | (simp; done) | (congr 2; omega))) (h := trivial)) (.c (.c .n))
                intro x hx; simp only [List.mem_append, List.mem_singleton] at hx; rcases hx with hx | rfl
                · exact hinv x hx
                · omega
                all_goals (dsimp only; simp only [List.length_cons]; omega)
        · first
        | (first | omega | contradiction)
        | refine Ev.exit ?_
          refine hR0 _ _ ?_
          show Ev _ _ _ _
          refine Ev.sr fun K hK => S.o q.as (S.end (hK _ ?_))
          clear hK K
          refine Ev.ret ?_
          refine Ev.ret1 ?_
          refine ⟨?_, rfl⟩
          first
           | exact bF (fun h => by have h1 := h.1; omega)
           | exact bF (fun h => by have h1 := h.2 s (by rw [← hp]; simp); omega)
           | exact bT ⟨by omega, by rw [← hp]; exact hinv⟩
      · simp only [List.length_cons] at hpl
        have hidx : l[pre.length]? = some s := by rw [← hp]; simp
        refine Ev.seq ?_
        refine Ev.sr fun K hK => S.o q.mv (S.o q.mv (S.o (q.lens am_el22) (S.o q.lss (S.end (hK _ ?_)))))
        clear hK K
        refine Ev.cd (fun c23 => ?_) (fun c23 => ?_)
        · first
        | (first | omega | contradiction)
        | refine Ev.skip ?_
          show Ev _ _ _ _
          refine Ev.seq ?_
          refine Ev.block ?_
          refine Ev.sr fun K hK => S.o q.mv (S.o q.mv (S.o (q.ix am_el22 am_cl42 (hl := (by first | exact ati hidx (by omega) | exact atig (by omega)))) (S.o (q.fs 7 am_fi42_2 am_cl31) (S.o (q.ls am_ag31) (S.o (q.lens am_el31) (S.o q.as (S.end (hK _ ?_))))))))
          clear hK K
          refine Ev.sr fun K hK => S.o q.mv (S.o q.mv (S.o (q.ix am_el22 am_cl42 (hl := (by first | exact ati hidx (by omega) | exact atig (by omega)))) (S.o (q.fs 0 am_fi42_0 am_cl9) (S.o (q.ls am_ag9) (S.o (q.slen am_el9 am_un9) (S.o q.gtr (S.bd q.mv (fun c24 => ?_) (fun c24 => ?_))))))))
          · first
          | (first | omega | contradiction)
          | refine S.sk (S.sk (S.sk (S.sk (S.sk (S.sk (S.sk (S.sk (S.o q.pt (S.o q.mv (S.sk (S.sk (S.o q.pt (S.end (hK _ ?_))))))))))))))
            clear hK K
            refine Ev.ct ?_
            refine Ev.sr fun K hK => S.o q.as (S.end (hK _ ?_))
            clear hK K
            refine Ev.ret ?_
            refine hR0 _ _ ?_
            refine Ev.ret1 ?_
            refine ⟨?_, rfl⟩
            first
             | exact bF (fun h => by have h1 := h.1; omega)
             | exact bF (fun h => by have h1 := h.2 s (by rw [← hp]; simp); omega)
             | exact bT ⟨by omega, by rw [← hp]; exact hinv⟩
          · first
          | (first | omega | contradiction)
          | refine S.o q.mv (S.o q.mv (S.o q.mul (S.o q.gtr (S.bd q.mv (fun c25 => ?_) (fun c25 => ?_)))))
            · first
            | (first | omega | contradiction)
            | refine S.o q.mv (S.o q.leq (S.o q.pt (S.o q.pf (S.bd q.mv (fun c26 => ?_) (fun c26 => ?_)))))
              · first
              | (first | omega | contradiction)
              | refine S.sk (S.sk (S.o q.pt (S.end (hK _ ?_))))
                clear hK K
                refine Ev.ct ?_
                refine Ev.sr fun K hK => S.o q.as (S.end (hK _ ?_))
                clear hK K
                refine Ev.ret ?_
                refine hR0 _ _ ?_
                refine Ev.ret1 ?_
                refine ⟨?_, rfl⟩
                first
                 | exact bF (fun h => by have h1 := h.1; omega)
                 | exact bF (fun h => by have h1 := h.2 s (by rw [← hp]; simp); omega)
                 | exact bT ⟨by omega, by rw [← hp]; exact hinv⟩
              · first
              | (first | omega | contradiction)
              | refine S.o q.mv (S.o q.gtr (S.o q.pf (S.end (hK _ ?_))))
                clear hK K
                refine Ev.cd (fun c27 => ?_) (fun c27 => ?_)
                · first
                | (first | omega | contradiction)
                | refine Ev.sr fun K hK => S.o q.as (S.end (hK _ ?_))
                  clear hK K
                  refine Ev.ret ?_
                  refine hR0 _ _ ?_
                  refine Ev.ret1 ?_
                  refine ⟨?_, rfl⟩
                  first
                   | exact bF (fun h => by have h1 := h.1; omega)
                   | exact bF (fun h => by have h1 := h.2 s (by rw [← hp]; simp); omega)
                   | exact bT ⟨by omega, by rw [← hp]; exact hinv⟩
                · first
                | (first | omega | contradiction)
                | refine Ev.skip ?_
                  show Ev _ _ _ _
                  refine Ev.region_S fun K hK => S.o q.mv (S.o q.add (S.o q.as (S.end (hK _ ?_))))
                  clear hK K
                  refine hR0 _ _ ?_
                  refine roundU [] [0, 1] ⟨(pre ++ [s], suf), by rw [← hp]; simp, ?_⟩ ?_ keep_n (slots_c (he := (by first | rfl | (simp; done) | (congr 2; omega))) (h := trivial)) (.c (.c .n))
                  intro x hx; simp only [List.mem_append, List.mem_singleton] at hx; rcases hx with hx | rfl
                  · exact hinv x hx
                  · omega
                  all_goals (dsimp only; simp only [List.length_cons]; omega)
            · first
            | (first | omega | contradiction)
            | refine S.sk (S.sk (S.o q.pf (S.o q.pf (S.o q.mv (S.o q.mv (S.o q.gtr (S.o q.pf (S.end (hK _ ?_)))))))))
              clear hK K
              refine Ev.cd (fun c28 => ?_) (fun c28 => ?_)
              · first
              | (first | omega | contradiction)
              | refine Ev.sr fun K hK => S.o q.as (S.end (hK _ ?_))
                clear hK K
                refine Ev.ret ?_
                refine hR0 _ _ ?_
                refine Ev.ret1 ?_
                refine ⟨?_, rfl⟩
                first
                 | exact bF (fun h => by have h1 := h.1; omega)
                 | exact bF (fun h => by have h1 := h.2 s (by rw [← hp]; simp); omega)
                 | exact bT ⟨by omega, by rw [← hp]; exact hinv⟩
              · first
              | (first | omega | contradiction)
              | refine Ev.skip ?_
                show Ev _ _ _ _
                refine Ev.region_S fun K hK => S.o q.mv (S.o q.add (S.o q.as (S.end (hK _ ?_))))
                clear hK K
                refine hR0 _ _ ?_
                refine roundU [] [0, 1] ⟨(pre ++ [s], suf), by rw [← hp]; simp, ?_⟩ ?_ keep_n (slots_c (he := (by first | rfl | (simp; done) | (congr 2; omega))) (h := trivial)) (.c (.c .n))
                intro x hx; simp only [List.mem_append, List.mem_singleton] at hx; rcases hx with hx | rfl
                · exact hinv x hx
                · omega
                all_goals (dsimp only; simp only [List.length_cons]; omega)
        · first
        | (first | omega | contradiction)
        | refine Ev.exit ?_
          refine hR0 _ _ ?_
          show Ev _ _ _ _
          refine Ev.sr fun K hK => S.o q.as (S.end (hK _ ?_))
          clear hK K
          refine Ev.ret ?_
          refine Ev.ret1 ?_
          refine ⟨?_, rfl⟩
          first
           | exact bF (fun h => by have h1 := h.1; omega)
           | exact bF (fun h => by have h1 := h.2 s (by rw [← hp]; simp); omega)
           | exact bT ⟨by omega, by rw [← hp]; exact hinv⟩
theorem small_fun (l : List Dem) (hlen : l.length ≤ 140737488355328) : Fun Tryd.prog 5 [.sh 8 (l.map Dem.c)] (Ret (.lit (.bool (decide (smD l 8)))) []) := by
  refine Fun.of (nt := 5) (rs := [.tmp 2]) Tryd.func5 rfl rfl rfl rfl rfl ?_
  refine Ev.sr fun K hK => S.o q.as (S.end (hK _ ?_))
  clear hK K
  refine Ev.sr fun K hK => S.o q.mv (S.c0 (hF := smD_fun _ _ (by decide) (by decide) (by omega)) (h := S.o q.as (S.end (hK _ ?_))))
  clear hK K
  refine Ev.ret ?_
  refine Ev.ret1 ?_
  refine ⟨?_, rfl⟩
  rfl
end Go.Proofs.YthiockdlhehhoaaDoor
namespace Go.Proofs.YthiockdlhehhoaaDoor
open Go Go.AM
set_option linter.unusedSimpArgs false
set_option linter.unusedVariables false
set_option maxRecDepth 100000
set_option maxHeartbeats 1000000

def inB (a b : Bx) : Prop := (b.ly ≤ a.ly ∧ a.hy ≤ b.hy) ∧ b.lz ≤ a.lz ∧ a.hz ≤ b.hz
instance (a b) : Decidable (inB a b) := by unfold inB; infer_instance
/-- The greatest value, and where it first is. -/
def bestF (s0 : Int × Int) (l : List (Int × Int)) : Int × Int := l.foldl (fun m s => if m.2 < s.2 then s else m) s0
theorem best_t {s0 : Int × Int} {l : List (Int × Int)} {x y : Int} (h : y > (bestF s0 l).2) : bestF s0 (l ++ [(x, y)]) = (x, y) := by rw [bestF, List.foldl_append]; exact if_pos h
theorem best_f {s0 : Int × Int} {l : List (Int × Int)} {x y : Int} (h : ¬ y > (bestF s0 l).2) : bestF s0 (l ++ [(x, y)]) = bestF s0 l := by rw [bestF, List.foldl_append]; exact if_neg h
def pkS (d : Dem) : Int × Int := if okDem d then (match d.steps with | [] => (0, 0) | s :: l => bestF s (s :: l)) else (0, 0)
def pkE (d : Dem) : Int := if okDem d then (if d.steps.length = 0 then 14 else 0) else 1
theorem pk_no {d : Dem} (h : ¬ okDem d) : pkS d = (0, 0) ∧ pkE d = 1 := ⟨if_neg h, if_neg h⟩
theorem pk_nil {d : Dem} (h : okDem d) (h0 : d.steps.length = 0) : pkS d = (0, 0) ∧ pkE d = 14 := by
  have e : d.steps = [] := List.eq_nil_of_length_eq_zero h0
  exact ⟨by rw [pkS, if_pos h, e], by rw [pkE, if_pos h, if_pos h0]⟩
theorem pk_cons {d : Dem} (h : okDem d) {s : Int × Int} {l : List (Int × Int)} (h0 : d.steps = s :: l) : pkS d = bestF s d.steps ∧ pkE d = 0 := by
  refine ⟨by rw [pkS, if_pos h, h0], by rw [pkE, if_pos h, if_neg (by rw [h0]; simp)]⟩
theorem within_fun (a b c d : Int) : Fun Tryd.prog 37 [.lit (.int .i64 a), .lit (.int .i64 b), .lit (.int .i64 c), .lit (.int .i64 d)] (Ret (.lit (.bool (decide (c ≤ a ∧ b ≤ d)))) []) := by
  refine Fun.of (nt := 17) (rs := [.tmp 8]) Tryd.func37 rfl rfl rfl rfl rfl ?_
  refine Ev.sr fun K hK => S.o q.as (S.end (hK _ ?_))
  clear hK K
  refine Ev.sr fun K hK => S.o q.mv (S.o q.mv (S.o q.geq (S.bd q.mv (fun c1 => ?_) (fun c1 => ?_))))
  · first
  | (first | omega | contradiction)
  | refine S.o q.mv (S.o q.mv (S.o q.leq (S.o q.pt (S.o q.as (S.end (hK _ ?_))))))
    clear hK K
    refine Ev.ret ?_
    refine Ev.ret1 ?_
    refine ⟨?_, rfl⟩
    first | exact bF (by omega) | exact dI (by omega)
  · first
  | (first | omega | contradiction)
  | refine S.sk (S.sk (S.sk (S.o q.pf (S.o q.as (S.end (hK _ ?_))))))
    clear hK K
    refine Ev.ret ?_
    refine Ev.ret1 ?_
    refine ⟨?_, rfl⟩
    first | exact bF (by omega) | exact dI (by omega)
theorem inside_fun (a b : Bx) : Fun Tryd.prog 28 [.agg a.c, .agg b.c] (Ret (.lit (.bool (decide (inB a b)))) []) := by
  refine Fun.of (nt := 33) (rs := [.tmp 4]) Tryd.func28 rfl rfl rfl rfl rfl ?_
  refine Ev.sr fun K hK => S.nn (q.bx [_, _, _, _, _, _] true) (S.nn (q.bx [_, _, _, _, _, _] true) (S.o q.as (S.end (hK _ ?_))))
  clear hK K
  refine Ev.sr fun K hK => S.o (q.fa 0 am_fi26_0 am_cl24) (S.o (q.fa 1 am_fi24_1 am_cl3) (S.o (q.lv am_ag3) (S.o (q.fa 3 am_fi26_1 am_cl24) (S.o (q.fa 4 am_fi24_1 am_cl3) (S.o (q.lv am_ag3) (S.o (q.fa 0 am_fi26_0 am_cl24) (S.o (q.fa 1 am_fi24_1 am_cl3) (S.o (q.lv am_ag3) (S.o (q.fa 3 am_fi26_1 am_cl24) (S.o (q.fa 4 am_fi24_1 am_cl3) (S.o (q.lv am_ag3) (S.c0 (hF := within_fun _ _ _ _) (h := S.bd q.mv (fun c1 => ?_) (fun c1 => ?_))))))))))))))
  · first
  | (first | omega | contradiction)
  | refine S.o (q.fa 0 am_fi26_0 am_cl24) (S.o (q.fa 2 am_fi24_2 am_cl3) (S.o (q.lv am_ag3) (S.o (q.fa 3 am_fi26_1 am_cl24) (S.o (q.fa 5 am_fi24_2 am_cl3) (S.o (q.lv am_ag3) (S.o (q.fa 0 am_fi26_0 am_cl24) (S.o (q.fa 2 am_fi24_2 am_cl3) (S.o (q.lv am_ag3) (S.o (q.fa 3 am_fi26_1 am_cl24) (S.o (q.fa 5 am_fi24_2 am_cl3) (S.o (q.lv am_ag3) (S.c0 (hF := within_fun _ _ _ _) (h := S.o q.pt (S.o q.as (S.end (hK _ ?_))))))))))))))))
    clear hK K
    refine Ev.ret ?_
    refine Ev.ret1 ?_
    refine ⟨?_, rfl⟩
    first | exact bF (fun h => by have := h.1; omega) | exact dI ⟨fun h => ⟨by omega, h⟩, fun h => h.2⟩
  · first
  | (first | omega | contradiction)
  | refine S.sk (S.sk (S.sk (S.sk (S.sk (S.sk (S.sk (S.sk (S.sk (S.sk (S.sk (S.sk (S.sk (S.o q.pf (S.o q.as (S.end (hK _ ?_))))))))))))))))
    clear hK K
    refine Ev.ret ?_
    refine Ev.ret1 ?_
    refine ⟨?_, rfl⟩
    first | exact bF (fun h => by have := h.1; omega) | exact dI ⟨fun h => ⟨by omega, h⟩, fun h => h.2⟩
def atDV (d : Dem) (x : Int) : Int := if okDem d then atF 0 d.steps x else 0
def okE1 (p : Prop) [Decidable p] : Int := if p then 0 else 1
theorem atD_y {d : Dem} {x : Int} (h : okDem d) : atDV d x = atF 0 d.steps x ∧ okE1 (okDem d) = 0 ∧ atV d.steps x = atF 0 d.steps x ∧ atE d.steps = 0 := ⟨if_pos h, if_pos h, if_pos h.2.2, if_pos h.2.2⟩
theorem atD_n {d : Dem} {x : Int} (h : ¬ okDem d) : atDV d x = 0 ∧ okE1 (okDem d) = 1 := ⟨if_neg h, if_neg h⟩
theorem demAt_fun (d : Dem) (x : Int) (hw : d.w) : Fun Tryd.prog 13 [.agg d.c, .lit (.int .i64 x)] (Ret (.tup [.lit (.int .i64 (atDV d x)), .lit (.int .i64 (okE1 (okDem d)))]) []) := by
  obtain ⟨hw1, hw2⟩ := id hw
  refine Fun.of (nt := 15) (rs := [.tmp 4, .tmp 5]) Tryd.func13 rfl rfl rfl rfl rfl ?_
  refine Ev.sr fun K hK => S.nn (q.bx [_, _, _, _, _, _, _, _] true) (S.o q.as (S.o q.as (S.end (hK _ ?_))))
  clear hK K
  refine Ev.seq ?_
  refine Ev.sr fun K hK => S.o (q.lvA [_, _, _, _, _, _, _, _] am_ag42 am_cl42) (S.c0 (hF := right_fun _ (by assumption)) (h := S.o q.not (S.end (hK _ ?_))))
  clear hK K
  refine Ev.cn (fun c1 => ?_) (fun c1 => ?_)
  · first
  | (first | omega | contradiction)
  | obtain ⟨e1, e2⟩ := atD_n (x := x) ‹¬ okDem d›
    rw [e1, e2]
    refine Ev.sr fun K hK => S.o q.as (S.o q.as (S.end (hK _ ?_)))
    clear hK K
    refine Ev.ret ?_
    refine Ev.ret2 ?_
    refine ⟨?_, rfl⟩
    first | rfl | (rw [e3, e4]; done)
  · first
  | (first | omega | contradiction)
  | refine Ev.skip ?_
    show Ev _ _ _ _
    obtain ⟨e1, e2, e3, e4⟩ := atD_y (x := x) ‹okDem d›
    rw [e1, e2]
    refine Ev.sr fun K hK => S.o (q.fa 7 am_fi42_2 am_cl31) (S.o (q.lv am_ag31) (S.o q.mv (S.c0 (hF := At_fun d.steps x (by omega)) (h := S.o q.ex (S.o q.ex (S.o q.as (S.o q.as (S.end (hK _ ?_)))))))))
    clear hK K
    refine Ev.ret ?_
    refine Ev.ret2 ?_
    refine ⟨?_, rfl⟩
    first | rfl | (rw [e3, e4]; done)
def inDV (d : Dem) (b : Bx) : Prop := okDem d ∧ okBx b ∧ b.ly = b.hy ∧ b.lz = b.hz ∧ inB b d.zone
instance (d b) : Decidable (inDV d b) := by unfold inDV; infer_instance
def inDE (d : Dem) (b : Bx) : Int := okE1 (okDem d ∧ okBx b)
theorem demIn_fun (d : Dem) (b : Bx) (hw : d.w) : Fun Tryd.prog 18 [.agg d.c, .agg b.c] (Ret (.tup [.lit (.bool (decide (inDV d b))), .lit (.int .i64 (inDE d b))]) []) := by
  refine Fun.of (nt := 36) (rs := [.tmp 4, .tmp 5]) Tryd.func18 rfl rfl rfl rfl rfl ?_
  refine Ev.sr fun K hK => S.nn (q.bx [_, _, _, _, _, _, _, _] true) (S.nn (q.bx [_, _, _, _, _, _] true) (S.o q.as (S.o q.as (S.end (hK _ ?_)))))
  clear hK K
  refine Ev.seq ?_
  refine Ev.sr fun K hK => S.o (q.lvA [_, _, _, _, _, _, _, _] am_ag42 am_cl42) (S.c0 (hF := right_fun _ (by assumption)) (h := S.o q.not (S.bn q.mv (fun c1 => ?_) (fun c1 => ?_))))
  · first
  | (first | omega | contradiction)
  | refine S.sk (S.sk (S.sk (S.o q.pt (S.end (hK _ ?_)))))
    clear hK K
    refine Ev.ct ?_
    have hno : ¬ (okDem d ∧ okBx b) := by rintro ⟨h1, h2⟩; first | exact absurd h1 ‹_› | exact absurd h2 ‹_›
    rw [show inDE d b = 1 from if_neg hno, decide_eq_false (show ¬ inDV d b from fun h => hno ⟨h.1, h.2.1⟩)]
    refine Ev.sr fun K hK => S.o q.as (S.o q.as (S.end (hK _ ?_)))
    clear hK K
    refine Ev.ret ?_
    refine Ev.ret2 ?_
    refine ⟨?_, rfl⟩
    first
     | rfl
     | (rw [decide_eq_false (show ¬ inDV d b from fun h => by have h1 := h.2.2.1; omega)]; done)
     | (rw [decide_eq_false (show ¬ inDV d b from fun h => by have h1 := h.2.2.2.1; omega)]; done)
     | (rw [decide_eq_decide.2 (show inDV d b ↔ inB b d.zone from ⟨fun h => h.2.2.2.2, fun h => ⟨hyes.1, hyes.2, by omega, by omega, h⟩⟩)]; done)
  · first
  | (first | omega | contradiction)
  | refine S.o (q.lvA [_, _, _, _, _, _] am_ag26 am_cl26) (S.c0 (hF := boxValid_fun b) (h := S.o q.not (S.o q.pf (S.end (hK _ ?_)))))
    clear hK K
    refine Ev.cn (fun c2 => ?_) (fun c2 => ?_)
    · first
    | (first | omega | contradiction)
    | have hno : ¬ (okDem d ∧ okBx b) := by rintro ⟨h1, h2⟩; first | exact absurd h1 ‹_› | exact absurd h2 ‹_›
      rw [show inDE d b = 1 from if_neg hno, decide_eq_false (show ¬ inDV d b from fun h => hno ⟨h.1, h.2.1⟩)]
      refine Ev.sr fun K hK => S.o q.as (S.o q.as (S.end (hK _ ?_)))
      clear hK K
      refine Ev.ret ?_
      refine Ev.ret2 ?_
      refine ⟨?_, rfl⟩
      first
       | rfl
       | (rw [decide_eq_false (show ¬ inDV d b from fun h => by have h1 := h.2.2.1; omega)]; done)
       | (rw [decide_eq_false (show ¬ inDV d b from fun h => by have h1 := h.2.2.2.1; omega)]; done)
       | (rw [decide_eq_decide.2 (show inDV d b ↔ inB b d.zone from ⟨fun h => h.2.2.2.2, fun h => ⟨hyes.1, hyes.2, by omega, by omega, h⟩⟩)]; done)
    · first
    | (first | omega | contradiction)
    | refine Ev.skip ?_
      show Ev _ _ _ _
      have hyes : okDem d ∧ okBx b := ⟨‹okDem d›, ‹okBx b›⟩
      rw [show inDE d b = 0 from if_pos hyes]
      refine Ev.sr fun K hK => S.o (q.fa 0 am_fi26_0 am_cl24) (S.o (q.fa 1 am_fi24_1 am_cl3) (S.o (q.lv am_ag3) (S.o (q.fa 3 am_fi26_1 am_cl24) (S.o (q.fa 4 am_fi24_1 am_cl3) (S.o (q.lv am_ag3) (S.o q.eql (S.bd q.mv (fun c3 => ?_) (fun c3 => ?_))))))))
      · first
      | (first | omega | contradiction)
      | refine S.o (q.fa 0 am_fi26_0 am_cl24) (S.o (q.fa 2 am_fi24_2 am_cl3) (S.o (q.lv am_ag3) (S.o (q.fa 3 am_fi26_1 am_cl24) (S.o (q.fa 5 am_fi24_2 am_cl3) (S.o (q.lv am_ag3) (S.o q.eql (S.o q.pt (S.bd q.mv (fun c4 => ?_) (fun c4 => ?_)))))))))
        · first
        | (first | omega | contradiction)
        | refine S.o (q.lvA [_, _, _, _, _, _] am_ag26 am_cl26) (S.o (q.fa 1 am_fi42_1 am_cl26) (S.o (q.lvA [_, _, _, _, _, _] am_ag26 am_cl26) (S.c0 (hF := inside_fun b d.zone) (h := S.o q.pt (S.o q.as (S.o q.as (S.end (hK _ ?_))))))))
          clear hK K
          refine Ev.ret ?_
          refine Ev.ret2 ?_
          refine ⟨?_, rfl⟩
          first
           | rfl
           | (rw [decide_eq_false (show ¬ inDV d b from fun h => by have h1 := h.2.2.1; omega)]; done)
           | (rw [decide_eq_false (show ¬ inDV d b from fun h => by have h1 := h.2.2.2.1; omega)]; done)
           | (rw [decide_eq_decide.2 (show inDV d b ↔ inB b d.zone from ⟨fun h => h.2.2.2.2, fun h => ⟨hyes.1, hyes.2, by omega, by omega, h⟩⟩)]; done)
        · first
        | (first | omega | contradiction)
        | refine S.sk (S.sk (S.sk (S.sk (S.o q.pf (S.o q.as (S.o q.as (S.end (hK _ ?_))))))))
          clear hK K
          refine Ev.ret ?_
          refine Ev.ret2 ?_
          refine ⟨?_, rfl⟩
          first
           | rfl
           | (rw [decide_eq_false (show ¬ inDV d b from fun h => by have h1 := h.2.2.1; omega)]; done)
           | (rw [decide_eq_false (show ¬ inDV d b from fun h => by have h1 := h.2.2.2.1; omega)]; done)
           | (rw [decide_eq_decide.2 (show inDV d b ↔ inB b d.zone from ⟨fun h => h.2.2.2.2, fun h => ⟨hyes.1, hyes.2, by omega, by omega, h⟩⟩)]; done)
      · first
      | (first | omega | contradiction)
      | refine S.sk (S.sk (S.sk (S.sk (S.sk (S.sk (S.sk (S.o q.pf (S.o q.mv (S.sk (S.sk (S.sk (S.sk (S.o q.pf (S.o q.as (S.o q.as (S.end (hK _ ?_)))))))))))))))))
        clear hK K
        refine Ev.ret ?_
        refine Ev.ret2 ?_
        refine ⟨?_, rfl⟩
        first
         | rfl
         | (rw [decide_eq_false (show ¬ inDV d b from fun h => by have h1 := h.2.2.1; omega)]; done)
         | (rw [decide_eq_false (show ¬ inDV d b from fun h => by have h1 := h.2.2.2.1; omega)]; done)
         | (rw [decide_eq_decide.2 (show inDV d b ↔ inB b d.zone from ⟨fun h => h.2.2.2.2, fun h => ⟨hyes.1, hyes.2, by omega, by omega, h⟩⟩)]; done)
def rInP (z b : Bx) : Prop := b.ly = b.hy ∧ b.lz = b.hz ∧ inB b z
instance (z b) : Decidable (rInP z b) := by unfold rInP; infer_instance
theorem demPeak_fun (d : Dem) (hw : d.w) : Fun Tryd.prog 15 [.agg d.c] (Ret (.tup [.lit (.int .i64 (pkS d).2), .lit (.int .i64 (pkS d).1), .lit (.int .i64 (pkE d))]) []) := by
  refine Fun.of (nt := 39) (rs := [.tmp 2, .tmp 3, .tmp 4]) Tryd.func15 rfl rfl rfl rfl rfl ?_
  refine Ev.sr fun K hK => S.nn (q.bx [_, _, _, _, _, _, _, _] true) (S.o q.as (S.o q.as (S.o q.as (S.end (hK _ ?_)))))
  clear hK K
  refine Ev.seq ?_
  refine Ev.block ?_
  refine Ev.sr fun K hK => S.o (q.lvA [_, _, _, _, _, _, _, _] am_ag42 am_cl42) (S.c0 (hF := right_fun _ (by assumption)) (h := S.o q.not (S.o q.as (S.end (hK _ ?_)))))
  clear hK K
  refine Ev.cn (fun c1 => ?_) (fun c1 => ?_)
  · first
  | (first | omega | contradiction)
  | obtain ⟨e1, e2⟩ := pk_no ‹¬ okDem d›
    rw [e1, e2]
    refine Ev.sr fun K hK => S.o q.as (S.o q.as (S.o q.as (S.end (hK _ ?_))))
    clear hK K
    refine Ev.ret ?_
    refine Ev.ret3 ?_
    refine ⟨?_, rfl⟩
    rfl
  · first
  | (first | omega | contradiction)
  | refine Ev.sr fun K hK => S.o (q.fa 7 am_fi42_2 am_cl31) (S.o (q.lv am_ag31) (S.o (q.lens am_el31) (S.o q.eql (S.o q.as (S.end (hK _ ?_))))))
    clear hK K
    refine Ev.cd (fun c2 => ?_) (fun c2 => ?_)
    · first
    | (first | omega | contradiction)
    | obtain ⟨e1, e2⟩ := pk_nil (d := d) ‹okDem d› (by omega)
      rw [e1, e2]
      refine Ev.sr fun K hK => S.o q.as (S.o q.as (S.o q.as (S.end (hK _ ?_))))
      clear hK K
      refine Ev.ret ?_
      refine Ev.ret3 ?_
      refine ⟨?_, rfl⟩
      rfl
    · first
    | (first | omega | contradiction)
    | refine Ev.skip ?_
      show Ev _ _ _ _
      have hl0 : 0 < d.steps.length := by omega
      obtain ⟨⟨ax, ay⟩, rest, hs0⟩ : ∃ s0 rest, d.steps = s0 :: rest := List.exists_cons_of_length_pos hl0
      have hidx0 : d.steps[0]? = some (ax, ay) := by rw [hs0]; rfl
      have hwl := hw.2
      obtain ⟨e1, e2⟩ := pk_cons (d := d) ‹okDem d› hs0
      rw [e1, e2]
      refine Ev.sr fun K hK => S.o (q.fa 7 am_fi42_2 am_cl31) (S.o (q.lv am_ag31) (S.o (q.ix am_el31 am_cl40 (hl := (by first | exact ati hidx0 (by omega) | exact atig (by omega)))) (S.o (q.lsA [_, _] am_ag40 am_cl40) (S.nn (q.al am_ze40) (S.sv [_, _] true [_] am_in40 am_cl40 (h := S.end (hK _ ?_)))))))
      clear hK K
      refine Ev.seq ?_
      refine Ev.sr fun K hK => S.o (q.fa 7 am_fi42_2 am_cl31) (S.o (q.lv am_ag31) (S.o (q.lens am_el31) (S.o q.mv (S.end (hK _ ?_)))))
      clear hK K
      refine Ev.block ?_
      refine Ev.loopU (ι := {p : List (Int × Int) × List (Int × Int) // p.1 ++ p.2 = d.steps ∧ True}) [1] [2, 3, 4, 5, 22, 23] (fun ⟨(pre, suf), _⟩ => [(24, .lit (.int .i64 ((pre.length : Int))))]) (fun ⟨(pre, suf), _⟩ => [(0, ⟨false, 40, 2, [[.lit (.int .i64 ((bestF (ax, ay) pre).1)), .lit (.int .i64 ((bestF (ax, ay) pre).2))]], true⟩)]) (fun ⟨(pre, suf), _⟩ => suf.length) ⟨([], d.steps), rfl, trivial⟩ (.c (.c (.c (.c (.c (.c .n)))))) (keep_c (he := (by first | rfl | (rw [best_t ‹_›]; done) | (rw [best_f ‹_›]; done))) (h := keep_n)) (slots_c (he := (by first | rfl | (congr 2; simp; done))) (h := trivial)) ?_
      rintro ⟨⟨pre, suf⟩, hp, hinv⟩ R1 hR1
      dsimp only [List.cons_append, List.nil_append, List.length_cons, List.length_nil]
      simp only at hp hinv
      have hpl : pre.length + suf.length = (d.steps).length := by rw [← hp, List.length_append]
      rcases suf with _ | ⟨s, suf⟩
      · rw [List.append_nil] at hp; simp only [List.length_nil] at hpl
        refine Ev.sr fun K hK => S.o q.lss (S.end (hK _ ?_))
        clear hK K
        refine Ev.ud (fun c3 => ?_) (fun c3 => ?_)
        · first | omega | contradiction | (exfalso; simp at *; done)
        · first
        | (first | omega | contradiction)
        | refine Ev.exit ?_
          refine hR1 _ _ ?_
          show Ev _ _ _ _
          refine Ev.weaken (Wk.forget [2]) ?_
          have hfin : bestF (ax, ay) d.steps = bestF (ax, ay) pre := by rw [← hp]
          rw [hfin]
          refine Ev.sm (tbs [(0, 0), (1, 1), (0, 0), (3, 4), (2, 3), (5, 31), (6, 63)]) 5 fun K hK => M.o (q.fa 1 am_fi40_1 am_cl3) (M.o (q.lv am_ag3) (M.o (q.fa 0 am_fi40_0 am_cl3) (M.o (q.lv am_ag3) (M.o q.as (M.end [_] (h := S.o q.as (S.o q.as (S.end (hK _ ?_)))))))))
          clear hK K
          refine Ev.ret ?_
          refine Ev.ret3 ?_
          refine ⟨?_, rfl⟩
          rfl
      · simp only [List.length_cons] at hpl
        have hidx : d.steps[pre.length]? = some s := by rw [← hp]; simp
        obtain ⟨sx, sy⟩ := s
        refine Ev.sr fun K hK => S.o q.lss (S.end (hK _ ?_))
        clear hK K
        refine Ev.ud (fun c4 => ?_) (fun c4 => ?_)
        · first
        | (first | omega | contradiction)
        | refine Ev.seq ?_
          refine Ev.block ?_
          refine Ev.sr fun K hK => S.o (q.ix am_el31 am_cl40 (hl := (by first | exact ati hidx0 (by omega) | exact ati hidx (by omega) | exact atig (by omega)))) (S.o (q.lsA [_, _] am_ag40 am_cl40) (S.nn (q.al am_ze40) (S.sv [_, _] true [_] am_in40 am_cl40 (h := S.end (hK _ ?_)))))
          clear hK K
          refine Ev.sr fun K hK => S.o (q.fa 1 am_fi40_1 am_cl3) (S.o (q.lv am_ag3) (S.o (q.fa 1 am_fi40_1 am_cl3) (S.o (q.lv am_ag3) (S.o q.gtr (S.end (hK _ ?_))))))
          clear hK K
          refine Ev.cd (fun c5 => ?_) (fun c5 => ?_)
          · first
          | (first | omega | contradiction)
          | refine Ev.region_S fun K hK => S.o (q.lvA [_, _] am_ag40 am_cl40) (S.sv [_, _] true [_] am_in40 am_cl40 (h := S.end (hK _ ?_)))
            clear hK K
            show Ev _ _ _ _
            refine Ev.region_S fun K hK => S.o q.add (S.o q.mv (S.end (hK _ ?_)))
            clear hK K
            refine hR1 _ _ ?_
            refine roundU [0] [2, 3, 4, 5, 22, 23] ⟨(pre ++ [(sx, sy)], suf), by rw [← hp]; simp, ?_⟩ ?_ (keep_c (he := (by first | rfl | (rw [best_t ‹_›]; done) | (rw [best_f ‹_›]; done))) (h := keep_n)) (slots_c (he := (by first | rfl | (congr 2; simp; done))) (h := trivial)) (.c (.c (.c (.c (.c (.c .n))))))
            trivial
            all_goals (dsimp only; simp only [List.length_cons]; omega)
          · first
          | (first | omega | contradiction)
          | refine Ev.skip ?_
            show Ev _ _ _ _
            refine Ev.region_S fun K hK => S.o q.add (S.o q.mv (S.end (hK _ ?_)))
            clear hK K
            refine hR1 _ _ ?_
            refine roundU [0] [2, 3, 4, 5, 22, 23] ⟨(pre ++ [(sx, sy)], suf), by rw [← hp]; simp, ?_⟩ ?_ (keep_c (he := (by first | rfl | (rw [best_t ‹_›]; done) | (rw [best_f ‹_›]; done))) (h := keep_n)) (slots_c (he := (by first | rfl | (congr 2; simp; done))) (h := trivial)) (.c (.c (.c (.c (.c (.c .n))))))
            trivial
            all_goals (dsimp only; simp only [List.length_cons]; omega)
        · first | omega | contradiction | (exfalso; simp at *; done)

end Go.Proofs.YthiockdlhehhoaaDoor
namespace Go.Proofs.YthiockdlhehhoaaDoor
open Go Go.AM
set_option linter.unusedSimpArgs false
set_option linter.unusedVariables false
set_option maxRecDepth 100000
set_option maxHeartbeats 1000000

theorem cloneS_fun (l : List (Int × Int)) (hlen : l.length ≤ 1000) : Fun Tryd.prog 38 [.sh 2 (l.map pairC)] (Ret (.als 0 0 l.length) [(0, ⟨true, 40, 2, l.map pairC, true⟩)]) := by
  refine Fun.of (nt := 8) (rs := [.tmp 2]) Tryd.func38 rfl rfl rfl rfl rfl ?_
  refine Ev.sr fun K hK => S.o q.as (S.end (hK _ ?_))
  clear hK K
  refine Ev.seq ?_
  refine Ev.sr fun K hK => S.o q.mv (S.eqn am_el31 (fun c1 c2 => (S.end (hK _ ?_))))
  clear hK K
  refine Ev.c (fun c3 => ?_) (fun c3 => ?_)
  · first
  | (first | omega | contradiction)
  | refine Ev.sr fun K hK => S.o q.as (S.end (hK _ ?_))
    clear hK K
    refine Ev.weaken (Wk.nown pairC 2 40 2) ?_
    refine Ev.ret ?_
    refine Ev.own1 ?_
    refine ⟨?_, ?_⟩
    all_goals first
     | rfl
     | (rw [List.map_eq_nil_iff.1 (c2 c3)]; done) | (rw [List.map_eq_nil_iff.1 (c2 c3)] <;> rfl)
     | (congr 1; simp; done)
     | (simp; done)
  · first
  | (first | omega | contradiction)
  | refine Ev.skip ?_
    show Ev _ _ _ _
    refine Ev.sr fun K hK => S.nn (v := .als 0 0 ([] : List (Int × Int)).length) (o := ⟨true, 40, 2, ([] : List (Int × Int)).map pairC, true⟩) (q.bs [] true am_el31 am_ze40 am_cl40) (S.o q.mv (S.ap' [] am_el31 am_ze40 am_cl40 am_by40 (hh := head_own') (hr := rows_sh) (h := S.o q.as (S.end (hK _ ?_)))))
    clear hK K
    refine Ev.ret ?_
    refine Ev.own1 ?_
    refine ⟨?_, ?_⟩
    all_goals first
     | rfl
     | (rw [List.map_eq_nil_iff.1 (c2 c3)]; done) | (rw [List.map_eq_nil_iff.1 (c2 c3)] <;> rfl)
     | (congr 1; simp; done)
     | (simp; done)

def sc1 (num den : Int) (s : Int × Int) : Int := (s.2 * num + den - 1) / den
def scL (num den : Int) (l : List (Int × Int)) : List (Int × Int) := l.map fun s => (s.1, sc1 num den s)
theorem scL_len (num den : Int) (l : List (Int × Int)) : (scL num den l).length = l.length := List.length_map _
def fac (num den : Int) : Prop := (1 ≤ num ∧ num ≤ 1000) ∧ 1 ≤ den ∧ den ≤ 1000
instance (n d) : Decidable (fac n d) := by unfold fac; infer_instance
def scBig (num den : Int) (l : List (Int × Int)) : Prop := ∃ s ∈ l, sc1 num den s > 1099511627776
instance (n d l) : Decidable (scBig n d l) := by unfold scBig; infer_instance
def scE (d : Dem) (num den : Int) : Int := if okDem d then (if fac num den then (if scBig num den d.steps then 5 else 0) else 2) else 1
def demZ : Dem := ⟨[], ⟨0, 0, 0, 0, 0, 0⟩, []⟩
def scD (d : Dem) (num den : Int) : Dem := if scE d num den = 0 then ⟨d.name, d.zone, scL num den d.steps⟩ else demZ
theorem sc_arg {d : Dem} {num den : Int} (h : ¬ okDem d) : scD d num den = demZ ∧ scE d num den = 1 := by
  have e : scE d num den = 1 := if_neg h
  exact ⟨by rw [scD, e]; rfl, e⟩
theorem sc_rng {d : Dem} {num den : Int} (h : okDem d) (h2 : ¬ fac num den) : scD d num den = demZ ∧ scE d num den = 2 := by
  have e : scE d num den = 2 := (if_pos h).trans (if_neg h2)
  exact ⟨by rw [scD, e]; rfl, e⟩
theorem sc_big {d : Dem} {num den : Int} (h : okDem d) (h2 : fac num den) (h3 : scBig num den d.steps) : scD d num den = demZ ∧ scE d num den = 5 := by
  have e : scE d num den = 5 := (if_pos h).trans ((if_pos h2).trans (if_pos h3))
  exact ⟨by rw [scD, e]; rfl, e⟩
theorem sc_ok {d : Dem} {num den : Int} (h : okDem d) (h2 : fac num den) (h3 : ¬ scBig num den d.steps) : scD d num den = ⟨d.name, d.zone, scL num den d.steps⟩ ∧ scE d num den = 0 := by
  have e : scE d num den = 0 := (if_pos h).trans ((if_pos h2).trans (if_neg h3))
  exact ⟨by rw [scD, e]; rfl, e⟩
theorem sc_bd {num den v : Int} (hf : fac num den) (h0 : 0 ≤ v) (h1 : v ≤ 1099511627776) : 0 ≤ v * num ∧ v * num ≤ 1099511627776000 ∧ (v * num + den - 1).tdiv den = (v * num + den - 1) / den ∧ 0 ≤ (v * num + den - 1) / den ∧ (v * num + den - 1) / den ≤ 1099511627777000 := by
  obtain ⟨⟨a1, a2⟩, a3, a4⟩ := hf
  have b1 : 0 ≤ v * num := Int.mul_nonneg h0 (by omega)
  have b2 : v * num ≤ 1099511627776 * 1000 := Int.mul_le_mul h1 a2 (by omega) (by omega)
  have b3 : 0 ≤ v * num + den - 1 := by omega
  refine ⟨b1, by omega, Int.tdiv_eq_ediv_of_nonneg b3, Int.ediv_nonneg b3 (by omega), ?_⟩
  exact Int.le_trans (Int.ediv_le_self _ b3) (by omega)
/-- The steps scaled so far, and those that are left. -/
def scM (num den : Int) (pre suf : List (Int × Int)) : List (Int × Int) := scL num den pre ++ suf
theorem scM_set (num den x y : Int) (pre suf : List (Int × Int)) : (scM num den pre ((x, y) :: suf)).set (pre.length : Int).toNat (x, (y * num + den - 1) / den) = scM num den (pre ++ [(x, y)]) suf := by
  have e : (pre.length : Int).toNat = (scL num den pre).length := by simp [scL_len]
  rw [scM, e, List.set_append_right _ _ (Nat.le_refl _), Nat.sub_self]
  simp [scM, scL, sc1]
theorem scM_len (num den : Int) (pre suf : List (Int × Int)) : (scM num den pre suf).length = pre.length + suf.length := by simp [scM, scL_len]
theorem scM_at (num den : Int) (pre suf : List (Int × Int)) (s : Int × Int) : (scM num den pre (s :: suf))[pre.length]? = some s := by
  have e : pre.length = (scL num den pre).length := (scL_len _ _ _).symm
  rw [scM, e]; simp
theorem demScaled_fun (d : Dem) (num den : Int) (hw : d.w) : Fun Tryd.prog 17 [.agg d.c, .lit (.int .i64 num), .lit (.int .i64 den)] (Ret (.tup [.agg (scD d num den).c, .lit (.int .i64 (scE d num den))]) []) := by
  refine Fun.of (nt := 60) (rs := [.cell 6 42, .tmp 7]) Tryd.func17 rfl rfl rfl rfl rfl ?_
  refine Ev.sr fun K hK => S.nn (q.bx [_, _, _, _, _, _, _, _] true) (S.nn (q.al am_ze42) (S.o q.as (S.end (hK _ ?_))))
  clear hK K
  refine Ev.seq ?_
  refine Ev.block ?_
  refine Ev.sr fun K hK => S.o (q.lvA [_, _, _, _, _, _, _, _] am_ag42 am_cl42) (S.c0 (hF := right_fun _ (by assumption)) (h := S.o q.not (S.o q.as (S.end (hK _ ?_)))))
  clear hK K
  refine Ev.cn (fun c1 => ?_) (fun c1 => ?_)
  · first
  | (first | omega | contradiction)
  | obtain ⟨e1, e2⟩ := sc_arg (num := num) (den := den) ‹¬ okDem d›
    rw [e1, e2]
    refine Ev.sr fun K hK => S.o (q.bd [_, _, _, _, _, _, _, _] am_ze42 am_pl42) (S.sv [_, _, _, _, _, _, _, _] true [_] am_in42 am_cl42 (h := S.o q.as (S.end (hK _ ?_))))
    clear hK K
    refine Ev.weaken (Wk.nshr [[0, 0, 0, 0, 0, 0, 0, 3]] 1 [_]) ?_
    refine Ev.ret ?_
    refine Ev.retv2 (res_c [_, _, _, _, _, _, _, _] am_ag42 am_cl42 (res_t res_n)) ?_
    refine ⟨?_, rfl⟩
    first | rfl | (rw [e1, e2]; rfl) | (simp [scM]; rfl)
  · first
  | (first | omega | contradiction)
  | refine Ev.sr fun K hK => S.o q.mv (S.o q.mv (S.c0 (hF := within_fun _ _ _ _) (h := S.o q.not (S.bn q.mv (fun c2 => ?_) (fun c2 => ?_)))))
    · first
    | (first | omega | contradiction)
    | refine S.sk (S.sk (S.sk (S.sk (S.o q.pt (S.o q.as (S.end (hK _ ?_)))))))
      clear hK K
      refine Ev.ct ?_
      obtain ⟨e1, e2⟩ := sc_rng (num := num) (den := den) ‹okDem d› (fun hf => by obtain ⟨f1, f2⟩ := hf; first | contradiction | exact absurd (And.intro f1.1 f1.2) ‹_› | exact absurd f1 ‹_› | exact absurd f2 ‹_›)
      rw [e1, e2]
      refine Ev.sr fun K hK => S.o (q.bd [_, _, _, _, _, _, _, _] am_ze42 am_pl42) (S.sv [_, _, _, _, _, _, _, _] true [_] am_in42 am_cl42 (h := S.o q.as (S.end (hK _ ?_))))
      clear hK K
      refine Ev.weaken (Wk.nshr [[0, 0, 0, 0, 0, 0, 0, 3]] 1 [_]) ?_
      refine Ev.ret ?_
      refine Ev.retv2 (res_c [_, _, _, _, _, _, _, _] am_ag42 am_cl42 (res_t res_n)) ?_
      refine ⟨?_, rfl⟩
      first | rfl | (rw [e1, e2]; rfl) | (simp [scM]; rfl)
    · first
    | (first | omega | contradiction)
    | refine S.o q.mv (S.o q.mv (S.c0 (hF := within_fun _ _ _ _) (h := S.o q.not (S.o q.pf (S.o q.as (S.end (hK _ ?_)))))))
      clear hK K
      refine Ev.cn (fun c3 => ?_) (fun c3 => ?_)
      · first
      | (first | omega | contradiction)
      | obtain ⟨e1, e2⟩ := sc_rng (num := num) (den := den) ‹okDem d› (fun hf => by obtain ⟨f1, f2⟩ := hf; first | contradiction | exact absurd (And.intro f1.1 f1.2) ‹_› | exact absurd f1 ‹_› | exact absurd f2 ‹_›)
        rw [e1, e2]
        refine Ev.sr fun K hK => S.o (q.bd [_, _, _, _, _, _, _, _] am_ze42 am_pl42) (S.sv [_, _, _, _, _, _, _, _] true [_] am_in42 am_cl42 (h := S.o q.as (S.end (hK _ ?_))))
        clear hK K
        refine Ev.weaken (Wk.nshr [[0, 0, 0, 0, 0, 0, 0, 3]] 1 [_]) ?_
        refine Ev.ret ?_
        refine Ev.retv2 (res_c [_, _, _, _, _, _, _, _] am_ag42 am_cl42 (res_t res_n)) ?_
        refine ⟨?_, rfl⟩
        first | rfl | (rw [e1, e2]; rfl) | (simp [scM]; rfl)
      · first
      | (first | omega | contradiction)
      | refine Ev.skip ?_
        show Ev _ _ _ _
        have hok : okDem d := ‹okDem d›
        have hfac : fac num den := ⟨‹_›, ‹_›⟩
        have hsl := hok.2.2.1
        refine Ev.sr fun K hK => S.o (q.fa 7 am_fi42_2 am_cl31) (S.o (q.lv am_ag31) (S.c1 (hF := cloneS_fun _ (by omega)) (h := S.o (q.fa 7 am_fi42_2 am_cl31) (S.sv [_, _, _, _, _, _, _, _] false [_, _] am_in31 am_cl31 (h := S.end (hK _ ?_))))))
        clear hK K
        refine Ev.seq ?_
        refine Ev.sr fun K hK => S.o (q.fa 7 am_fi42_2 am_cl31) (S.o (q.lv am_ag31) (S.o (q.lena am_el31) (S.o q.mv (S.end (hK _ ?_)))))
        clear hK K
        refine Ev.block ?_
        refine Ev.loopU (ι := {q : List (Int × Int) × List (Int × Int) // q.1 ++ q.2 = d.steps ∧ ∀ s ∈ q.1, ¬ sc1 num den s > 1099511627776}) [0, 2, 1] [1, 2, 3, 6, 33, 34] (fun ⟨(pre, suf), _⟩ => [(35, .lit (.int .i64 ((pre.length : Int))))]) (fun ⟨(pre, suf), _⟩ => [(0, ⟨false, 42, 8, [[.lit (str (d.name)), .lit (.int .i64 (d.zone.lx)), .lit (.int .i64 (d.zone.ly)), .lit (.int .i64 (d.zone.lz)), .lit (.int .i64 (d.zone.hx)), .lit (.int .i64 (d.zone.hy)), .lit (.int .i64 (d.zone.hz)), .als 1 0 (scM num den pre suf).length]], false⟩), (1, ⟨true, 40, 2, (scM num den pre suf).map pairC, true⟩), (2, ⟨false, 42, 8, [[.lit (str []), .lit (.int .i64 (0)), .lit (.int .i64 (0)), .lit (.int .i64 (0)), .lit (.int .i64 (0)), .lit (.int .i64 (0)), .lit (.int .i64 (0)), .lit (.slice none 0 0)]], true⟩)]) (fun ⟨(pre, suf), _⟩ => suf.length) ⟨([], d.steps), rfl, (fun s hs => by simp at hs)⟩ (.c (.c (.c (.c (.c (.c .n)))))) (keep_d (he := (by first | rfl | (rw [scM_len, scM_len]; simp; omega))) (h := (keep_c (he := (by first | rfl | (rw [scM_set]; done))) (h := (keep_c (he := (by first | rfl | (simp; done))) (h := keep_n)))))) (slots_c (he := (by first | rfl | (congr 2; simp; done))) (h := trivial)) ?_
        rintro ⟨⟨pre, suf⟩, hp, hinv⟩ R1 hR1
        dsimp only [List.cons_append, List.nil_append, List.length_cons, List.length_nil]
        simp only at hp hinv
        have hpl : pre.length + suf.length = (d.steps).length := by rw [← hp, List.length_append]
        rcases suf with _ | ⟨s, suf⟩
        · rw [List.append_nil] at hp; simp only [List.length_nil] at hpl
          subst hp
          refine Ev.sr fun K hK => S.o q.lss (S.end (hK _ ?_))
          clear hK K
          refine Ev.ud (fun c4 => ?_) (fun c4 => ?_)
          · first | omega | contradiction | (exfalso; simp at *; done)
          · first
          | (first | omega | contradiction)
          | refine Ev.exit ?_
            refine hR1 _ _ ?_
            show Ev _ _ _ _
            obtain ⟨e1, e2⟩ := sc_ok hok hfac (fun ⟨s, hs, hb⟩ => hinv s hs hb)
            rw [e1, e2]
            refine Ev.sr fun K hK => S.o (q.lvA [_, _, _, _, _, _, _, _] am_ag42 am_cl42) ?_
            refine SeqL.weaken (Wk.frzA (f := pairC) (scM num den d.steps []) 59 7 [_, _]) ?_
            refine S.sv [_, _, _, _, _, _, _, _] true [_] am_in42 am_cl42 (h := S.o q.as (S.end (hK _ ?_)))
            clear hK K
            refine Ev.weaken (Wk.nshr [[0, 0, 0, 0, 0, 0, 0, 3]] 2 [_]) ?_
            refine Ev.ret ?_
            refine Ev.retv2 (res_c [_, _, _, _, _, _, _, _] am_ag42 am_cl42 (res_t res_n)) ?_
            refine ⟨?_, rfl⟩
            first | rfl | (rw [e1, e2]; rfl) | (simp [scM]; rfl)
        · simp only [List.length_cons] at hpl
          obtain ⟨sx, sy⟩ := s
          have hidx := scM_at num den pre suf (sx, sy)
          have hst := hok.2.2.2.1 (sx, sy) (by rw [← hp]; simp)
          obtain ⟨hs0, hs1, hs2⟩ := hst
          simp only at hs1 hs2
          obtain ⟨b1, b2, b3, b4, b5⟩ := sc_bd hfac hs1 hs2
          have hml := scM_len num den pre ((sx, sy) :: suf)
          simp only [List.length_cons] at hml
          refine Ev.sr fun K hK => S.o q.lss (S.end (hK _ ?_))
          clear hK K
          refine Ev.ud (fun c5 => ?_) (fun c5 => ?_)
          · first
          | (first | omega | contradiction)
          | refine Ev.seq ?_
            refine Ev.block ?_
            refine Ev.sr fun K hK => S.o q.mv (S.o (q.ia am_el31 am_cl40) (S.o (q.lxA [_, _] am_ag40 am_cl40 (hl := (by first | exact at_ hidx (by omega) | exact at_g (by omega)))) (S.nn (q.al am_ze40) (S.o q.as (S.sv [_, _] true [_, _, _] am_in40 am_cl40 (h := S.end (hK _ ?_)))))))
            clear hK K
            refine Ev.sr fun K hK => S.o (q.fa 1 am_fi40_1 am_cl3) (S.o (q.lv am_ag3) (S.o q.mv (S.o q.mul (S.o q.mv (S.o q.add (S.o q.sub (S.o q.mv (S.o q.quo (S.o q.as (S.end (hK _ ?_)))))))))))
            clear hK K
            refine Ev.seq ?_
            refine Ev.sr fun K hK => S.o q.mv (S.o q.gtr (S.end (hK _ ?_)))
            clear hK K
            refine Ev.cd (fun c6 => ?_) (fun c6 => ?_)
            · first
            | (first | omega | contradiction)
            | have hbig : scBig num den d.steps := ⟨(sx, sy), by rw [← hp]; simp, by show (sy * num + den - 1) / den > _; assumption⟩
              obtain ⟨e1, e2⟩ := sc_big hok hfac hbig
              refine Ev.sr fun K hK => S.o (q.bd [_, _, _, _, _, _, _, _] am_ze42 am_pl42) (S.sv [_, _, _, _, _, _, _, _] true [_, _, _] am_in42 am_cl42 (h := S.o q.as (S.end (hK _ ?_))))
              clear hK K
              refine Ev.weaken (Wk.nshr [[0, 0, 0, 0, 0, 0, 0, 3]] 2 [_, _, _]) ?_
              refine Ev.ret ?_
              refine hR1 _ _ ?_
              refine Ev.retv2 (res_c [_, _, _, _, _, _, _, _] am_ag42 am_cl42 (res_t res_n)) ?_
              refine ⟨?_, rfl⟩
              first | rfl | (rw [e1, e2]; rfl) | (simp [scM]; rfl)
            · first
            | (first | omega | contradiction)
            | refine Ev.skip ?_
              show Ev _ _ _ _
              refine Ev.region_S fun K hK => S.o (q.fa 7 am_fi42_2 am_cl31) (S.o (q.lv am_ag31) (S.o q.mv (S.o q.mv (S.o (q.ia am_el31 am_cl40) (S.o (q.fa 1 am_fi40_1 am_cl3) (S.sx (⟨_, _⟩ : Int × Int) [_, _, _] am_in3 am_cl3 (hl := (by first | exact at_ hidx (by omega) | exact at_g (by omega))) (h := S.end (hK _ ?_))))))))
              clear hK K
              show Ev _ _ _ _
              refine Ev.region_S fun K hK => S.o q.add (S.o q.mv (S.end (hK _ ?_)))
              clear hK K
              refine hR1 _ _ ?_
              refine roundU [0, 1, 2] [1, 2, 3, 6, 33, 34] ⟨(pre ++ [(sx, sy)], suf), by rw [← hp]; simp, ?_⟩ ?_ (keep_d (he := (by first | rfl | (rw [scM_len, scM_len]; simp; omega))) (h := (keep_c (he := (by first | rfl | (rw [scM_set]; done))) (h := (keep_c (he := (by first | rfl | (simp; done))) (h := keep_n)))))) (slots_c (he := (by first | rfl | (congr 2; simp; done))) (h := trivial)) (.c (.c (.c (.c (.c (.c .n))))))
              intro s hs
              simp only [List.mem_append, List.mem_singleton] at hs
              rcases hs with hs | rfl
              · exact hinv s hs
              · show ¬ (sy * num + den - 1) / den > _
                assumption
              all_goals (dsimp only; simp only [List.length_cons]; omega)
          · first | omega | contradiction | (exfalso; simp at *; done)


end Go.Proofs.YthiockdlhehhoaaDoor
