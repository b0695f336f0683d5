/-
  slices.Repeat at ints.
  Conditions: none.
-/
import Derived.Test.YtaggnajjmopobaaBase
import Derived.Test.YtaggnajjmopobaaAmMul
import Derived.Test.YtaggnajjmopobaaAmFactl
import Derived.Shelf.Lay
import Derived.Ground.NamesProg
namespace Go.Proofs.Ytaggnajjmopobaa
open Go Go.AM
set_option linter.unusedSimpArgs false
set_option linter.unusedVariables false
set_option maxRecDepth 100000
set_option maxHeartbeats 1000000

open Go.Shelf in
shelf_lay Lays.n212 Nm 212 at Try as lays212
theorem mul1_fun (a n : Int) (ha : a = 1) (h0 : 0 ≤ n) (h1 : n ≤ 1000000) : Fun Try.prog 64 [.lit (.int .u64 a), .lit (.int .u64 n)] (Ret (.tup [.lit (.int .u64 0), .lit (.int .u64 n)]) []) := by
  subst ha
  obtain ⟨k, rfl⟩ := Int.eq_ofNat_of_zero_le h0
  have h := mul_fun lays212 ⟨_, Try.func64, rfl, rfl⟩ 1 k (by decide) (by omega)
  rw [Nat.one_mul, Nat.div_eq_of_lt (by omega), Nat.mod_eq_of_lt (by omega)] at h
  exact h
def rpt (x : Int) (N k : Nat) : List Int := List.replicate k x ++ List.replicate (N - k) 0
theorem rpt_len (x : Int) {N k : Nat} (h : k ≤ N) : (rpt x N k).length = N := by simp [rpt]; omega
theorem rpt_step (x : Int) {N k : Nat} (h1 : 1 ≤ k) (h : k < N) : (rpt x N k).take k ++ ((rpt x N k).drop 0).take (min k (N - k)) ++ (rpt x N k).drop (k + min k (N - k)) = rpt x N (k + min k (N - k)) := by
  have hm : min k (N - k) ≤ k := Nat.min_le_left _ _
  have hm2 : min k (N - k) ≤ N - k := Nat.min_le_right _ _
  generalize min k (N - k) = m at hm hm2
  unfold rpt
  rw [List.drop_zero, List.take_append_of_le_length (by simp), List.take_append_of_le_length (by simpa using hm), List.drop_append]
  simp only [List.take_replicate, List.drop_replicate, List.length_replicate, Nat.min_self, Nat.min_eq_left hm]
  rw [show k - (k + m) = 0 by omega, List.replicate_zero, List.nil_append, List.replicate_append_replicate, show k + m - k = m by omega, show N - k - m = N - (k + m) by omega]
theorem repeat_fun (x n : Int) (h0 : 1 ≤ n) (h1 : n ≤ 1000000) : Fun Try.prog 55 [.sh 1 ([x].map intC), .lit (.int .i64 n)] (Ret (.als 0 0 (List.replicate n.toNat x).length) [(0, ⟨true, 3, 1, (List.replicate n.toNat x).map intC, true⟩)]) := by
  obtain ⟨N, rfl⟩ := Int.eq_ofNat_of_zero_le (show 0 ≤ n by omega)
  have hN : 1 ≤ N := by omega
  generalize hL : [x] = L
  have hLl : L.length = 1 := by rw [← hL]; rfl
  have emL : min 1 N = 1 := by omega
  refine Fun.of (nt := 48) (rs := [.tmp 4]) Try.func55 rfl rfl rfl rfl rfl ?_
  refine Ev.sr fun K hK => S.o q.as (S.end (hK _ ?_))
  clear hK K
  refine Ev.seq ?_
  refine Ev.sr fun K hK => S.o q.mv (S.o q.lss (S.end (hK _ ?_)))
  clear hK K
  refine Ev.cd (fun c1 => ?_) (fun c1 => ?_)
  · first
  | (first | omega | contradiction)
  | omega
  · first
  | (first | omega | contradiction)
  | refine Ev.skip ?_
    show Ev _ _ _ _
    refine Ev.sr fun K hK => S.o q.mv (S.o (q.lens am_el70) (S.o (q.cvu am_un93 am_us3) (S.o q.mv (S.o (q.cvu am_un93 am_us3) (S.c0 (hF := mul1_fun _ _ (by omega) (by omega) (by omega)) (h := S.o q.mv (S.o q.ex (S.o q.ex (S.o q.as (S.o q.as (S.end (hK _ ?_))))))))))))
    clear hK K
    refine Ev.seq ?_
    refine Ev.sr fun K hK => S.o q.mv (S.o q.gtr (S.bd q.mv (fun c2 => ?_) (fun c2 => ?_)))
    · first
    | (first | omega | contradiction)
    | refine S.sk (S.sk (S.o q.pt (S.end (hK _ ?_))))
      clear hK K
      refine Ev.ct ?_
      omega
    · first
    | (first | omega | contradiction)
    | refine S.o q.mv (S.o q.gtr (S.o q.pf (S.end (hK _ ?_))))
      clear hK K
      refine Ev.cd (fun c3 => ?_) (fun c3 => ?_)
      · first
      | (first | omega | contradiction)
      | omega
      · first
      | (first | omega | contradiction)
      | refine Ev.skip ?_
        show Ev _ _ _ _
        refine Ev.sr fun K hK => S.o q.mv (S.o (q.cvi am_un3 am_us93) (S.mkf (f := intC) (0) am_el70 am_ze3 am_cl3 am_by3 (h := S.o q.as (S.end (hK _ ?_)))))
        clear hK K
        refine Ev.sr fun K hK => S.o q.mv (S.o q.mv (S.cps [] am_el70 am_ze3 am_cl3 (h := S.o q.as (S.end (hK _ ?_)))))
        clear hK K
        refine Ev.seq ?_
        refine Ev.block ?_
        refine Ev.loopU (ι := {k : Nat // 1 ≤ k ∧ k ≤ N}) [0] [4] (fun ⟨k, _⟩ => [(8, .lit (.int .i64 ((k : Int)))), (7, .als 0 0 (rpt x N k).length)]) (fun ⟨k, _⟩ => [(0, ⟨true, 3, 1, (rpt x N k).map intC, true⟩)]) (fun ⟨k, _⟩ => N - k) ⟨1, Nat.le_refl _, hN⟩ (.c .n) (keep_c (he := (by first | rfl | (simp [hLl, emL]; rw [← hL]; simp [rpt]; done) | (congr 1; simp only [Int.toNat_natCast, Int.toNat_zero, Nat.sub_zero, Nat.zero_add, Nat.add_zero, hrl]; exact rpt_step (N := N) (k := k) x hk1 (by omega)))) (h := keep_n)) (slots_c (he := (by first | rfl | (simp [hLl, emL]; done) | (simp; done) | (simp [hLl]; omega))) (h := (slots_c (he := (by first | rfl | (rw [rpt_len x hN]; first | rfl | (congr 1; simp; done) | (congr 1; omega)) | (rw [rpt_len x hk2, rpt_len x (by omega)]; done))) (h := trivial)))) ?_
        rintro ⟨k, hk1, hk2⟩ R0 hR0
        dsimp only [List.cons_append, List.nil_append, List.length_cons, List.length_nil]
        have hrl := rpt_len x hk2
        refine Ev.seq ?_
        refine Ev.sr fun K hK => S.o q.mv (S.o q.mv (S.o (q.lena am_el70) (S.o q.lss (S.end (hK _ ?_)))))
        clear hK K
        refine Ev.cd (fun c4 => ?_) (fun c4 => ?_)
        · first
        | (first | omega | contradiction)
        | refine Ev.skip ?_
          show Ev _ _ _ _
          refine Ev.block ?_
          refine Ev.region_W (tbs [(0, 0), (0, 0), (0, 0), (3, 6), (0, 0), (0, 0), (6, 48), (7, 126), (8, 255), (9, 511)]) 7 fun K hK => M.o q.mv (M.o q.mv (M.o q.mv (M.o (q.sl am_el70 am_cl3) (M.o q.mv (M.o q.mv (M.o (q.sl am_el70 am_cl3) (M.cpd 0 [] am_el70 am_ze3 am_cl3 (h := S.o q.add (S.o q.as (S.end (hK _ ?_)))))))))))
          clear hK K
          refine hR0 _ _ ?_
          refine roundU [0] [4] ⟨k + min k (N - k), by omega, by have := Nat.min_le_right k (N - k); omega⟩ ?_ (keep_c (he := (by first | rfl | (simp [hLl, emL]; rw [← hL]; simp [rpt]; done) | (congr 1; simp only [Int.toNat_natCast, Int.toNat_zero, Nat.sub_zero, Nat.zero_add, Nat.add_zero, hrl]; exact rpt_step (N := N) (k := k) x hk1 (by omega)))) (h := keep_n)) (slots_c (he := (by first | rfl | (simp [hLl, emL]; done) | (simp; done) | (simp [hLl]; omega))) (h := (slots_c (he := (by first | rfl | (rw [rpt_len x hN]; first | rfl | (congr 1; simp; done) | (congr 1; omega)) | (rw [rpt_len x hk2, rpt_len x (by omega)]; done))) (h := trivial)))) (.c .n)
          skip
          all_goals (dsimp only; have hz : 1 ≤ min k (N - k) := Nat.le_min.2 ⟨hk1, by omega⟩; omega)
        · first
        | (first | omega | contradiction)
        | refine Ev.exit ?_
          refine hR0 _ _ ?_
          show Ev _ _ _ _
          refine Ev.sr fun K hK => S.o q.mv (S.o q.as (S.end (hK _ ?_)))
          clear hK K
          refine Ev.ret ?_
          refine Ev.own1 ?_
          refine ⟨?_, ?_⟩
          all_goals first | rfl | (have hkN : k = N := (by omega); subst hkN; simp [rpt]; done)
end Go.Proofs.Ytaggnajjmopobaa
