/-
  Decimal numerals of the answer.
  Conditions: none.
-/
import Derived.Test.YtnbjmckhongidaaGreatDoorBd1
import Derived.Test.YtnbjmckhongidaaGreatDoorAmBld
namespace Go.Proofs.YtnbjmckhongidaaGreatDoor
open Go Go.AM
set_option linter.unusedSimpArgs false
set_option linter.unusedVariables false
set_option maxRecDepth 100000
set_option maxHeartbeats 1000000

theorem dig_init {n : Int} (h : 0 ≤ n) : Go.Lib.itoa n = if n = 0 ∧ ([] : List UInt8) = [] then [48] else digZ n ++ [] := by
  by_cases h0 : n = 0
  · subst h0
    rw [if_pos ⟨rfl, rfl⟩, show (0 : Int) = ((0 : Nat) : Int) from rfl, Go.Lib.itoa_nonneg, Go.Lib.decDigits]
    rfl
  · rw [if_neg (fun h => h0 h.1), List.append_nil, digZ, if_neg h0]
theorem dig_step {N m : Int} {out : List UInt8} (h0 : 0 ≤ m) (h : Go.Lib.itoa N = if m = 0 ∧ out = [] then [48] else digZ m ++ out) (hc : 0 < m ∨ out.length < 1) :
    Go.Lib.itoa N = if m / 10 = 0 ∧ [UInt8.ofNat (48 + m % 10).toNat] ++ out = [] then [48] else digZ (m / 10) ++ ([UInt8.ofNat (48 + m % 10).toNat] ++ out) := by
  rw [if_neg (fun h => by simp at h)]
  by_cases hm : 0 < m
  · rw [if_neg (fun h => by omega), digZ_pos hm, List.append_assoc] at h
    exact h
  · obtain rfl : m = 0 := by omega
    obtain rfl : out = [] := List.eq_nil_of_length_eq_zero (by omega)
    rw [if_pos ⟨rfl, rfl⟩] at h
    rw [h]; rfl
theorem dig_end {N m : Int} {out : List UInt8} (h : Go.Lib.itoa N = if m = 0 ∧ out = [] then [48] else digZ m ++ out) (h0 : 0 ≤ m) (h1 : ¬ 0 < m) (h2 : ¬ out.length < 1) : out = Go.Lib.itoa N := by
  obtain rfl : m = 0 := by omega
  rw [if_neg (fun h => by rw [h.2] at h2; exact h2 (by decide))] at h
  rw [h]; rfl
theorem dig_len {N m : Int} {out : List UInt8} (hN : 0 ≤ N ∧ N ≤ 1099511627777) (h : Go.Lib.itoa N = if m = 0 ∧ out = [] then [48] else digZ m ++ out) : out.length ≤ 21 := by
  have h1 := itoa_len hN.1 hN.2
  rw [h] at h1
  split at h1
  · rename_i e; rw [e.2]; decide
  · rw [List.length_append] at h1; omega
theorem digits_fun (n : Int) (h0 : 0 ≤ n) (h1 : n ≤ 1099511627777) : Fun Tryz.prog 52 [.lit (.int .i64 n), .lit (.int .i64 1)] (Ret (.lit (str (Go.Lib.itoa n))) []) := by
  refine Fun.of (nt := 25) (rs := [.tmp 4]) Tryz.func52 rfl rfl rfl rfl rfl ?_
  refine Ev.sr fun K hK => S.o q.as (S.end (hK _ ?_))
  clear hK K
  refine Ev.sr fun K hK => S.o q.as (S.end (hK _ ?_))
  clear hK K
  refine Ev.seq ?_
  refine Ev.block ?_
  refine Ev.loopU (ι := {q : Int × List UInt8 // 0 ≤ q.1 ∧ q.1 ≤ 1099511627777 ∧ Go.Lib.itoa n = if q.1 = 0 ∧ q.2 = [] then [48] else digZ q.1 ++ q.2}) [] [1, 4] (fun ⟨(m, out), _⟩ => [(0, .lit (.int .i64 (m))), (5, .lit (str (out)))]) (fun ⟨(m, out), _⟩ => []) (fun ⟨(m, out), _⟩ => m.toNat + (1 - out.length)) ⟨(n, []), h0, h1, dig_init h0⟩ (.c (.c .n)) keep_n (slots_c (he := (by first | rfl | (simp; done) | (congr 2; omega))) (h := (slots_c (he := (by first | rfl | (simp; done) | (congr 2; omega))) (h := trivial)))) ?_
  rintro ⟨⟨m, out⟩, hm, hM, hE⟩ R0 hR0
  dsimp only [List.cons_append, List.nil_append, List.length_cons, List.length_nil]
  simp only at hm hM hE
  have hol := dig_len ⟨h0, h1⟩ hE
  refine Ev.seq ?_
  refine Ev.sr fun K hK => S.o q.mv (S.o q.gtr (S.bd q.mv (fun c1 => ?_) (fun c1 => ?_)))
  · first
  | (first | omega | contradiction)
  | refine S.sk (S.sk (S.sk (S.sk (S.o q.pt (S.end (hK _ ?_))))))
    clear hK K
    refine Ev.ct ?_
    refine Ev.skip ?_
    show Ev _ _ _ _
    refine Ev.block ?_
    refine Ev.sr fun K hK => S.o q.mv (S.o q.rem (S.o q.add (S.o (q.cvb am_un5 am_us3) (S.nn (q.bs [[_]] true am_el48 am_ze5 am_cl5) (S.cstr ([UInt8.ofNat (48 + m % 10).toNat]) (by kernel_rfl : Tryz.prog.underlying 48 = some (.slice 5)) (by kernel_rfl : Tryz.prog.underlying 5 = some (.int .u8)) (by kernel_rfl : Tryz.prog.underlying 9 = some .string) (hrows := dig_byte (by omega)) (h := S.o q.mv (S.o q.sadd (S.o q.as (S.end (hK _ ?_))))))))))
    clear hK K
    refine Ev.region_S fun K hK => S.o q.mv (S.o q.quo (S.o q.as (S.end (hK _ ?_))))
    clear hK K
    refine hR0 _ _ ?_
    refine roundU [] [1, 4] ⟨(m / 10, [UInt8.ofNat (48 + m % 10).toNat] ++ out), by dsimp only; omega, by dsimp only; omega, dig_step hm hE (by omega)⟩ ?_ keep_n (slots_c (he := (by first | rfl | (simp; done) | (congr 2; omega))) (h := (slots_c (he := (by first | rfl | (simp; done) | (congr 2; omega))) (h := trivial)))) (.c (.c .n))
    skip
    all_goals (dsimp only; simp only [List.length_cons, List.length_append, List.length_nil]; omega)
  · first
  | (first | omega | contradiction)
  | refine S.o q.mv (S.o (q.slen am_el9 am_un9) (S.o q.mv (S.o q.lss (S.o q.pf (S.end (hK _ ?_))))))
    clear hK K
    refine Ev.cd (fun c2 => ?_) (fun c2 => ?_)
    · first
    | (first | omega | contradiction)
    | refine Ev.skip ?_
      show Ev _ _ _ _
      refine Ev.block ?_
      refine Ev.sr fun K hK => S.o q.mv (S.o q.rem (S.o q.add (S.o (q.cvb am_un5 am_us3) (S.nn (q.bs [[_]] true am_el48 am_ze5 am_cl5) (S.cstr ([UInt8.ofNat (48 + m % 10).toNat]) (by kernel_rfl : Tryz.prog.underlying 48 = some (.slice 5)) (by kernel_rfl : Tryz.prog.underlying 5 = some (.int .u8)) (by kernel_rfl : Tryz.prog.underlying 9 = some .string) (hrows := dig_byte (by omega)) (h := S.o q.mv (S.o q.sadd (S.o q.as (S.end (hK _ ?_))))))))))
      clear hK K
      refine Ev.region_S fun K hK => S.o q.mv (S.o q.quo (S.o q.as (S.end (hK _ ?_))))
      clear hK K
      refine hR0 _ _ ?_
      refine roundU [] [1, 4] ⟨(m / 10, [UInt8.ofNat (48 + m % 10).toNat] ++ out), by dsimp only; omega, by dsimp only; omega, dig_step hm hE (by omega)⟩ ?_ keep_n (slots_c (he := (by first | rfl | (simp; done) | (congr 2; omega))) (h := (slots_c (he := (by first | rfl | (simp; done) | (congr 2; omega))) (h := trivial)))) (.c (.c .n))
      skip
      all_goals (dsimp only; simp only [List.length_cons, List.length_append, List.length_nil]; omega)
    · first
    | (first | omega | contradiction)
    | refine Ev.exit ?_
      refine hR0 _ _ ?_
      show Ev _ _ _ _
      refine Ev.sr fun K hK => S.o q.mv (S.o q.as (S.end (hK _ ?_)))
      clear hK K
      refine Ev.ret ?_
      refine Ev.ret1 ?_
      refine ⟨?_, rfl⟩
      (rw [dig_end hE hm (by omega) (by omega)]; done)
theorem format_fun (n : Int) (h0 : 0 ≤ n) (h1 : n ≤ 1099511627777) : Fun Tryz.prog 37 [.lit (.int .i64 n), .lit (.int .i64 0)] (Ret (.lit (str (Go.Lib.itoa n))) []) := by
  have hil := itoa_len h0 h1
  refine Fun.of (nt := 36) (rs := [.tmp 4]) Tryz.func37 rfl rfl rfl rfl rfl ?_
  refine Ev.sr fun K hK => S.o q.as (S.end (hK _ ?_))
  clear hK K
  refine Ev.sr fun K hK => S.o q.as (S.end (hK _ ?_))
  clear hK K
  refine Ev.seq ?_
  refine Ev.sr fun K hK => S.o q.mv (S.o q.lss (S.end (hK _ ?_)))
  clear hK K
  refine Ev.cd (fun c1 => ?_) (fun c1 => ?_)
  · first
  | (first | omega | contradiction)
  | omega
  · first
  | (first | omega | contradiction)
  | refine Ev.skip ?_
    show Ev _ _ _ _
    refine Ev.sr fun K hK => S.o q.mv (S.o q.mv (S.o q.add (S.c0 (hF := digits_fun _ (by omega) (by omega)) (h := S.o q.as (S.end (hK _ ?_))))))
    clear hK K
    refine Ev.seq ?_
    refine Ev.sr fun K hK => S.o q.mv (S.o q.eql (S.end (hK _ ?_)))
    clear hK K
    refine Ev.cd (fun c2 => ?_) (fun c2 => ?_)
    · first
    | (first | omega | contradiction)
    | refine Ev.sr fun K hK => S.o q.mv (S.o q.mv (S.o q.sadd (S.o q.as (S.end (hK _ ?_)))))
      clear hK K
      refine Ev.ret ?_
      refine Ev.ret1 ?_
      refine ⟨?_, rfl⟩
      rfl
    · first
    | (first | omega | contradiction)
    | refine Ev.skip ?_
      show Ev _ _ _ _
      omega
theorem number_fun (n : Int) (h0 : 0 ≤ n) (h1 : n ≤ 1099511627777) : Fun Tryz.prog 22 [.lit (.int .i64 n)] (Ret (.lit (str (Go.Lib.itoa n))) []) := by
  have hil := itoa_len h0 h1
  refine Fun.of (nt := 5) (rs := [.tmp 2]) Tryz.func22 rfl rfl rfl rfl rfl ?_
  refine Ev.sr fun K hK => S.o q.as (S.end (hK _ ?_))
  clear hK K
  refine Ev.sr fun K hK => S.o q.mv (S.c0 (hF := format_fun _ (by omega) (by omega)) (h := S.o q.as (S.end (hK _ ?_))))
  clear hK K
  refine Ev.ret ?_
  refine Ev.ret1 ?_
  refine ⟨?_, rfl⟩
  rfl
end Go.Proofs.YtnbjmckhongidaaGreatDoor
