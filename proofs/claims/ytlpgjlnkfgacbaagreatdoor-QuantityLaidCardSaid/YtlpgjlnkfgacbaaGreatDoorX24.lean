/-
  Part 24 of the proof: functions walked on the abstract machine.
  Conditions: none.
-/
import Derived.Shelf.Lay
import Derived.Ground.NamesProg
import Derived.Test.YtlpgjlnkfgacbaaGreatDoorX23
set_option linter.unusedSimpArgs false
set_option linter.unusedVariables false
set_option maxRecDepth 100000
set_option maxHeartbeats 1000000
namespace Go.Proofs.YtlpgjlnkfgacbaaGreatDoor
open Go Go.AM
open Go.Lib in
theorem dec_len : ∀ (k u : Nat), u < 10 ^ (k + 1) → (decDigits u).length ≤ k + 1 := by
  intro k
  induction k with
  | zero =>
    intro u h; rw [decDigits, dif_pos (by omega)]
    simp
  | succ k ih =>
    intro u h; rw [decDigits]
    split
    · simp
    have := ih (u / 10) (by rw [Nat.pow_succ] at h; omega); simp only [List.length_append, List.length_singleton]; omega
theorem itoa_len {N : Int} (h0 : 0 ≤ N) (h1 : N ≤ 1099511627777) : (Go.Lib.itoa N).length ≤ 21 := by
  obtain ⟨u, rfl⟩ : ∃ u : Nat, N = u := ⟨N.toNat, by omega⟩; rw [Go.Lib.itoa_nonneg]; have := dec_len 20 u (by omega); omega
open Go.Shelf in
shelf_lay LaysM.n171 Nm 171 at Tryz as lays171
theorem itoa41_fun {n : Int} (h0 : 0 ≤ n) (h1 : n ≤ 1099511627777) : Fun Tryz.prog 29 [iL n] (AK (sL (Go.Lib.itoa n)) []) :=
  itoa_fun lays171 ⟨_, Tryz.func29, rfl, rfl⟩ (g := 0) (by kernel_rfl) (by unfold laidG; exact List.mem_singleton.2 rfl) (by omega) (by omega)
def digZ (n : Int) : List UInt8 := if n = 0 then [] else Go.Lib.itoa n
theorem digZ_pos {n : Int} (h : 0 < n) : digZ n = digZ (n / 10) ++ [UInt8.ofNat (48 + n % 10).toNat] := by
  obtain ⟨u, rfl⟩ : ∃ u : Nat, n = u := ⟨n.toNat, by omega⟩
  have e : ((u : Int) % 10).toNat = u % 10 := by omega
  have e0 : (48 + (u : Int) % 10).toNat = 48 + u % 10 := by omega
  have e2 : ((u : Int) / 10) = ((u / 10 : Nat) : Int) := by omega
  rw [e0, e2, digZ, if_neg (by omega), Go.Lib.itoa_nonneg, Go.Lib.decDigits]
  by_cases h10 : u < 10
  · rw [dif_pos h10, digZ, if_pos (by omega), Nat.mod_eq_of_lt h10]; rfl
  rw [dif_neg h10, digZ, if_neg (by omega), Go.Lib.itoa_nonneg]
theorem dig_byte {n : Int} (h : 0 ≤ n) : [[AV.lit (.int .u8 (48 + n % 10))]] = [UInt8.ofNat (48 + n % 10).toNat].map byteC := by
  have : ((UInt8.ofNat (48 + n % 10).toNat).toNat : Int) = 48 + n % 10 := by
    rw [UInt8.toNat_ofNat']; omega
  simp only [List.map_cons, List.map_nil, byteC, this]
theorem dig_init {n : Int} (h : 0 ≤ n) : Go.Lib.itoa n = if n = 0 ∧ ([] : List UInt8) = [] then [48] else digZ n ++ [] := by
  by_cases h0 : n = 0
  · subst h0; rw [if_pos ⟨rfl, rfl⟩, show (0 : Int) = ((0 : Nat) : Int) from rfl, Go.Lib.itoa_nonneg, Go.Lib.decDigits]; rfl
  rw [if_neg (fun h => h0 h.1), List.append_nil, digZ, if_neg h0]
theorem dig_step {N m : Int} {out : List UInt8} (h0 : 0 ≤ m) (h : Go.Lib.itoa N = if m = 0 ∧ out = [] then [48] else digZ m ++ out) (hc : 0 < m ∨ out.length < 1) :
    Go.Lib.itoa N = if m / 10 = 0 ∧ [UInt8.ofNat (48 + m % 10).toNat] ++ out = [] then [48] else digZ (m / 10) ++ ([UInt8.ofNat (48 + m % 10).toNat] ++ out) := by
  rw [if_neg (fun h => by simp at h)]
  by_cases hm : 0 < m
  · rw [if_neg (fun h => by omega), digZ_pos hm, List.append_assoc] at h; exact h
  obtain rfl : m = 0 := by omega
  obtain rfl : out = [] := List.eq_nil_of_length_eq_zero (by omega); rw [if_pos ⟨rfl, rfl⟩] at h; rw [h]; rfl
theorem dig_end {N m : Int} {out : List UInt8} (h : Go.Lib.itoa N = if m = 0 ∧ out = [] then [48] else digZ m ++ out) (h0 : 0 ≤ m) (h1 : ¬ 0 < m) (h2 : ¬ out.length < 1) : out = Go.Lib.itoa N := by
  obtain rfl : m = 0 := by omega
  rw [if_neg (fun h => by rw [h.2] at h2; exact h2 (by decide))] at h; rw [h]; rfl
theorem dig_len {N m : Int} {out : List UInt8} (hN : 0 ≤ N ∧ N ≤ 1099511627777) (h : Go.Lib.itoa N = if m = 0 ∧ out = [] then [48] else digZ m ++ out) : out.length ≤ 21 := by
  have h1 := itoa_len hN.1 hN.2; rw [h] at h1
  split at h1
  · rename_i e; rw [e.2]; decide
  rw [List.length_append] at h1; omega
theorem digits_fun (n : Int) (h0 : 0 ≤ n) (h1 : n ≤ 1099511627777) : Fun Tryz.prog 83 [iL n, iL 1] (AK (sL (Go.Lib.itoa n)) []) := by
  refine Fun.of (nt := 25) (rs := [.tmp 4]) Tryz.func83 rfl rfl rfl rfl rfl (Ac fun _ k=>Aa Ae (Ad k (Ac fun _ k=>Aa Ae (Ad k (An (Ar (AI (ι := {q : Int × List UInt8 // 0 ≤ q.1 ∧ q.1 ≤ 1099511627777 ∧ Go.Lib.itoa n = if q.1 = 0 ∧ q.2 = [] then [48] else digZ q.1 ++ q.2}) [] [1] (fun ⟨(m, out), _⟩ => [(0, iL (m)), (5, sL (out))]) (fun ⟨(m, out), _⟩ => []) (fun ⟨(m, out), _⟩ => m.toNat + (1 - out.length)) ⟨(n, []), h0, h1, dig_init h0⟩ (.c .n) AW (Ag (h := (Ag))) ?_))))))); rintro ⟨⟨m, out⟩, hm, hM, hE⟩ R0 hR0; dsimp only [cA, nA, lC, lN]
  simp only at hm hM hE
  have hol := dig_len ⟨h0, h1⟩ hE; refine An (Ac fun _ k=>Aa Ab (Aa Bh (AP Ab (fun c1 => ?_) (fun c1 => ?_))))
  · refine Ai (Ai (Aa A5 (Ad k (B3 (As (Ar (Ac fun _ k=>Aa Ab (Aa q.rem (Aa A6 (Aa (q.cvb am_un5 am_us3) (A4 (C3 [[_]] true am_el174 am_ze5 am_cl5) (S.cstr ([UInt8.ofNat (48 + m % 10).toNat]) (by kernel_rfl : Tryz.prog.underlying 174 = some (.slice 5)) (by kernel_rfl : Tryz.prog.underlying 5 = some (.int .u8)) (by kernel_rfl : Tryz.prog.underlying 9 = some .string) (hrows := dig_byte (by omega)) (h := Aa Ab (Aa q.sadd (Aa Ae (Ad k (Ao fun _ k=>Aa Ab (Aa q.quo (Aa Ae (Ad k (hR0 _ _ (A8 [] [1] ⟨(m / 10, [UInt8.ofNat (48 + m % 10).toNat] ++ out), by dsimp only; omega, by dsimp only; omega, dig_step hm hE (by omega)⟩ ?_ AW (Ag (h := (Ag))) (.c .n))))))))))))))))))))))); skip; all_goals (dsimp only; simp only [List.length_cons, List.length_append, List.length_nil]; omega)
  refine Aa Ab (Aa (EX EW Dr) (Aa Ab (Aa Ay (Aa Au (Ad k (Ax (fun c2 => ?_) (fun c2 => ?_)))))))
  · refine As (Ar (Ac fun _ k=>Aa Ab (Aa q.rem (Aa A6 (Aa (q.cvb am_un5 am_us3) (A4 (C3 [[_]] true am_el174 am_ze5 am_cl5) (S.cstr ([UInt8.ofNat (48 + m % 10).toNat]) (by kernel_rfl : Tryz.prog.underlying 174 = some (.slice 5)) (by kernel_rfl : Tryz.prog.underlying 5 = some (.int .u8)) (by kernel_rfl : Tryz.prog.underlying 9 = some .string) (hrows := dig_byte (by omega)) (h := Aa Ab (Aa q.sadd (Aa Ae (Ad k (Ao fun _ k=>Aa Ab (Aa q.quo (Aa Ae (Ad k (hR0 _ _ (A8 [] [1] ⟨(m / 10, [UInt8.ofNat (48 + m % 10).toNat] ++ out), by dsimp only; omega, by dsimp only; omega, dig_step hm hE (by omega)⟩ ?_ AW (Ag (h := (Ag))) (.c .n)))))))))))))))))); skip; all_goals (dsimp only; simp only [List.length_cons, List.length_append, List.length_nil]; omega)
  refine AO (hR0 _ _ (Ac fun _ k=>Aa Ab (Aa Ae (Ad k (Af (Aq ?_))))))
  (rw [dig_end hE hm (by omega) (by omega)]; done)
theorem format_fun (n : Int) (h0 : 0 ≤ n) (h1 : n ≤ 1099511627777) : Fun Tryz.prog 44 [iL n, iL 0] (AK (sL (Go.Lib.itoa n)) []) := by
  have hil := itoa_len h0 h1; refine Fun.of (nt := 36) (rs := [.tmp 4]) Tryz.func44 rfl rfl rfl rfl rfl (Ac fun _ k=>Aa Ae (Ad k (Ac fun _ k=>Aa Ae (Ad k (An (Ac fun _ k=>Aa Ab (Aa Ay (Ad k (Ax (fun c1 => ?_) (fun c1 => ?_))))))))))
  · omega
  refine As (Ac fun _ k=>Aa Ab (Aa Ab (Aa A6 (A3 (hF := digits_fun _ (by omega) (by omega)) (h := Aa Ae (Ad k (An (Ac fun _ k=>Aa Ab (Aa B6 (Ad k (Ax (fun c2 => ?_) (fun c2 => ?_))))))))))))
  · refine Ac fun _ k=>Aa Ab (Aa Ab (Aa q.sadd (Aa Ae (Ad k (Af (Aq ?_)))))); rfl
  omega
def IsL (c : Int) : Prop := (97 ≤ c ∧ c ≤ 122) ∨ (65 ≤ c ∧ c ≤ 90)
def IsD (c : Int) : Prop := 48 ≤ c ∧ c ≤ 57
instance (c) : Decidable (IsL c) := by unfold IsL; infer_instance
instance (c) : Decidable (IsD c) := by unfold IsD; infer_instance
def IsW (c : Int) : Prop := IsL c ∨ IsD c ∨ c = 95
instance (c) : Decidable (IsW c) := by unfold IsW; infer_instance
theorem notW {c : Int} (h1 : ¬ IsL c) (h2 : ¬ IsD c) (h3 : ¬ c = 95) : ¬ IsW c := by rintro (h | h | h) <;> contradiction
def wordN : List UInt8 → Nat
  | [] => 0
  | c :: l => if IsW (c.toNat : Int) then wordN l + 1 else 0
theorem wordN_app : ∀ (a b : List UInt8), (∀ x ∈ a, IsW (x.toNat : Int)) → wordN (a ++ b) = a.length + wordN b
  | [], b, _ => by simp
  | x :: a, b, h => by
    rw [List.cons_append, wordN, if_pos (h x (by simp)), wordN_app a b (fun y hy => h y (by simp [hy])), List.length_cons]; omega
def FM (s : List UInt8) : Prop := 0 < s.length ∧ s.length ≤ 20 ∧ (∀ c, s[0]? = some c → IsL (c.toNat : Int)) ∧ wordN s = s.length
instance (s) : Decidable (FM s) := by
  unfold FM
  cases h : s[0]? with
  | none => exact decidable_of_iff (0 < s.length ∧ s.length ≤ 20 ∧ wordN s = s.length) (by simp)
  | some c => exact decidable_of_iff (0 < s.length ∧ s.length ≤ 20 ∧ IsL (c.toNat : Int) ∧ wordN s = s.length) (by simp)
theorem letter_fun (c : Int) : Fun Tryz.prog 155 [.lit (.int .u8 c)] (AK (bL (decide (IsL c))) []) := by
  refine Fun.of (nt := 17) (rs := [.tmp 2]) Tryz.func155 rfl rfl rfl rfl rfl (Ac fun _ k=>Aa Ae (Ad k (Ac fun _ k=>Aa Ab (Aa C7 (AP Ab (fun c1 => ?_) (fun c1 => ?_))))))
  · refine Aa Ab (Aa BJ (Aa A5 (AP Ab (fun c2 => ?_) (fun c2 => ?_))))
    · refine Ai (Ai (Ai (Aa A5 (Aa Ae (Ad k (Af (Aq ?_))))))); exact bT (by unfold IsL; omega)
    refine Aa Ab (Aa C7 (AP Ab (fun c3 => ?_) (fun c3 => ?_)))
    · refine Aa Ab (Aa BJ (Aa A5 (Aa Au (Aa Ae (Ad k (Af (Aq ?_))))))); exact dI (by unfold IsL; omega)
    omega
  refine Ai (Aa Au (Aa Ab (Aa Ab (Aa C7 (AP Ab (fun c4 => ?_) (fun c4 => ?_))))))
  · refine Aa Ab (Aa BJ (Aa A5 (Aa Au (Aa Ae (Ad k (Af (Aq ?_))))))); exact dI (by unfold IsL; omega)
  refine Ai (Aa Au (Aa Au (Aa Ae (Ad k (Af (Aq ?_)))))); exact bF (by unfold IsL; omega)
theorem digit_fun (c : Int) : Fun Tryz.prog 199 [.lit (.int .u8 c)] (AK (bL (decide (IsD c))) []) := by
  refine Fun.of (nt := 9) (rs := [.tmp 2]) Tryz.func199 rfl rfl rfl rfl rfl (Ac fun _ k=>Aa Ae (Ad k (Ac fun _ k=>Aa Ab (Aa C7 (AP Ab (fun c1 => ?_) (fun c1 => ?_))))))
  · refine Aa Ab (Aa BJ (Aa A5 (Aa Ae (Ad k (Af (Aq ?_)))))); exact dI (by unfold IsD; omega)
  refine Ai (Aa Au (Aa Ae (Ad k (Af (Aq ?_))))); exact bF (by unfold IsD; omega)
theorem word_fun (s : List UInt8) (hlen : s.length ≤ 140737488355328) : Fun Tryz.prog 156 [sL s] (AK (iL (wordN s : Int)) []) := by
  refine Fun.of (nt := 29) (rs := [.tmp 2]) Tryz.func156 rfl rfl rfl rfl rfl (Ac fun _ k=>Aa Ae (Ad k (Ac fun _ k=>Aa Ae (Ad k (An (Ar (AI (ι := {q : List UInt8 × List UInt8 // q.1 ++ q.2 = s ∧ ∀ x ∈ q.1, IsW (x.toNat : Int)}) [] [0] (fun ⟨(pre, suf), _⟩ => [(3, iL (pre.length : Int))]) (fun ⟨(pre, suf), _⟩ => []) (fun ⟨(pre, suf), _⟩ => suf.length) ⟨([], s), rfl, fun x hx => by simp at hx⟩ (.c .n) AW (Ag) ?_))))))); rintro ⟨⟨pre, suf⟩, hp, hinv⟩ R0 hR0; dsimp only [cA, nA, lC, lN]
  simp only at hp hinv
  have hpl : pre.length + suf.length = s.length := by rw [← hp, List.length_append]
  rcases suf with _ | ⟨c, suf⟩
  · rw [List.append_nil] at hp; subst hp; simp only [List.length_nil] at hpl; refine An (Ac fun _ k=>Aa Ab (Aa Ab (Aa (EX EW Dr) (Aa Ay (AP Ab (fun c1 => ?_) (fun c1 => ?_))))))
    · omega
    refine Ai (Ai (Ai (Ai (Ai (Ai (Ai (Ai (Aa Au (Ad k (Ei (AO (hR0 _ _ (Ac fun _ k=>Aa Ab (Aa Ae (Ad k (Af (Aq ?_)))))))))))))))))
    congr 2; have := wordN_app pre [] hinv; rw [List.append_nil] at this; rw [this]; simp [wordN]
  simp only [lC] at hpl; have hidx := Ch hp; refine An (Ac fun _ k=>Aa Ab (Aa Ab (Aa (EX EW Dr) (Aa Ay (AP Ab (fun c5 => ?_) (fun c5 => ?_))))))
  · refine Aa Ab (Aa Ab (Aa (q.six Dr (hl := (by exact AY hidx (by omega)))) (A3 (hF := letter_fun _) (h := AP Ab (fun c6 => ?_) (fun c6 => ?_)))))
    · refine Ai (Ai (Aa A5 (Aa Ab (Ai (Ai (Aa A5 (Aa A5 (Ad k (B3 (As (Ar (Ao fun _ k=>Aa Ab (Aa A6 (Aa Ae (Ad k (hR0 _ _ (A8 [] [0] ⟨(pre ++ [c], suf), B2 hp, ?_⟩ BX AW (Ag (he := (by simp))) (.c .n))))))))))))))))))
      intro x hx; simp only [List.mem_append, List.mem_singleton] at hx; rcases hx with hx | rfl
      · exact hinv x hx
      · (unfold IsW; (left; assumption))
    refine Aa Ab (Aa Ab (Aa (q.six Dr (hl := (by exact AY hidx (by omega)))) (A3 (hF := digit_fun _) (h := Aa Au (AP Ab (fun c7 => ?_) (fun c7 => ?_))))))
    · refine Ai (Ai (Aa A5 (Aa A5 (Ad k (B3 (As (Ar (Ao fun _ k=>Aa Ab (Aa A6 (Aa Ae (Ad k (hR0 _ _ (A8 [] [0] ⟨(pre ++ [c], suf), B2 hp, ?_⟩ BX AW (Ag (he := (by simp))) (.c .n))))))))))))))
      intro x hx; simp only [List.mem_append, List.mem_singleton] at hx; rcases hx with hx | rfl
      · exact hinv x hx
      · (unfold IsW; (right; left; assumption))
    refine Aa Ab (Aa Ab (Aa (q.six Dr (hl := (by exact AY hidx (by omega)))) (Aa B6 (Aa Au (Aa A5 (Ad k (Ax (fun c8 => ?_) (fun c8 => ?_))))))))
    · refine As (Ar (Ao fun _ k=>Aa Ab (Aa A6 (Aa Ae (Ad k (hR0 _ _ (A8 [] [0] ⟨(pre ++ [c], suf), B2 hp, ?_⟩ BX AW (Ag (he := (by simp))) (.c .n))))))))
      intro x hx; simp only [List.mem_append, List.mem_singleton] at hx; rcases hx with hx | rfl
      · exact hinv x hx
      · (unfold IsW; omega)
    refine AO (hR0 _ _ (Ac fun _ k=>Aa Ab (Aa Ae (Ad k (Af (Aq ?_))))))
    congr 2; rw [← hp, wordN_app pre _ hinv, wordN, if_neg (notW ‹_› ‹_› ‹_›)]; simp
  omega
theorem isName_fun (s : List UInt8) (hlen : s.length ≤ 140737488355328) : Fun Tryz.prog 101 [sL s] (AK (bL (decide (FM s))) []) := by
  have hg : ∀ h : 0 < s.length, s[0]? = some (s[0]'h) := fun h => List.getElem?_eq_getElem h; have hz : ¬ s = [] → 0 < s.length := fun h => List.length_pos_iff.2 h
  have hI : FM s ↔ 0 < s.length ∧ s.length ≤ 20 ∧ (∀ h : 0 < s.length, IsL ((s[0]'h).toNat : Int)) ∧ wordN s = s.length := by
    unfold FM
    constructor
    · rintro ⟨h1, h2, h3, h4⟩; exact ⟨h1, h2, fun h => h3 _ (hg h), h4⟩
    rintro ⟨h1, h2, h3, h4⟩; exact ⟨h1, h2, fun c hc => by rw [hg h1] at hc; simp only [Option.some.injEq] at hc; rw [← hc]; exact h3 h1, h4⟩
  refine Fun.of (nt := 22) (rs := [.tmp 2]) Tryz.func101 rfl rfl rfl rfl rfl (Ac fun _ k=>Aa Ae (Ad k (Ac fun _ k=>Aa Ab (Aa q.snes (DV Ab (fun c1 => ?_) (fun c1 => ?_))))))
  · refine Aa Ab (Aa (EX EW Dr) (Aa BJ (Aa A5 (AP Ab (fun c2 => ?_) (fun c2 => ?_)))))
    · refine Aa Ab (Aa (q.six Dr (hl := (by exact AY (hg (by exact hz ‹_›)) (by omega)))) (A3 (hF := letter_fun _) (h := Aa A5 (AP Ab (fun c3 => ?_) (fun c3 => ?_)))))
      · refine Aa Ab (A3 (hF := word_fun _ (by omega)) (h := Aa Ab (Aa (EX EW Dr) (Aa B6 (Aa A5 (Aa Ae (Ad k (Af (Aq ?_))))))))); exact dI ⟨fun h => hI.2 ⟨(by exact hz ‹_›), by omega, fun _ => ‹_›, by omega⟩, fun h => by have := (hI.1 h).2.2.2; omega⟩
      refine Ai (Ai (A9 (Aa Au (Aa Ae (Ad k (Af (Aq ?_))))))); exact bF (fun h => absurd ((hI.1 h).2.2.1 (by exact hz ‹_›)) ‹_›)
    refine Ai (A9 (Aa Au (Aa Ab (Ai (Ai (A9 (Aa Au (Aa Ae (Ad k (Af (Aq ?_))))))))))); exact bF (fun h => by have := (hI.1 h).2.1; omega)
  refine Ai (A9 (Aa Au (Aa Ab (Ai (A9 (Aa Au (Aa Ab (Ai (Ai (A9 (Aa Au (Aa Ae (Ad k (Af (Aq ?_))))))))))))))); exact bF (fun h => by have h1 := (hI.1 h).1; (rw [‹s = []›] at h1; exact absurd h1 (by decide)))
theorem rletter_fun (c : Int) : Fun Tryz.prog 121 [.lit (.int .u8 c)] (AK (bL (decide (IsL c))) []) := by
  refine Fun.of (nt := 17) (rs := [.tmp 2]) Tryz.func121 rfl rfl rfl rfl rfl (Ac fun _ k=>Aa Ae (Ad k (Ac fun _ k=>Aa Ab (Aa C7 (AP Ab (fun c1 => ?_) (fun c1 => ?_))))))
  · refine Aa Ab (Aa BJ (Aa A5 (AP Ab (fun c2 => ?_) (fun c2 => ?_))))
    · refine Ai (Ai (Ai (Aa A5 (Aa Ae (Ad k (Af (Aq ?_))))))); exact bT (by unfold IsL; omega)
    refine Aa Ab (Aa C7 (AP Ab (fun c3 => ?_) (fun c3 => ?_)))
    · refine Aa Ab (Aa BJ (Aa A5 (Aa Au (Aa Ae (Ad k (Af (Aq ?_))))))); exact dI (by unfold IsL; omega)
    omega
  refine Ai (Aa Au (Aa Ab (Aa Ab (Aa C7 (AP Ab (fun c4 => ?_) (fun c4 => ?_))))))
  · refine Aa Ab (Aa BJ (Aa A5 (Aa Au (Aa Ae (Ad k (Af (Aq ?_))))))); exact dI (by unfold IsL; omega)
  refine Ai (Aa Au (Aa Au (Aa Ae (Ad k (Af (Aq ?_)))))); exact bF (by unfold IsL; omega)
theorem rdigit_fun (c : Int) : Fun Tryz.prog 171 [.lit (.int .u8 c)] (AK (bL (decide (IsD c))) []) := by
  refine Fun.of (nt := 9) (rs := [.tmp 2]) Tryz.func171 rfl rfl rfl rfl rfl (Ac fun _ k=>Aa Ae (Ad k (Ac fun _ k=>Aa Ab (Aa C7 (AP Ab (fun c1 => ?_) (fun c1 => ?_))))))
  · refine Aa Ab (Aa BJ (Aa A5 (Aa Ae (Ad k (Af (Aq ?_)))))); exact dI (by unfold IsD; omega)
  refine Ai (Aa Au (Aa Ae (Ad k (Af (Aq ?_))))); exact bF (by unfold IsD; omega)
theorem rword_fun (s : List UInt8) (hlen : s.length ≤ 140737488355328) : Fun Tryz.prog 122 [sL s, iL 0] (AK (iL (wordN s : Int)) []) := by
  refine Fun.of (nt := 30) (rs := [.tmp 4]) Tryz.func122 rfl rfl rfl rfl rfl (Ac fun _ k=>Aa Ae (Ad k (An (Ar (AI (ι := {q : List UInt8 × List UInt8 // q.1 ++ q.2 = s ∧ ∀ x ∈ q.1, IsW (x.toNat : Int)}) [] [0] (fun ⟨(pre, suf), _⟩ => [(1, iL (pre.length : Int))]) (fun ⟨(pre, suf), _⟩ => []) (fun ⟨(pre, suf), _⟩ => suf.length) ⟨([], s), rfl, fun x hx => by simp at hx⟩ (.c .n) AW (Ag) ?_))))); rintro ⟨⟨pre, suf⟩, hp, hinv⟩ R0 hR0; dsimp only [cA, nA, lC, lN]
  simp only at hp hinv
  have hpl : pre.length + suf.length = s.length := by rw [← hp, List.length_append]
  rcases suf with _ | ⟨c, suf⟩
  · rw [List.append_nil] at hp; subst hp; simp only [List.length_nil] at hpl; refine An (Ac fun _ k=>Aa Ab (Aa Ab (Aa (EX EW Dr) (Aa Ay (AP Ab (fun c1 => ?_) (fun c1 => ?_))))))
    · omega
    refine Ai (Ai (Ai (Ai (Ai (Ai (Ai (Ai (Aa Au (Ad k (Ei (AO (hR0 _ _ (Ac fun _ k=>Aa Ab (Aa Ae (Ad k (Af (Aq ?_)))))))))))))))))
    congr 2; have := wordN_app pre [] hinv; rw [List.append_nil] at this; rw [this]; simp [wordN]
  simp only [lC] at hpl; have hidx := Ch hp; refine An (Ac fun _ k=>Aa Ab (Aa Ab (Aa (EX EW Dr) (Aa Ay (AP Ab (fun c5 => ?_) (fun c5 => ?_))))))
  · refine Aa Ab (Aa Ab (Aa (q.six Dr (hl := (by exact AY hidx (by omega)))) (A3 (hF := rletter_fun _) (h := AP Ab (fun c6 => ?_) (fun c6 => ?_)))))
    · refine Ai (Ai (Aa A5 (Aa Ab (Ai (Ai (Aa A5 (Aa A5 (Ad k (B3 (As (Ar (Ao fun _ k=>Aa Ab (Aa A6 (Aa Ae (Ad k (hR0 _ _ (A8 [] [0] ⟨(pre ++ [c], suf), B2 hp, ?_⟩ BX AW (Ag (he := (by simp))) (.c .n))))))))))))))))))
      intro x hx; simp only [List.mem_append, List.mem_singleton] at hx; rcases hx with hx | rfl
      · exact hinv x hx
      · (unfold IsW; (left; assumption))
    refine Aa Ab (Aa Ab (Aa (q.six Dr (hl := (by exact AY hidx (by omega)))) (A3 (hF := rdigit_fun _) (h := Aa Au (AP Ab (fun c7 => ?_) (fun c7 => ?_))))))
    · refine Ai (Ai (Aa A5 (Aa A5 (Ad k (B3 (As (Ar (Ao fun _ k=>Aa Ab (Aa A6 (Aa Ae (Ad k (hR0 _ _ (A8 [] [0] ⟨(pre ++ [c], suf), B2 hp, ?_⟩ BX AW (Ag (he := (by simp))) (.c .n))))))))))))))
      intro x hx; simp only [List.mem_append, List.mem_singleton] at hx; rcases hx with hx | rfl
      · exact hinv x hx
      · (unfold IsW; (right; left; assumption))
    refine Aa Ab (Aa Ab (Aa (q.six Dr (hl := (by exact AY hidx (by omega)))) (Aa B6 (Aa Au (Aa A5 (Ad k (Ax (fun c8 => ?_) (fun c8 => ?_))))))))
    · refine As (Ar (Ao fun _ k=>Aa Ab (Aa A6 (Aa Ae (Ad k (hR0 _ _ (A8 [] [0] ⟨(pre ++ [c], suf), B2 hp, ?_⟩ BX AW (Ag (he := (by simp))) (.c .n))))))))
      intro x hx; simp only [List.mem_append, List.mem_singleton] at hx; rcases hx with hx | rfl
      · exact hinv x hx
      · (unfold IsW; omega)
    refine AO (hR0 _ _ (Ac fun _ k=>Aa Ab (Aa Ae (Ad k (Af (Aq ?_))))))
    congr 2; rw [← hp, wordN_app pre _ hinv, wordN, if_neg (notW ‹_› ‹_› ‹_›)]; simp
  omega
theorem risName_fun (s : List UInt8) (hlen : s.length ≤ 140737488355328) : Fun Tryz.prog 67 [sL s] (AK (bL (decide (FM s))) []) := by
  have hg : ∀ h : 0 < s.length, s[0]? = some (s[0]'h) := fun h => List.getElem?_eq_getElem h; have hz : ¬ s = [] → 0 < s.length := fun h => List.length_pos_iff.2 h
  have hI : FM s ↔ 0 < s.length ∧ s.length ≤ 20 ∧ (∀ h : 0 < s.length, IsL ((s[0]'h).toNat : Int)) ∧ wordN s = s.length := by
    unfold FM
    constructor
    · rintro ⟨h1, h2, h3, h4⟩; exact ⟨h1, h2, fun h => h3 _ (hg h), h4⟩
    rintro ⟨h1, h2, h3, h4⟩; exact ⟨h1, h2, fun c hc => by rw [hg h1] at hc; simp only [Option.some.injEq] at hc; rw [← hc]; exact h3 h1, h4⟩
  refine Fun.of (nt := 22) (rs := [.tmp 2]) Tryz.func67 rfl rfl rfl rfl rfl (Ac fun _ k=>Aa Ae (Ad k (An (Ac fun _ k=>Aa Ab (Aa (EX EW Dr) (Aa B6 (AP Ab (fun c1 => ?_) (fun c1 => ?_))))))))
  · refine Ai (A9 (Aa A5 (Aa Ab (Ai (Ai (Aa A5 (Ad k (B3 (Ac fun _ k=>Aa Ae (Ad k (Af (Aq ?_)))))))))))); exact bF (fun h => by have h1 := (hI.1 h).1; omega)
  refine Aa Ab (Aa (EX EW Dr) (Aa Bh (Aa Au (AP Ab (fun c2 => ?_) (fun c2 => ?_)))))
  · refine Ai (Ai (Aa A5 (Ad k (B3 (Ac fun _ k=>Aa Ae (Ad k (Af (Aq ?_)))))))); exact bF (fun h => by have := (hI.1 h).2.1; omega)
  refine Aa Ab (Aa (q.six Dr (hl := (by exact AY (hg (by omega)) (by omega)))) (A3 (hF := rletter_fun _) (h := Aa BB (Aa Au (Ad k (Cb (fun c3 => ?_) (fun c3 => ?_)))))))
  · refine Ac fun _ k=>Aa Ae (Ad k (Af (Aq ?_))); exact bF (fun h => absurd ((hI.1 h).2.2.1 (by omega)) ‹_›)
  refine As (Ac fun _ k=>Aa Ab (A3 (hF := rword_fun _ (by omega)) (h := Aa Ab (Aa (EX EW Dr) (Aa B6 (Aa Ae (Ad k (Af (Aq ?_))))))))); exact dI ⟨fun h => hI.2 ⟨(by omega), by omega, fun _ => ‹_›, by omega⟩, fun h => by have := (hI.1 h).2.2.2; omega⟩
def BR : List Int := [6, 8, 10, 12, 16, 20, 25, 32, 40]
theorem size_bd {d : Int} (h : d ∈ BR) : 6 ≤ d ∧ d ≤ 40 := by
  simp only [BR, List.mem_cons, List.not_mem_nil, or_false] at h; omega
def idxI (l : List Int) (v : Int) : Int := CN (fun x => decide (v = x)) l 0
theorem index_fun (l : List Int) (v : Int) (hlen : l.length ≤ 140737488355328) : Fun Tryz.prog 49 [.sh 1 (l.map Cz), iL v] (AK (iL (idxI l v)) []) := by
  unfold idxI
  refine Fun.of (nt := 19) (rs := [.tmp 4]) Tryz.func49 rfl rfl rfl rfl rfl (Ac fun _ k=>Aa Ae (Ad k (An (Ac fun _ k=>Aa Ab (Aa (A7 AG) (Aa Ab (Ad k (Ar (AI (ι := {q : List Int × List Int // q.1 ++ q.2 = l ∧ ∀ x ∈ q.1, decide (v = x) = false}) [] [0, 1, 7] (fun ⟨(pre, suf), _⟩ => [(8, iL (pre.length : Int))]) (fun ⟨(pre, suf), _⟩ => []) (fun ⟨(pre, suf), _⟩ => suf.length) ⟨([], l), rfl, fun x hx => by simp at hx⟩ (.c (.c (.c .n))) AW (Ag) ?_))))))))); rintro ⟨⟨pre, suf⟩, hp, hinv⟩ R0 hR0; dsimp only [cA, nA, lC, lN]
  simp only at hp hinv
  have hpl := Cd hp
  rcases suf with _ | ⟨s, suf⟩
  · rw [List.append_nil] at hp; subst hp; simp only [List.length_nil] at hpl; refine Ac fun _ k=>Aa Ay (Ad k (By (fun c1 => ?_) (fun c1 => ?_)))
    · omega
    refine AO (hR0 _ _ (Ac fun _ k=>Aa Ae (Ad k (Af (Aq ?_)))))
    congr 2; rw [Gh _ pre 0 hinv]
  simp only [lC] at hpl; have hidx := Ch hp; refine Ac fun _ k=>Aa Ay (Ad k (By (fun c3 => ?_) (fun c3 => ?_)))
  · refine An (Ar (Ac fun _ k=>Aa Ab (Aa Ae (Ad k (Ac fun _ k=>Aa Ab (Aa Ab (Aa Ab (Aa (AL AG Ah (hl := (by exact AY hidx (by omega)))) (Aa (Bc Al) (Aa B6 (Ad k (Ax (fun c4 => ?_) (fun c4 => ?_)))))))))))))
    · refine Ac fun _ k=>Aa Ab (Aa Ae (Ad k (Af (hR0 _ _ (Aq ?_)))))
      congr 2; rw [← hp, DD _ pre _ 0 hinv, CN, if_pos (decide_eq_true ‹_›)]; omega
    refine As (Ao fun _ k=>Aa A6 (Aa Ab (Ad k (hR0 _ _ (A8 [] [0, 1, 7] ⟨(pre ++ [s], suf), B2 hp, ?_⟩ BX AW (Ag (he := (by simp))) (.c (.c (.c .n))))))))
    intro x hx; simp only [List.mem_append, List.mem_singleton] at hx; rcases hx with hx | rfl
    · exact hinv x hx
    · exact decide_eq_false ‹_›
  omega
theorem contains_fun (l : List Int) (v : Int) (hlen : l.length ≤ 140737488355328) : Fun Tryz.prog 147 [.sh 1 (l.map Cz), iL v] (AK (bL (decide (v ∈ l))) []) := by
  have hd : decide (v ∈ l) = decide (0 ≤ idxI l v) := by
    rw [decide_eq_decide, idxI, Gn _ l 0 (Int.le_refl _)]
    constructor
    · intro h; exact ⟨v, h, by simp⟩
    rintro ⟨x, hx, h⟩; rw [of_decide_eq_true h]; exact hx
  rw [hd]; refine Fun.of (nt := 9) (rs := [.tmp 4]) Tryz.func147 rfl rfl rfl rfl rfl (Ac fun _ k=>Aa Ae (Ad k (Ac fun _ k=>Aa Ab (Aa Ab (A3 (hF := index_fun _ _ (by omega)) (h := Aa C7 (Aa Ae (Ad k (Af (Aq ?_)))))))))); rfl
theorem sizes_fun : Fun Tryz.prog 26 [] (AK (.sh 1 (BR.map Cz)) []) := by
  refine Fun.of (nt := 2) (rs := [.tmp 0]) Tryz.func26 rfl rfl rfl rfl rfl (Ac fun _ k=>Aa Ae (Ad k (Ac fun _ k=>A4 (C3 [[_], [_], [_], [_], [_], [_], [_], [_], [_]] true AG Ed Ah) (Aa Ae (Ad k (AT (Wk.frzl (f := Cz) [_, _, _, _, _, _, _, _, _] 0 []) (Af (Aq ?_)))))))); rfl
theorem rsizes_fun : Fun Tryz.prog 80 [] (AK (.sh 1 (BR.map Cz)) []) := by
  refine Fun.of (nt := 2) (rs := [.tmp 0]) Tryz.func80 rfl rfl rfl rfl rfl (Ac fun _ k=>Aa Ae (Ad k (Ac fun _ k=>A4 (C3 [[_], [_], [_], [_], [_], [_], [_], [_], [_]] true AG Ed Ah) (Aa Ae (Ad k (AT (Wk.frzl (f := Cz) [_, _, _, _, _, _, _, _, _] 0 []) (Af (Aq ?_)))))))); rfl
theorem size_fun (d : Int) : Fun Tryz.prog 91 [iL d] (AK (bL (decide (d ∈ BR))) []) := by
  refine Fun.of (nt := 6) (rs := [.tmp 2]) Tryz.func91 rfl rfl rfl rfl rfl (Ac fun _ k=>Aa Ae (Ad k (Ac fun _ k=>A3 (hF := sizes_fun) (h := Aa Ab (A3 (hF := contains_fun _ _ (by decide)) (h := Aa Ae (Ad k (Af (Aq ?_))))))))); rfl
theorem rsize_fun (d : Int) : Fun Tryz.prog 172 [iL d] (AK (bL (decide (d ∈ BR))) []) := by
  generalize hsz : BR = sz
  have hszl : sz.length = 9 := by rw [← hsz]; rfl
  refine Fun.of (nt := 18) (rs := [.tmp 2]) Tryz.func172 rfl rfl rfl rfl rfl (Ac fun _ k=>Aa Ae (Ad k (Ac fun _ k=>A3 (hF := hsz ▸ rsizes_fun) (h := Aa Ae (Ad k (An (Ac fun _ k=>Aa Ae (Ad k (Ar (AI (ι := {q : List Int × List Int // q.1 ++ q.2 = sz ∧ ∀ x ∈ q.1, ¬ x = d}) [] [0, 3] (fun ⟨(pre, suf), _⟩ => [(4, iL (pre.length : Int))]) (fun ⟨(pre, suf), _⟩ => []) (fun ⟨(pre, suf), _⟩ => suf.length) ⟨([], sz), rfl, fun x hx => by simp at hx⟩ (.c (.c .n)) AW (Ag) ?_)))))))))); rintro ⟨⟨pre, suf⟩, hp, hinv⟩ R0 hR0; dsimp only [cA, nA, lC, lN]
  simp only at hp hinv
  have hpl := Cd hp
  rcases suf with _ | ⟨s, suf⟩
  · rw [List.append_nil] at hp; subst hp; simp only [List.length_nil] at hpl; refine An (Ac fun _ k=>Aa Ab (Aa Ab (Aa (A7 AG) (Aa Ay (Ad k (Ax (fun c1 => ?_) (fun c1 => ?_)))))))
    · omega
    refine AO (hR0 _ _ (Ac fun _ k=>Aa Ae (Ad k (Af (Aq ?_))))); exact bF (fun h => hinv _ h rfl)
  simp only [lC] at hpl; have hidx := Ch hp; refine An (Ac fun _ k=>Aa Ab (Aa Ab (Aa (A7 AG) (Aa Ay (Ad k (Ax (fun c3 => ?_) (fun c3 => ?_)))))))
  · refine As (An (Ar (Ac fun _ k=>Aa Ab (Aa Ab (Aa (AL AG Ah (hl := (by exact AY hidx (by omega)))) (Aa (Bc Al) (Aa Ab (Aa B6 (Ad k (Ax (fun c4 => ?_) (fun c4 => ?_)))))))))))
    · refine Ac fun _ k=>Aa Ae (Ad k (Af (hR0 _ _ (Aq ?_)))); exact bT (by rw [← hp]; simp [*])
    refine As (Ao fun _ k=>Aa Ab (Aa A6 (Aa Ae (Ad k (hR0 _ _ (A8 [] [0, 3] ⟨(pre ++ [s], suf), B2 hp, ?_⟩ BX AW (Ag (he := (by simp))) (.c (.c .n))))))))
    intro x hx; simp only [List.mem_append, List.mem_singleton] at hx; rcases hx with hx | rfl
    · exact hinv x hx
    · assumption
  omega
def szV (d v : Int) : Int := if d ∈ BR then v else 0
def szE (d : Int) : Int := if d ∈ BR then 0 else 1
theorem sized1_fun (d : Int) (g : FuncId) (c0 : List AV) (v : Int) (hg : d ∈ BR → Fun Tryz.prog g [.sadr c0 0] (AK (iL v) [])) :
    Fun Tryz.prog 92 [iL d, .fn (.func g) [] [.sadr c0 0]] (AK (.tup [iL (szV d v), iL (szE d)]) []) := by
  refine Fun.of (nt := 11) (rs := [.tmp 4, .tmp 5]) Tryz.func92 rfl rfl rfl rfl rfl (Ac fun _ k=>Aa Ae (Aa Ae (Ad k (An (Ac fun _ k=>Aa Ab (A3 (hF := size_fun _) (h := Aa BB (Ad k (Cb (fun c1 => ?_) (fun c1 => ?_))))))))))
  · refine Ac fun _ k=>Aa Ae (Aa Ae (Ad k (Af (CC ?_)))); rw [szV, szE, if_neg ‹_›, if_neg ‹_›]
  refine As (Ac fun _ k=>Aa Ab (A3 (hF := hg ‹_›) (h := Aa Ae (Aa Ae (Ad k (Af (CC ?_))))))); rw [szV, szE, if_pos ‹_›, if_pos ‹_›]
theorem sized2_fun (d : Int) (g : FuncId) (c0 : List AV) (c1 : List AV) (v : Int) (hg : d ∈ BR → Fun Tryz.prog g [.sadr c0 0, .sadr c1 0] (AK (iL v) [])) :
    Fun Tryz.prog 92 [iL d, .fn (.func g) [] [.sadr c0 0, .sadr c1 0]] (AK (.tup [iL (szV d v), iL (szE d)]) []) := by
  refine Fun.of (nt := 11) (rs := [.tmp 4, .tmp 5]) Tryz.func92 rfl rfl rfl rfl rfl (Ac fun _ k=>Aa Ae (Aa Ae (Ad k (An (Ac fun _ k=>Aa Ab (A3 (hF := size_fun _) (h := Aa BB (Ad k (Cb (fun c1 => ?_) (fun c1 => ?_))))))))))
  · refine Ac fun _ k=>Aa Ae (Aa Ae (Ad k (Af (CC ?_)))); rw [szV, szE, if_neg ‹_›, if_neg ‹_›]
  refine As (Ac fun _ k=>Aa Ab (A3 (hF := hg ‹_›) (h := Aa Ae (Aa Ae (Ad k (Af (CC ?_))))))); rw [szV, szE, if_pos ‹_›, if_pos ‹_›]
structure Bar where
  mark : List UInt8
  size : Int
  count : Int
  code : Int
  dims : List Int
def Bar.c : Bar → List AV
  | ⟨m, s, n, k, d⟩ => [sL m, iL s, iL n, iL k, .sh 1 (d.map Cz)]
def legC : Int × Int → List AV
  | (a, b) => [iL a, .lit (.int .u8 b)]
def Dd (k : Int) : List (Int × Int) :=
  if k = 0 then [(0, 120)] else if k = 11 then [(0, 120), (1, 121)] else if k = 21 then [(0, 89), (1, 120), (2, 121)] else if k = 26 then [(0, 120), (1, 121), (2, 120)]
  else if k = 31 then [(0, 120), (1, 121), (2, 122)] else if k = 41 then [(0, 120), (1, 121), (2, 120), (3, 89), (4, 120)] else if k = 51 then [(2, 89), (0, 120), (1, 121), (0, 88), (1, 89), (2, 120)]
  else if k = 98 then [(0, 122), (1, 89), (2, 120), (1, 121), (0, 122)] else []
def DK (k : Int) : Int := if k = 0 then 1 else if k = 11 then 2 else if k = 21 then 3 else if k = 26 then 3 else if k = 31 then 3 else if k = 51 then 3 else if k = 98 then 3 else if k = 41 then 5 else 0
def dimsM (k : Int) : Int := (Dd k).foldl (fun m s => max m s.1) (-1)
theorem codes (k : Int) : k = 0 ∨ k = 11 ∨ k = 21 ∨ k = 26 ∨ k = 31 ∨ k = 41 ∨ k = 51 ∨ k = 98 ∨ (k ≠ 0 ∧ k ≠ 11 ∧ k ≠ 21 ∧ k ≠ 26 ∧ k ≠ 31 ∧ k ≠ 41 ∧ k ≠ 51 ∧ k ≠ 98) := by omega
theorem Fh {k : Int} (h : k ≠ 0 ∧ k ≠ 11 ∧ k ≠ 21 ∧ k ≠ 26 ∧ k ≠ 31 ∧ k ≠ 41 ∧ k ≠ 51 ∧ k ≠ 98) : Dd k = [] ∧ DK k = 0 := by
  obtain ⟨h1, h2, h3, h4, h5, h6, h7, h8⟩ := h
  constructor
  · rw [Dd, if_neg h1, if_neg h2, if_neg h3, if_neg h4, if_neg h5, if_neg h6, if_neg h7, if_neg h8]
  rw [DK, if_neg h1, if_neg h2, if_neg h3, if_neg h4, if_neg h5, if_neg h7, if_neg h8, if_neg h6]
theorem dims_eq (k : Int) : dimsM k = DK k - 1 ∧ 0 ≤ DK k ∧ DK k ≤ 5 ∧ (Dd k).length ≤ 6 := by
  rcases codes k with rfl | rfl | rfl | rfl | rfl | rfl | rfl | rfl | h
  iterate 8 decide
  obtain ⟨h1, h2⟩ := Fh h; rw [dimsM, h1, h2]
  decide
theorem leg_bd (k : Int) : ∀ s ∈ Dd k, 0 ≤ s.1 ∧ s.1 < DK k := by
  rcases codes k with rfl | rfl | rfl | rfl | rfl | rfl | rfl | rfl | h
  iterate 8 decide
  rw [(Fh h).1]; intro s hs; cases hs
theorem legs_fun (k : Int) : Fun Tryz.prog 154 [iL k] (AK (.sh 2 ((Dd k).map legC)) []) := by
  refine Fun.of (nt := 56) (rs := [.tmp 2]) Tryz.func154 rfl rfl rfl rfl rfl (Ac fun _ z=>Aa Ae (Ad z (An (Ac fun _ z=>Aa Ab (Ad z (Ar (Ac fun _ z=>Aa B6 (Aa Ae (Ad z (Ax (fun c1 => ?_) (fun c1 => ?_)))))))))))
  · refine Ac fun _ z=>Aa (Bj _ BZ CA) (A4 (C3 [[_, _]] true EK BZ DL) (Aa Ae (Ad z (AT (Wk.frzl (f := legC) [(⟨_, _⟩ : Int × Int)] 2 []) (Af (Aq ?_))))))
    (obtain rfl : k = 0 := by assumption
     rfl)
  refine Ac fun _ z=>Aa B6 (Aa Ae (Ad z (Ax (fun c2 => ?_) (fun c2 => ?_))))
  · refine Ac fun _ z=>Aa (Bj _ BZ CA) (Aa (Bj _ BZ CA) (A4 (C3 [[_, _], [_, _]] true EK BZ DL) (Aa Ae (Ad z (AT (Wk.frzl (f := legC) [(⟨_, _⟩ : Int × Int), (⟨_, _⟩ : Int × Int)] 2 []) (Af (Aq ?_))))))); subst k; rfl
  refine Ac fun _ z=>Aa B6 (Aa Ae (Ad z (Ax (fun c3 => ?_) (fun c3 => ?_))))
  · refine Ac fun _ z=>Aa (Bj _ BZ CA) (Aa (Bj _ BZ CA) (Aa (Bj _ BZ CA) (A4 (C3 [[_, _], [_, _], [_, _]] true EK BZ DL) (Aa Ae (Ad z (AT (Wk.frzl (f := legC) [(⟨_, _⟩ : Int × Int), (⟨_, _⟩ : Int × Int), (⟨_, _⟩ : Int × Int)] 2 []) (Af (Aq ?_)))))))); subst k; rfl
  refine Ac fun _ z=>Aa B6 (Aa Ae (Ad z (Ax (fun c4 => ?_) (fun c4 => ?_))))
  · refine Ac fun _ z=>Aa (Bj _ BZ CA) (Aa (Bj _ BZ CA) (Aa (Bj _ BZ CA) (A4 (C3 [[_, _], [_, _], [_, _]] true EK BZ DL) (Aa Ae (Ad z (AT (Wk.frzl (f := legC) [(⟨_, _⟩ : Int × Int), (⟨_, _⟩ : Int × Int), (⟨_, _⟩ : Int × Int)] 2 []) (Af (Aq ?_)))))))); subst k; rfl
  refine Ac fun _ z=>Aa B6 (Aa Ae (Ad z (Ax (fun c5 => ?_) (fun c5 => ?_))))
  · refine Ac fun _ z=>Aa (Bj _ BZ CA) (Aa (Bj _ BZ CA) (Aa (Bj _ BZ CA) (A4 (C3 [[_, _], [_, _], [_, _]] true EK BZ DL) (Aa Ae (Ad z (AT (Wk.frzl (f := legC) [(⟨_, _⟩ : Int × Int), (⟨_, _⟩ : Int × Int), (⟨_, _⟩ : Int × Int)] 2 []) (Af (Aq ?_)))))))); subst k; rfl
  refine Ac fun _ z=>Aa B6 (Aa Ae (Ad z (Ax (fun c6 => ?_) (fun c6 => ?_))))
  · refine Ac fun _ z=>Aa (Bj _ BZ CA) (Aa (Bj _ BZ CA) (Aa (Bj _ BZ CA) (Aa (Bj _ BZ CA) (Aa (Bj _ BZ CA) (A4 (C3 [[_, _], [_, _], [_, _], [_, _], [_, _]] true EK BZ DL) (Aa Ae (Ad z (AT (Wk.frzl (f := legC) [(⟨_, _⟩ : Int × Int), (⟨_, _⟩ : Int × Int), (⟨_, _⟩ : Int × Int), (⟨_, _⟩ : Int × Int), (⟨_, _⟩ : Int × Int)] 2 []) (Af (Aq ?_)))))))))); subst k; rfl
  refine Ac fun _ z=>Aa B6 (Aa Ae (Ad z (Ax (fun c7 => ?_) (fun c7 => ?_))))
  · refine Ac fun _ z=>Aa (Bj _ BZ CA) (Aa (Bj _ BZ CA) (Aa (Bj _ BZ CA) (Aa (Bj _ BZ CA) (Aa (Bj _ BZ CA) (Aa (Bj _ BZ CA) (A4 (C3 [[_, _], [_, _], [_, _], [_, _], [_, _], [_, _]] true EK BZ DL) (Aa Ae (Ad z (AT (Wk.frzl (f := legC) [(⟨_, _⟩ : Int × Int), (⟨_, _⟩ : Int × Int), (⟨_, _⟩ : Int × Int), (⟨_, _⟩ : Int × Int), (⟨_, _⟩ : Int × Int), (⟨_, _⟩ : Int × Int)] 2 []) (Af (Aq ?_))))))))))); subst k; rfl
  refine Ac fun _ z=>Aa B6 (Aa Ae (Ad z (Ax (fun c8 => ?_) (fun c8 => ?_))))
  · refine Ac fun _ z=>Aa (Bj _ BZ CA) (Aa (Bj _ BZ CA) (Aa (Bj _ BZ CA) (Aa (Bj _ BZ CA) (Aa (Bj _ BZ CA) (A4 (C3 [[_, _], [_, _], [_, _], [_, _], [_, _]] true EK BZ DL) (Aa Ae (Ad z (AT (Wk.frzl (f := legC) [(⟨_, _⟩ : Int × Int), (⟨_, _⟩ : Int × Int), (⟨_, _⟩ : Int × Int), (⟨_, _⟩ : Int × Int), (⟨_, _⟩ : Int × Int)] 2 []) (Af (Aq ?_)))))))))); subst k; rfl
  refine As (Ac fun _ z=>Aa Ae (Ad z (AT (Wk.nsh legC 2 2) (Af (Aq ?_)))))
  rw [(Fh ⟨‹_›, ‹_›, ‹_›, ‹_›, ‹_›, ‹_›, ‹_›, ‹_›⟩).1] <;> rfl
def dimsV (k : Int) : Int := if DK k = 0 then 0 else DK k
def dimsE (k : Int) : Int := if DK k = 0 then 11 else 0
theorem dims_fun (k : Int) : Fun Tryz.prog 100 [iL k] (AK (.tup [iL (dimsV k), iL (dimsE k)]) []) := by
  obtain ⟨d1, d2, d3, d4⟩ := dims_eq k; refine Fun.of (nt := 23) (rs := [.tmp 2, .tmp 3]) Tryz.func100 rfl rfl rfl rfl rfl (Ac fun _ z=>Aa Ae (Aa Ae (Ad z (Ac fun _ z=>Aa Ae (Ad z (An (Ac fun _ z=>Aa Ab (A3 (hF := legs_fun _) (h := Aa (A7 EK) (Aa Ab (Ad z (Ar (AI (ι := {p : List (Int × Int) × List (Int × Int) // p.1 ++ p.2 = (Dd k) ∧ True}) [] [8, 9] (fun ⟨(pre, suf), _⟩ => [(10, iL (pre.length : Int)), (4, iL (pre.foldl (fun m s => max m s.1) (-1)))]) (fun ⟨(pre, suf), _⟩ => []) (fun ⟨(pre, suf), _⟩ => suf.length) ⟨([], (Dd k)), rfl, trivial⟩ (.c (.c .n)) AW (Ag (h := (Ag))) ?_))))))))))))); rintro ⟨⟨pre, suf⟩, hp, hinv⟩ R0 hR0; dsimp only [cA, nA, lC, lN]
  simp only at hp hinv
  have hpl := Cd hp
  rcases suf with _ | ⟨s, suf⟩
  · rw [List.append_nil] at hp; simp only [lN] at hpl; refine Ac fun _ z=>Aa Ay (Ad z (By (fun c1 => ?_) (fun c1 => ?_)))
    · omega
    refine AO (hR0 _ _ (An ?_))
    have hd : dimsM k = pre.foldl (fun m s => max m s.1) (-1) := by rw [dimsM, hp]
    rw [← hd]; refine Ac fun _ z=>Aa Ab (Aa Ay (Ad z (Ax (fun c2 => ?_) (fun c2 => ?_))))
    · refine Ac fun _ z=>Aa Ae (Aa Ae (Ad z (Af (CC ?_)))); rw [dimsV, dimsE, if_pos (by omega), if_pos (by omega)]
    refine As (Ac fun _ z=>Aa Ab (Aa A6 (Aa Ae (Aa Ae (Ad z (Af (CC ?_))))))); rw [dimsV, dimsE, if_neg (by omega), if_neg (by omega), show dimsM k + 1 = DK k by omega]
  simp only [lC] at hpl; have hidx := Ch hp; refine Ac fun _ z=>Aa Ay (Ad z (By (fun c3 => ?_) (fun c3 => ?_)))
  · refine An (Ar (Ac fun _ z=>Aa (AL EK DL (hl := (by exact AY hidx (by omega)))) (Aa (BF _ am_ag196 DL) (A4 (Bd BZ) (AC _ true [] am_in196 DL (h := Ad z (Ao fun _ z=>Aa Ab (Aa (Ap 0 am_fi196_0 Ah) (Aa (At Al) (Aa EI (Aa Ae (Ad z ?_)))))))))))); show Ev _ _ _ _; refine Ao fun _ z=>Aa A6 (Aa Ab (Ad z (hR0 _ _ (A8 [] [8, 9] ⟨(pre ++ [s], suf), B2 hp, trivial⟩ BX AW (Ag (he := (by congr 2; simp)) (h := (Ag (he := (by congr 2 <;> simp [List.foldl_append]))))) (.c (.c .n))))))
  omega
def BU (l : List Int) : Int := l.foldl (· + ·) 0
theorem sumI_go : ∀ (l : List Int) (a : Int), l.foldl (· + ·) a = a + BU l
  | [], a => by simp [BU]
  | x :: l, a => by
    rw [BU, List.foldl_cons, List.foldl_cons, sumI_go l, sumI_go l (0 + x)]; omega
theorem FL (a b : List Int) : BU (a ++ b) = BU a + BU b := by rw [BU, List.foldl_append, sumI_go]; rfl
theorem sumI_cons (x : Int) (l : List Int) : BU (x :: l) = x + BU l := by rw [BU, List.foldl_cons, sumI_go]; omega
theorem sumI_nn : ∀ l : List Int, (∀ n ∈ l, 1 ≤ n) → 0 ≤ BU l
  | [], _ => Int.le_refl _
  | x :: l, h => by
    have := h x (by simp); have := sumI_nn l (fun n hn => h n (by simp [hn])); rw [sumI_cons]; omega
def dimsOK (l : List Int) : Prop := (∀ n ∈ l, 1 ≤ n) ∧ BU l ≤ 262144
instance (l) : Decidable (dimsOK l) := by unfold dimsOK; infer_instance
theorem dims_cut {pre suf l : List Int} {s : Int} (hp : pre ++ s :: suf = l) (h : dimsOK l) : 1 ≤ s ∧ s ≤ 262144 - BU pre ∧ BU pre + s + BU suf ≤ 262144 ∧ 0 ≤ BU suf ∧ 0 ≤ BU pre := by
  obtain ⟨h1, h2⟩ := h; rw [← hp, FL, sumI_cons] at h2; have := sumI_nn suf (fun n hn => h1 n (by rw [← hp]; simp [hn])); have := sumI_nn pre (fun n hn => h1 n (by rw [← hp]; simp [hn])); have := h1 s (by rw [← hp]; simp); omega
theorem dims_in {l : List Int} (h : dimsOK l) {n : Int} (hn : n ∈ l) : 1 ≤ n ∧ n ≤ 262144 := by
  obtain ⟨a, b, rfl⟩ := List.append_of_mem hn; have := dims_cut rfl h; omega
def Cg (b : Bar) : Prop := FM b.mark ∧ b.size ∈ BR ∧ 1 ≤ b.count ∧ b.count ≤ 1000 ∧ DK b.code ≠ 0 ∧ (b.dims.length : Int) = DK b.code ∧ dimsOK b.dims
instance (b) : Decidable (Cg b) := by unfold Cg; infer_instance
def Bar.w (b : Bar) : Prop := b.mark.length ≤ 140737488355328 ∧ b.dims.length ≤ 140737488355328
theorem dimsE_iff {k : Int} : dimsE k = 0 ↔ DK k ≠ 0 := by
  unfold dimsE
  split <;> simp [*]
theorem valid_fun (b : Bar) (hw : b.w) : Fun Tryz.prog 56 [.agg b.c] (AK (bL (decide (Cg b))) []) := by
  obtain ⟨hw1, hw2⟩ := hw; have he := @dimsE_iff b.code; have hv : dimsE b.code = 0 → dimsV b.code = DK b.code := fun h => if_neg (he.1 h)
  have hok : Cg b ↔ FM b.mark ∧ b.size ∈ BR ∧ 1 ≤ b.count ∧ b.count ≤ 1000 ∧ dimsE b.code = 0 ∧ (b.dims.length : Int) = dimsV b.code ∧ dimsOK b.dims := by
    unfold Cg
    constructor
    · rintro ⟨h1, h2, h3, h4, h5, h6, h7⟩; have h8 := he.2 h5; exact ⟨h1, h2, h3, h4, h8, by rw [hv h8]; exact h6, h7⟩
    rintro ⟨h1, h2, h3, h4, h5, h6, h7⟩; exact ⟨h1, h2, h3, h4, he.1 h5, by rw [← hv h5]; exact h6, h7⟩
  refine Fun.of (nt := 63) (rs := [.tmp 2]) Tryz.func56 rfl rfl rfl rfl rfl (Ac fun _ z=>A4 (Be _ true) (Aa Ae (Ad z (Ac fun _ z=>Aa (Ap 3 am_fi72_3 Ah) (Aa (At Al) (A3 (hF := dims_fun _) (h := Aa Ab (Aa BA (Aa BA (Aa Ae (Aa Ae (Ad z (An (Ac fun _ z=>Aa Ab (Aa Dk (DV Ab (fun c1 => ?_) (fun c1 => ?_)))))))))))))))))
  · refine Ai (Ai (Aa A5 (Aa Ab (Ai (Ai (Aa A5 (Aa Ab (Ai (A9 (Aa A5 (Aa Ab (Ai (A9 (Aa A5 (Aa Ab (Ai (Ai (A9 (Aa A5 (Ad z (B3 (Ac fun _ z=>Aa Ae (Ad z (Af (Aq ?_))))))))))))))))))))))))); exact bF (fun h => by have h1 := (hok.1 h).2.2.1; have h2 := (hok.1 h).2.2.2.1; have h3 := (hok.1 h).2.2.2.2.1; have h4 := (hok.1 h).2.2.2.2.2.1; omega)
  refine Aa (Ap 0 F9 Da) (Aa (At CL) (A3 (hF := isName_fun _ (by omega)) (h := Aa BB (Aa Au (DV Ab (fun c2 => ?_) (fun c2 => ?_))))))
  · refine Ai (Ai (Aa A5 (Aa Ab (Ai (A9 (Aa A5 (Aa Ab (Ai (A9 (Aa A5 (Aa Ab (Ai (Ai (A9 (Aa A5 (Ad z (B3 (Ac fun _ z=>Aa Ae (Ad z (Af (Aq ?_))))))))))))))))))))); exact bF (fun h => absurd (hok.1 h).1 ‹_›)
  refine Aa (Ap 1 DT Ah) (Aa (At Al) (A3 (hF := size_fun _) (h := Aa BB (Aa Au (DV Ab (fun c3 => ?_) (fun c3 => ?_))))))
  · refine Ai (A9 (Aa A5 (Aa Ab (Ai (A9 (Aa A5 (Aa Ab (Ai (Ai (A9 (Aa A5 (Ad z (B3 (Ac fun _ z=>Aa Ae (Ad z (Af (Aq ?_))))))))))))))))); exact bF (fun h => absurd (hok.1 h).2.1 ‹_›)
  refine Aa (Ap 2 am_fi72_2 Ah) (Aa (At Al) (Aa Ay (Aa Au (AP Ab (fun c4 => ?_) (fun c4 => ?_)))))
  · refine Ai (A9 (Aa A5 (Aa Ab (Ai (Ai (A9 (Aa A5 (Ad z (B3 (Ac fun _ z=>Aa Ae (Ad z (Af (Aq ?_))))))))))))); exact bF (fun h => by have h1 := (hok.1 h).2.2.1; have h2 := (hok.1 h).2.2.2.1; have h3 := (hok.1 h).2.2.2.2.1; have h4 := (hok.1 h).2.2.2.2.2.1; omega)
  refine Aa (Ap 2 am_fi72_2 Ah) (Aa (At Al) (Aa Bh (Aa Au (AP Ab (fun c5 => ?_) (fun c5 => ?_)))))
  · refine Ai (Ai (A9 (Aa A5 (Ad z (B3 (Ac fun _ z=>Aa Ae (Ad z (Af (Aq ?_))))))))); exact bF (fun h => by have h1 := (hok.1 h).2.2.1; have h2 := (hok.1 h).2.2.2.1; have h3 := (hok.1 h).2.2.2.2.1; have h4 := (hok.1 h).2.2.2.2.2.1; omega)
  refine Aa (Ap 4 EQ FW) (Aa (At FT) (Aa (A7 AG) (Aa Ab (Aa Dk (Aa Au (Ad z (Cb (fun c6 => ?_) (fun c6 => ?_))))))))
  · refine Ac fun _ z=>Aa Ae (Ad z (Af (Aq ?_))); exact bF (fun h => by have h1 := (hok.1 h).2.2.1; have h2 := (hok.1 h).2.2.2.1; have h3 := (hok.1 h).2.2.2.2.1; have h4 := (hok.1 h).2.2.2.2.2.1; omega)
  refine As (Ac fun _ z=>Aa Ae (Ad z (An (Ac fun _ z=>Aa (Ap 4 EQ FW) (Aa (At FT) (Aa (A7 AG) (Aa Ab (Ad z (Ar (AI (ι := {q : List Int × List Int // q.1 ++ q.2 = b.dims ∧ dimsOK q.1}) [] [46, 47] (fun ⟨(pre, suf), _⟩ => [(48, iL (pre.length : Int)), (5, iL (262144 - BU pre))]) (fun ⟨(pre, suf), _⟩ => []) (fun ⟨(pre, suf), _⟩ => suf.length) ⟨([], b.dims), rfl, (show dimsOK [] by decide)⟩ (.c (.c .n)) AW (Ag (h := (Ag))) ?_)))))))))); rintro ⟨⟨pre, suf⟩, hp, hinv⟩ R0 hR0; dsimp only [cA, nA, lC, lN]
  simp only at hp hinv
  have hpl := Cd hp
  rcases suf with _ | ⟨s, suf⟩
  · rw [List.append_nil] at hp; simp only [lN] at hpl; refine Ac fun _ z=>Aa Ay (Ad z (By (fun c7 => ?_) (fun c7 => ?_)))
    · omega
    refine AO (hR0 _ _ (Ac fun _ z=>Aa Ae (Ad z (Af (Aq ?_))))); exact bT (hok.2 ⟨‹_›, ‹_›, by omega, by omega, by omega, by omega, by rw [← hp]; exact hinv⟩)
  simp only [lC] at hpl; have hidx := Ch hp; have hnn := sumI_nn pre hinv.1; have hle := hinv.2; refine Ac fun _ z=>Aa Ay (Ad z (By (fun c10 => ?_) (fun c10 => ?_)))
  · refine An (Ar (Ac fun _ z=>Aa (AL AG Ah (hl := (by exact AY hidx (by omega)))) (Aa (Bc Al) (Aa Ae (Ad z (An (Ac fun _ z=>Aa Ab (Aa Ay (AP Ab (fun c11 => ?_) (fun c11 => ?_))))))))))
    · refine Ai (A9 (Aa A5 (Ad z (B3 (Ac fun _ z=>Aa Ae (Ad z (Af (hR0 _ _ (Aq ?_))))))))); exact bF (fun h => by have h1 := dims_cut hp (hok.1 h).2.2.2.2.2.2; omega)
    refine Aa Ab (Aa Ab (Aa Bh (Aa Au (Ad z (Ax (fun c12 => ?_) (fun c12 => ?_))))))
    · refine Ac fun _ z=>Aa Ae (Ad z (Af (hR0 _ _ (Aq ?_)))); exact bF (fun h => by have h1 := dims_cut hp (hok.1 h).2.2.2.2.2.2; omega)
    refine As (Ao fun _ z=>Aa Ab (Aa Ab (Aa BV (Aa Ae (Ad z ?_))))); show Ev _ _ _ _; refine Ao fun _ z=>Aa A6 (Aa Ab (Ad z (hR0 _ _ (A8 [] [46, 47] ⟨(pre ++ [s], suf), B2 hp, ?_⟩ BX AW (Ag (he := (by congr 2; simp)) (h := (Ag (he := (by congr 2; rw [FL, show BU [s] = s by simp [BU]]; omega))))) (.c (.c .n)))))); refine ⟨fun n hn => ?_, by rw [FL, show BU [s] = s by simp [BU]]; omega⟩; simp only [List.mem_append, List.mem_singleton] at hn
    rcases hn with hn | rfl
    · exact hinv.1 n hn
    · omega
  omega
theorem rdims_fun (k : Int) : Fun Tryz.prog 173 [iL k] (AK (iL (DK k)) []) := by
  refine Fun.of (nt := 16) (rs := [.tmp 2]) Tryz.func173 rfl rfl rfl rfl rfl (Ac fun _ z=>Aa Ae (Ad z (An (Ac fun _ z=>Aa Ab (Ad z (Ar (Ac fun _ z=>Aa B6 (Aa Ae (Ad z (Ax (fun c1 => ?_) (fun c1 => ?_)))))))))))
  · refine Ac fun _ z=>Aa Ae (Ad z (Af (Aq ?_))); subst k; rfl
  refine Ac fun _ z=>Aa B6 (Aa Ae (Ad z (Ax (fun c2 => ?_) (fun c2 => ?_))))
  · refine Ac fun _ z=>Aa Ae (Ad z (Af (Aq ?_))); subst k; rfl
  refine An (Ac fun _ z=>Aa B6 (Aa Ae (Ad z (Ax (fun c3 => ?_) (fun c3 => ?_)))))
  · refine As (Ax (fun _ => ?_) (fun c => absurd c3 c)); refine Ac fun _ z=>Aa Ae (Ad z (Af (Aq ?_))); subst k; rfl
  refine Ac fun _ z=>Aa B6 (Aa Ae (Ad z (Ax (fun c4 => ?_) (fun c4 => ?_))))
  · refine As (Ax (fun _ => ?_) (fun c => absurd c4 c)); refine Ac fun _ z=>Aa Ae (Ad z (Af (Aq ?_))); subst k; rfl
  refine Ac fun _ z=>Aa B6 (Aa Ae (Ad z (Ax (fun c5 => ?_) (fun c5 => ?_))))
  · refine As (Ax (fun _ => ?_) (fun c => absurd c5 c)); refine Ac fun _ z=>Aa Ae (Ad z (Af (Aq ?_))); subst k; rfl
  refine Ac fun _ z=>Aa B6 (Aa Ae (Ad z (Ax (fun c6 => ?_) (fun c6 => ?_))))
  · refine As (Ax (fun _ => ?_) (fun c => absurd c6 c)); refine Ac fun _ z=>Aa Ae (Ad z (Af (Aq ?_))); subst k; rfl
  refine Ao fun _ z=>Aa B6 (Aa Ae (Ad z ?_)); show Ev _ _ _ _; refine Ax (fun c7 => ?_) (fun c7 => ?_)
  · refine Ac fun _ z=>Aa Ae (Ad z (Af (Aq ?_))); subst k; rfl
  refine Ac fun _ z=>Aa B6 (Aa Ae (Ad z (Ax (fun c8 => ?_) (fun c8 => ?_))))
  · refine Ac fun _ z=>Aa Ae (Ad z (Af (Aq ?_))); subst k; rfl
  refine As (Ac fun _ z=>Aa Ae (Ad z (Af (Aq ?_))))
  rw [(Fh ⟨‹_›, ‹_›, ‹_›, ‹_›, ‹_›, ‹_›, ‹_›, ‹_›⟩).2] <;> rfl
theorem rvalid_fun (b : Bar) (hw : b.w) : Fun Tryz.prog 124 [.agg b.c] (AK (bL (decide (Cg b))) []) := by
  obtain ⟨hw1, hw2⟩ := hw; have hok : Cg b ↔ FM b.mark ∧ b.size ∈ BR ∧ 1 ≤ b.count ∧ b.count ≤ 1000 ∧ DK b.code ≠ 0 ∧ (b.dims.length : Int) = DK b.code ∧ dimsOK b.dims := Iff.rfl; obtain ⟨d1, d2, d3, d4⟩ := dims_eq b.code; refine Fun.of (nt := 70) (rs := [.tmp 2]) Tryz.func124 rfl rfl rfl rfl rfl (Ac fun _ z=>A4 (Be _ true) (Aa Ae (Ad z (An (Ck (C8 [(0, 0), (1, 1), (2, 3), (3, 7), (4, 15), (5, 31), (6, 63), (7, 127), (8, 255), (9, 511), (10, 1023), (11, 2047), (12, 4095), (13, 8191), (14, 16383), (15, 32767), (16, 65535), (17, 131071), (18, 262143), (19, 524287), (20, 1048575), (21, 2097151), (22, 4194303), (23, 8388607), (24, 16777215), (25, 33554431), (26, 67108863), (27, 134217727), (28, 268435455), (29, 536870911), (27, 134217727), (31, 1207959551), (32, 3355443199), (33, 8589934591), (34, 17179869183)]) 35 fun _ z=>Ak (Ap 0 F9 Da) (Ak (At CL) (B1 (hF := risName_fun _ (by omega)) (h := Ak BB (M.bn Ab (fun c1 => ?_) (fun c1 => ?_))))))))))
  · refine AE (AE (AE (AE (Ak A5 (Ak Ab (AE (AE (AE (Ak A5 (Ak Ab (AE (AE (AE (Ak A5 (Ak Ab (AE (AE (AE (AE (Ak A5 (Ak Ab (AE (AE (AE (AE (AE (AE (AE (Ak A5 (Bz [_] (h := Ad z (B3 (Ac fun _ z=>Aa Ae (Ad z (Af (Aq ?_)))))))))))))))))))))))))))))))))))); exact bF (fun h => absurd (hok.1 h).1 ‹_›)
  refine Ak (Ap 1 DT Ah) (Ak (At Al) (B1 (hF := rsize_fun _) (h := Ak BB (Ak Au (M.bn Ab (fun c2 => ?_) (fun c2 => ?_))))))
  · refine AE (AE (AE (Ak A5 (Ak Ab (AE (AE (AE (Ak A5 (Ak Ab (AE (AE (AE (AE (Ak A5 (Ak Ab (AE (AE (AE (AE (AE (AE (AE (Ak A5 (Bz [_] (h := Ad z (B3 (Ac fun _ z=>Aa Ae (Ad z (Af (Aq ?_)))))))))))))))))))))))))))))); exact bF (fun h => absurd (hok.1 h).2.1 ‹_›)
  refine Ak (Ap 2 am_fi72_2 Ah) (Ak (At Al) (Ak Ay (Ak Au (M.bd Ab (fun c3 => ?_) (fun c3 => ?_)))))
  · refine AE (AE (AE (Ak A5 (Ak Ab (AE (AE (AE (AE (Ak A5 (Ak Ab (AE (AE (AE (AE (AE (AE (AE (Ak A5 (Bz [_] (h := Ad z (B3 (Ac fun _ z=>Aa Ae (Ad z (Af (Aq ?_))))))))))))))))))))))))); exact bF (fun h => by have h1 := (hok.1 h).2.2.1; have h2 := (hok.1 h).2.2.2.1; have h3 := (hok.1 h).2.2.2.2.1; have h4 := (hok.1 h).2.2.2.2.2.1; omega)
  refine Ak (Ap 2 am_fi72_2 Ah) (Ak (At Al) (Ak Bh (Ak Au (M.bd Ab (fun c4 => ?_) (fun c4 => ?_)))))
  · refine AE (AE (AE (AE (Ak A5 (Ak Ab (AE (AE (AE (AE (AE (AE (AE (Ak A5 (Bz [_] (h := Ad z (B3 (Ac fun _ z=>Aa Ae (Ad z (Af (Aq ?_)))))))))))))))))))); exact bF (fun h => by have h1 := (hok.1 h).2.2.1; have h2 := (hok.1 h).2.2.2.1; have h3 := (hok.1 h).2.2.2.2.1; have h4 := (hok.1 h).2.2.2.2.2.1; omega)
  refine Ak (Ap 3 am_fi72_3 Ah) (Ak (At Al) (B1 (hF := rdims_fun _) (h := Ak B6 (Ak Au (M.bd Ab (fun c5 => ?_) (fun c5 => ?_))))))
  · refine AE (AE (AE (AE (AE (AE (AE (Ak A5 (Bz [_] (h := Ad z (B3 (Ac fun _ z=>Aa Ae (Ad z (Af (Aq ?_)))))))))))))); exact bF (fun h => by have h1 := (hok.1 h).2.2.1; have h2 := (hok.1 h).2.2.2.1; have h3 := (hok.1 h).2.2.2.2.1; have h4 := (hok.1 h).2.2.2.2.2.1; omega)
  refine Ak (Ap 4 EQ FW) (Ak (At FT) (Ak (A7 AG) (Ak (Ap 3 am_fi72_3 Ah) (Ak (At Al) (B1 (hF := rdims_fun _) (h := Ak Dk (Ak Au (Bz [_] (h := Ad z (Cb (fun c6 => ?_) (fun c6 => ?_)))))))))))
  · refine Ac fun _ z=>Aa Ae (Ad z (Af (Aq ?_))); exact bF (fun h => by have h1 := (hok.1 h).2.2.1; have h2 := (hok.1 h).2.2.2.1; have h3 := (hok.1 h).2.2.2.2.1; have h4 := (hok.1 h).2.2.2.2.2.1; omega)
  refine As (Ac fun _ z=>Aa Ae (Ad z (An (Ac fun _ z=>Aa Ae (Ad z (Ar (AI (ι := {q : List Int × List Int // q.1 ++ q.2 = b.dims ∧ (∀ n ∈ q.1, 1 ≤ n) ∧ BU q.1 ≤ 1048576 * q.1.length}) [0] [1] (fun ⟨(pre, suf), _⟩ => [(4, iL (pre.length : Int)), (3, iL (BU pre))]) (fun ⟨(pre, suf), _⟩ => [(0, ⟨false, 72, 5, [[sL (b.mark), iL (b.size), iL (b.count), iL (b.code), .sh 1 ((b.dims).map Cz)]], true⟩)]) (fun ⟨(pre, suf), _⟩ => suf.length) ⟨([], b.dims), rfl, fun n hn => by simp at hn, (show BU [] ≤ 1048576 * (([] : List Int).length : Int) by decide)⟩ (.c .n) (Aj) (Ag (h := (Ag))) ?_))))))); rintro ⟨⟨pre, suf⟩, hp, hinv⟩ R0 hR0; dsimp only [cA, nA, lC, lN]
  simp only at hp hinv
  have hpl := Cd hp
  rcases suf with _ | ⟨s, suf⟩
  · rw [List.append_nil] at hp; simp only [lN] at hpl; refine An (Ac fun _ z=>Aa Ab (Aa (Ap 4 EQ FW) (Aa (At FT) (Aa (A7 AG) (Aa Ay (Ad z (Ax (fun c7 => ?_) (fun c7 => ?_))))))))
    · omega
    refine AO (hR0 _ _ (Ac fun _ z=>Aa Ab (Aa BJ (Aa Ae (Ad z (Af (Aq ?_))))))); exact dI ⟨fun h => hok.2 ⟨‹_›, ‹_›, by omega, by omega, by omega, by omega, by rw [← hp]; exact ⟨hinv.1, h⟩⟩, fun h => by have h1 := (hok.1 h).2.2.2.2.2.2.2; rw [← hp] at h1; exact h1⟩
  simp only [lC] at hpl; have hidx := Ch hp; have hnn := sumI_nn pre hinv.1; have hle := hinv.2; refine An (Ac fun _ z=>Aa Ab (Aa (Ap 4 EQ FW) (Aa (At FT) (Aa (A7 AG) (Aa Ay (Ad z (Ax (fun c10 => ?_) (fun c10 => ?_))))))))
  · refine As (An (Ar (An (Ac fun _ z=>Aa (Ap 4 EQ FW) (Aa (At FT) (Aa Ab (Aa (AL AG Ah (hl := (by exact AY hidx (by omega)))) (Aa (Bc Al) (Aa Ay (AP Ab (fun c11 => ?_) (fun c11 => ?_)))))))))))
    · refine Ai (Ai (Ai (Aa A5 (Ad z (B3 (Ac fun _ z=>Aa Ae (Ad z (Af (hR0 _ _ (Aq ?_)))))))))); exact bF (fun h => by have h1 := dims_cut hp (hok.1 h).2.2.2.2.2.2; omega)
    refine Aa (Ap 4 EQ FW) (Aa (At FT) (Aa Ab (Aa (AL AG Ah (hl := (by exact AY hidx (by omega)))) (Aa (Bc Al) (Aa Bh (Aa Au (Ad z (Ax (fun c12 => ?_) (fun c12 => ?_)))))))))
    · refine Ac fun _ z=>Aa Ae (Ad z (Af (hR0 _ _ (Aq ?_)))); exact bF (fun h => by have h1 := dims_cut hp (hok.1 h).2.2.2.2.2.2; omega)
    refine As (Ao fun _ z=>Aa Ab (Aa (Ap 4 EQ FW) (Aa (At FT) (Aa Ab (Aa (AL AG Ah (hl := (by exact AY hidx (by omega)))) (Aa (Bc Al) (Aa A6 (Aa Ae (Ad z ?_))))))))); show Ev _ _ _ _; refine Ao fun _ z=>Aa Ab (Aa A6 (Aa Ae (Ad z (hR0 _ _ (A8 [0] [1] ⟨(pre ++ [s], suf), B2 hp, ?_⟩ BX (Aj) (Ag (he := (by congr 2; simp)) (h := (Ag (he := (by congr 2; rw [FL, show BU [s] = s by simp [BU]]))))) (.c .n)))))); refine ⟨fun n hn => ?_, by rw [FL, show BU [s] = s by simp [BU]]; simp only [List.length_append, List.length_cons, List.length_nil]; omega⟩; simp only [List.mem_append, List.mem_singleton] at hn
    rcases hn with hn | rfl
    · exact hinv.1 n hn
    · omega
  omega
theorem indexFuncBar1 (g : FuncId) (c0 : List AV) (p : Bar → Bool) (hg : ∀ s, Fun Tryz.prog g [.agg (Bar.c s), .sadr c0 0] (AK (bL (p s)) [])) (l : List (Bar)) (hlen : l.length ≤ 140737488355328) :
    Fun Tryz.prog 50 [.sh 5 (l.map Bar.c), .fn (.func g) [] [.sadr c0 0]] (AK (iL (CN p l 0)) []) := by
  refine Fun.of (nt := 19) (rs := [.tmp 4]) Tryz.func50 rfl rfl rfl rfl rfl (Ac fun _ z=>Aa Ae (Ad z (An (Ac fun _ z=>Aa Ab (Aa (A7 BO) (Aa Ab (Ad z (Ar (AI (ι := {q : List (Bar) × List (Bar) // q.1 ++ q.2 = l ∧ ∀ x ∈ q.1, p x = false}) [] [0, 1, 7] (fun ⟨(pre, suf), _⟩ => [(8, iL (pre.length : Int))]) (fun ⟨(pre, suf), _⟩ => []) (fun ⟨(pre, suf), _⟩ => suf.length) ⟨([], l), rfl, fun x hx => by simp at hx⟩ (.c (.c (.c .n))) AW (Ag) ?_))))))))); rintro ⟨⟨pre, suf⟩, hp, hinv⟩ R0 hR0; dsimp only [cA, nA, lC, lN]
  simp only at hp hinv
  have hpl := Cd hp
  rcases suf with _ | ⟨s, suf⟩
  · rw [List.append_nil] at hp; subst hp; simp only [List.length_nil] at hpl; refine Ac fun _ z=>Aa Ay (Ad z (By (fun c1 => ?_) (fun c1 => ?_)))
    · omega
    refine AO (hR0 _ _ (Ac fun _ z=>Aa Ae (Ad z (Af (Aq ?_)))))
    congr 2; rw [Gh p pre 0 hinv]
  simp only [lC] at hpl; have hidx := Ch hp; refine Ac fun _ z=>Aa Ay (Ad z (By (fun c3 => ?_) (fun c3 => ?_)))
  · refine An (Ar (Ac fun _ z=>Aa Ab (Aa Ae (Ad z (Ac fun _ z=>Aa Ab (Aa Ab (Aa Ab (Aa (AL BO Bv (hl := (by exact AY hidx (by omega)))) (Aa (BF _ Cm Bv) (A3 (hF := hg s) (h := Ad z (Ev.c (fun c4 => ?_) (fun c4 => ?_)))))))))))))
    · refine Ac fun _ z=>Aa Ab (Aa Ae (Ad z (Af (hR0 _ _ (Aq ?_)))))
      congr 2; rw [← hp, DD p pre _ 0 hinv, CN, if_pos ‹_›]; omega
    refine As (Ao fun _ z=>Aa A6 (Aa Ab (Ad z (hR0 _ _ (A8 [] [0, 1, 7] ⟨(pre ++ [s], suf), B2 hp, ?_⟩ BX AW (Ag (he := (by simp))) (.c (.c (.c .n))))))))
    intro x hx; simp only [List.mem_append, List.mem_singleton] at hx; rcases hx with hx | rfl
    · exact hinv x hx
    · assumption
  omega
theorem containsFuncBar1 (g : FuncId) (c0 : List AV) (p : Bar → Bool) (hg : ∀ s, Fun Tryz.prog g [.agg (Bar.c s), .sadr c0 0] (AK (bL (p s)) [])) (l : List (Bar)) (hlen : l.length ≤ 140737488355328) :
    Fun Tryz.prog 27 [.sh 5 (l.map Bar.c), .fn (.func g) [] [.sadr c0 0]] (AK (bL (decide (∃ x ∈ l, p x = true))) []) := by
  have hd : (decide (∃ x ∈ l, p x = true)) = decide (0 ≤ CN p l 0) := by simp only [Gn p l 0 (Int.le_refl _)]
  rw [hd]; refine Fun.of (nt := 9) (rs := [.tmp 4]) Tryz.func27 rfl rfl rfl rfl rfl (Ac fun _ z=>Aa Ae (Ad z (Ac fun _ z=>Aa Ab (Aa Ab (A3 (hF := indexFuncBar1 g c0 p hg l hlen) (h := Aa C7 (Aa Ae (Ad z (Af (Aq ?_)))))))))); rfl
theorem index1_fun (mk : List UInt8) (b : Bar) : Fun Tryz.prog 102 [.agg b.c, .sadr [sL mk] 0] (AK (bL (decide (b.mark = mk))) []) := by
  refine Fun.of (nt := 8) (rs := [.tmp 3]) Tryz.func102 rfl rfl rfl rfl rfl (Ac fun _ z=>A4 (Be _ true) (Aa Ae (Ad z (Ac fun _ z=>Aa (Ap 0 F9 Da) (Aa (At CL) (Aa (Bc CL) (Aa q.seqs (Aa Ae (Ad z (Af (Aq ?_))))))))))); rfl
def D0 (l : List Bar) (mk : List UInt8) : Int := CN (fun b => decide (b.mark = mk)) l 0
theorem schedIndex_fun (l : List Bar) (mk : List UInt8) (hlen : l.length ≤ 140737488355328) : Fun Tryz.prog 57 [.sh 5 (l.map Bar.c), sL mk] (AK (iL (D0 l mk)) []) := by
  refine Fun.of (nt := 8) (rs := [.tmp 4]) Tryz.func57 rfl rfl rfl rfl rfl (Ac fun _ z=>A4 (Be _ true) (Aa Ae (Ad z (Ac fun _ z=>Aa Ab (Aa q.mf (A3 (hF := indexFuncBar1 _ _ _ (index1_fun mk) l (by omega)) (h := Aa Ae (Ad z (Af (Aq ?_)))))))))); rfl
def CJ (l : List Bar) : Prop := l.length ≤ 60 ∧ (∀ b ∈ l, Cg b) ∧ l.Pairwise (fun a b => a.mark ≠ b.mark)
instance (l) : Decidable (CJ l) := by unfold CJ; infer_instance
def Gl (l : List Bar) : Prop := ∀ b ∈ l, b.w
theorem markI_at {pre suf l : List Bar} {s : Bar} (hp : pre ++ s :: suf = l) : D0 l s.mark = pre.length ↔ ∀ a ∈ pre, a.mark ≠ s.mark := by
  constructor
  · intro h a ha hm; obtain ⟨p1, p2, rfl⟩ := List.append_of_mem ha
    have hle : D0 l s.mark ≤ p1.length := by
      rw [← hp, D0, List.append_assoc]
      have : ∀ (q : List Bar) (k : Int) (r : List Bar), a.mark = s.mark → CN (fun b : Bar => decide (b.mark = s.mark)) (q ++ a :: r) k ≤ k + q.length := by
        intro q
        induction q with
        | nil => intro k r hm; rw [List.nil_append, CN, if_pos (by simp [hm])]; simp
        | cons x q ih =>
          intro k r hm; rw [List.cons_append, CN]
          split
          · simp only [List.length_cons]; omega
          have := ih (k + 1) r hm; simp only [List.length_cons]; omega
      have := this p1 0 (p2 ++ s :: suf) hm
      simpa using this
    rw [h] at hle; simp only [List.length_append, List.length_cons] at hle; omega
  intro h; rw [D0, ← hp, DD _ pre _ 0 (fun a ha => by simp [h a ha]), CN, if_pos (by simp)]; omega
theorem sched_cut {pre suf l : List Bar} {s : Bar} (hp : pre ++ s :: suf = l) (h : CJ l) : Cg s ∧ D0 l s.mark = pre.length := by
  obtain ⟨h1, h2, h3⟩ := h; refine ⟨h2 s (by rw [← hp]; simp), (markI_at hp).2 fun a ha => ?_⟩; rw [← hp, List.pairwise_append] at h3; exact h3.2.2 a ha s (by simp)
theorem sched_snoc {pre suf l : List Bar} {s : Bar} (hp : pre ++ s :: suf = l) (h : (∀ b ∈ pre, Cg b) ∧ pre.Pairwise (fun a b => a.mark ≠ b.mark)) (h1 : Cg s) (h2 : D0 l s.mark = pre.length) :
    (∀ b ∈ pre ++ [s], Cg b) ∧ (pre ++ [s]).Pairwise (fun a b => a.mark ≠ b.mark) := by
  refine ⟨fun b hb => ?_, List.pairwise_append.2 ⟨h.2, by simp, fun a ha b hb => ?_⟩⟩
  · rcases List.mem_append.1 hb with hb | hb
    · exact h.1 b hb
    simp at hb; subst hb; exact h1
  simp at hb; subst hb
  exact (markI_at hp).1 h2 a ha
theorem schedValid_fun (l : List Bar) (hlen : l.length ≤ 140737488355328) (hw : Gl l) : Fun Tryz.prog 31 [.sh 5 (l.map Bar.c)] (AK (bL (decide (CJ l))) []) := by
  refine Fun.of (nt := 27) (rs := [.tmp 2]) Tryz.func31 rfl rfl rfl rfl rfl (Ac fun _ z=>Aa Ae (Ad z (An (Ac fun _ z=>Aa Ab (Aa (A7 BO) (Aa Bh (Ad z (Ax (fun c1 => ?_) (fun c1 => ?_)))))))))
  · refine Ac fun _ z=>Aa Ae (Ad z (Af (Aq ?_))); exact bF (fun h => by have h1 := h.1; omega)
  refine As (An (Ac fun _ z=>Aa Ab (Aa (A7 BO) (Aa Ab (Ad z (Ar (AI (ι := {q : List Bar × List Bar // q.1 ++ q.2 = l ∧ (∀ b ∈ q.1, Cg b) ∧ q.1.Pairwise (fun a b => a.mark ≠ b.mark)}) [] [0, 8, 9] (fun ⟨(pre, suf), _⟩ => [(10, iL (pre.length : Int))]) (fun ⟨(pre, suf), _⟩ => []) (fun ⟨(pre, suf), _⟩ => suf.length) ⟨([], l), rfl, ⟨fun b hb => by simp at hb, by simp⟩⟩ (.c (.c (.c .n))) AW (Ag) ?_))))))); rintro ⟨⟨pre, suf⟩, hp, hinv⟩ R0 hR0; dsimp only [cA, nA, lC, lN]
  simp only at hp hinv
  have hpl := Cd hp
  rcases suf with _ | ⟨s, suf⟩
  · rw [List.append_nil] at hp; simp only [lN] at hpl; refine Ac fun _ z=>Aa Ay (Ad z (By (fun c2 => ?_) (fun c2 => ?_)))
    · omega
    refine AO (hR0 _ _ (Ac fun _ z=>Aa Ae (Ad z (Af (Aq ?_))))); exact bT ⟨by omega, by rw [← hp]; exact hinv⟩
  simp only [lC] at hpl; have hidx := Ch hp; have hsw : s.w := hw s (by rw [← hp]; simp); refine Ac fun _ z=>Aa Ay (Ad z (By (fun c5 => ?_) (fun c5 => ?_)))
  · refine An (Ar (Ac fun _ z=>Aa Ab (Aa (AL BO Bv (hl := (by exact AY hidx (by omega)))) (Aa (BF _ Cm Bv) (A4 (Bd am_ze72) (Aa Ae (AC _ true [] am_in72 Bv (h := Ad z (Ac fun _ z=>Aa (Av _ Cm Bv) (A3 (hF := valid_fun _ (by assumption)) (h := Aa BB (DV Ab (fun c6 => ?_) (fun c6 => ?_)))))))))))))
    · refine Ai (Ai (Ai (Aa A5 (Ad z (B3 (Ac fun _ z=>Aa Ae (Ad z (Af (hR0 _ _ (Aq ?_)))))))))); exact bF (fun h => absurd (sched_cut hp h).1 ‹_›)
    refine Aa Ab (Aa (Ap 0 F9 Da) (Aa (At CL) (A3 (hF := schedIndex_fun _ _ (by omega)) (h := Aa Ab (Aa Dk (Aa Au (Ad z (Cb (fun c7 => ?_) (fun c7 => ?_)))))))))
    · refine Ac fun _ z=>Aa Ae (Ad z (Af (hR0 _ _ (Aq ?_)))); exact bF (fun h => by have h1 := (sched_cut hp h).2; omega)
    refine As (Ao fun _ z=>Aa A6 (Aa Ab (Ad z (hR0 _ _ (A8 [] [0, 8, 9] ⟨(pre ++ [s], suf), B2 hp, ?_⟩ BX AW (Ag (he := (by simp))) (.c (.c (.c .n)))))))); exact sched_snoc hp hinv ‹_› (by omega)
  omega
theorem rfind_fun (l : List Bar) (mk : List UInt8) (hlen : l.length ≤ 140737488355328) : Fun Tryz.prog 41 [.sh 5 (l.map Bar.c), sL mk] (AK (iL (D0 l mk)) []) := by
  unfold D0
  refine Fun.of (nt := 20) (rs := [.tmp 4]) Tryz.func41 rfl rfl rfl rfl rfl (Ac fun _ z=>Aa Ae (Ad z (An (Ac fun _ z=>Aa Ae (Ad z (Ar (AI (ι := {q : List Bar × List Bar // q.1 ++ q.2 = l ∧ ∀ x ∈ q.1, decide (x.mark = mk) = false}) [] [0, 1] (fun ⟨(pre, suf), _⟩ => [(5, iL (pre.length : Int))]) (fun ⟨(pre, suf), _⟩ => []) (fun ⟨(pre, suf), _⟩ => suf.length) ⟨([], l), rfl, fun x hx => by simp at hx⟩ (.c (.c .n)) AW (Ag) ?_))))))); rintro ⟨⟨pre, suf⟩, hp, hinv⟩ R0 hR0; dsimp only [cA, nA, lC, lN]
  simp only at hp hinv
  have hpl := Cd hp
  rcases suf with _ | ⟨s, suf⟩
  · rw [List.append_nil] at hp; subst hp; simp only [List.length_nil] at hpl; refine An (Ac fun _ z=>Aa Ab (Aa Ab (Aa (A7 BO) (Aa Ay (Ad z (Ax (fun c1 => ?_) (fun c1 => ?_)))))))
    · omega
    refine AO (hR0 _ _ (Ac fun _ z=>Aa Ae (Ad z (Af (Aq ?_)))))
    congr 2; rw [Gh _ pre 0 hinv]
  simp only [lC] at hpl; have hidx := Ch hp; refine An (Ac fun _ z=>Aa Ab (Aa Ab (Aa (A7 BO) (Aa Ay (Ad z (Ax (fun c3 => ?_) (fun c3 => ?_)))))))
  · refine As (An (Ar (Ac fun _ z=>Aa Ab (Aa Ab (Aa (AL BO Bv (hl := (by exact AY hidx (by omega)))) (Aa (BP 0 F9 Da) (Aa (Bc CL) (Aa Ab (Aa q.seqs (Ad z (Ax (fun c4 => ?_) (fun c4 => ?_))))))))))))
    · refine Ac fun _ z=>Aa Ab (Aa Ae (Ad z (Af (hR0 _ _ (Aq ?_)))))
      congr 2; rw [← hp, DD _ pre _ 0 hinv, CN, if_pos (decide_eq_true ‹_›)]; omega
    refine As (Ao fun _ z=>Aa Ab (Aa A6 (Aa Ae (Ad z (hR0 _ _ (A8 [] [0, 1] ⟨(pre ++ [s], suf), B2 hp, ?_⟩ BX AW (Ag (he := (by simp))) (.c (.c .n))))))))
    intro x hx; simp only [List.mem_append, List.mem_singleton] at hx; rcases hx with hx | rfl
    · exact hinv x hx
    · exact decide_eq_false ‹_›
  omega
theorem rschedValid_fun (l : List Bar) (hlen : l.length ≤ 140737488355328) (hw : Gl l) : Fun Tryz.prog 69 [.sh 5 (l.map Bar.c)] (AK (bL (decide (CJ l))) []) := by
  refine Fun.of (nt := 30) (rs := [.tmp 2]) Tryz.func69 rfl rfl rfl rfl rfl (Ac fun _ z=>Aa Ae (Ad z (An (Ac fun _ z=>Aa Ab (Aa (A7 BO) (Aa Bh (Ad z (Ax (fun c1 => ?_) (fun c1 => ?_)))))))))
  · refine Ac fun _ z=>Aa Ae (Ad z (Af (Aq ?_))); exact bF (fun h => by have h1 := h.1; omega)
  refine As (An (Ac fun _ z=>Aa Ae (Ad z (Ar (AI (ι := {q : List Bar × List Bar // q.1 ++ q.2 = l ∧ (∀ b ∈ q.1, Cg b) ∧ q.1.Pairwise (fun a b => a.mark ≠ b.mark)}) [] [0] (fun ⟨(pre, suf), _⟩ => [(3, iL (pre.length : Int))]) (fun ⟨(pre, suf), _⟩ => []) (fun ⟨(pre, suf), _⟩ => suf.length) ⟨([], l), rfl, ⟨fun b hb => by simp at hb, by simp⟩⟩ (.c .n) AW (Ag) ?_))))); rintro ⟨⟨pre, suf⟩, hp, hinv⟩ R0 hR0; dsimp only [cA, nA, lC, lN]
  simp only at hp hinv
  have hpl := Cd hp
  rcases suf with _ | ⟨s, suf⟩
  · rw [List.append_nil] at hp; simp only [lN] at hpl; refine An (Ac fun _ z=>Aa Ab (Aa Ab (Aa (A7 BO) (Aa Ay (Ad z (Ax (fun c2 => ?_) (fun c2 => ?_)))))))
    · omega
    refine AO (hR0 _ _ (Ac fun _ z=>Aa Ae (Ad z (Af (Aq ?_))))); exact bT ⟨by omega, by rw [← hp]; exact hinv⟩
  simp only [lC] at hpl; have hidx := Ch hp; have hsw : s.w := hw s (by rw [← hp]; simp); refine An (Ac fun _ z=>Aa Ab (Aa Ab (Aa (A7 BO) (Aa Ay (Ad z (Ax (fun c5 => ?_) (fun c5 => ?_)))))))
  · refine As (An (Ar (Ac fun _ z=>Aa Ab (Aa Ab (Aa (AL BO Bv (hl := (by exact AY hidx (by omega)))) (Aa (BF _ Cm Bv) (A3 (hF := rvalid_fun _ (by assumption)) (h := Aa BB (DV Ab (fun c6 => ?_) (fun c6 => ?_))))))))))
    · refine Ai (Ai (Ai (Ai (A9 (Aa A5 (Ad z (B3 (Ac fun _ z=>Aa Ae (Ad z (Af (hR0 _ _ (Aq ?_)))))))))))); exact bF (fun h => absurd (sched_cut hp h).1 ‹_›)
    refine Aa Ab (Aa Ab (Aa Ab (Aa (AL BO Bv (hl := (by exact AY hidx (by omega)))) (Aa (BP 0 F9 Da) (Aa (Bc CL) (A3 (hF := rfind_fun _ _ (by omega)) (h := Aa Ab (Aa Dk (Aa Au (Ad z (Cb (fun c7 => ?_) (fun c7 => ?_))))))))))))
    · refine Ac fun _ z=>Aa Ae (Ad z (Af (hR0 _ _ (Aq ?_)))); exact bF (fun h => by have h1 := (sched_cut hp h).2; omega)
    refine As (Ao fun _ z=>Aa Ab (Aa A6 (Aa Ae (Ad z (hR0 _ _ (A8 [] [0] ⟨(pre ++ [s], suf), B2 hp, ?_⟩ BX AW (Ag (he := (by simp))) (.c .n))))))); exact sched_snoc hp hinv ‹_› (by omega)
  omega
theorem szE_zero {d : Int} (h : szE d = 0) : d ∈ BR := by
  by_cases hd : d ∈ BR
  · exact hd
  rw [szE, if_neg hd] at h; cases h
theorem szV_in {d v : Int} (h : d ∈ BR) : szV d v = v := if_pos h
theorem szE_in {d : Int} (h : d ∈ BR) : szE d = 0 := if_pos h
theorem szV_out {d v : Int} (h : ¬ szE d = 0) : szV d v = 0 := if_neg (fun h' => h (szE_in h'))
theorem szE_out {d : Int} (h : ¬ szE d = 0) : szE d = 1 := if_neg (fun h' => h (szE_in h'))
def massOf (d n : Int) : Int := (6165 * d * d * n + 500000) / 1000000
theorem mass_pre {d n : Int} (h : d ∈ BR) (h0 : 0 ≤ n) (h1 : n ≤ 1048576) : 0 ≤ 6165 * d ∧ 6165 * d ≤ 246600 ∧ 0 ≤ 6165 * d * d ∧ 6165 * d * d ≤ 9864000 ∧ 0 ≤ 6165 * d * d * n ∧ 6165 * d * d * n ≤ 9864000 * 1048576 := by
  simp only [BR, List.mem_cons, List.not_mem_nil, or_false] at h
  rcases h with h | h | h | h | h | h | h | h | h <;> subst h <;> omega
theorem massOf_bd {d n : Int} (h : d ∈ BR) (h0 : 0 ≤ n) (h1 : n ≤ 1048576) : 0 ≤ massOf d n ∧ massOf d n ≤ 10343154 := by
  have := mass_pre h h0 h1
  unfold massOf
  omega
theorem mass1_fun (d n : Int) (h : d ∈ BR) (h0 : 0 ≤ n) (h1 : n ≤ 1048576) : Fun Tryz.prog 93 [.sadr [iL d] 0, .sadr [iL n] 0] (AK (iL (massOf d n)) []) := by
  obtain ⟨m1, m2, m3, m4, m5, m6⟩ := mass_pre h h0 h1; refine Fun.of (nt := 11) (rs := [.tmp 2]) Tryz.func93 rfl rfl rfl rfl rfl (Ac fun _ z=>Aa Ae (Ad z (Ac fun _ z=>Aa (Bc Al) (Aa BM (Aa (Bc Al) (Aa BM (Aa (Bc Al) (Aa BM (Aa A6 (Aa q.quo (Aa Ae (Ad z (Af (Ev.ret1 (⟨?_, rfl⟩))))))))))))))); rfl
theorem Mass_fun (d n : Int) (h0 : 0 ≤ n) (h1 : n ≤ 1048576) : Fun Tryz.prog 53 [iL d, iL n] (AK (.tup [iL (szV d (massOf d n)), iL (szE d)]) []) := by
  refine Fun.of (nt := 21) (rs := [.tmp 4, .tmp 5]) Tryz.func53 rfl rfl rfl rfl rfl (Ac fun _ z=>A4 (Be _ true) (A4 (Be _ true) (Aa Ae (Aa Ae (Ad z (An (Ac fun _ z=>Aa (At Al) (A3 (hF := size_fun _) (h := AP Ab (fun c1 => ?_) (fun c1 => ?_))))))))))
  · refine Aa (At Al) (Aa Ay (AP Ab (fun c2 => ?_) (fun c2 => ?_)))
    · omega
    refine Aa (At Al) (Aa Bh (Aa Au (Aa A5 (Ad z (Ax (fun c3 => ?_) (fun c3 => ?_))))))
    · omega
    refine As ?_; show Ev _ _ _ _; refine Ac fun _ z=>Aa (At Al) (Aa q.mf (A3 (hF := sized2_fun _ _ _ _ _ (fun h => mass1_fun _ _ h (by omega) (by omega))) (h := Aa BA (Aa BA (Aa Ae (Aa Ae (Ad z (Af (Ev.ret2 (⟨?_, rfl⟩)))))))))); rfl
  refine Ai (Ai (Ai (Aa Au (Ad z (Ei (As ?_)))))); show Ev _ _ _ _; refine Ac fun _ z=>Aa (At Al) (Aa q.mf (A3 (hF := sized2_fun _ _ _ _ _ (fun h => mass1_fun _ _ h (by omega) (by omega))) (h := Aa BA (Aa BA (Aa Ae (Aa Ae (Ad z (Af (Ev.ret2 (⟨?_, rfl⟩)))))))))); rfl
def Ep (d : Int) : Int := if d ≤ 16 then 5 * d / 2 else 4 * d
def arcLo (d : Int) : Int := 500 * Ep d * 333 / 106
def arcHi (d : Int) : Int := (500 * Ep d * 355 + 113 - 1) / 113
def allLo (d : Int) : Int := 2000 * Ep d - arcHi d
def allHi (d : Int) : Int := 2000 * Ep d - arcLo d
theorem bend_bd {d : Int} (h : d ∈ BR) : 15 ≤ Ep d ∧ Ep d ≤ 160 ∧ 0 ≤ arcLo d ∧ arcLo d ≤ 300000 ∧ 0 ≤ arcHi d ∧ arcHi d ≤ 300000 ∧ 0 ≤ allLo d ∧ allLo d ≤ 70000 ∧ 0 ≤ allHi d ∧ allHi d ≤ 70000 := by
  simp only [BR, List.mem_cons, List.not_mem_nil, or_false] at h
  rcases h with h | h | h | h | h | h | h | h | h <;> subst h <;> decide
theorem bend1_fun (d : Int) (h : d ∈ BR) : Fun Tryz.prog 219 [.sadr [iL d] 0] (AK (iL (Ep d)) []) := by
  obtain ⟨h0, h1⟩ := size_bd h; refine Fun.of (nt := 9) (rs := [.tmp 1]) Tryz.func219 rfl rfl rfl rfl rfl (Ac fun _ z=>Aa Ae (Ad z (An (Ac fun _ z=>Aa (Bc Al) (Aa BJ (Ad z (Ax (fun c1 => ?_) (fun c1 => ?_))))))))
  · refine Ac fun _ z=>Aa (Bc Al) (Aa BM (Aa q.quo (Aa Ae (Ad z (Af (Ev.ret1 (⟨?_, rfl⟩))))))); rw [Ep, if_pos ‹_›]
  refine As ?_; show Ev _ _ _ _; refine Ac fun _ z=>Aa (Bc Al) (Aa BM (Aa Ae (Ad z (Af (Ev.ret1 (⟨?_, rfl⟩)))))); rw [Ep, if_neg ‹_›]
theorem Bend_fun (d : Int) : Fun Tryz.prog 193 [iL d] (AK (.tup [iL (szV d (Ep d)), iL (szE d)]) []) := by
  refine Fun.of (nt := 9) (rs := [.tmp 2, .tmp 3]) Tryz.func193 rfl rfl rfl rfl rfl (Ac fun _ z=>A4 (Be _ true) (Aa Ae (Aa Ae (Ad z (Ac fun _ z=>Aa (At Al) (Aa q.mf (A3 (hF := sized1_fun _ _ _ _ (bend1_fun _)) (h := Aa BA (Aa BA (Aa Ae (Aa Ae (Ad z (Af (Ev.ret2 (⟨?_, rfl⟩))))))))))))))); rfl
theorem up_fun (n d : Int) (h0 : 0 ≤ n) (h1 : n ≤ 1000000000000) (h2 : 1 ≤ d) (h3 : d ≤ 1000000) : Fun Tryz.prog 90 [iL n, iL d] (AK (iL ((n + d - 1) / d)) []) := by
  refine Fun.of (nt := 11) (rs := [.tmp 4]) Tryz.func90 rfl rfl rfl rfl rfl (Ac fun _ z=>Aa Ae (Ad z (Ac fun _ z=>Aa Ab (Aa Ab (Aa A6 (Aa BV (Aa Ab (Aa q.quo (Aa Ae (Ad z (Af (Ev.ret1 (⟨?_, rfl⟩))))))))))))); rfl
theorem arc_fun (d : Int) : Fun Tryz.prog 192 [iL d] (AK (.tup [.agg [iL (szV d (arcLo d)), iL (szV d (arcHi d))], iL (szE d)]) []) := by
  refine Fun.of (nt := 23) (rs := [.cell 2 138, .tmp 3]) Tryz.func192 rfl rfl rfl rfl rfl (Ac fun _ z=>A4 (Bd Dv) (Aa Ae (Ad z (Ac fun _ z=>Aa Ab (A3 (hF := Bend_fun _) (h := Aa Ab (Aa BA (Aa BA (Aa Ae (Aa Ae (Ad z (An (Ac fun _ z=>Aa Ab (Aa Dk (Ad z (Cb (fun c1 => ?_) (fun c1 => ?_)))))))))))))))))
  · refine Ac fun _ z=>Aa (Bj _ Dv GI) (AC _ true [] EH Dc (h := Aa Ae (Ad z (Af (Cv (B7 [_, _] am_ag138 Dc (DI BC)) (⟨?_, rfl⟩)))))); rw [szV_out ‹_›, szV_out ‹_›, szE_out ‹_›]
  refine As ?_; show Ev _ _ _ _; have hz := szE_zero ‹szE d = 0›; obtain ⟨b1, b2, b3, b4, b5, b6, b7, b8, b9, b10⟩ := bend_bd hz; have e1 := szV_in (v := Ep d) hz; have e2 := szV_in (v := arcLo d) hz; have e3 := szV_in (v := arcHi d) hz; have a1 : arcLo d = 500 * Ep d * 333 / 106 := rfl; have a2 : arcHi d = (500 * Ep d * 355 + 113 - 1) / 113 := rfl; simp only [e1, e2, e3]; refine Ac fun _ z=>Aa Ab (Aa BM (Aa BM (Aa q.quo (Aa Ab (Aa BM (Aa BM (A3 (hF := up_fun _ _ (by omega) (by omega) (by omega) (by omega)) (h := Aa (Bj _ Dv GI) (AC _ true [] EH Dc (h := Aa Ae (Ad z (Af (Cv (B7 [_, _] am_ag138 Dc (DI BC)) (⟨?_, rfl⟩)))))))))))))); rw [szE_in hz]; rfl
theorem allowance_fun (d : Int) : Fun Tryz.prog 146 [iL d] (AK (.tup [.agg [iL (szV d (allLo d)), iL (szV d (allHi d))], iL (szE d)]) []) := by
  refine Fun.of (nt := 35) (rs := [.cell 2 138, .tmp 3]) Tryz.func146 rfl rfl rfl rfl rfl (Ac fun _ z=>A4 (Bd Dv) (Aa Ae (Ad z (Ac fun _ z=>Aa Ab (A3 (hF := arc_fun _) (h := Aa Ab (Aa BA (Aa BA (A4 (Bd Dv) (AC _ true [_] EH Dc (h := Aa Ae (Ad z (An (Ac fun _ z=>Aa Ab (Aa Dk (Ad z (Cb (fun c1 => ?_) (fun c1 => ?_))))))))))))))))))
  · refine Ac fun _ z=>Aa (Bj _ Dv GI) (Aa Ab (AC _ true [_] EH Dc (h := Aa Ae (Ad z (Af (Cv (B7 [_, _] am_ag138 Dc (DI BC)) (⟨?_, rfl⟩))))))); rw [szV_out ‹_›, szV_out ‹_›, szE_out ‹_›]
  refine As ?_; show Ev _ _ _ _; refine Ac fun _ z=>Aa Ab (A3 (hF := Bend_fun _) (h := Aa Ab (Aa BA (Aa BA (Aa Ae (Aa Ae (Ad z (An (Ac fun _ z=>Aa Ab (Aa Dk (Ad z (Cb (fun c2 => ?_) (fun c2 => ?_)))))))))))))
  · omega
  refine As ?_; show Ev _ _ _ _; have hz := szE_zero ‹szE d = 0›; obtain ⟨b1, b2, b3, b4, b5, b6, b7, b8, b9, b10⟩ := bend_bd hz; have e1 := szV_in (v := Ep d) hz; have e2 := szV_in (v := arcLo d) hz; have e3 := szV_in (v := arcHi d) hz; have a1 : arcLo d = 500 * Ep d * 333 / 106 := rfl; have a2 : arcHi d = (500 * Ep d * 355 + 113 - 1) / 113 := rfl; simp only [e1, e2, e3]; refine Ac fun _ z=>Aa Ab (Aa BM (Aa (Ap 1 am_fi138_1 Ah) (Aa (At Al) (Aa BV (Aa Ab (Aa BM (Aa (Ap 0 am_fi138_0 Ah) (Aa (At Al) (Aa BV (Aa (Bj _ Dv GI) (AC _ true [_] EH Dc (h := Aa Ae (Ad z (Af (Cv (B7 [_, _] am_ag138 Dc (DI BC)) (⟨?_, rfl⟩)))))))))))))))); rw [szV_in hz, szV_in hz, szE_in hz]; rfl
def Bm (b : Bar) (i : Nat) : Int := (b.dims[i]?).getD 0
def Co (b : Bar) : List Int := (Dd b.code).map (fun s => Bm b s.1.toNat)
def okV (b : Bar) (v : Int) : Int := if Cg b then v else 0
def okE (b : Bar) : Int := if Cg b then 0 else 1
def legsV (b : Bar) : List Int := if Cg b then Co b else []
theorem okE_zero {b : Bar} (h : okE b = 0) : Cg b := by
  by_cases hd : Cg b
  · exact hd
  rw [okE, if_neg hd] at h; cases h
theorem okV_in {b : Bar} {v : Int} (h : Cg b) : okV b v = v := if_pos h
theorem okE_in {b : Bar} (h : Cg b) : okE b = 0 := if_pos h
theorem okV_out {b : Bar} {v : Int} (h : ¬ okE b = 0) : okV b v = 0 := if_neg (fun h' => h (okE_in h'))
theorem okE_out {b : Bar} (h : ¬ okE b = 0) : okE b = 1 := if_neg (fun h' => h (okE_in h'))
theorem Fj (b : Bar) : (Co b).length ≤ 6 := by
  rw [Co, List.length_map]; exact (dims_eq b.code).2.2.2
theorem Ca {b : Bar} (h : Cg b) {i : Nat} (hi : (i : Int) < DK b.code) : b.dims[i]? = some (Bm b i) ∧ 1 ≤ Bm b i ∧ Bm b i ≤ 262144 := by
  have hl := h.2.2.2.2.2.1; have e : b.dims[i]? = some (b.dims[i]'(by omega)) := List.getElem?_eq_getElem _
  have e2 : Bm b i = b.dims[i]'(by omega) := by rw [Bm, e]; rfl
  refine ⟨by rw [e, e2], ?_⟩; rw [e2]; exact dims_in h.2.2.2.2.2.2 (List.getElem_mem _)
theorem legs_in {b : Bar} (h : Cg b) : ∀ n ∈ Co b, 1 ≤ n ∧ n ≤ 262144 := by
  intro n hn; rw [Co, List.mem_map] at hn; obtain ⟨s, hs, rfl⟩ := hn; have := leg_bd b.code s hs; exact (Ca h (i := s.1.toNat) (by omega)).2
theorem legs_pos {b : Bar} (h : Cg b) : 1 ≤ (Co b).length := by
  rw [Co, List.length_map]; have h1 := h.2.2.2.2.1
  rcases codes b.code with e | e | e | e | e | e | e | e | e
  iterate 8 (rw [e]; decide)
  exact absurd (Fh e).2 h1
theorem legs_fun2 (b : Bar) (hw : b.w) : Fun Tryz.prog 145 [.agg b.c] (AK (.tup [.sh 1 ((legsV b).map Cz), iL (okE b)]) []) := by
  obtain ⟨hw1, hw2⟩ := id hw; obtain ⟨d1, d2, d3, d4⟩ := dims_eq b.code; refine Fun.of (nt := 29) (rs := [.tmp 2, .tmp 3]) Tryz.func145 rfl rfl rfl rfl rfl (Ac fun _ z=>A4 (Be _ true) (Aa Ae (Aa Ae (Ad z (An (Ac fun _ z=>Aa (Av _ Cm Bv) (A3 (hF := valid_fun _ (by assumption)) (h := Aa BB (Ad z (Cb (fun c1 => ?_) (fun c1 => ?_)))))))))))
  · refine Ac fun _ z=>Aa Ae (Aa Ae (Ad z (AT (Wk.nsh Cz 2 1) (Af (Ev.ret2 (⟨?_, rfl⟩)))))); rw [legsV, okE, if_neg ‹_›, if_neg ‹_›]
  refine As ?_; show Ev _ _ _ _; refine Ac fun _ z=>Aa Ae (Ad z (An (Ac fun _ z=>Aa (Ap 3 am_fi72_3 Ah) (Aa (At Al) (A3 (hF := legs_fun _) (h := Aa (A7 EK) (Aa Ab (Ad z (Ar (AT (Wk.nown Cz 4 3 1) (AI (ι := {p : List (Int × Int) × List (Int × Int) // p.1 ++ p.2 = (Dd b.code) ∧ True}) [0, 1] [1, 12, 13] (fun ⟨(pre, suf), _⟩ => [(14, iL (pre.length : Int)), (4, .als 1 0 (pre.map (fun s => Bm b s.1.toNat)).length)]) (fun ⟨(pre, suf), _⟩ => [(0, ⟨false, 72, 5, [[sL (b.mark), iL (b.size), iL (b.count), iL (b.code), .sh 1 ((b.dims).map Cz)]], true⟩), (1, ⟨true, 3, 1, (pre.map (fun s => Bm b s.1.toNat)).map Cz, true⟩)]) (fun ⟨(pre, suf), _⟩ => suf.length) ⟨([], (Dd b.code)), rfl, trivial⟩ (.c (.c (.c .n))) (Aj (h := (Aj))) (Ag (h := (Ag))) ?_))))))))))); rintro ⟨⟨pre, suf⟩, hp, hinv⟩ R0 hR0; dsimp only [cA, nA, lC, lN]
  simp only at hp hinv
  have hpl := Cd hp
  rcases suf with _ | ⟨s, suf⟩
  · rw [List.append_nil] at hp; simp only [lN] at hpl; refine Ac fun _ z=>Aa Ay (Ad z (By (fun c2 => ?_) (fun c2 => ?_)))
    · omega
    refine AO (hR0 _ _ ?_); show Ev _ _ _ _; refine Ac fun _ z=>Aa Ab (Aa Ae (Aa Ae (Ad z (AT (Wk.frz 2 [_]) (Af (Ev.ret2 (⟨?_, rfl⟩))))))); rw [legsV, okE, if_pos ‹_›, if_pos ‹_›, Co, ← hp]
  simp only [lC] at hpl; have hidx := Ch hp; have hlb := leg_bd b.code s (by rw [← hp]; simp); obtain ⟨hdi, hd1, hd2⟩ := Ca ‹Cg b› (i := s.1.toNat) (by omega); have hml : (pre.map (fun s : Int × Int => Bm b s.1.toNat)).length = pre.length := List.length_map _; refine Ac fun _ z=>Aa Ay (Ad z (By (fun c3 => ?_) (fun c3 => ?_)))
  · refine An (Ar (Ac fun _ z=>Aa (AL EK DL (hl := (by exact AY hidx (by omega)))) (Aa (BF _ am_ag196 DL) (A4 (Bd BZ) (AC _ true [_, _] am_in196 DL (h := Ad z (Ao fun _ z=>Aa Ab (Aa (Ap 4 EQ FW) (Aa (At FT) (Aa (Ap 0 am_fi196_0 Ah) (Aa (At Al) (Aa (AL AG Ah (hl := (by exact AY hdi (by omega)))) (Aa (Bc Al) (A4 (C3 [[_]] true AG Ed Ah) (DJ [_, _, _] AG Ed Ah am_by3 (hh := Cu) (hr := (CS [_])) (h := Aa Ae (Ad z ?_))))))))))))))))); show Ev _ _ _ _; refine Ao fun _ z=>Aa A6 (Aa Ab (Ad z (hR0 _ _ (A8 [0, 4] [1, 12, 13] ⟨(pre ++ [s], suf), B2 hp, trivial⟩ BX (Aj (h := (Aj (he := (by simp))))) (Ag (he := (by congr 2; simp)) (h := (Ag (he := (by congr 1; simp))))) (.c (.c (.c .n)))))))
  omega
def devLo (b : Bar) : Int := 1000 * BU (Co b) - ((Co b).length - 1) * allHi b.size
def devHi (b : Bar) : Int := 1000 * BU (Co b) - ((Co b).length - 1) * allLo b.size
theorem sumI_bd : ∀ (l : List Int), (∀ n ∈ l, 1 ≤ n ∧ n ≤ 262144) → 0 ≤ BU l ∧ BU l ≤ 262144 * l.length
  | [], _ => by decide
  | x :: l, h => by
    have := h x (by simp); have := sumI_bd l (fun n hn => h n (by simp [hn])); rw [sumI_cons, List.length_cons]; omega
theorem legs_sum {b : Bar} (h : Cg b) : 0 ≤ BU (Co b) ∧ BU (Co b) ≤ 524288 := by
  refine ⟨(sumI_bd _ (legs_in h)).1, ?_⟩; obtain ⟨_, _, _, _, h1, h2, h3, h4⟩ := h
  have hl : b.dims.length = (DK b.code).toNat := by omega
  obtain ⟨mk, sz, cn, cd, ds⟩ := b
  simp only at hl h1 h3 h4
  unfold Co Bm
  simp only
  rcases codes cd with e | e | e | e | e | e | e | e | e
  · subst e
    match ds, hl with
    | [x0], _ =>
      have k0 := h3 x0 (by simp); simp only [BU, List.foldl_cons, List.foldl_nil] at h4
      simp [BU, Dd]
      omega
  · subst e
    match ds, hl with
    | [x0, x1], _ =>
      have k0 := h3 x0 (by simp); have k1 := h3 x1 (by simp); simp only [BU, List.foldl_cons, List.foldl_nil] at h4
      simp [BU, Dd]
      omega
  · subst e
    match ds, hl with
    | [x0, x1, x2], _ =>
      have k0 := h3 x0 (by simp); have k1 := h3 x1 (by simp); have k2 := h3 x2 (by simp); simp only [BU, List.foldl_cons, List.foldl_nil] at h4
      simp [BU, Dd]
      omega
  · subst e
    match ds, hl with
    | [x0, x1, x2], _ =>
      have k0 := h3 x0 (by simp); have k1 := h3 x1 (by simp); have k2 := h3 x2 (by simp); simp only [BU, List.foldl_cons, List.foldl_nil] at h4
      simp [BU, Dd]
      omega
  · subst e
    match ds, hl with
    | [x0, x1, x2], _ =>
      have k0 := h3 x0 (by simp); have k1 := h3 x1 (by simp); have k2 := h3 x2 (by simp); simp only [BU, List.foldl_cons, List.foldl_nil] at h4
      simp [BU, Dd]
      omega
  · subst e
    match ds, hl with
    | [x0, x1, x2, x3, x4], _ =>
      have k0 := h3 x0 (by simp); have k1 := h3 x1 (by simp); have k2 := h3 x2 (by simp); have k3 := h3 x3 (by simp); have k4 := h3 x4 (by simp); simp only [BU, List.foldl_cons, List.foldl_nil] at h4
      simp [BU, Dd]
      omega
  · subst e
    match ds, hl with
    | [x0, x1, x2], _ =>
      have k0 := h3 x0 (by simp); have k1 := h3 x1 (by simp); have k2 := h3 x2 (by simp); simp only [BU, List.foldl_cons, List.foldl_nil] at h4
      simp [BU, Dd]
      omega
  · subst e
    match ds, hl with
    | [x0, x1, x2], _ =>
      have k0 := h3 x0 (by simp); have k1 := h3 x1 (by simp); have k2 := h3 x2 (by simp); simp only [BU, List.foldl_cons, List.foldl_nil] at h4
      simp [BU, Dd]
      omega
  exact absurd (Fh e).2 h1
theorem dev_bd {b : Bar} (h : Cg b) : 0 ≤ ((Co b).length - 1) * allHi b.size ∧ ((Co b).length - 1) * allHi b.size ≤ 5 * 70000 ∧ 0 ≤ ((Co b).length - 1) * allLo b.size ∧ ((Co b).length - 1) * allLo b.size ≤ 5 * 70000 ∧ -350000 ≤ devHi b ∧ devHi b ≤ 524288000 := by
  have h1 := legs_pos h; have h2 := Fj b; obtain ⟨b1, b2, b3, b4, b5, b6, b7, b8, b9, b10⟩ := bend_bd h.2.1; obtain ⟨p1, p2⟩ := mul_bd (k := ((Co b).length : Int) - 1) (K := 5) (a := allHi b.size) (A := 70000) (by omega) (by omega) b9 b10; obtain ⟨p3, p4⟩ := mul_bd (k := ((Co b).length : Int) - 1) (K := 5) (a := allLo b.size) (A := 70000) (by omega) (by omega) b7 b8; obtain ⟨s1, s2⟩ := legs_sum h; refine ⟨p1, p2, p3, p4, ?_⟩
  unfold devHi
  omega
theorem developed_fun (b : Bar) (hw : b.w) : Fun Tryz.prog 89 [.agg b.c] (AK (.tup [.agg [iL (okV b (devLo b)), iL (okV b (devHi b))], iL (okE b)]) []) := by
  have hl := Fj b; refine Fun.of (nt := 57) (rs := [.cell 2 138, .tmp 3]) Tryz.func89 rfl rfl rfl rfl rfl (Ac fun _ z=>A4 (Be _ true) (A4 (Bd Dv) (Aa Ae (Ad z (Ac fun _ z=>Aa (Av _ Cm Bv) (A3 (hF := legs_fun2 _ (by assumption)) (h := Aa Ab (Aa BA (Aa BA (Aa Ae (Aa Ae (Ad z (An (Ac fun _ z=>Aa Ab (Aa Dk (Ad z (Cb (fun c1 => ?_) (fun c1 => ?_))))))))))))))))))
  · refine Ac fun _ z=>Aa (Bj _ Dv GI) (Aa Ab (AC _ true [_] EH Dc (h := Aa Ae (Ad z (Af (Cv (B7 [_, _] am_ag138 Dc (DI BC)) (⟨?_, rfl⟩))))))); rw [okV_out ‹_›, okV_out ‹_›, okE_out ‹_›]
  refine As ?_; show Ev _ _ _ _; have hok := okE_zero ‹okE b = 0›; have hlv : legsV b = Co b := if_pos hok; have hz := hok.2.1; obtain ⟨b1, b2, b3, b4, b5, b6, b7, b8, b9, b10⟩ := bend_bd hz; have e1 := szV_in (v := allLo b.size) hz; have e2 := szV_in (v := allHi b.size) hz; have e3 := szE_in hz; obtain ⟨p1, p2, p3, p4, p5, p6⟩ := dev_bd hok; obtain ⟨s1, s2⟩ := legs_sum hok; rw [hlv]; refine Ac fun _ z=>Aa Ae (Ad z (An (Ac fun _ z=>Aa Ab (Aa (A7 AG) (Aa Ab (Ad z (Ar (AI (ι := {p : List (Int) × List (Int) // p.1 ++ p.2 = (Co b) ∧ True}) [0, 1] [1, 2, 4, 20, 21] (fun ⟨(pre, suf), _⟩ => [(22, iL (pre.length : Int)), (6, iL (1000 * BU pre))]) (fun ⟨(pre, suf), _⟩ => [(0, ⟨false, 72, 5, [[sL (b.mark), iL (b.size), iL (b.count), iL (b.code), .sh 1 ((b.dims).map Cz)]], true⟩), (1, ⟨false, 138, 2, [[iL (0), iL (0)]], true⟩)]) (fun ⟨(pre, suf), _⟩ => suf.length) ⟨([], (Co b)), rfl, trivial⟩ (.c (.c (.c (.c (.c .n))))) (Aj (h := (Aj))) (Ag (h := (Ag))) ?_)))))))); rintro ⟨⟨pre, suf⟩, hp, hinv⟩ R0 hR0; dsimp only [cA, nA, lC, lN]
  simp only at hp hinv
  have hpl := Cd hp
  rcases suf with _ | ⟨s, suf⟩
  · rw [List.append_nil] at hp; simp only [lN] at hpl; refine Ac fun _ z=>Aa Ay (Ad z (By (fun c2 => ?_) (fun c2 => ?_)))
    · omega
    refine AO (hR0 _ _ ?_); show Ev _ _ _ _; refine Ac fun _ z=>Aa (Ap 1 DT Ah) (Aa (At Al) (A3 (hF := allowance_fun _) (h := Aa Ab (Aa BA (Aa BA (A4 (Bd Dv) (AC _ true [_, _] EH Dc (h := Aa Ae (Ad z (An ?_)))))))))); rw [e3]; refine Ac fun _ z=>Aa Ab (Aa Dk (Ad z (Cb (fun c3 => ?_) (fun c3 => ?_))))
    · omega
    refine As ?_; show Ev _ _ _ _; simp only [e1, e2]; rw [hp]; refine Ac fun _ z=>Aa Ab (Aa (A7 AG) (Aa BV (Aa Ae (Ad z (Ac fun _ z=>Aa Ab (Aa Ab (Aa (Ap 1 am_fi138_1 Ah) (Aa (At Al) (Aa BM (Aa BV (Aa Ab (Aa Ab (Aa (Ap 0 am_fi138_0 Ah) (Aa (At Al) (Aa BM (Aa BV (Aa (Bj _ Dv GI) (AC _ true [_, _] EH Dc (h := Aa Ae (Ad z (Af (Cv (B7 [_, _] am_ag138 Dc (DI BC)) (⟨?_, rfl⟩))))))))))))))))))))))); rw [okV_in hok, okV_in hok, okE_in hok]; rfl
  simp only [lC] at hpl; have hidx := Ch hp; have hsb := legs_in hok s (by rw [← hp]; simp); obtain ⟨hs1, hs2⟩ := sumI_bd pre (fun n hn => legs_in hok n (by rw [← hp]; simp [hn])); refine Ac fun _ z=>Aa Ay (Ad z (By (fun c4 => ?_) (fun c4 => ?_)))
  · refine An (Ar (Ac fun _ z=>Aa (AL AG Ah (hl := (by exact AY hidx (by omega)))) (Aa (Bc Al) (Aa Ae (Ad z (Ao fun _ z=>Aa Ab (Aa Ab (Aa BM (Aa A6 (Aa Ae (Ad z ?_))))))))))); show Ev _ _ _ _; refine Ao fun _ z=>Aa A6 (Aa Ab (Ad z (hR0 _ _ (A8 [0, 1] [1, 2, 4, 20, 21] ⟨(pre ++ [s], suf), B2 hp, trivial⟩ BX (Aj (h := (Aj))) (Ag (he := (by congr 2; simp)) (h := (Ag (he := (by congr 2; rw [FL, show BU [s] = s by simp [BU]]; omega))))) (.c (.c (.c (.c (.c .n)))))))))
  omega
def Gu (b : Bar) : Int := max 5 (5 * ((max 0 (devHi b) + 5000 - 1) / 5000))
theorem cutOf_bd {b : Bar} (h : Cg b) : 5 ≤ Gu b ∧ Gu b ≤ 1048576 := by
  obtain ⟨_, _, _, _, h1, h2⟩ := dev_bd h
  unfold Gu
  omega
theorem cut_fun (b : Bar) (hw : b.w) : Fun Tryz.prog 52 [.agg b.c] (AK (.tup [iL (okV b (Gu b)), iL (okE b)]) []) := by
  refine Fun.of (nt := 20) (rs := [.tmp 2, .tmp 3]) Tryz.func52 rfl rfl rfl rfl rfl (Ac fun _ z=>A4 (Be _ true) (Aa Ae (Aa Ae (Ad z (Ac fun _ z=>Aa (Av _ Cm Bv) (A3 (hF := developed_fun _ (by assumption)) (h := Aa Ab (Aa BA (Aa BA (A4 (Bd Dv) (AC _ true [_] EH Dc (h := Aa Ae (Ad z (An (Ac fun _ z=>Aa Ab (Aa Dk (Ad z (Cb (fun c1 => ?_) (fun c1 => ?_)))))))))))))))))))
  · refine Ac fun _ z=>Aa Ab (Aa Ae (Aa Ae (Ad z (Af (Ev.ret2 (⟨?_, rfl⟩)))))); rw [okV_out ‹_›, okE_out ‹_›]
  refine As ?_; show Ev _ _ _ _; have hok := okE_zero ‹okE b = 0›; obtain ⟨_, _, _, _, h1, h2⟩ := dev_bd hok; rw [okV_in hok, okV_in hok]; refine Ac fun _ z=>Aa (Ap 1 am_fi138_1 Ah) (Aa (At Al) (Aa EI (A3 (hF := up_fun _ _ (by omega) (by omega) (by omega) (by omega)) (h := Aa BM (Aa EI (Aa Ae (Aa Ae (Ad z (Af (Ev.ret2 (⟨?_, rfl⟩))))))))))); rw [okV_in hok, okE_in hok]; rfl
def Gw (b : Bar) : Int := massOf b.size (Gu b)
def EY (b : Bar) : Int := b.count * Gw b
theorem F6 {b : Bar} (h : Cg b) : 0 ≤ Gw b ∧ Gw b ≤ 10343154 ∧ 0 ≤ EY b ∧ EY b ≤ 1000 * 10343154 := by
  obtain ⟨h1, h2⟩ := cutOf_bd h; obtain ⟨h3, h4⟩ := massOf_bd h.2.1 (by omega : 0 ≤ Gu b) h2; have h5 := h.2.2.1; have h6 := h.2.2.2.1; exact ⟨h3, h4, mul_bd (by omega) h6 h3 h4⟩
theorem barMass_fun (b : Bar) (hw : b.w) : Fun Tryz.prog 48 [.agg b.c] (AK (.tup [iL (okV b (EY b)), iL (okE b)]) []) := by
  refine Fun.of (nt := 29) (rs := [.tmp 2, .tmp 3]) Tryz.func48 rfl rfl rfl rfl rfl (Ac fun _ z=>A4 (Be _ true) (Aa Ae (Aa Ae (Ad z (Ac fun _ z=>Aa (Av _ Cm Bv) (A3 (hF := cut_fun _ (by assumption)) (h := Aa Ab (Aa BA (Aa BA (Aa Ae (Aa Ae (Ad z (An (Ac fun _ z=>Aa Ab (Aa Dk (Ad z (Cb (fun c1 => ?_) (fun c1 => ?_))))))))))))))))))
  · refine Ac fun _ z=>Aa Ab (Aa Ae (Aa Ae (Ad z (Af (Ev.ret2 (⟨?_, rfl⟩)))))); rw [okV_out ‹_›, okE_out ‹_›]
  refine As ?_; show Ev _ _ _ _; have hok := okE_zero ‹okE b = 0›; obtain ⟨h1, h2⟩ := cutOf_bd hok; obtain ⟨h3, h4, h5, h6⟩ := F6 hok; have e1 : szV b.size (massOf b.size (Gu b)) = Gw b := szV_in hok.2.1; have e2 := szE_in hok.2.1; rw [okV_in (v := Gu b) hok]; refine Ac fun _ z=>Aa (Ap 1 DT Ah) (Aa (At Al) (Aa Ab (A3 (hF := Mass_fun _ _ (by omega) (by omega)) (h := Aa Ab (Aa BA (Aa BA (Aa Ae (Aa Ae (Ad z (An ?_)))))))))); rw [e2]; refine Ac fun _ z=>Aa Ab (Aa Dk (Ad z (Cb (fun c2 => ?_) (fun c2 => ?_))))
  · omega
  refine As ?_; show Ev _ _ _ _; rw [e1]; refine Ac fun _ z=>Aa (Ap 2 am_fi72_2 Ah) (Aa (At Al) (Aa Ab (Aa (BM (h1 := by unfold EY at h5; omega) (h2 := by unfold EY at h6; omega)) (Aa Ae (Aa Ae (Ad z (Af (Ev.ret2 (⟨?_, rfl⟩))))))))); rw [okV_in hok, okE_in hok]; rfl
def C1 : Int × Int × Int → List AV
  | (a, b, c) => [iL a, iL b, iL c]
def Ci (b : Bar) : List (Int × Int × Int) :=
  if b.code = 11 then [(Bm b 0, 0, 0), (0, Bm b 1, 0)]
  else if b.code = 21 then [(0, 0 - Bm b 0, 0), (Bm b 1, 0, 0), (0, Bm b 2, 0)]
  else if b.code = 26 then [(Bm b 0, 0, 0), (0, Bm b 1, 0), (Bm b 2, 0, 0)]
  else if b.code = 31 then [(Bm b 0, 0, 0), (0, Bm b 1, 0), (0, 0, Bm b 2)]
  else if b.code = 41 then [(Bm b 0, 0, 0), (0, Bm b 1, 0), (Bm b 2, 0, 0), (0, 0 - Bm b 3, 0), (Bm b 4, 0, 0)]
  else if b.code = 51 then [(0, 0 - Bm b 2, 0), (Bm b 0, 0, 0), (0, Bm b 1, 0), (0 - Bm b 0, 0, 0), (0, 0 - Bm b 1, 0), (Bm b 2, 0, 0)]
  else if b.code = 98 then [(0, 0, Bm b 0), (0, 0 - Bm b 1, 0), (Bm b 2, 0, 0), (0, Bm b 1, 0), (0, 0, Bm b 0)]
  else [(Bm b 0, 0, 0)]
def absI (n : Int) : Int := max n (0 - n)
def G8 (s : Int × Int × Int) : Int := absI s.1 + absI s.2.1 + absI s.2.2
theorem GM {b : Bar} (h : Cg b) : (Ci b).map G8 = Co b ∧ ∀ s ∈ Ci b, -262144 ≤ s.1 ∧ s.1 ≤ 262144 ∧ -262144 ≤ s.2.1 ∧ s.2.1 ≤ 262144 ∧ -262144 ≤ s.2.2 ∧ s.2.2 ≤ 262144 := by
  rcases codes b.code with e | e | e | e | e | e | e | e | e
  · obtain ⟨_, g0, f0⟩ := Ca h (i := 0) (by rw [e]; decide)
    have e1 : Ci b = [(Bm b 0, 0, 0)] := by rw [Ci, e]; rfl
    have e2 : Co b = [Bm b 0] := by rw [Co, e]; rfl
    refine ⟨?_, ?_⟩
    · rw [e1, e2]; simp only [List.map_cons, List.map_nil, G8, absI, List.cons.injEq, and_true]; omega
    rw [e1]; intro s hs; simp only [List.mem_cons, List.not_mem_nil, or_false] at hs
    rcases hs with rfl <;> dsimp only <;> omega
  · obtain ⟨_, g0, f0⟩ := Ca h (i := 0) (by rw [e]; decide); obtain ⟨_, g1, f1⟩ := Ca h (i := 1) (by rw [e]; decide)
    have e1 : Ci b = [(Bm b 0, 0, 0), (0, Bm b 1, 0)] := by rw [Ci, e]; rfl
    have e2 : Co b = [Bm b 0, Bm b 1] := by rw [Co, e]; rfl
    refine ⟨?_, ?_⟩
    · rw [e1, e2]; simp only [List.map_cons, List.map_nil, G8, absI, List.cons.injEq, and_true]; omega
    rw [e1]; intro s hs; simp only [List.mem_cons, List.not_mem_nil, or_false] at hs
    rcases hs with rfl | rfl <;> dsimp only <;> omega
  · obtain ⟨_, g0, f0⟩ := Ca h (i := 0) (by rw [e]; decide); obtain ⟨_, g1, f1⟩ := Ca h (i := 1) (by rw [e]; decide); obtain ⟨_, g2, f2⟩ := Ca h (i := 2) (by rw [e]; decide)
    have e1 : Ci b = [(0, 0 - Bm b 0, 0), (Bm b 1, 0, 0), (0, Bm b 2, 0)] := by rw [Ci, e]; rfl
    have e2 : Co b = [Bm b 0, Bm b 1, Bm b 2] := by rw [Co, e]; rfl
    refine ⟨?_, ?_⟩
    · rw [e1, e2]; simp only [List.map_cons, List.map_nil, G8, absI, List.cons.injEq, and_true]; omega
    rw [e1]; intro s hs; simp only [List.mem_cons, List.not_mem_nil, or_false] at hs
    rcases hs with rfl | rfl | rfl <;> dsimp only <;> omega
  · obtain ⟨_, g0, f0⟩ := Ca h (i := 0) (by rw [e]; decide); obtain ⟨_, g1, f1⟩ := Ca h (i := 1) (by rw [e]; decide); obtain ⟨_, g2, f2⟩ := Ca h (i := 2) (by rw [e]; decide)
    have e1 : Ci b = [(Bm b 0, 0, 0), (0, Bm b 1, 0), (Bm b 2, 0, 0)] := by rw [Ci, e]; rfl
    have e2 : Co b = [Bm b 0, Bm b 1, Bm b 2] := by rw [Co, e]; rfl
    refine ⟨?_, ?_⟩
    · rw [e1, e2]; simp only [List.map_cons, List.map_nil, G8, absI, List.cons.injEq, and_true]; omega
    rw [e1]; intro s hs; simp only [List.mem_cons, List.not_mem_nil, or_false] at hs
    rcases hs with rfl | rfl | rfl <;> dsimp only <;> omega
  · obtain ⟨_, g0, f0⟩ := Ca h (i := 0) (by rw [e]; decide); obtain ⟨_, g1, f1⟩ := Ca h (i := 1) (by rw [e]; decide); obtain ⟨_, g2, f2⟩ := Ca h (i := 2) (by rw [e]; decide)
    have e1 : Ci b = [(Bm b 0, 0, 0), (0, Bm b 1, 0), (0, 0, Bm b 2)] := by rw [Ci, e]; rfl
    have e2 : Co b = [Bm b 0, Bm b 1, Bm b 2] := by rw [Co, e]; rfl
    refine ⟨?_, ?_⟩
    · rw [e1, e2]; simp only [List.map_cons, List.map_nil, G8, absI, List.cons.injEq, and_true]; omega
    rw [e1]; intro s hs; simp only [List.mem_cons, List.not_mem_nil, or_false] at hs
    rcases hs with rfl | rfl | rfl <;> dsimp only <;> omega
  · obtain ⟨_, g0, f0⟩ := Ca h (i := 0) (by rw [e]; decide); obtain ⟨_, g1, f1⟩ := Ca h (i := 1) (by rw [e]; decide); obtain ⟨_, g2, f2⟩ := Ca h (i := 2) (by rw [e]; decide); obtain ⟨_, g3, f3⟩ := Ca h (i := 3) (by rw [e]; decide); obtain ⟨_, g4, f4⟩ := Ca h (i := 4) (by rw [e]; decide)
    have e1 : Ci b = [(Bm b 0, 0, 0), (0, Bm b 1, 0), (Bm b 2, 0, 0), (0, 0 - Bm b 3, 0), (Bm b 4, 0, 0)] := by rw [Ci, e]; rfl
    have e2 : Co b = [Bm b 0, Bm b 1, Bm b 2, Bm b 3, Bm b 4] := by rw [Co, e]; rfl
    refine ⟨?_, ?_⟩
    · rw [e1, e2]; simp only [List.map_cons, List.map_nil, G8, absI, List.cons.injEq, and_true]; omega
    rw [e1]; intro s hs; simp only [List.mem_cons, List.not_mem_nil, or_false] at hs
    rcases hs with rfl | rfl | rfl | rfl | rfl <;> dsimp only <;> omega
  · obtain ⟨_, g0, f0⟩ := Ca h (i := 0) (by rw [e]; decide); obtain ⟨_, g1, f1⟩ := Ca h (i := 1) (by rw [e]; decide); obtain ⟨_, g2, f2⟩ := Ca h (i := 2) (by rw [e]; decide)
    have e1 : Ci b = [(0, 0 - Bm b 2, 0), (Bm b 0, 0, 0), (0, Bm b 1, 0), (0 - Bm b 0, 0, 0), (0, 0 - Bm b 1, 0), (Bm b 2, 0, 0)] := by rw [Ci, e]; rfl
    have e2 : Co b = [Bm b 2, Bm b 0, Bm b 1, Bm b 0, Bm b 1, Bm b 2] := by rw [Co, e]; rfl
    refine ⟨?_, ?_⟩
    · rw [e1, e2]; simp only [List.map_cons, List.map_nil, G8, absI, List.cons.injEq, and_true]; omega
    rw [e1]; intro s hs; simp only [List.mem_cons, List.not_mem_nil, or_false] at hs
    rcases hs with rfl | rfl | rfl | rfl | rfl | rfl <;> dsimp only <;> omega
  · obtain ⟨_, g0, f0⟩ := Ca h (i := 0) (by rw [e]; decide); obtain ⟨_, g1, f1⟩ := Ca h (i := 1) (by rw [e]; decide); obtain ⟨_, g2, f2⟩ := Ca h (i := 2) (by rw [e]; decide)
    have e1 : Ci b = [(0, 0, Bm b 0), (0, 0 - Bm b 1, 0), (Bm b 2, 0, 0), (0, Bm b 1, 0), (0, 0, Bm b 0)] := by rw [Ci, e]; rfl
    have e2 : Co b = [Bm b 0, Bm b 1, Bm b 2, Bm b 1, Bm b 0] := by rw [Co, e]; rfl
    refine ⟨?_, ?_⟩
    · rw [e1, e2]; simp only [List.map_cons, List.map_nil, G8, absI, List.cons.injEq, and_true]; omega
    rw [e1]; intro s hs; simp only [List.mem_cons, List.not_mem_nil, or_false] at hs
    rcases hs with rfl | rfl | rfl | rfl | rfl <;> dsimp only <;> omega
  exact absurd (Fh e).2 h.2.2.2.2.1
theorem moves_fun (b : Bar) (hok : Cg b) : Fun Tryz.prog 207 [.agg b.c] (AK (.sh 3 ((Ci b).map C1)) []) := by
  have hd : ∀ i : Nat, (i : Int) < DK b.code → b.dims[i]? = some (Bm b i) := fun i hi => (Ca hok hi).1; have hdb : ∀ i : Nat, (i : Int) < DK b.code → 1 ≤ Bm b i ∧ Bm b i ≤ 262144 := fun i hi => (Ca hok hi).2; obtain ⟨d1, d2, d3, d4⟩ := dims_eq b.code; have hl := hok.2.2.2.2.2.1; have hnz := hok.2.2.2.2.1; refine Fun.of (nt := 148) (rs := [.tmp 2]) Tryz.func207 rfl rfl rfl rfl rfl (Ac fun _ k=>A4 (Be _ true) (Aa Ae (Ad k (Ac fun _ k=>Aa (Ap 4 EQ FW) (Aa (At FT) (Aa Ae (Ad k (An (Ac fun _ k=>Aa (Ap 3 am_fi72_3 Ah) (Aa (At Al) (Ad k (Ar (Ac fun _ k=>Aa B6 (Aa Ae (Ad k (Ax (fun c1 => ?_) (fun c1 => ?_)))))))))))))))))
  · have hN : DK b.code = 2 := by rw [show b.code = 11 by assumption]; rfl
    have q0 := hdb 0 (by omega); have q1 := hdb 1 (by omega); refine Ck (C8 [(0, 0), (1, 1), (2, 3), (3, 7), (0, 0), (5, 16), (6, 48), (7, 112), (8, 255), (9, 511)]) 9 fun _ k=>Ak Ab (Ak (AL AG Ah (hl := (by exact AY (hd 0 (by omega)) (by omega)))) (Ak (Bc Al) (Ak (Bj _ AJ BH) (Ak Ab (Ak (AL AG Ah (hl := (by exact AY (hd 1 (by omega)) (by omega)))) (Ak (Bc Al) (Ak (Bj _ AJ BH) (Gs [_] (C3 [[_, _, _], [_, _, _]] true Bb AJ Am) (h := Bz [_, _] (h := Aa Ae (Ad k (AT (Wk.frzl (f := C1) [(⟨_, _, _⟩ : Int × Int × Int), (⟨_, _, _⟩ : Int × Int × Int)] 2 [_]) (Af (Aq ?_))))))))))))))
    rw [Ci, if_pos (show b.code = 11 by assumption)] <;> rfl
  refine Ac fun _ k=>Aa B6 (Aa Ae (Ad k (Ax (fun c2 => ?_) (fun c2 => ?_))))
  · have hN : DK b.code = 3 := by rw [show b.code = 21 by assumption]; rfl
    have q0 := hdb 0 (by omega); have q1 := hdb 1 (by omega); have q2 := hdb 2 (by omega); refine Ck (C8 [(0, 0), (1, 1), (2, 3), (3, 7), (4, 15), (0, 0), (6, 32), (7, 96), (8, 224), (0, 0), (10, 512), (11, 1536), (12, 3584), (13, 8191), (14, 16383)]) 14 fun _ k=>Ak Ab (Ak (AL AG Ah (hl := (by exact AY (hd 0 (by omega)) (by omega)))) (Ak (Bc Al) (Ak q.neg (Ak (Bj _ AJ BH) (Ak Ab (Ak (AL AG Ah (hl := (by exact AY (hd 1 (by omega)) (by omega)))) (Ak (Bc Al) (Ak (Bj _ AJ BH) (Ak Ab (Ak (AL AG Ah (hl := (by exact AY (hd 2 (by omega)) (by omega)))) (Ak (Bc Al) (Ak (Bj _ AJ BH) (Gs [_] (C3 [[_, _, _], [_, _, _], [_, _, _]] true Bb AJ Am) (h := Bz [_, _] (h := Aa Ae (Ad k (AT (Wk.frzl (f := C1) [(⟨_, _, _⟩ : Int × Int × Int), (⟨_, _, _⟩ : Int × Int × Int), (⟨_, _, _⟩ : Int × Int × Int)] 2 [_]) (Af (Aq ?_)))))))))))))))))))
    rw [Ci, if_neg (show ¬ b.code = 11 by assumption), if_pos (show b.code = 21 by assumption)] <;> rfl
  refine Ac fun _ k=>Aa B6 (Aa Ae (Ad k (Ax (fun c3 => ?_) (fun c3 => ?_))))
  · have hN : DK b.code = 3 := by rw [show b.code = 26 by assumption]; rfl
    have q0 := hdb 0 (by omega); have q1 := hdb 1 (by omega); have q2 := hdb 2 (by omega); refine Ck (C8 [(0, 0), (1, 1), (2, 3), (3, 7), (0, 0), (5, 16), (6, 48), (7, 112), (0, 0), (9, 256), (10, 768), (11, 1792), (12, 4095), (13, 8191)]) 13 fun _ k=>Ak Ab (Ak (AL AG Ah (hl := (by exact AY (hd 0 (by omega)) (by omega)))) (Ak (Bc Al) (Ak (Bj _ AJ BH) (Ak Ab (Ak (AL AG Ah (hl := (by exact AY (hd 1 (by omega)) (by omega)))) (Ak (Bc Al) (Ak (Bj _ AJ BH) (Ak Ab (Ak (AL AG Ah (hl := (by exact AY (hd 2 (by omega)) (by omega)))) (Ak (Bc Al) (Ak (Bj _ AJ BH) (Gs [_] (C3 [[_, _, _], [_, _, _], [_, _, _]] true Bb AJ Am) (h := Bz [_, _] (h := Aa Ae (Ad k (AT (Wk.frzl (f := C1) [(⟨_, _, _⟩ : Int × Int × Int), (⟨_, _, _⟩ : Int × Int × Int), (⟨_, _, _⟩ : Int × Int × Int)] 2 [_]) (Af (Aq ?_))))))))))))))))))
    rw [Ci, if_neg (show ¬ b.code = 11 by assumption), if_neg (show ¬ b.code = 21 by assumption), if_pos (show b.code = 26 by assumption)] <;> rfl
  refine Ac fun _ k=>Aa B6 (Aa Ae (Ad k (Ax (fun c4 => ?_) (fun c4 => ?_))))
  · have hN : DK b.code = 3 := by rw [show b.code = 31 by assumption]; rfl
    have q0 := hdb 0 (by omega); have q1 := hdb 1 (by omega); have q2 := hdb 2 (by omega); refine Ck (C8 [(0, 0), (1, 1), (2, 3), (3, 7), (0, 0), (5, 16), (6, 48), (7, 112), (0, 0), (9, 256), (10, 768), (11, 1792), (12, 4095), (13, 8191)]) 13 fun _ k=>Ak Ab (Ak (AL AG Ah (hl := (by exact AY (hd 0 (by omega)) (by omega)))) (Ak (Bc Al) (Ak (Bj _ AJ BH) (Ak Ab (Ak (AL AG Ah (hl := (by exact AY (hd 1 (by omega)) (by omega)))) (Ak (Bc Al) (Ak (Bj _ AJ BH) (Ak Ab (Ak (AL AG Ah (hl := (by exact AY (hd 2 (by omega)) (by omega)))) (Ak (Bc Al) (Ak (Bj _ AJ BH) (Gs [_] (C3 [[_, _, _], [_, _, _], [_, _, _]] true Bb AJ Am) (h := Bz [_, _] (h := Aa Ae (Ad k (AT (Wk.frzl (f := C1) [(⟨_, _, _⟩ : Int × Int × Int), (⟨_, _, _⟩ : Int × Int × Int), (⟨_, _, _⟩ : Int × Int × Int)] 2 [_]) (Af (Aq ?_))))))))))))))))))
    rw [Ci, if_neg (show ¬ b.code = 11 by assumption), if_neg (show ¬ b.code = 21 by assumption), if_neg (show ¬ b.code = 26 by assumption), if_pos (show b.code = 31 by assumption)] <;> rfl
  refine Ac fun _ k=>Aa B6 (Aa Ae (Ad k (Ax (fun c5 => ?_) (fun c5 => ?_))))
  · have hN : DK b.code = 5 := by rw [show b.code = 41 by assumption]; rfl
    have q0 := hdb 0 (by omega); have q1 := hdb 1 (by omega); have q2 := hdb 2 (by omega); have q3 := hdb 3 (by omega); have q4 := hdb 4 (by omega)
    refine Ck (C8 [(0, 0), (1, 1), (2, 3), (3, 7), (0, 0), (5, 16), (6, 48), (7, 112), (0, 0), (9, 256), (10, 768), (11, 1792), (0, 0), (13, 4096), (14, 12288), (15, 28672), (16, 61440), (0, 0), (18, 131072), (19, 393216), (20, 917504), (21, 2097151), (22, 4194303)]) 22 fun _ k=>Ak Ab (Ak (AL AG Ah (hl := (by exact AY (hd 0 (by omega)) (by omega)))) (Ak (Bc Al) (Ak (Bj _ AJ BH) (Ak Ab (Ak (AL AG Ah (hl := (by exact AY (hd 1 (by omega)) (by omega)))) (Ak (Bc Al) (Ak (Bj _ AJ BH) (Ak Ab (Ak (AL AG Ah (hl := (by exact AY (hd 2 (by omega)) (by omega)))) (Ak (Bc Al) (Ak (Bj _ AJ BH) (Ak Ab (Ak (AL AG Ah (hl := (by exact AY (hd 3 (by omega)) (by omega)))) (Ak (Bc Al) (Ak q.neg (Ak (Bj _ AJ BH) (Ak Ab (Ak (AL AG Ah (hl := (by exact AY (hd 4 (by omega)) (by omega)))) (Ak (Bc Al) (Ak (Bj _ AJ BH) (Gs [_] (C3 [[_, _, _], [_, _, _], [_, _, _], [_, _, _], [_, _, _]] true Bb AJ Am) (h := Bz [_, _] (h := Aa Ae (Ad k (AT (Wk.frzl (f := C1) [(⟨_, _, _⟩ : Int × Int × Int), (⟨_, _, _⟩ : Int × Int × Int), (⟨_, _, _⟩ : Int × Int × Int), (⟨_, _, _⟩ : Int × Int × Int), (⟨_, _, _⟩ : Int × Int × Int)] 2 [_]) (Af (Aq ?_)))))))))))))))))))))))))))
    rw [Ci, if_neg (show ¬ b.code = 11 by assumption), if_neg (show ¬ b.code = 21 by assumption), if_neg (show ¬ b.code = 26 by assumption), if_neg (show ¬ b.code = 31 by assumption), if_pos (show b.code = 41 by assumption)] <;> rfl
  refine Ac fun _ k=>Aa B6 (Aa Ae (Ad k (Ax (fun c6 => ?_) (fun c6 => ?_))))
  · have hN : DK b.code = 3 := by rw [show b.code = 51 by assumption]; rfl
    have q0 := hdb 0 (by omega); have q1 := hdb 1 (by omega); have q2 := hdb 2 (by omega)
    refine Ck (C8 [(0, 0), (1, 1), (2, 3), (3, 7), (4, 15), (0, 0), (6, 32), (7, 96), (8, 224), (0, 0), (10, 512), (11, 1536), (12, 3584), (0, 0), (14, 8192), (15, 24576), (16, 57344), (17, 122880), (0, 0), (19, 262144), (20, 786432), (21, 1835008), (22, 3932160), (0, 0), (24, 8388608), (25, 25165824), (26, 58720256), (27, 134217727), (28, 268435455)]) 28 fun _ k=>Ak Ab (Ak (AL AG Ah (hl := (by exact AY (hd 2 (by omega)) (by omega)))) (Ak (Bc Al) (Ak q.neg (Ak (Bj _ AJ BH) (Ak Ab (Ak (AL AG Ah (hl := (by exact AY (hd 0 (by omega)) (by omega)))) (Ak (Bc Al) (Ak (Bj _ AJ BH) (Ak Ab (Ak (AL AG Ah (hl := (by exact AY (hd 1 (by omega)) (by omega)))) (Ak (Bc Al) (Ak (Bj _ AJ BH) (Ak Ab (Ak (AL AG Ah (hl := (by exact AY (hd 0 (by omega)) (by omega)))) (Ak (Bc Al) (Ak q.neg (Ak (Bj _ AJ BH) (Ak Ab (Ak (AL AG Ah (hl := (by exact AY (hd 1 (by omega)) (by omega)))) (Ak (Bc Al) (Ak q.neg (Ak (Bj _ AJ BH) (Ak Ab (Ak (AL AG Ah (hl := (by exact AY (hd 2 (by omega)) (by omega)))) (Ak (Bc Al) (Ak (Bj _ AJ BH) (Gs [_] (C3 [[_, _, _], [_, _, _], [_, _, _], [_, _, _], [_, _, _], [_, _, _]] true Bb AJ Am) (h := Bz [_, _] (h := Aa Ae (Ad k (AT (Wk.frzl (f := C1) [(⟨_, _, _⟩ : Int × Int × Int), (⟨_, _, _⟩ : Int × Int × Int), (⟨_, _, _⟩ : Int × Int × Int), (⟨_, _, _⟩ : Int × Int × Int), (⟨_, _, _⟩ : Int × Int × Int), (⟨_, _, _⟩ : Int × Int × Int)] 2 [_]) (Af (Aq ?_)))))))))))))))))))))))))))))))))
    rw [Ci, if_neg (show ¬ b.code = 11 by assumption), if_neg (show ¬ b.code = 21 by assumption), if_neg (show ¬ b.code = 26 by assumption), if_neg (show ¬ b.code = 31 by assumption), if_neg (show ¬ b.code = 41 by assumption), if_pos (show b.code = 51 by assumption)] <;> rfl
  refine Ac fun _ k=>Aa B6 (Aa Ae (Ad k (Ax (fun c7 => ?_) (fun c7 => ?_))))
  · have hN : DK b.code = 3 := by rw [show b.code = 98 by assumption]; rfl
    have q0 := hdb 0 (by omega); have q1 := hdb 1 (by omega); have q2 := hdb 2 (by omega)
    refine Ck (C8 [(0, 0), (1, 1), (2, 3), (3, 7), (0, 0), (5, 16), (6, 48), (7, 112), (8, 240), (0, 0), (10, 512), (11, 1536), (12, 3584), (0, 0), (14, 8192), (15, 24576), (16, 57344), (0, 0), (18, 131072), (19, 393216), (20, 917504), (21, 2097151), (22, 4194303)]) 22 fun _ k=>Ak Ab (Ak (AL AG Ah (hl := (by exact AY (hd 0 (by omega)) (by omega)))) (Ak (Bc Al) (Ak (Bj _ AJ BH) (Ak Ab (Ak (AL AG Ah (hl := (by exact AY (hd 1 (by omega)) (by omega)))) (Ak (Bc Al) (Ak q.neg (Ak (Bj _ AJ BH) (Ak Ab (Ak (AL AG Ah (hl := (by exact AY (hd 2 (by omega)) (by omega)))) (Ak (Bc Al) (Ak (Bj _ AJ BH) (Ak Ab (Ak (AL AG Ah (hl := (by exact AY (hd 1 (by omega)) (by omega)))) (Ak (Bc Al) (Ak (Bj _ AJ BH) (Ak Ab (Ak (AL AG Ah (hl := (by exact AY (hd 0 (by omega)) (by omega)))) (Ak (Bc Al) (Ak (Bj _ AJ BH) (Gs [_] (C3 [[_, _, _], [_, _, _], [_, _, _], [_, _, _], [_, _, _]] true Bb AJ Am) (h := Bz [_, _] (h := Aa Ae (Ad k (AT (Wk.frzl (f := C1) [(⟨_, _, _⟩ : Int × Int × Int), (⟨_, _, _⟩ : Int × Int × Int), (⟨_, _, _⟩ : Int × Int × Int), (⟨_, _, _⟩ : Int × Int × Int), (⟨_, _, _⟩ : Int × Int × Int)] 2 [_]) (Af (Aq ?_)))))))))))))))))))))))))))
    rw [Ci, if_neg (show ¬ b.code = 11 by assumption), if_neg (show ¬ b.code = 21 by assumption), if_neg (show ¬ b.code = 26 by assumption), if_neg (show ¬ b.code = 31 by assumption), if_neg (show ¬ b.code = 41 by assumption), if_neg (show ¬ b.code = 51 by assumption), if_pos (show b.code = 98 by assumption)] <;> rfl
  refine As (Ac fun _ k=>Aa Ab (Aa (AL AG Ah (hl := (by exact AY (hd 0 (by omega)) (by omega)))) (Aa (Bc Al) (Aa (Bj _ AJ BH) (A4 (C3 [[_, _, _]] true Bb AJ Am) (Aa Ae (Ad k (AT (Wk.frzl (f := C1) [(⟨_, _, _⟩ : Int × Int × Int)] 2 [_]) (Af (Aq ?_))))))))))
  rw [Ci, if_neg (show ¬ b.code = 11 by assumption), if_neg (show ¬ b.code = 21 by assumption), if_neg (show ¬ b.code = 26 by assumption), if_neg (show ¬ b.code = 31 by assumption), if_neg (show ¬ b.code = 41 by assumption), if_neg (show ¬ b.code = 51 by assumption), if_neg (show ¬ b.code = 98 by assumption)] <;> rfl
theorem abs_fun (n : Int) (h0 : -1000000000000 ≤ n) (h1 : n ≤ 1000000000000) : Fun Tryz.prog 213 [iL n] (AK (iL (absI n)) []) := by
  refine Fun.of (nt := 8) (rs := [.tmp 2]) Tryz.func213 rfl rfl rfl rfl rfl (Ac fun _ k=>Aa Ae (Ad k (An (Ac fun _ k=>Aa Ab (Aa Ay (Ad k (Ax (fun c1 => ?_) (fun c1 => ?_))))))))
  · refine Ac fun _ k=>Aa Ab (Aa BV (Aa Ae (Ad k (Af (Aq ?_)))))
    (congr 2; unfold absI; omega)
  refine As (Ac fun _ k=>Aa Ab (Aa Ae (Ad k (Af (Aq ?_)))))
  (congr 2; unfold absI; omega)
theorem absI_bd {n : Int} (h0 : -262144 ≤ n) (h1 : n ≤ 262144) : 0 ≤ absI n ∧ absI n ≤ 262144 := by unfold absI; omega
theorem rlegs_fun (b : Bar) (hok : Cg b) : Fun Tryz.prog 183 [.agg b.c] (AK (.sh 1 ((Co b).map Cz)) []) := by
  obtain ⟨hm1, hm2⟩ := GM hok; have hll := Fj b; rw [← hm1, List.length_map] at hll; rw [← hm1]; refine Fun.of (nt := 38) (rs := [.tmp 2]) Tryz.func183 rfl rfl rfl rfl rfl (Ac fun _ k=>A4 (Be _ true) (Aa Ae (Ad k (Ac fun _ k=>Aa (Av _ Cm Bv) (A3 (hF := moves_fun _ (by assumption)) (h := Aa Ae (Ad k (Ac fun _ k=>Aa Ae (Ad k (An (Ac fun _ k=>Aa Ae (Ad k (Ar (AT (Wk.nown Cz 4 3 1) (AI (ι := {p : List (Int × Int × Int) × List (Int × Int × Int) // p.1 ++ p.2 = (Ci b) ∧ True}) [1] [3] (fun ⟨(pre, suf), _⟩ => [(5, iL (pre.length : Int)), (4, .als 0 0 (pre.map G8).length)]) (fun ⟨(pre, suf), _⟩ => [(0, ⟨true, 3, 1, (pre.map G8).map Cz, true⟩)]) (fun ⟨(pre, suf), _⟩ => suf.length) ⟨([], (Ci b)), rfl, trivial⟩ (.c .n) (Aj) (Ag (h := (Ag))) ?_))))))))))))))); rintro ⟨⟨pre, suf⟩, hp, hinv⟩ R0 hR0; dsimp only [cA, nA, lC, lN]
  simp only at hp hinv
  have hpl := Cd hp
  rcases suf with _ | ⟨s, suf⟩
  · rw [List.append_nil] at hp; simp only [lN] at hpl; refine An (Ac fun _ k=>Aa Ab (Aa Ab (Aa (A7 Bb) (Aa Ay (Ad k (Ax (fun c1 => ?_) (fun c1 => ?_)))))))
    · omega
    refine AO (hR0 _ _ (Ac fun _ k=>Aa Ab (Aa Ae (Ad k (AT (Wk.frz 2 []) (Af (Aq ?_))))))); rw [← hp]
  obtain ⟨sx, sy, sz⟩ := s; simp only [lC] at hpl; have hidx := Ch hp; obtain ⟨g1, g2, g3, g4, g5, g6⟩ := hm2 (sx, sy, sz) (by rw [← hp]; simp)
  simp only at g1 g2 g3 g4 g5 g6
  obtain ⟨f1, f2⟩ := absI_bd g1 g2; obtain ⟨f3, f4⟩ := absI_bd g3 g4; obtain ⟨f5, f6⟩ := absI_bd g5 g6; have hml : (pre.map G8).length = pre.length := List.length_map _; refine An (Ac fun _ k=>Aa Ab (Aa Ab (Aa (A7 Bb) (Aa Ay (Ad k (Ax (fun c2 => ?_) (fun c2 => ?_)))))))
  · refine As (An (Ar (CH (C8 [(0, 0), (0, 0), (0, 0), (3, 6), (4, 14), (5, 30), (6, 62), (0, 0), (0, 0), (9, 384), (10, 896), (11, 1920), (12, 4094), (13, 8190), (0, 0), (0, 0), (16, 49152), (17, 114688), (18, 245760), (19, 516094), (20, 1048574), (21, 2097150), (22, 4194303), (23, 8388607)]) 22 fun _ k=>Ak Ab (Ak Ab (Ak Ab (Ak (AL Bb Am (hl := (by exact AY hidx (by omega)))) (Ak (BP 0 AU Ah) (Ak (Bc Al) (B1 (hF := abs_fun _ (by omega) (by omega)) (h := Ak Ab (Ak Ab (Ak (AL Bb Am (hl := (by exact AY hidx (by omega)))) (Ak (BP 1 Bi Ah) (Ak (Bc Al) (B1 (hF := abs_fun _ (by omega) (by omega)) (h := Ak A6 (Ak Ab (Ak Ab (Ak (AL Bb Am (hl := (by exact AY hidx (by omega)))) (Ak (BP 2 Bk Ah) (Ak (Bc Al) (B1 (hF := abs_fun _ (by omega) (by omega)) (h := Ak A6 (Gs [_] (C3 [[_]] true AG Ed Ah) (h := Bz [_, _] (h := DJ [_] AG Ed Ah am_by3 (hh := Cu) (hr := (CS [_])) (h := Aa Ae (Ad k ?_)))))))))))))))))))))))))))); show Ev _ _ _ _
    refine Ao fun _ k=>Aa Ab (Aa A6 (Aa Ae (Ad k (hR0 _ _ (A8 [89] [3] ⟨(pre ++ [(sx, sy, sz)], suf), B2 hp, trivial⟩ BX (Aj (he := (by simp [G8]))) (Ag (he := (by congr 2; simp)) (h := (Ag (he := (by congr 1; simp))))) (.c .n))))))
  omega
theorem rbendR_fun (d : Int) (h0 : 0 ≤ d) (h1 : d ≤ 1000) : Fun Tryz.prog 214 [iL d] (AK (iL (Ep d)) []) := by
  refine Fun.of (nt := 10) (rs := [.tmp 2]) Tryz.func214 rfl rfl rfl rfl rfl (Ac fun _ k=>Aa Ae (Ad k (An (Ac fun _ k=>Aa Ab (Aa BJ (Ad k (Ax (fun c1 => ?_) (fun c1 => ?_))))))))
  · refine Ac fun _ k=>Aa Ab (Aa BM (Aa q.quo (Aa Ae (Ad k (Af (Aq ?_)))))); rw [Ep, if_pos ‹_›]
  refine As (Ac fun _ k=>Aa Ab (Aa BM (Aa Ae (Ad k (Af (Aq ?_)))))); rw [Ep, if_neg ‹_›]
theorem rarc_fun (d : Int) (hz : d ∈ BR) : Fun Tryz.prog 215 [iL d] (AK (.agg [iL (arcLo d), iL (arcHi d)]) []) := by
  obtain ⟨h0, h1⟩ := size_bd hz; obtain ⟨b1, b2, b3, b4, b5, b6, b7, b8, b9, b10⟩ := bend_bd hz; have a1 : arcLo d = 500 * Ep d * 333 / 106 := rfl; have a2 : arcHi d = (500 * Ep d * 355 + 113 - 1) / 113 := rfl; refine Fun.of (nt := 16) (rs := [.cell 2 138]) Tryz.func215 rfl rfl rfl rfl rfl (Ac fun _ k=>A4 (Bd Dv) (Ad k (Ac fun _ k=>Aa Ab (A3 (hF := rbendR_fun _ (by omega) (by omega)) (h := Aa Ae (Ad k (Ac fun _ k=>Aa Ab (Aa BM (Aa BM (Aa q.quo (Aa Ab (Aa BM (Aa BM (Aa A6 (Aa q.quo (Aa (Bj _ Dv GI) (AC _ true [] EH Dc (h := Ad k (Af (BD (B7 [_, _] am_ag138 Dc BC) (⟨?_, rfl⟩))))))))))))))))))))); rw [a1, a2, show (500 * Ep d * 355 + 113 - 1) = 500 * Ep d * 355 + 112 by omega]
theorem rallowance_fun (d : Int) (hz : d ∈ BR) : Fun Tryz.prog 184 [iL d] (AK (.agg [iL (allLo d), iL (allHi d)]) []) := by
  obtain ⟨h0, h1⟩ := size_bd hz; obtain ⟨b1, b2, b3, b4, b5, b6, b7, b8, b9, b10⟩ := bend_bd hz; have a1 : arcLo d = 500 * Ep d * 333 / 106 := rfl; have a2 : arcHi d = (500 * Ep d * 355 + 113 - 1) / 113 := rfl; refine Fun.of (nt := 20) (rs := [.cell 2 138]) Tryz.func184 rfl rfl rfl rfl rfl (Ac fun _ k=>A4 (Bd Dv) (Ad k (Ac fun _ k=>Aa Ab (A3 (hF := rbendR_fun _ (by omega) (by omega)) (h := Aa Ab (A3 (hF := rarc_fun _ hz) (h := A4 (Bd Dv) (Aa Ae (AC _ true [_] EH Dc (h := Ad k (Ac fun _ k=>Aa Ab (Aa BM (Aa (Ap 1 am_fi138_1 Ah) (Aa (At Al) (Aa BV (Aa Ab (Aa BM (Aa (Ap 0 am_fi138_0 Ah) (Aa (At Al) (Aa BV (Aa (Bj _ Dv GI) (AC _ true [_] EH Dc (h := Ad k (Af (BD (B7 [_, _] am_ag138 Dc BC) (⟨?_, rfl⟩)))))))))))))))))))))))))); rfl
theorem rbends_fun (b : Bar) (hok : Cg b) : Fun Tryz.prog 185 [.agg b.c] (AK (iL (((Co b).length : Int) - 1)) []) := by
  have hl := Fj b; refine Fun.of (nt := 7) (rs := [.tmp 2]) Tryz.func185 rfl rfl rfl rfl rfl (Ac fun _ k=>A4 (Be _ true) (Aa Ae (Ad k (Ac fun _ k=>Aa (Av _ Cm Bv) (A3 (hF := rlegs_fun _ (by assumption)) (h := Aa (A7 AG) (Aa BV (Aa Ae (Ad k (Af (Aq ?_))))))))))); rfl
theorem rdeveloped_fun (b : Bar) (hok : Cg b) : Fun Tryz.prog 136 [.agg b.c] (AK (.agg [iL (devLo b), iL (devHi b)]) []) := by
  have hl := Fj b; have hz := hok.2.1; obtain ⟨b1, b2, b3, b4, b5, b6, b7, b8, b9, b10⟩ := bend_bd hz; obtain ⟨p1, p2, p3, p4, p5, p6⟩ := dev_bd hok; obtain ⟨s1, s2⟩ := legs_sum hok; refine Fun.of (nt := 40) (rs := [.cell 2 138]) Tryz.func136 rfl rfl rfl rfl rfl (Ac fun _ k=>A4 (Be _ true) (A4 (Bd Dv) (Ad k (Ac fun _ k=>Aa (Av _ Cm Bv) (A3 (hF := rlegs_fun _ (by assumption)) (h := Aa Ae (Ad k (Ac fun _ k=>Aa Ae (Ad k (An (Ac fun _ k=>Aa Ae (Ad k (Ar (AI (ι := {p : List (Int) × List (Int) // p.1 ++ p.2 = (Co b) ∧ True}) [0, 1] [1, 2, 3] (fun ⟨(pre, suf), _⟩ => [(5, iL (pre.length : Int)), (4, iL (1000 * BU pre))]) (fun ⟨(pre, suf), _⟩ => [(0, ⟨false, 72, 5, [[sL (b.mark), iL (b.size), iL (b.count), iL (b.code), .sh 1 ((b.dims).map Cz)]], true⟩), (1, ⟨false, 138, 2, [[iL (0), iL (0)]], true⟩)]) (fun ⟨(pre, suf), _⟩ => suf.length) ⟨([], (Co b)), rfl, trivial⟩ (.c (.c (.c .n))) (Aj (h := (Aj))) (Ag (h := (Ag))) ?_)))))))))))))); rintro ⟨⟨pre, suf⟩, hp, hinv⟩ R0 hR0; dsimp only [cA, nA, lC, lN]
  simp only at hp hinv
  have hpl := Cd hp
  rcases suf with _ | ⟨s, suf⟩
  · rw [List.append_nil] at hp; simp only [lN] at hpl; refine An (Ac fun _ k=>Aa Ab (Aa Ab (Aa (A7 AG) (Aa Ay (Ad k (Ax (fun c1 => ?_) (fun c1 => ?_)))))))
    · omega
    refine AO (hR0 _ _ (Ac fun _ k=>Aa (Ap 1 DT Ah) (Aa (At Al) (A3 (hF := rallowance_fun _ hok.2.1) (h := A4 (Bd Dv) (AC _ true [_, _] EH Dc (h := Ad k ?_))))))); rw [hp]; refine Ck (C8 [(0, 0), (0, 0), (2, 2), (0, 0), (4, 8), (5, 30), (6, 63), (0, 0), (0, 0), (9, 262), (0, 0), (11, 1024), (12, 3846), (13, 8070), (14, 16383), (15, 32767)]) 15 fun _ k=>Ak Ab (Ak (Av _ Cm Bv) (B1 (hF := rbends_fun _ (by assumption)) (h := Ak (Ap 1 am_fi138_1 Ah) (Ak (At Al) (Ak BM (Ak BV (Ak Ab (Ak (Av _ Cm Bv) (B1 (hF := rbends_fun _ (by assumption)) (h := Ak (Ap 0 am_fi138_0 Ah) (Ak (At Al) (Ak BM (Ak BV (Ak (Bj _ Dv GI) (Bz [_, _, _] (h := AC _ true [_, _] EH Dc (h := Ad k (Af (BD (B7 [_, _] am_ag138 Dc BC) (⟨?_, rfl⟩)))))))))))))))))))); rfl
  simp only [lC] at hpl; have hidx := Ch hp; have hsb := legs_in hok s (by rw [← hp]; simp); obtain ⟨hs1, hs2⟩ := sumI_bd pre (fun n hn => legs_in hok n (by rw [← hp]; simp [hn])); refine An (Ac fun _ k=>Aa Ab (Aa Ab (Aa (A7 AG) (Aa Ay (Ad k (Ax (fun c2 => ?_) (fun c2 => ?_)))))))
  · refine As (An (Ar (Ao fun _ k=>Aa Ab (Aa Ab (Aa Ab (Aa (AL AG Ah (hl := (by exact AY hidx (by omega)))) (Aa (Bc Al) (Aa BM (Aa A6 (Aa Ae (Ad k ?_))))))))))); show Ev _ _ _ _; refine Ao fun _ k=>Aa Ab (Aa A6 (Aa Ae (Ad k (hR0 _ _ (A8 [0, 1] [1, 2, 3] ⟨(pre ++ [s], suf), B2 hp, trivial⟩ BX (Aj (h := (Aj))) (Ag (he := (by congr 2; simp)) (h := (Ag (he := (by congr 2; rw [FL, show BU [s] = s by simp [BU]]; omega))))) (.c (.c (.c .n))))))))
  omega
theorem rcut_fun (b : Bar) (hok : Cg b) : Fun Tryz.prog 79 [.agg b.c] (AK (iL (Gu b)) []) := by
  obtain ⟨_, _, _, _, h1, h2⟩ := dev_bd hok; refine Fun.of (nt := 16) (rs := [.tmp 2]) Tryz.func79 rfl rfl rfl rfl rfl (Ac fun _ k=>A4 (Be _ true) (Aa Ae (Ad k (Ac fun _ k=>Aa (Av _ Cm Bv) (A3 (hF := rdeveloped_fun _ (by assumption)) (h := Aa (q.f1 am_fi138_1 Al) (Aa Ae (Ad k (Ac fun _ k=>Aa Ae (Ad k (An (Ac fun _ k=>Aa Ab (Aa Bh (Ad k (Ax (fun c1 => ?_) (fun c1 => ?_))))))))))))))))
  · refine Ao fun _ k=>Aa Ab (Aa A6 (Aa q.quo (Aa BM (Aa EI (Aa Ae (Ad k ?_)))))); show Ev _ _ _ _; refine Ac fun _ k=>Aa Ab (Aa Ae (Ad k (Af (Aq ?_))))
    (congr 2; unfold Gu; omega)
  refine As (Ac fun _ k=>Aa Ab (Aa Ae (Ad k (Af (Aq ?_)))))
  (congr 2; unfold Gu; omega)
theorem rmass_fun (d n : Int) (h : d ∈ BR) (h0 : 0 ≤ n) (h1 : n ≤ 1048576) : Fun Tryz.prog 78 [iL d, iL n] (AK (iL (massOf d n)) []) := by
  obtain ⟨m1, m2, m3, m4, m5, m6⟩ := mass_pre h h0 h1; refine Fun.of (nt := 13) (rs := [.tmp 4]) Tryz.func78 rfl rfl rfl rfl rfl (Ac fun _ k=>Aa Ae (Ad k (Ac fun _ k=>Aa Ab (Aa BM (Aa Ab (Aa BM (Aa Ab (Aa BM (Aa A6 (Aa q.quo (Aa Ae (Ad k (Af (Aq ?_)))))))))))))); rfl
theorem one_fun (b : Bar) (hok : Cg b) : Fun Tryz.prog 42 [.agg b.c] (AK (iL (Gw b)) []) := by
  obtain ⟨h1, h2⟩ := cutOf_bd hok; refine Fun.of (nt := 8) (rs := [.tmp 2]) Tryz.func42 rfl rfl rfl rfl rfl (Ac fun _ k=>A4 (Be _ true) (Aa Ae (Ad k (Ck (C8 [(0, 0), (1, 1), (0, 0), (3, 4), (4, 15), (5, 31)]) 5 fun _ k=>Ak (Ap 1 DT Ah) (Ak (At Al) (Ak (Av _ Cm Bv) (B1 (hF := rcut_fun _ (by assumption)) (h := B1 (hF := rmass_fun _ _ hok.2.1 (by omega) (by omega)) (h := Bz [_] (h := Aa Ae (Ad k (Af (Aq ?_))))))))))))); rfl
abbrev P3 := Int × Int × Int
structure Rn where
  mark : List UInt8
  tx : Int
  ty : Int
  ax : Int
  ay : Int
  az : Int
  sx : Int
  sy : Int
  sz : Int
  n : Int
def Rn.c : Rn → List AV
  | ⟨m, a, b, c, d, e, f, g, h, n⟩ => [sL m, iL a, iL b, iL c, iL d, iL e, iL f, iL g, iL h, iL n]
def Rn.at (r : Rn) : P3 := (r.ax, r.ay, r.az)
def Rn.st (r : Rn) : P3 := (r.sx, r.sy, r.sz)
def axOK (n : Int) : Prop := n ≠ 0 ∧ -3 ≤ n ∧ n ≤ 3
instance (n) : Decidable (axOK n) := by unfold axOK; infer_instance
def CR (x y : Int) : Prop := axOK x ∧ axOK y ∧ x ≠ y ∧ x ≠ -y
instance (x y) : Decidable (CR x y) := by unfold CR; infer_instance
def uV (n i : Int) : Int := if n = i then 1 else if n = -i then -1 else 0
theorem Fz (n i : Int) : -1 ≤ uV n i ∧ uV n i ≤ 1 := by
  unfold uV
  split
  · omega
  split <;> omega
theorem El {a b A B : Int} (ha : -A ≤ a ∧ a ≤ A) (hb : -B ≤ b ∧ b ≤ B) : -(A * B) ≤ a * b ∧ a * b ≤ A * B := by
  have hA : 0 ≤ A := by omega
  have hB : 0 ≤ B := by omega
  rcases Int.le_total 0 a with h | h <;> rcases Int.le_total 0 b with h' | h'
  · have h1 := Int.mul_le_mul ha.2 hb.2 h' hA; have h2 := Int.mul_nonneg h h'; have h3 := Int.mul_nonneg hA hB; omega
  · have h1 := Int.mul_le_mul ha.2 (show -b ≤ B by omega) (by omega) hA; have h2 := Int.mul_nonneg h (show 0 ≤ -b by omega); have h3 := Int.mul_nonneg hA hB; rw [Int.mul_neg] at h1 h2; omega
  · have h1 := Int.mul_le_mul (show -a ≤ A by omega) hb.2 h' hA; have h2 := Int.mul_nonneg (show 0 ≤ -a by omega) h'; have h3 := Int.mul_nonneg hA hB; rw [Int.neg_mul] at h1 h2; omega
  have h1 := Int.mul_le_mul (show -a ≤ A by omega) (show -b ≤ B by omega) (by omega) hA; have h2 := Int.mul_nonneg (show 0 ≤ -a by omega) (show 0 ≤ -b by omega); have h3 := Int.mul_nonneg hA hB; rw [Int.neg_mul_neg] at h1 h2; omega
def crX (x y : Int) : Int := uV x 2 * uV y 3 - uV x 3 * uV y 2
def crY (x y : Int) : Int := uV x 3 * uV y 1 - uV x 1 * uV y 3
def crZ (x y : Int) : Int := uV x 1 * uV y 2 - uV x 2 * uV y 1
theorem cr_in (x y : Int) : (-2 ≤ crX x y ∧ crX x y ≤ 2) ∧ (-2 ≤ crY x y ∧ crY x y ≤ 2) ∧ -2 ≤ crZ x y ∧ crZ x y ≤ 2 := by
  have h : ∀ i j : Int, -1 ≤ uV x i * uV y j ∧ uV x i * uV y j ≤ 1 := fun i j => by
    have := El (Fz x i) (Fz y j); omega
  have h1 := h 2 3; have h2 := h 3 2; have h3 := h 3 1; have h4 := h 1 3; have h5 := h 1 2; have h6 := h 2 1
  unfold crX crY crZ
  omega
def CX (p : P3) : Prop := (-1048576 ≤ p.1 ∧ p.1 ≤ 1048576) ∧ (-1048576 ≤ p.2.1 ∧ p.2.1 ≤ 1048576) ∧ -1048576 ≤ p.2.2 ∧ p.2.2 ≤ 1048576
instance (p) : Decidable (CX p) := by unfold CX; infer_instance
def Gj (l : List P3) : Prop := ∀ p ∈ l, CX p
instance (l) : Decidable (Gj l) := by unfold Gj; infer_instance
def Gc (x y : Int) (p : P3) : P3 := (uV x 1 * p.1 + uV y 1 * p.2.1 + crX x y * p.2.2, uV x 2 * p.1 + uV y 2 * p.2.1 + crY x y * p.2.2, uV x 3 * p.1 + uV y 3 * p.2.1 + crZ x y * p.2.2)
theorem im_bd {x y : Int} {p : P3} (h : CX p) (i : Int) : (-1048576 ≤ uV x i * p.1 ∧ uV x i * p.1 ≤ 1048576) ∧ (-1048576 ≤ uV y i * p.2.1 ∧ uV y i * p.2.1 ≤ 1048576) := by
  have h1 := El (Fz x i) h.1; have h2 := El (Fz y i) h.2.1; omega
theorem im_bd3 {x y : Int} {p : P3} (h : CX p) : (-2097152 ≤ crX x y * p.2.2 ∧ crX x y * p.2.2 ≤ 2097152) ∧ (-2097152 ≤ crY x y * p.2.2 ∧ crY x y * p.2.2 ≤ 2097152) ∧ -2097152 ≤ crZ x y * p.2.2 ∧ crZ x y * p.2.2 ≤ 2097152 := by
  obtain ⟨g1, g2, g3⟩ := cr_in x y; have h1 := El g1 h.2.2; have h2 := El g2 h.2.2; have h3 := El g3 h.2.2; omega
def D3 (p q : P3) : P3 := (p.1 + q.1, p.2.1 + q.2.1, p.2.2 + q.2.2)
def frE (x y : Int) (at_ : P3) (l : List P3) : Int := if CR x y then (if l.length ≤ 1000 then (if CX at_ ∧ Gj l then 0 else 2) else 4) else 1
def frV (x y : Int) (at_ : P3) (l : List P3) : List P3 := if frE x y at_ l = 0 then l.map (fun p => D3 at_ (Gc x y p)) else []
theorem frE1 {x y : Int} {at_ : P3} {l : List P3} (h : ¬ CR x y) : frE x y at_ l = 1 ∧ frV x y at_ l = [] := by
  have e : frE x y at_ l = 1 := if_neg h; exact ⟨e, if_neg (by omega)⟩
theorem frE4 {x y : Int} {at_ : P3} {l : List P3} (h : CR x y) (h2 : ¬ l.length ≤ 1000) : frE x y at_ l = 4 ∧ frV x y at_ l = [] := by
  have e : frE x y at_ l = 4 := (if_pos h).trans (if_neg h2); exact ⟨e, if_neg (by omega)⟩
theorem frE2 {x y : Int} {at_ : P3} {l : List P3} (h : CR x y) (h2 : l.length ≤ 1000) (h3 : ¬ (CX at_ ∧ Gj l)) : frE x y at_ l = 2 ∧ frV x y at_ l = [] := by
  have e : frE x y at_ l = 2 := ((if_pos h).trans (if_pos h2)).trans (if_neg h3); exact ⟨e, if_neg (by omega)⟩
theorem frE0 {x y : Int} {at_ : P3} {l : List P3} (h : CR x y) (h2 : l.length ≤ 1000) (h3 : CX at_ ∧ Gj l) : frE x y at_ l = 0 ∧ frV x y at_ l = l.map (fun p => D3 at_ (Gc x y p)) := by
  have e : frE x y at_ l = 0 := ((if_pos h).trans (if_pos h2)).trans (if_pos h3); exact ⟨e, if_pos e⟩
def FR (b : Bar) (p : P3) (s : Int × Int) : P3 :=
  if s.2 = 120 then (p.1 + Bm b s.1.toNat, p.2) else if s.2 = 88 then (p.1 - Bm b s.1.toNat, p.2) else if s.2 = 121 then (p.1, p.2.1 + Bm b s.1.toNat, p.2.2)
  else if s.2 = 89 then (p.1, p.2.1 - Bm b s.1.toNat, p.2.2) else if s.2 = 122 then (p.1, p.2.1, p.2.2 + Bm b s.1.toNat) else p
def GH (b : Bar) (l : List (Int × Int)) : P3 := l.foldl (FR b) (0, 0, 0)
def EC (b : Bar) : List (Int × Int) → P3 → List P3
  | [], p => [p]
  | s :: l, p => p :: EC b l (FR b p s)
theorem endG_snoc (b : Bar) (l : List (Int × Int)) (s : Int × Int) : GH b (l ++ [s]) = FR b (GH b l) s := by simp [GH]
theorem pathG_snoc (b : Bar) (s : Int × Int) : ∀ (l : List (Int × Int)) (p : P3), EC b (l ++ [s]) p = EC b l p ++ [FR b (l.foldl (FR b) p) s]
  | [], p => rfl
  | t :: l, p => by rw [List.cons_append, EC, pathG_snoc b s l, EC]; rfl
theorem pathG_len (b : Bar) : ∀ (l : List (Int × Int)) (p : P3), (EC b l p).length = l.length + 1
  | [], _ => rfl
  | t :: l, p => by rw [EC, List.length_cons, pathG_len b l, List.length_cons]
def EN (b : Bar) : List P3 := EC b (Dd b.code) (0, 0, 0)
def Fd (b : Bar) : List P3 := if Cg b then EN b else []
theorem legsL_len (k : Int) : (Dd k).length ≤ 6 := by
  unfold Dd
  repeat' split
  all_goals decide
theorem shpV_len (b : Bar) : (Fd b).length ≤ 7 := by
  unfold Fd
  split
  · have := legsL_len b.code; rw [EN, pathG_len]; omega
  simp
def BI (p : P3) (m : Int) : Prop := (-m ≤ p.1 ∧ p.1 ≤ m) ∧ (-m ≤ p.2.1 ∧ p.2.1 ≤ m) ∧ -m ≤ p.2.2 ∧ p.2.2 ≤ m
instance (p m) : Decidable (BI p m) := by unfold BI; infer_instance
def Gf (p s : P3) (k : Int) : P3 := (p.1 + k * s.1, p.2.1 + k * s.2.1, p.2.2 + k * s.2.2)
def Bg (bars : List Bar) (mk : List UInt8) : Bar := (bars[(D0 bars mk).toNat]?).getD ⟨[], 0, 0, 0, []⟩
def C4 (bars : List Bar) (r : Rn) : List P3 := frV r.tx r.ty (0, 0, 0) (Fd (Bg bars r.mark))
def ptP (r : Rn) (k : Int) (p : P3) : P3 := if k > 0 then Gf (Gf p r.at 1) r.st k else Gf p r.at 1
def Fo (bars : List Bar) (r : Rn) : Prop :=
  0 ≤ D0 bars r.mark ∧ CR r.tx r.ty ∧ (1 ≤ r.n ∧ r.n ≤ 1000) ∧ BI r.at 1048576 ∧ (r.n > 1 → ¬ (r.sx = 0 ∧ r.sy = 0 ∧ r.sz = 0) ∧ BI r.st 2097152) ∧
    (∀ p ∈ C4 bars r, BI (ptP r 0 p) 1048576) ∧ ∀ p ∈ C4 bars r, BI (ptP r (r.n - 1) p) 1048576
instance (bars r) : Decidable (Fo bars r) := by unfold Fo; infer_instance
def Dt (runs : List Rn) : Int := (runs.map (·.n)).sum
def runW (l : List Rn) : Prop := ∀ r ∈ l, r.mark.length ≤ 140737488355328
def Dq (bars : List Bar) (runs : List Rn) : Prop := CJ bars ∧ runs.length ≤ 60 ∧ (∀ r ∈ runs, Fo bars r) ∧ Dt runs ≤ 2000
instance (bars runs) : Decidable (Dq bars runs) := by unfold Dq; infer_instance
def Place (n : Int) : Prop := -1048576 ≤ n ∧ n ≤ 1048576
instance (n) : Decidable (Place n) := by unfold Place; infer_instance
def okStp (s : Int × Int) : Prop := Place s.1 ∧ 0 ≤ s.2 ∧ s.2 ≤ 1099511627776
instance (s) : Decidable (okStp s) := by unfold okStp; infer_instance
def okSteps (l : List (Int × Int)) : Prop := l.length ≤ 200 ∧ (∀ s ∈ l, okStp s) ∧ l.Pairwise fun a b => a.1 < b.1
instance (l) : Decidable (okSteps l) := by unfold okSteps; infer_instance
theorem asc_snoc {pre : List (Int × Int)} {s : Int × Int} (h : pre.Pairwise fun a b => a.1 < b.1) (hl : ∀ h : 0 < pre.length, (pre.getLast (List.ne_nil_of_length_pos h)).1 < s.1) : (pre ++ [s]).Pairwise fun a b => a.1 < b.1 := by
  refine List.pairwise_append.2 ⟨h, by simp, fun a ha b hb => ?_⟩; simp only [List.mem_singleton] at hb; subst hb; have hpos : 0 < pre.length := List.length_pos_of_mem ha; have h2 := hl hpos; have hne := List.ne_nil_of_length_pos hpos; rw [← List.dropLast_concat_getLast hne] at h ha; rw [List.pairwise_append] at h
  rcases List.mem_append.1 ha with ha | ha
  · have := h.2.2 a ha _ (List.mem_singleton_self _); omega
  simp only [List.mem_singleton] at ha; rw [ha]; exact h2
theorem steps_snoc {pre : List (Int × Int)} {s : Int × Int} (h : (∀ x ∈ pre, okStp x) ∧ pre.Pairwise fun a b => a.1 < b.1) (hs : okStp s) (hl : ∀ h : 0 < pre.length, (pre.getLast (List.ne_nil_of_length_pos h)).1 < s.1) : (∀ x ∈ pre ++ [s], okStp x) ∧ (pre ++ [s]).Pairwise fun a b => a.1 < b.1 := by
  refine ⟨fun x hx => ?_, asc_snoc h.2 hl⟩; simp only [List.mem_append, List.mem_singleton] at hx
  rcases hx with hx | rfl
  · exact h.1 x hx
  exact hs
theorem steps_cut {pre suf l : List (Int × Int)} {s : Int × Int} (hp : pre ++ s :: suf = l) (h : okSteps l) : okStp s ∧ ∀ h : 0 < pre.length, (pre.getLast (List.ne_nil_of_length_pos h)).1 < s.1 := by
  obtain ⟨h1, h2, h3⟩ := h; refine ⟨h2 s (by rw [← hp]; simp), fun hpos => ?_⟩; rw [← hp, List.pairwise_append] at h3; exact h3.2.2 _ (List.getLast_mem _) s (by simp)
theorem place_fun (n : Int) : Fun Tryz.prog 216 [iL n] (AK (bL (decide (Place n))) []) := by
  refine Fun.of (nt := 9) (rs := [.tmp 2]) Tryz.func216 rfl rfl rfl rfl rfl (Ac fun _ k=>Aa Ae (Ad k (Ac fun _ k=>Aa Ab (Aa C7 (AP Ab (fun c1 => ?_) (fun c1 => ?_))))))
  · refine Aa Ab (Aa BJ (Aa A5 (Aa Ae (Ad k (Af (Aq ?_)))))); exact dI (by unfold Place; omega)
  refine Ai (Aa Au (Aa Ae (Ad k (Af (Aq ?_))))); exact bF (by unfold Place; omega)
theorem rbetween_fun (x lo hi : Int) : Fun Tryz.prog 133 [iL x, iL lo, iL hi] (AK (bL (decide (lo ≤ x ∧ x ≤ hi))) []) := by
  refine Fun.of (nt := 15) (rs := [.tmp 6]) Tryz.func133 rfl rfl rfl rfl rfl (Ac fun _ k=>Aa Ae (Ad k (Ac fun _ k=>Aa Ab (Aa Ab (Aa C7 (AP Ab (fun c1 => ?_) (fun c1 => ?_)))))))
  · refine Aa Ab (Aa Ab (Aa BJ (Aa A5 (Aa Ae (Ad k (Af (Aq ?_))))))); exact dI (by omega)
  refine Ai (A9 (Aa Au (Aa Ae (Ad k (Af (Aq ?_)))))); exact bF (by omega)
theorem rplace_fun (n : Int) : Fun Tryz.prog 132 [iL n] (AK (bL (decide (Place n))) []) := by
  refine Fun.of (nt := 5) (rs := [.tmp 2]) Tryz.func132 rfl rfl rfl rfl rfl (Ac fun _ k=>Aa Ae (Ad k (Ac fun _ k=>Aa Ab (A3 (hF := rbetween_fun _ _ _) (h := Aa Ae (Ad k (Af (Aq ?_)))))))); rfl
theorem stepsValid_fun (l : List (Int × Int)) (hlen : l.length ≤ 140737488355328) : Fun Tryz.prog 186 [.sh 2 (l.map CB)] (AK (bL (decide (okSteps l))) []) := by
  refine Fun.of (nt := 45) (rs := [.tmp 2]) Tryz.func186 rfl rfl rfl rfl rfl (Ac fun _ k=>Aa Ae (Ad k (An (Ac fun _ k=>Aa Ab (Aa (A7 CG) (Aa Bh (Ad k (Ax (fun c1 => ?_) (fun c1 => ?_)))))))))
  · refine Ac fun _ k=>Aa Ae (Ad k (Af (Aq ?_))); exact bF (fun h => by have h1 := h.1; omega)
  refine As (An (Ac fun _ k=>Aa Ab (Aa (A7 CG) (Aa Ab (Ad k (Ar (AI (ι := {q : List (Int × Int) × List (Int × Int) // q.1 ++ q.2 = l ∧ (∀ x ∈ q.1, okStp x) ∧ q.1.Pairwise fun a b => a.1 < b.1}) [] [0, 8, 9] (fun ⟨(pre, suf), _⟩ => [(10, iL (pre.length : Int))]) (fun ⟨(pre, suf), _⟩ => []) (fun ⟨(pre, suf), _⟩ => suf.length) ⟨([], l), rfl, fun x hx => by simp at hx, .nil⟩ (.c (.c (.c .n))) AW (Ag) ?_))))))); rintro ⟨⟨pre, suf⟩, hp, hinv⟩ R0 hR0; dsimp only [cA, nA, lC, lN]
  simp only at hp hinv
  have hpl := Cd hp
  rcases suf with _ | ⟨s, suf⟩
  · rw [List.append_nil] at hp; simp only [lN] at hpl; refine Ac fun _ k=>Aa Ay (Ad k (By (fun c2 => ?_) (fun c2 => ?_)))
    · omega
    refine AO (hR0 _ _ (Ac fun _ k=>Aa Ae (Ad k (Af (Aq ?_))))); exact bT ⟨by omega, by rw [← hp]; exact hinv⟩
  simp only [lC] at hpl; have hidx := Ch hp; obtain ⟨sx, sy⟩ := s; have hprev := fun h => pre_last (pre := pre) hp h; refine Ac fun _ k=>Aa Ay (Ad k (By (fun c8 => ?_) (fun c8 => ?_)))
  · refine An (Ar (Ac fun _ k=>Aa Ab (Aa (AL CG Dw (hl := (by exact AY hidx (by omega)))) (Aa (BF _ am_ag62 Dw) (A4 (Bd am_ze62) (Aa Ae (AC _ true [] am_in62 Dw (h := Ad k (Ck (C8 [(0, 0), (1, 1), (2, 3), (3, 7), (4, 15), (5, 31), (6, 63), (7, 127), (8, 255), (9, 511), (10, 1023), (11, 2047), (12, 4095), (13, 8191), (14, 16383), (15, 32767), (16, 65535), (17, 131071), (18, 262143), (19, 524287), (18, 262143), (18, 262143), (22, 2359295), (23, 7602175), (24, 15990783), (25, 32767999), (26, 67108863), (27, 134217727), (28, 268435455)]) 29 fun _ k=>Ak (Ap 0 GD Ah) (Ak (At Al) (B1 (hF := place_fun _) (h := Ak BB (M.bn Ab (fun c9 => ?_) (fun c9 => ?_))))))))))))))
    · refine AE (AE (AE (Ak A5 (Ak Ab (AE (AE (AE (Ak A5 (Ak Ab (AE (AE (AE (AE (AE (AE (AE (AE (AE (AE (AE (AE (AE (Ak A5 (Bz [_] (h := Ad k (B3 (Ac fun _ k=>Aa Ae (Ad k (Af (hR0 _ _ (Aq ?_))))))))))))))))))))))))))))))); exact bF (fun h => absurd (steps_cut hp h).1.1 ‹_›)
    refine Ak (Ap 1 am_fi62_1 Ah) (Ak (At Al) (Ak Ay (Ak Au (M.bd Ab (fun c10 => ?_) (fun c10 => ?_)))))
    · refine AE (AE (AE (Ak A5 (Ak Ab (AE (AE (AE (AE (AE (AE (AE (AE (AE (AE (AE (AE (AE (Ak A5 (Bz [_] (h := Ad k (B3 (Ac fun _ k=>Aa Ae (Ad k (Af (hR0 _ _ (Aq ?_)))))))))))))))))))))))))); exact bF (fun h => by have h1 := (steps_cut hp h).1.2; simp only at h1; omega)
    refine Ak (Ap 1 am_fi62_1 Ah) (Ak (At Al) (Ak Bh (Ak Au (M.bd Ab (fun c11 => ?_) (fun c11 => ?_)))))
    · refine AE (AE (AE (AE (AE (AE (AE (AE (AE (AE (AE (AE (AE (Ak A5 (Bz [_] (h := Ad k (B3 (Ac fun _ k=>Aa Ae (Ad k (Af (hR0 _ _ (Aq ?_))))))))))))))))))))); exact bF (fun h => by have h1 := (steps_cut hp h).1.2; simp only at h1; omega)
    refine Ak Ab (Ak Bh (M.bd Ab (fun c12 => ?_) (fun c12 => ?_)))
    · refine Ak (Ap 0 GD Ah) (Ak (At Al) (Ak Ab (Ak Ab (Ak BV (Ak (AL CG Dw (hl := (by exact AY (hprev (by omega)) (by omega)))) (Ak (BP 0 GD Ah) (Ak (Bc Al) (Ak BJ (Ak A5 (Ak Au (Bz [_] (h := Ad k (Ax (fun c13 => ?_) (fun c13 => ?_))))))))))))))
      · refine Ac fun _ k=>Aa Ae (Ad k (Af (hR0 _ _ (Aq ?_)))); exact bF (fun h => by have h1 := (steps_cut hp h).2 (by omega); simp only at h1; omega)
      refine As (Ao fun _ k=>Aa A6 (Aa Ab (Ad k (hR0 _ _ (A8 [] [0, 8, 9] ⟨(pre ++ [(sx, sy)], suf), B2 hp, ?_⟩ BX AW (Ag (he := (by simp))) (.c (.c (.c .n)))))))); refine steps_snoc hinv ?_ ?_
      · refine ⟨?_, by dsimp only; omega, by dsimp only; omega⟩
        assumption
      · intro h
        dsimp only
        omega
    refine AE (AE (AE (AE (AE (AE (AE (AE (AE (Ak Au (Ak Au (Bz [_] (h := Ad k (Ei (As (Ao fun _ k=>Aa A6 (Aa Ab (Ad k (hR0 _ _ (A8 [] [0, 8, 9] ⟨(pre ++ [(sx, sy)], suf), B2 hp, ?_⟩ BX AW (Ag (he := (by simp))) (.c (.c (.c .n)))))))))))))))))))))); refine steps_snoc hinv ?_ ?_
    · refine ⟨?_, by dsimp only; omega, by dsimp only; omega⟩
      assumption
    · intro h
      dsimp only
      omega
  omega
theorem rstepsValid_fun (l : List (Int × Int)) (hlen : l.length ≤ 140737488355328) : Fun Tryz.prog 74 [.sh 2 (l.map CB)] (AK (bL (decide (okSteps l))) []) := by
  refine Fun.of (nt := 47) (rs := [.tmp 2]) Tryz.func74 rfl rfl rfl rfl rfl (Ac fun _ k=>Aa Ae (Ad k (An (Ac fun _ k=>Aa Ab (Aa (A7 CG) (Aa Bh (Ad k (Ax (fun c1 => ?_) (fun c1 => ?_)))))))))
  · refine Ac fun _ k=>Aa Ae (Ad k (Af (Aq ?_))); exact bF (fun h => by have h1 := h.1; omega)
  refine As (An (Ac fun _ k=>Aa Ae (Ad k (Ar (AI (ι := {q : List (Int × Int) × List (Int × Int) // q.1 ++ q.2 = l ∧ (∀ x ∈ q.1, okStp x) ∧ q.1.Pairwise fun a b => a.1 < b.1}) [] [0] (fun ⟨(pre, suf), _⟩ => [(3, iL (pre.length : Int))]) (fun ⟨(pre, suf), _⟩ => []) (fun ⟨(pre, suf), _⟩ => suf.length) ⟨([], l), rfl, fun x hx => by simp at hx, .nil⟩ (.c .n) AW (Ag) ?_))))); rintro ⟨⟨pre, suf⟩, hp, hinv⟩ R0 hR0; dsimp only [cA, nA, lC, lN]
  simp only at hp hinv
  have hpl := Cd hp
  rcases suf with _ | ⟨s, suf⟩
  · rw [List.append_nil] at hp; simp only [lN] at hpl; refine An (Ac fun _ k=>Aa Ab (Aa Ab (Aa (A7 CG) (Aa Ay (Ad k (Ax (fun c2 => ?_) (fun c2 => ?_)))))))
    · omega
    refine AO (hR0 _ _ (Ac fun _ k=>Aa Ae (Ad k (Af (Aq ?_))))); exact bT ⟨by omega, by rw [← hp]; exact hinv⟩
  simp only [lC] at hpl; have hidx := Ch hp; obtain ⟨sx, sy⟩ := s; have hprev := fun h => pre_last (pre := pre) hp h; refine An (Ac fun _ k=>Aa Ab (Aa Ab (Aa (A7 CG) (Aa Ay (Ad k (Ax (fun c7 => ?_) (fun c7 => ?_)))))))
  · refine As (An (Ar (Ck (C8 [(0, 0), (0, 0), (2, 3), (3, 7), (4, 15), (5, 31), (6, 63), (7, 127), (8, 255), (8, 255), (10, 1023), (11, 2047), (12, 4095), (13, 8191), (14, 16383), (15, 32767), (16, 65535), (17, 131071), (18, 262143), (19, 524287), (20, 1048575), (20, 1048575), (22, 4194303), (23, 8388607), (24, 16777215), (20, 1048575), (20, 1048575), (27, 68157439), (28, 235929599), (29, 504365055), (30, 1041235967), (31, 2147483647), (32, 4294967295), (33, 8589934591)]) 34 fun _ k=>Ak Ab (Ak Ab (Ak (AL CG Dw (hl := (by exact AY hidx (by omega)))) (Ak (BP 0 GD Ah) (Ak (Bc Al) (B1 (hF := rplace_fun _) (h := Ak BB (M.bn Ab (fun c8 => ?_) (fun c8 => ?_)))))))))))
    · refine AE (AE (AE (AE (AE (AE (AE (Ak A5 (Ak Ab (AE (AE (AE (AE (AE (AE (AE (AE (AE (AE (AE (AE (AE (AE (AE (AE (Ak A5 (Bz [] (h := Ad k (B3 (Ac fun _ k=>Aa Ae (Ad k (Af (hR0 _ _ (Aq ?_))))))))))))))))))))))))))))))))); exact bF (fun h => absurd (steps_cut hp h).1.1 ‹_›)
    refine Ak Ab (Ak Ab (Ak (AL CG Dw (hl := (by exact AY hidx (by omega)))) (Ak (BP 1 am_fi62_1 Ah) (Ak (Bc Al) (B1 (hF := rbetween_fun _ _ _) (h := Ak BB (Ak Au (M.bn Ab (fun c9 => ?_) (fun c9 => ?_)))))))))
    · refine AE (AE (AE (AE (AE (AE (AE (AE (AE (AE (AE (AE (AE (AE (AE (AE (Ak A5 (Bz [] (h := Ad k (B3 (Ac fun _ k=>Aa Ae (Ad k (Af (hR0 _ _ (Aq ?_)))))))))))))))))))))))); exact bF (fun h => by have h1 := (steps_cut hp h).1.2; simp only at h1; omega)
    refine Ak Ab (Ak Bh (M.bd Ab (fun c10 => ?_) (fun c10 => ?_)))
    · refine Ak Ab (Ak Ab (Ak (AL CG Dw (hl := (by exact AY hidx (by omega)))) (Ak (BP 0 GD Ah) (Ak (Bc Al) (Ak Ab (Ak Ab (Ak BV (Ak (AL CG Dw (hl := (by exact AY (hprev (by omega)) (by omega)))) (Ak (BP 0 GD Ah) (Ak (Bc Al) (Ak BJ (Ak A5 (Ak Au (Bz [] (h := Ad k (Ax (fun c11 => ?_) (fun c11 => ?_)))))))))))))))))
      · refine Ac fun _ k=>Aa Ae (Ad k (Af (hR0 _ _ (Aq ?_)))); exact bF (fun h => by have h1 := (steps_cut hp h).2 (by omega); simp only at h1; omega)
      refine As (Ao fun _ k=>Aa Ab (Aa A6 (Aa Ae (Ad k (hR0 _ _ (A8 [] [0] ⟨(pre ++ [(sx, sy)], suf), B2 hp, ?_⟩ BX AW (Ag (he := (by simp))) (.c .n))))))); refine steps_snoc hinv ?_ ?_
      · refine ⟨?_, by dsimp only; omega, by dsimp only; omega⟩
        assumption
      · intro h
        dsimp only
        omega
    refine AE (AE (AE (AE (AE (AE (AE (AE (AE (AE (AE (AE (Ak Au (Ak Au (Bz [] (h := Ad k (Ei (As (Ao fun _ k=>Aa Ab (Aa A6 (Aa Ae (Ad k (hR0 _ _ (A8 [] [0] ⟨(pre ++ [(sx, sy)], suf), B2 hp, ?_⟩ BX AW (Ag (he := (by simp))) (.c .n)))))))))))))))))))))))); refine steps_snoc hinv ?_ ?_
    · refine ⟨?_, by dsimp only; omega, by dsimp only; omega⟩
      assumption
    · intro h
      dsimp only
      omega
  omega
structure Bx where
  lx : Int
  ly : Int
  lz : Int
  hx : Int
  hy : Int
  hz : Int
def Bx.c : Bx → List AV
  | ⟨a, b, c, d, e, f⟩ => [iL a, iL b, iL c, iL d, iL e, iL f]
def C5 (b : Bx) : Prop := (b.lx ≤ b.hx ∧ -1048576 ≤ b.lx ∧ b.hx ≤ 1048576) ∧ (b.ly ≤ b.hy ∧ -1048576 ≤ b.ly ∧ b.hy ≤ 1048576) ∧ (b.lz ≤ b.hz ∧ -1048576 ≤ b.lz ∧ b.hz ≤ 1048576)
instance (b) : Decidable (C5 b) := by unfold C5; infer_instance
structure Dem where
  name : List UInt8
  zone : Bx
  steps : List (Int × Int)
def Dem.c : Dem → List AV
  | ⟨n, ⟨a, b, c, d, e, f⟩, s⟩ => [sL n, iL a, iL b, iL c, iL d, iL e, iL f, .sh 2 (s.map CB)]
def okDem (d : Dem) : Prop := FM d.name ∧ C5 d.zone ∧ okSteps d.steps
instance (d) : Decidable (okDem d) := by unfold okDem; infer_instance
def Dem.w (d : Dem) : Prop := d.name.length ≤ 140737488355328 ∧ d.steps.length ≤ 140737488355328
def demW (l : List Dem) : Prop := ∀ d ∈ l, d.w
def okDems (l : List Dem) : Prop := l.length ≤ 20 ∧ (∀ d ∈ l, okDem d) ∧ l.Pairwise (fun a b => a.name ≠ b.name)
instance (l) : Decidable (okDems l) := by unfold okDems; infer_instance
def demI (l : List Dem) (n : List UInt8) : Int := CN (fun d => decide (d.name = n)) l 0
theorem demI_at {pre suf l : List Dem} {s : Dem} (hp : pre ++ s :: suf = l) : demI l s.name = pre.length ↔ ∀ a ∈ pre, a.name ≠ s.name := by
  constructor
  · intro h a ha hm; obtain ⟨p1, p2, rfl⟩ := List.append_of_mem ha
    have hle : demI l s.name ≤ p1.length := by
      rw [← hp, demI, List.append_assoc]
      have : ∀ (q : List Dem) (k : Int) (r : List Dem), a.name = s.name → CN (fun b : Dem => decide (b.name = s.name)) (q ++ a :: r) k ≤ k + q.length := by
        intro q
        induction q with
        | nil => intro k r hm; rw [List.nil_append, CN, if_pos (by simp [hm])]; simp
        | cons x q ih =>
          intro k r hm; rw [List.cons_append, CN]
          split
          · simp only [List.length_cons]; omega
          have := ih (k + 1) r hm; simp only [List.length_cons]; omega
      have := this p1 0 (p2 ++ s :: suf) hm
      simpa using this
    rw [h] at hle; simp only [List.length_append, List.length_cons] at hle; omega
  intro h; rw [demI, ← hp, DD _ pre _ 0 (fun a ha => by simp [h a ha]), CN, if_pos (by simp)]; omega
theorem dems_cut {pre suf l : List Dem} {s : Dem} (hp : pre ++ s :: suf = l) (h : okDems l) : okDem s ∧ ∀ a ∈ pre, a.name ≠ s.name := by
  obtain ⟨h1, h2, h3⟩ := h; refine ⟨h2 s (by rw [← hp]; simp), fun a ha => ?_⟩; rw [← hp, List.pairwise_append] at h3; exact h3.2.2 a ha s (by simp)
theorem dems_snoc {pre : List Dem} {s : Dem} (h : (∀ b ∈ pre, okDem b) ∧ pre.Pairwise (fun a b => a.name ≠ b.name)) (h1 : okDem s) (h2 : ∀ a ∈ pre, a.name ≠ s.name) :
    (∀ b ∈ pre ++ [s], okDem b) ∧ (pre ++ [s]).Pairwise (fun a b => a.name ≠ b.name) := by
  refine ⟨fun b hb => ?_, List.pairwise_append.2 ⟨h.2, by simp, fun a ha b hb => ?_⟩⟩
  · rcases List.mem_append.1 hb with hb | hb
    · exact h.1 b hb
    simp at hb; subst hb; exact h1
  simp at hb; subst hb
  exact h2 a ha
theorem take_pre {T : Type} {pre suf l : List T} {s : T} (hp : pre ++ s :: suf = l) : l.take pre.length = pre := by rw [← hp, List.take_left]
def smD (l : List Dem) (most : Int) : Prop := ¬ ((l.length : Int) > most ∧ l.length ≤ 20 ∨ l.length > 25) ∧ ∀ d ∈ l, ¬ (d.name.length > 60 ∨ (d.steps.length : Int) > 2 * most ∧ d.steps.length ≤ 200 ∨ d.steps.length > 205)
instance (l most) : Decidable (smD l most) := by unfold smD; infer_instance
def co3 (a b c : Int) (k : Nat) : Int := if k = 0 then a else if k = 1 then b else c
def loB (b : Bx) (k : Nat) : Int := co3 b.lx b.ly b.lz k
def hiB (b : Bx) (k : Nat) : Int := co3 b.hx b.hy b.hz k
def okAx (b : Bx) (k : Nat) : Prop := loB b k ≤ hiB b k ∧ -1048576 ≤ loB b k ∧ hiB b k ≤ 1048576
theorem okBx_ax (b : Bx) : C5 b ↔ ∀ k, k < 3 → okAx b k := by
  constructor
  · rintro ⟨h1, h2, h3⟩ k hk
    match k, hk with
    | 0, _ => exact h1
    | 1, _ => exact h2
    | 2, _ => exact h3
  intro h; exact ⟨h 0 (by decide), h 1 (by decide), h 2 (by decide)⟩
theorem ax_snoc {b : Bx} {k : Nat} (h : ∀ j, j < k → okAx b j) (h1 : okAx b k) : ∀ j, j < k + 1 → okAx b j := fun j hj => by
  by_cases e : j = k
  · subst e; exact h1
  · exact h j (by omega)
theorem coords_fun (a b c : Int) : Fun Tryz.prog 222 [.agg [iL a, iL b, iL c]] (AK (.agg [iL a, iL b, iL c]) []) := by
  refine Fun.of (nt := 10) (rs := [.cell 2 237]) Tryz.func222 rfl rfl rfl rfl rfl (Ac fun _ z=>A4 (Be _ true) (A4 (Bd Ce) (Ad z (Ac fun _ z=>Aa (Ap 0 AU Ah) (Aa (At Al) (Aa (Ap 1 Bi Ah) (Aa (At Al) (Aa (Ap 2 Bk Ah) (Aa (At Al) (Aa (GE [_, _, _] Ce am_pn237 BL Ah) (AC _ true [_] Cs AH (h := Ad z (Af (BD (B7 [_, _, _] Bu AH BC) (⟨?_, rfl⟩))))))))))))))); rfl
theorem ends0_fun (b : Bx) : Fun Tryz.prog 200 [.agg b.c, iL 0] (AK (.tup [iL b.lx, iL b.hx]) []) := by
  refine Fun.of (nt := 16) (rs := [.tmp 4, .tmp 5]) Tryz.func200 rfl rfl rfl rfl rfl (Ac fun _ z=>A4 (Be _ true) (Aa Ae (Aa Ae (Ad z (AT (Wk.forget [4]) (Ck (C8 [(0, 0), (1, 1), (2, 3), (0, 0), (4, 15), (0, 0), (6, 32), (7, 103), (0, 0), (9, 487), (8, 255), (11, 2047)]) 11 fun _ z=>Ak (Ap 0 AR Am) (Ak (Av _ AF Am) (B1 (hF := coords_fun _ _ _) (h := Ak Ab (Ak (q.ixg BL Al Ah) (Ak (Ap 3 AQ Am) (Ak (Av _ AF Am) (B1 (hF := coords_fun _ _ _) (h := Ak Ab (Ak (q.ixg BL Al Ah) (Ak Ae (Bz [_] (h := Aa Ae (Ad z (Af (CC ?_))))))))))))))))))))); rfl
theorem ends1_fun (b : Bx) : Fun Tryz.prog 200 [.agg b.c, iL 1] (AK (.tup [iL b.ly, iL b.hy]) []) := by
  refine Fun.of (nt := 16) (rs := [.tmp 4, .tmp 5]) Tryz.func200 rfl rfl rfl rfl rfl (Ac fun _ z=>A4 (Be _ true) (Aa Ae (Aa Ae (Ad z (AT (Wk.forget [4]) (Ck (C8 [(0, 0), (1, 1), (2, 3), (0, 0), (4, 15), (0, 0), (6, 32), (7, 103), (0, 0), (9, 487), (8, 255), (11, 2047)]) 11 fun _ z=>Ak (Ap 0 AR Am) (Ak (Av _ AF Am) (B1 (hF := coords_fun _ _ _) (h := Ak Ab (Ak (q.ixg BL Al Ah) (Ak (Ap 3 AQ Am) (Ak (Av _ AF Am) (B1 (hF := coords_fun _ _ _) (h := Ak Ab (Ak (q.ixg BL Al Ah) (Ak Ae (Bz [_] (h := Aa Ae (Ad z (Af (CC ?_))))))))))))))))))))); rfl
theorem ends2_fun (b : Bx) : Fun Tryz.prog 200 [.agg b.c, iL 2] (AK (.tup [iL b.lz, iL b.hz]) []) := by
  refine Fun.of (nt := 16) (rs := [.tmp 4, .tmp 5]) Tryz.func200 rfl rfl rfl rfl rfl (Ac fun _ z=>A4 (Be _ true) (Aa Ae (Aa Ae (Ad z (AT (Wk.forget [4]) (Ck (C8 [(0, 0), (1, 1), (2, 3), (0, 0), (4, 15), (0, 0), (6, 32), (7, 103), (0, 0), (9, 487), (8, 255), (11, 2047)]) 11 fun _ z=>Ak (Ap 0 AR Am) (Ak (Av _ AF Am) (B1 (hF := coords_fun _ _ _) (h := Ak Ab (Ak (q.ixg BL Al Ah) (Ak (Ap 3 AQ Am) (Ak (Av _ AF Am) (B1 (hF := coords_fun _ _ _) (h := Ak Ab (Ak (q.ixg BL Al Ah) (Ak Ae (Bz [_] (h := Aa Ae (Ad z (Af (CC ?_))))))))))))))))))))); rfl
theorem ends_fun (b : Bx) (k : Nat) (hk : k < 3) : Fun Tryz.prog 200 [.agg b.c, iL (k : Int)] (AK (.tup [iL (loB b k), iL (hiB b k)]) []) := by
  match k, hk with
  | 0, _ => exact ends0_fun b
  | 1, _ => exact ends1_fun b
  | 2, _ => exact ends2_fun b
theorem boxValid_fun (b : Bx) : Fun Tryz.prog 157 [.agg b.c] (AK (bL (decide (C5 b))) []) := by
  have hax := okBx_ax b; refine Fun.of (nt := 27) (rs := [.tmp 2]) Tryz.func157 rfl rfl rfl rfl rfl (Ac fun _ z=>A4 (Be _ true) (Aa Ae (Ad z (An (Ac fun _ z=>Aa Ab (Ad z (Ar (AI (ι := {k : Nat // k ≤ 3 ∧ ∀ j, j < k → okAx b j}) [0] [1] (fun ⟨k, _⟩ => [(6, iL (k : Int))]) (fun ⟨k, _⟩ => [(0, ⟨false, 100, 6, [[iL (b.lx), iL (b.ly), iL (b.lz), iL (b.hx), iL (b.hy), iL (b.hz)]], true⟩)]) (fun ⟨k, _⟩ => 3 - k) ⟨0, by decide, fun j hj => absurd hj (by omega)⟩ (.c .n) (Aj) (Ag) ?_)))))))); rintro ⟨k, hk, hinv⟩ R0 hR0; dsimp only [cA, nA, lC, lN]
  by_cases hk3 : k < 3
  rotate_left
  · obtain rfl : k = 3 := by omega
    refine Ac fun _ z=>Aa Ay (Ad z (By (fun c1 => ?_) (fun c1 => ?_)))
    · omega
    refine AO (hR0 _ _ (Ac fun _ z=>Aa Ae (Ad z (Af (Aq ?_))))); exact bT (hax.2 hinv)
  have hax3 : okAx b k ↔ loB b k ≤ hiB b k ∧ -1048576 ≤ loB b k ∧ hiB b k ≤ 1048576 := Iff.rfl; refine Ac fun _ z=>Aa Ay (Ad z (By (fun c2 => ?_) (fun c2 => ?_)))
  · refine An (Ar (Ac fun _ z=>Aa Ab (Aa Ae (Ad z (Ac fun _ z=>Aa (Av _ Bq AB) (Aa Ab (A3 (hF := ends_fun b k hk3) (h := Aa Ab (Aa BA (Aa BA (Aa Ae (Aa Ae (Ad z (Ac fun _ z=>Aa Ab (Aa Ab (Aa Bh (AP Ab (fun c3 => ?_) (fun c3 => ?_))))))))))))))))))
    · refine Ai (Aa A5 (Aa Ab (Ai (Aa A5 (Ad z (B3 (Ac fun _ z=>Aa Ae (Ad z (Af (hR0 _ _ (Aq ?_))))))))))); exact bF (fun h => by have h1 := hax3.1 (hax.1 h k hk3); omega)
    refine Aa Ab (Aa Ay (Aa Au (AP Ab (fun c4 => ?_) (fun c4 => ?_))))
    · refine Ai (Aa A5 (Ad z (B3 (Ac fun _ z=>Aa Ae (Ad z (Af (hR0 _ _ (Aq ?_)))))))); exact bF (fun h => by have h1 := hax3.1 (hax.1 h k hk3); omega)
    refine Aa Ab (Aa Bh (Aa Au (Ad z (Ax (fun c5 => ?_) (fun c5 => ?_)))))
    · refine Ac fun _ z=>Aa Ae (Ad z (Af (hR0 _ _ (Aq ?_)))); exact bF (fun h => by have h1 := hax3.1 (hax.1 h k hk3); omega)
    refine As (Ao fun _ z=>Aa A6 (Aa Ab (Ad z (hR0 _ _ (A8 [0] [1] ⟨k + 1, by omega, ax_snoc hinv (hax3.2 (by omega))⟩ ?_ (Aj) (Ag) (.c .n)))))); skip; all_goals (dsimp only; omega)
  omega
theorem BY (a b c : Int) (k : Nat) : Fun Tryz.prog 131 [.agg [iL a, iL b, iL c], iL (k : Int)] (AK (iL (co3 a b c k)) []) := by
  refine Fun.of (nt := 16) (rs := [.tmp 4]) Tryz.func131 rfl rfl rfl rfl rfl (Ac fun _ z=>A4 (Be _ true) (Aa Ae (Ad z (An (Ac fun _ z=>Aa Ab (Ad z (Ar (Ac fun _ z=>Aa B6 (Aa Ae (Ad z (Ax (fun c1 => ?_) (fun c1 => ?_))))))))))))
  · refine Ac fun _ z=>Aa (Ap 0 AU Ah) (Aa (At Al) (Aa Ae (Ad z (Af (Aq ?_))))); rw [show co3 a b c k = a from if_pos (by omega)]
  refine Ac fun _ z=>Aa B6 (Aa Ae (Ad z (Ax (fun c2 => ?_) (fun c2 => ?_))))
  · refine Ac fun _ z=>Aa (Ap 1 Bi Ah) (Aa (At Al) (Aa Ae (Ad z (Af (Aq ?_))))); rw [show co3 a b c k = b from (if_neg (by omega)).trans (if_pos (by omega))]
  refine As (Ac fun _ z=>Aa (Ap 2 Bk Ah) (Aa (At Al) (Aa Ae (Ad z (Af (Aq ?_)))))); rw [show co3 a b c k = c from (if_neg (by omega)).trans (if_neg (by omega))]
theorem isLength_fun (n : Int) : Fun Tryz.prog 130 [iL n] (AK (bL (decide (-1048576 ≤ n ∧ n ≤ 1048576))) []) := by
  refine Fun.of (nt := 9) (rs := [.tmp 2]) Tryz.func130 rfl rfl rfl rfl rfl (Ac fun _ z=>Aa Ae (Ad z (Ac fun _ z=>Aa Ab (Aa C7 (AP Ab (fun c1 => ?_) (fun c1 => ?_))))))
  · refine Aa Ab (Aa BJ (Aa A5 (Aa Ae (Ad z (Af (Aq ?_)))))); exact dI (by omega)
  refine Ai (Aa Au (Aa Ae (Ad z (Af (Aq ?_))))); exact bF (by omega)
theorem rboxValid_fun (b : Bx) : Fun Tryz.prog 73 [.agg b.c] (AK (bL (decide (C5 b))) []) := by
  have hax := okBx_ax b; refine Fun.of (nt := 33) (rs := [.tmp 2]) Tryz.func73 rfl rfl rfl rfl rfl (Ac fun _ z=>A4 (Be _ true) (Aa Ae (Ad z (An (Ac fun _ z=>Aa Ae (Ad z (Ar (AI (ι := {k : Nat // k ≤ 3 ∧ ∀ j, j < k → okAx b j}) [0] [1] (fun ⟨k, _⟩ => [(3, iL (k : Int))]) (fun ⟨k, _⟩ => [(0, ⟨false, 100, 6, [[iL (b.lx), iL (b.ly), iL (b.lz), iL (b.hx), iL (b.hy), iL (b.hz)]], true⟩)]) (fun ⟨k, _⟩ => 3 - k) ⟨0, by decide, fun j hj => absurd hj (by omega)⟩ (.c .n) (Aj) (Ag) ?_)))))))); rintro ⟨k, hk, hinv⟩ R0 hR0; dsimp only [cA, nA, lC, lN]
  by_cases hk3 : k < 3
  rotate_left
  · obtain rfl : k = 3 := by omega
    refine An (Ac fun _ z=>Aa Ab (Aa Ay (Ad z (Ax (fun c1 => ?_) (fun c1 => ?_)))))
    · omega
    refine AO (hR0 _ _ (Ac fun _ z=>Aa Ae (Ad z (Af (Aq ?_))))); exact bT (hax.2 hinv)
  have hax3 : okAx b k ↔ co3 b.lx b.ly b.lz k ≤ co3 b.hx b.hy b.hz k ∧ -1048576 ≤ co3 b.lx b.ly b.lz k ∧ co3 b.hx b.hy b.hz k ≤ 1048576 := Iff.rfl; refine An (Ac fun _ z=>Aa Ab (Aa Ay (Ad z (Ax (fun c2 => ?_) (fun c2 => ?_)))))
  · refine As (An (Ar (Ck (C8 [(0, 0), (1, 1), (0, 0), (3, 7), (4, 15), (5, 31), (6, 63), (7, 127), (8, 255), (7, 127), (10, 1023), (11, 2047), (12, 4095), (13, 8191), (14, 16383), (15, 32767), (16, 65535), (15, 32767), (18, 262143), (15, 32767), (20, 557055), (15, 32767), (22, 4194303), (23, 8388607), (24, 16777215)]) 25 fun _ z=>Ak (Ap 0 AR Am) (Ak (Av _ AF Am) (Ak Ab (B1 (hF := BY _ _ _ k) (h := B1 (hF := isLength_fun _) (h := Ak BB (M.bn Ab (fun c3 => ?_) (fun c3 => ?_))))))))))
    · refine AE (AE (AE (AE (AE (AE (Ak A5 (Ak Ab (AE (AE (AE (AE (AE (AE (AE (AE (AE (Ak A5 (Bz [_] (h := Ad z (B3 (Ac fun _ z=>Aa Ae (Ad z (Af (hR0 _ _ (Aq ?_))))))))))))))))))))))))); exact bF (fun h => by have h1 := hax3.1 (hax.1 h k hk3); omega)
    refine Ak (Ap 3 AQ Am) (Ak (Av _ AF Am) (Ak Ab (B1 (hF := BY _ _ _ k) (h := B1 (hF := isLength_fun _) (h := Ak BB (Ak Au (M.bn Ab (fun c4 => ?_) (fun c4 => ?_))))))))
    · refine AE (AE (AE (AE (AE (AE (AE (AE (AE (Ak A5 (Bz [_] (h := Ad z (B3 (Ac fun _ z=>Aa Ae (Ad z (Af (hR0 _ _ (Aq ?_))))))))))))))))); exact bF (fun h => by have h1 := hax3.1 (hax.1 h k hk3); omega)
    refine Ak (Ap 0 AR Am) (Ak (Av _ AF Am) (Ak Ab (B1 (hF := BY _ _ _ k) (h := Ak (Ap 3 AQ Am) (Ak (Av _ AF Am) (Ak Ab (B1 (hF := BY _ _ _ k) (h := Ak Bh (Ak Au (Bz [_] (h := Ad z (Ax (fun c5 => ?_) (fun c5 => ?_)))))))))))))
    · refine Ac fun _ z=>Aa Ae (Ad z (Af (hR0 _ _ (Aq ?_)))); exact bF (fun h => by have h1 := hax3.1 (hax.1 h k hk3); omega)
    refine As (Ao fun _ z=>Aa Ab (Aa A6 (Aa Ae (Ad z (hR0 _ _ (A8 [0] [1] ⟨k + 1, by omega, ax_snoc hinv (hax3.2 (by omega))⟩ ?_ (Aj) (Ag) (.c .n))))))); skip; all_goals (dsimp only; omega)
  omega
theorem right_fun (d : Dem) (hw : d.w) : Fun Tryz.prog 138 [.agg d.c] (AK (bL (decide (okDem d))) []) := by
  obtain ⟨n, b, s⟩ := d; obtain ⟨hw1, hw2⟩ := hw
  simp only at hw1 hw2
  have hok : okDem ⟨n, b, s⟩ ↔ FM n ∧ C5 b ∧ okSteps s := Iff.rfl; refine Fun.of (nt := 16) (rs := [.tmp 2]) Tryz.func138 rfl rfl rfl rfl rfl (Ac fun _ k=>A4 (Be _ true) (Aa Ae (Ad k (Ac fun _ k=>Aa (Ap 0 Gd Da) (Aa (At CL) (A3 (hF := isName_fun _ (by omega)) (h := AP Ab (fun c1 => ?_) (fun c1 => ?_))))))))
  · refine Aa (Ap 1 am_fi102_1 AB) (Aa (Av _ Bq AB) (A3 (hF := boxValid_fun b) (h := Aa A5 (AP Ab (fun c2 => ?_) (fun c2 => ?_)))))
    · refine Aa (Ap 7 am_fi102_2 am_cl56) (Aa (At am_ag56) (A3 (hF := stepsValid_fun _ (by omega)) (h := Aa A5 (Aa Ae (Ad k (Af (Aq ?_))))))); exact dI ⟨fun h => hok.2 ⟨‹_›, ‹_›, h⟩, fun h => (hok.1 h).2.2⟩
    refine Ai (A9 (Aa Au (Aa Ae (Ad k (Af (Aq ?_)))))); exact bF (fun h => absurd (hok.1 h).2.1 ‹_›)
  refine Ai (A9 (Aa Au (Aa Ab (Ai (A9 (Aa Au (Aa Ae (Ad k (Af (Aq ?_)))))))))); exact bF (fun h => absurd (hok.1 h).1 ‹_›)
theorem indexFuncDem1 (g : FuncId) (c0 : List AV) (p : Dem → Bool) (hg : ∀ s, Fun Tryz.prog g [.agg (Dem.c s), .sadr c0 0] (AK (bL (p s)) [])) (l : List (Dem)) (hlen : l.length ≤ 140737488355328) :
    Fun Tryz.prog 187 [.sh 8 (l.map Dem.c), .fn (.func g) [] [.sadr c0 0]] (AK (iL (CN p l 0)) []) := by
  refine Fun.of (nt := 19) (rs := [.tmp 4]) Tryz.func187 rfl rfl rfl rfl rfl (Ac fun _ k=>Aa Ae (Ad k (An (Ac fun _ k=>Aa Ab (Aa (A7 CQ) (Aa Ab (Ad k (Ar (AI (ι := {q : List (Dem) × List (Dem) // q.1 ++ q.2 = l ∧ ∀ x ∈ q.1, p x = false}) [] [0, 1, 7] (fun ⟨(pre, suf), _⟩ => [(8, iL (pre.length : Int))]) (fun ⟨(pre, suf), _⟩ => []) (fun ⟨(pre, suf), _⟩ => suf.length) ⟨([], l), rfl, fun x hx => by simp at hx⟩ (.c (.c (.c .n))) AW (Ag) ?_))))))))); rintro ⟨⟨pre, suf⟩, hp, hinv⟩ R0 hR0; dsimp only [cA, nA, lC, lN]
  simp only at hp hinv
  have hpl := Cd hp
  rcases suf with _ | ⟨s, suf⟩
  · rw [List.append_nil] at hp; subst hp; simp only [List.length_nil] at hpl; refine Ac fun _ k=>Aa Ay (Ad k (By (fun c1 => ?_) (fun c1 => ?_)))
    · omega
    refine AO (hR0 _ _ (Ac fun _ k=>Aa Ae (Ad k (Af (Aq ?_)))))
    congr 2; rw [Gh p pre 0 hinv]
  simp only [lC] at hpl; have hidx := Ch hp; refine Ac fun _ k=>Aa Ay (Ad k (By (fun c3 => ?_) (fun c3 => ?_)))
  · refine An (Ar (Ac fun _ k=>Aa Ab (Aa Ae (Ad k (Ac fun _ k=>Aa Ab (Aa Ab (Aa Ab (Aa (AL CQ DR (hl := (by exact AY hidx (by omega)))) (Aa (BF _ am_ag102 DR) (A3 (hF := hg s) (h := Ad k (Ev.c (fun c4 => ?_) (fun c4 => ?_)))))))))))))
    · refine Ac fun _ k=>Aa Ab (Aa Ae (Ad k (Af (hR0 _ _ (Aq ?_)))))
      congr 2; rw [← hp, DD p pre _ 0 hinv, CN, if_pos ‹_›]; omega
    refine As (Ao fun _ k=>Aa A6 (Aa Ab (Ad k (hR0 _ _ (A8 [] [0, 1, 7] ⟨(pre ++ [s], suf), B2 hp, ?_⟩ BX AW (Ag (he := (by simp))) (.c (.c (.c .n))))))))
    intro x hx; simp only [List.mem_append, List.mem_singleton] at hx; rcases hx with hx | rfl
    · exact hinv x hx
    · assumption
  omega
theorem containsFuncDem1 (g : FuncId) (c0 : List AV) (p : Dem → Bool) (hg : ∀ s, Fun Tryz.prog g [.agg (Dem.c s), .sadr c0 0] (AK (bL (p s)) [])) (l : List (Dem)) (hlen : l.length ≤ 140737488355328) :
    Fun Tryz.prog 139 [.sh 8 (l.map Dem.c), .fn (.func g) [] [.sadr c0 0]] (AK (bL (decide (∃ x ∈ l, p x = true))) []) := by
  have hd : (decide (∃ x ∈ l, p x = true)) = decide (0 ≤ CN p l 0) := by simp only [Gn p l 0 (Int.le_refl _)]
  rw [hd]; refine Fun.of (nt := 9) (rs := [.tmp 4]) Tryz.func139 rfl rfl rfl rfl rfl (Ac fun _ k=>Aa Ae (Ad k (Ac fun _ k=>Aa Ab (Aa Ab (A3 (hF := indexFuncDem1 g c0 p hg l hlen) (h := Aa C7 (Aa Ae (Ad k (Af (Aq ?_)))))))))); rfl
theorem named_fun (d : Dem) (x : Dem) : Fun Tryz.prog 140 [.agg x.c, .sadr d.c 0] (AK (bL (decide (x.name = d.name))) []) := by
  refine Fun.of (nt := 9) (rs := [.tmp 3]) Tryz.func140 rfl rfl rfl rfl rfl (Ac fun _ k=>A4 (Be _ true) (Aa Ae (Ad k (Ac fun _ k=>Aa (Ap 0 Gd Da) (Aa (At CL) (Aa (BP 0 Gd Da) (Aa (Bc CL) (Aa q.seqs (Aa Ae (Ad k (Af (Aq ?_)))))))))))); rfl
theorem demValid_fun (l : List Dem) (hlen : l.length ≤ 140737488355328) (hw : demW l) : Fun Tryz.prog 85 [.sh 8 (l.map Dem.c)] (AK (bL (decide (okDems l))) []) := by
  refine Fun.of (nt := 26) (rs := [.tmp 2]) Tryz.func85 rfl rfl rfl rfl rfl (Ac fun _ k=>Aa Ae (Ad k (An (Ac fun _ k=>Aa Ab (Aa (A7 CQ) (Aa Bh (Ad k (Ax (fun c1 => ?_) (fun c1 => ?_)))))))))
  · refine Ac fun _ k=>Aa Ae (Ad k (Af (Aq ?_))); exact bF (fun h => by have h1 := h.1; omega)
  refine As (An (Ac fun _ k=>Aa Ab (Aa (A7 CQ) (Aa Ab (Ad k (Ar (AI (ι := {q : List Dem × List Dem // q.1 ++ q.2 = l ∧ (∀ b ∈ q.1, okDem b) ∧ q.1.Pairwise (fun a b => a.name ≠ b.name)}) [] [0, 8, 9] (fun ⟨(pre, suf), _⟩ => [(10, iL (pre.length : Int))]) (fun ⟨(pre, suf), _⟩ => []) (fun ⟨(pre, suf), _⟩ => suf.length) ⟨([], l), rfl, ⟨fun b hb => by simp at hb, by simp⟩⟩ (.c (.c (.c .n))) AW (Ag) ?_))))))); rintro ⟨⟨pre, suf⟩, hp, hinv⟩ R0 hR0; dsimp only [cA, nA, lC, lN]
  simp only at hp hinv
  have hpl := Cd hp
  rcases suf with _ | ⟨s, suf⟩
  · rw [List.append_nil] at hp; simp only [lN] at hpl; refine Ac fun _ k=>Aa Ay (Ad k (By (fun c2 => ?_) (fun c2 => ?_)))
    · omega
    refine AO (hR0 _ _ (Ac fun _ k=>Aa Ae (Ad k (Af (Aq ?_))))); exact bT ⟨by omega, by rw [← hp]; exact hinv⟩
  simp only [lC] at hpl; have hidx := Ch hp; have hsw : s.w := hw s (by rw [← hp]; simp)
  have htk : List.take ((pre.length : Int).toNat - ((0 : Nat) : Int).toNat) (List.drop ((0 : Nat) : Int).toNat l) = pre := by simpa using take_pre hp
  refine Ac fun _ k=>Aa Ay (Ad k (By (fun c5 => ?_) (fun c5 => ?_)))
  · refine An (Ar (Ac fun _ k=>Aa Ab (Aa (AL CQ DR (hl := (by exact AY hidx (by omega)))) (Aa (BF _ am_ag102 DR) (A4 (Bd am_ze102) (Aa Ae (AC _ true [] am_in102 DR (h := Ad k (Ac fun _ k=>Aa (Av _ am_ag102 DR) (A3 (hF := right_fun _ (by assumption)) (h := Aa BB (DV Ab (fun c6 => ?_) (fun c6 => ?_)))))))))))))
    · refine Ai (Ai (A9 (Aa A5 (Ad k (B3 (Ac fun _ k=>Aa Ae (Ad k (Af (hR0 _ _ (Aq ?_)))))))))); exact bF (fun h => absurd (dems_cut hp h).1 ‹_›)
    refine Aa Ab (Aa Ab (Aa (q.sh CQ DR) (Aa q.mf ?_))); rw [htk]; refine A3 (hF := containsFuncDem1 _ _ _ (named_fun s) pre (by omega)) (h := Aa Au (Ad k (Ax (fun c7 => ?_) (fun c7 => ?_))))
    · refine Ac fun _ k=>Aa Ae (Ad k (Af (hR0 _ _ (Aq ?_)))); exact bF (fun h => by obtain ⟨x, hx, hn⟩ := ‹∃ x ∈ pre, _›; exact (dems_cut hp h).2 x hx (by simpa using hn))
    refine As (Ao fun _ k=>Aa A6 (Aa Ab (Ad k (hR0 _ _ (A8 [] [0, 8, 9] ⟨(pre ++ [s], suf), B2 hp, ?_⟩ BX AW (Ag (he := (by simp))) (.c (.c (.c .n)))))))); exact dems_snoc hinv ‹_› (fun a ha he => by have h := ‹¬ ∃ x ∈ pre, _›; exact h ⟨a, ha, by simpa using he⟩)
  omega
theorem rfindD_fun (l : List Dem) (nm : List UInt8) (hlen : l.length ≤ 140737488355328) : Fun Tryz.prog 72 [.sh 8 (l.map Dem.c), sL nm] (AK (iL (demI l nm)) []) := by
  unfold demI
  refine Fun.of (nt := 20) (rs := [.tmp 4]) Tryz.func72 rfl rfl rfl rfl rfl (Ac fun _ k=>Aa Ae (Ad k (An (Ac fun _ k=>Aa Ae (Ad k (Ar (AI (ι := {q : List Dem × List Dem // q.1 ++ q.2 = l ∧ ∀ x ∈ q.1, decide (x.name = nm) = false}) [] [0, 1] (fun ⟨(pre, suf), _⟩ => [(5, iL (pre.length : Int))]) (fun ⟨(pre, suf), _⟩ => []) (fun ⟨(pre, suf), _⟩ => suf.length) ⟨([], l), rfl, fun x hx => by simp at hx⟩ (.c (.c .n)) AW (Ag) ?_))))))); rintro ⟨⟨pre, suf⟩, hp, hinv⟩ R0 hR0; dsimp only [cA, nA, lC, lN]
  simp only at hp hinv
  have hpl := Cd hp
  rcases suf with _ | ⟨s, suf⟩
  · rw [List.append_nil] at hp; subst hp; simp only [List.length_nil] at hpl; refine An (Ac fun _ k=>Aa Ab (Aa Ab (Aa (A7 CQ) (Aa Ay (Ad k (Ax (fun c1 => ?_) (fun c1 => ?_)))))))
    · omega
    refine AO (hR0 _ _ (Ac fun _ k=>Aa Ae (Ad k (Af (Aq ?_)))))
    congr 2; rw [Gh _ pre 0 hinv]
  simp only [lC] at hpl; have hidx := Ch hp; refine An (Ac fun _ k=>Aa Ab (Aa Ab (Aa (A7 CQ) (Aa Ay (Ad k (Ax (fun c3 => ?_) (fun c3 => ?_)))))))
  · refine As (An (Ar (Ac fun _ k=>Aa Ab (Aa Ab (Aa (AL CQ DR (hl := (by exact AY hidx (by omega)))) (Aa (BP 0 Gd Da) (Aa (Bc CL) (Aa Ab (Aa q.seqs (Ad k (Ax (fun c4 => ?_) (fun c4 => ?_))))))))))))
    · refine Ac fun _ k=>Aa Ab (Aa Ae (Ad k (Af (hR0 _ _ (Aq ?_)))))
      congr 2; rw [← hp, DD _ pre _ 0 hinv, CN, if_pos (decide_eq_true ‹_›)]; omega
    refine As (Ao fun _ k=>Aa Ab (Aa A6 (Aa Ae (Ad k (hR0 _ _ (A8 [] [0, 1] ⟨(pre ++ [s], suf), B2 hp, ?_⟩ BX AW (Ag (he := (by simp))) (.c (.c .n))))))))
    intro x hx; simp only [List.mem_append, List.mem_singleton] at hx; rcases hx with hx | rfl
    · exact hinv x hx
    · exact decide_eq_false ‹_›
  omega
theorem rdemValid_fun (l : List Dem) (hlen : l.length ≤ 140737488355328) (hw : demW l) : Fun Tryz.prog 38 [.sh 8 (l.map Dem.c)] (AK (bL (decide (okDems l))) []) := by
  refine Fun.of (nt := 49) (rs := [.tmp 2]) Tryz.func38 rfl rfl rfl rfl rfl (Ac fun _ k=>Aa Ae (Ad k (An (Ac fun _ k=>Aa Ab (Aa (A7 CQ) (Aa Bh (Ad k (Ax (fun c1 => ?_) (fun c1 => ?_)))))))))
  · refine Ac fun _ k=>Aa Ae (Ad k (Af (Aq ?_))); exact bF (fun h => by have h1 := h.1; omega)
  refine As (An (Ac fun _ k=>Aa Ae (Ad k (Ar (AI (ι := {q : List Dem × List Dem // q.1 ++ q.2 = l ∧ (∀ b ∈ q.1, okDem b) ∧ q.1.Pairwise (fun a b => a.name ≠ b.name)}) [] [0] (fun ⟨(pre, suf), _⟩ => [(3, iL (pre.length : Int))]) (fun ⟨(pre, suf), _⟩ => []) (fun ⟨(pre, suf), _⟩ => suf.length) ⟨([], l), rfl, ⟨fun b hb => by simp at hb, by simp⟩⟩ (.c .n) AW (Ag) ?_))))); rintro ⟨⟨pre, suf⟩, hp, hinv⟩ R0 hR0; dsimp only [cA, nA, lC, lN]
  simp only at hp hinv
  have hpl := Cd hp
  rcases suf with _ | ⟨s, suf⟩
  · rw [List.append_nil] at hp; simp only [lN] at hpl; refine An (Ac fun _ k=>Aa Ab (Aa Ab (Aa (A7 CQ) (Aa Ay (Ad k (Ax (fun c2 => ?_) (fun c2 => ?_)))))))
    · omega
    refine AO (hR0 _ _ (Ac fun _ k=>Aa Ae (Ad k (Af (Aq ?_))))); exact bT ⟨by omega, by rw [← hp]; exact hinv⟩
  simp only [lC] at hpl; have hidx := Ch hp; have hsw : s.w := hw s (by rw [← hp]; simp); obtain ⟨hsw1, hsw2⟩ := hsw; refine An (Ac fun _ k=>Aa Ab (Aa Ab (Aa (A7 CQ) (Aa Ay (Ad k (Ax (fun c7 => ?_) (fun c7 => ?_)))))))
  · refine As (An (Ar (Ac fun _ k=>Aa Ab (Aa Ab (Aa (AL CQ DR (hl := (by exact AY hidx (by omega)))) (Aa (BP 0 Gd Da) (Aa (Bc CL) (A3 (hF := risName_fun _ (by omega)) (h := Aa BB (DV Ab (fun c8 => ?_) (fun c8 => ?_)))))))))))
    · refine Ai (Ai (Ai (Ai (A9 (Aa A5 (Aa Ab (Ai (Ai (Ai (A9 (Aa A5 (Aa Ab (Ai (Ai (Ai (A9 (Aa A5 (Ad k (B3 (Ac fun _ k=>Aa Ae (Ad k (Af (hR0 _ _ (Aq ?_)))))))))))))))))))))))); exact bF (fun h => absurd (dems_cut hp h).1.1 ‹_›)
    refine Aa Ab (Aa Ab (Aa Ab (Aa (AL CQ DR (hl := (by exact AY hidx (by omega)))) (Aa (BP 0 Gd Da) (Aa (Bc CL) (A3 (hF := rfindD_fun _ _ (by omega)) (h := Aa Ab (Aa Dk (Aa Au (DV Ab (fun c9 => ?_) (fun c9 => ?_)))))))))))
    · refine Ai (Ai (Ai (A9 (Aa A5 (Aa Ab (Ai (Ai (Ai (A9 (Aa A5 (Ad k (B3 (Ac fun _ k=>Aa Ae (Ad k (Af (hR0 _ _ (Aq ?_))))))))))))))))); exact bF (fun h => by have h1 := (demI_at hp).2 (dems_cut hp h).2; omega)
    refine Aa Ab (Aa Ab (Aa (AL CQ DR (hl := (by exact AY hidx (by omega)))) (Aa (BP 1 am_fi102_1 AB) (Aa (BF _ Bq AB) (A3 (hF := rboxValid_fun s.zone) (h := Aa BB (Aa Au (DV Ab (fun c10 => ?_) (fun c10 => ?_)))))))))
    · refine Ai (Ai (Ai (A9 (Aa A5 (Ad k (B3 (Ac fun _ k=>Aa Ae (Ad k (Af (hR0 _ _ (Aq ?_))))))))))); exact bF (fun h => absurd (dems_cut hp h).1.2.1 ‹_›)
    refine Aa Ab (Aa Ab (Aa (AL CQ DR (hl := (by exact AY hidx (by omega)))) (Aa (BP 7 am_fi102_2 am_cl56) (Aa (Bc am_ag56) (A3 (hF := rstepsValid_fun _ (by omega)) (h := Aa BB (Aa Au (Ad k (Cb (fun c11 => ?_) (fun c11 => ?_))))))))))
    · refine Ac fun _ k=>Aa Ae (Ad k (Af (hR0 _ _ (Aq ?_)))); exact bF (fun h => absurd (dems_cut hp h).1.2.2 ‹_›)
    refine As (Ao fun _ k=>Aa Ab (Aa A6 (Aa Ae (Ad k (hR0 _ _ (A8 [] [0] ⟨(pre ++ [s], suf), B2 hp, ?_⟩ BX AW (Ag (he := (by simp))) (.c .n))))))); exact dems_snoc hinv ⟨‹_›, ‹_›, ‹_›⟩ ((demI_at hp).1 (by omega))
  omega
theorem smD_fun (l : List Dem) (most : Int) (h0 : 0 ≤ most) (h1 : most ≤ 1000) (hlen : l.length ≤ 140737488355328) : Fun Tryz.prog 22 [.sh 8 (l.map Dem.c), iL most] (AK (bL (decide (smD l most))) []) := by
  refine Fun.of (nt := 54) (rs := [.tmp 4]) Tryz.func22 rfl rfl rfl rfl rfl (Ac fun _ k=>Aa Ae (Ad k (An (Ac fun _ k=>Aa Ab (Aa (A7 CQ) (Aa Ab (Aa Bh (AP Ab (fun c1 => ?_) (fun c1 => ?_)))))))))
  · refine Aa Ab (Aa (A7 CQ) (Aa BJ (Aa A5 (AP Ab (fun c2 => ?_) (fun c2 => ?_)))))
    · refine Ai (A9 (Aa A5 (Ad k (B3 (Ac fun _ k=>Aa Ae (Ad k (Af (Aq ?_)))))))); exact bF (fun h => by have h1 := h.1; omega)
    refine Aa Ab (Aa (A7 CQ) (Aa Bh (Aa Au (Ad k (Ax (fun c3 => ?_) (fun c3 => ?_))))))
    · refine Ac fun _ k=>Aa Ae (Ad k (Af (Aq ?_))); exact bF (fun h => by have h1 := h.1; omega)
    refine As (An (Ac fun _ k=>Aa Ae (Ad k (Ar (AI (ι := {q : List Dem × List Dem // q.1 ++ q.2 = l ∧ ∀ d ∈ q.1, ¬ (d.name.length > 60 ∨ (d.steps.length : Int) > 2 * most ∧ d.steps.length ≤ 200 ∨ d.steps.length > 205)}) [] [0, 1] (fun ⟨(pre, suf), _⟩ => [(5, iL (pre.length : Int))]) (fun ⟨(pre, suf), _⟩ => []) (fun ⟨(pre, suf), _⟩ => suf.length) ⟨([], l), rfl, fun x hx => by simp at hx⟩ (.c (.c .n)) AW (Ag) ?_))))); rintro ⟨⟨pre, suf⟩, hp, hinv⟩ R0 hR0; dsimp only [cA, nA, lC, lN]
    simp only at hp hinv
    have hpl := Cd hp
    rcases suf with _ | ⟨s, suf⟩
    · rw [List.append_nil] at hp; simp only [lN] at hpl; refine An (Ac fun _ k=>Aa Ab (Aa Ab (Aa (A7 CQ) (Aa Ay (Ad k (Ax (fun c4 => ?_) (fun c4 => ?_)))))))
      · omega
      refine AO (hR0 _ _ (Ac fun _ k=>Aa Ae (Ad k (Af (Aq ?_))))); exact bT ⟨by omega, by rw [← hp]; exact hinv⟩
    simp only [lC] at hpl; have hidx := Ch hp; refine An (Ac fun _ k=>Aa Ab (Aa Ab (Aa (A7 CQ) (Aa Ay (Ad k (Ax (fun c10 => ?_) (fun c10 => ?_)))))))
    · refine As (An (Ar (Ac fun _ k=>Aa Ab (Aa Ab (Aa (AL CQ DR (hl := (by exact AY hidx (by omega)))) (Aa (BP 7 am_fi102_2 am_cl56) (Aa (Bc am_ag56) (Aa (A7 CG) (Aa Ae (Ad k (Ac fun _ k=>Aa Ab (Aa Ab (Aa (AL CQ DR (hl := (by exact AY hidx (by omega)))) (Aa (BP 0 Gd Da) (Aa (Bc CL) (Aa (EX EW Dr) (Aa Bh (AP Ab (fun c11 => ?_) (fun c11 => ?_)))))))))))))))))))
      · refine Ai (Ai (Ai (Ai (Aa A5 (Aa Ab (Ai (Aa A5 (Ad k (B3 (Ac fun _ k=>Aa Ae (Ad k (Af (hR0 _ _ (Aq ?_)))))))))))))); exact bF (fun h => by have h1 := h.2 s (by rw [← hp]; simp); omega)
      refine Aa Ab (Aa Ab (Aa BM (Aa Bh (AP Ab (fun c12 => ?_) (fun c12 => ?_)))))
      · refine Aa Ab (Aa BJ (Aa A5 (Aa Au (AP Ab (fun c13 => ?_) (fun c13 => ?_)))))
        · refine Ai (Aa A5 (Ad k (B3 (Ac fun _ k=>Aa Ae (Ad k (Af (hR0 _ _ (Aq ?_)))))))); exact bF (fun h => by have h1 := h.2 s (by rw [← hp]; simp); omega)
        refine Aa Ab (Aa Bh (Aa Au (Ad k (Ax (fun c14 => ?_) (fun c14 => ?_)))))
        · refine Ac fun _ k=>Aa Ae (Ad k (Af (hR0 _ _ (Aq ?_)))); exact bF (fun h => by have h1 := h.2 s (by rw [← hp]; simp); omega)
        refine As (Ao fun _ k=>Aa Ab (Aa A6 (Aa Ae (Ad k (hR0 _ _ (A8 [] [0, 1] ⟨(pre ++ [s], suf), B2 hp, ?_⟩ BX AW (Ag (he := (by simp))) (.c (.c .n))))))))
        intro x hx; simp only [List.mem_append, List.mem_singleton] at hx; rcases hx with hx | rfl
        · exact hinv x hx
        · omega
      refine Ai (Aa Au (Aa Au (Aa Ab (Aa Ab (Aa Bh (Aa Au (Ad k (Ax (fun c15 => ?_) (fun c15 => ?_)))))))))
      · omega
      refine As (Ao fun _ k=>Aa Ab (Aa A6 (Aa Ae (Ad k (hR0 _ _ (A8 [] [0, 1] ⟨(pre ++ [s], suf), B2 hp, ?_⟩ BX AW (Ag (he := (by simp))) (.c (.c .n))))))))
      intro x hx; simp only [List.mem_append, List.mem_singleton] at hx; rcases hx with hx | rfl
      · exact hinv x hx
      · omega
    omega
  refine Ai (A9 (Aa Au (Aa Ab (Aa Ab (Aa (A7 CQ) (Aa Bh (Aa Au (Ad k (Ax (fun c16 => ?_) (fun c16 => ?_))))))))))
  · refine Ac fun _ k=>Aa Ae (Ad k (Af (Aq ?_))); exact bF (fun h => by have h1 := h.1; omega)
  refine As (An (Ac fun _ k=>Aa Ae (Ad k (Ar (AI (ι := {q : List Dem × List Dem // q.1 ++ q.2 = l ∧ ∀ d ∈ q.1, ¬ (d.name.length > 60 ∨ (d.steps.length : Int) > 2 * most ∧ d.steps.length ≤ 200 ∨ d.steps.length > 205)}) [] [0, 1] (fun ⟨(pre, suf), _⟩ => [(5, iL (pre.length : Int))]) (fun ⟨(pre, suf), _⟩ => []) (fun ⟨(pre, suf), _⟩ => suf.length) ⟨([], l), rfl, fun x hx => by simp at hx⟩ (.c (.c .n)) AW (Ag) ?_))))); rintro ⟨⟨pre, suf⟩, hp, hinv⟩ R0 hR0; dsimp only [cA, nA, lC, lN]
  simp only at hp hinv
  have hpl := Cd hp
  rcases suf with _ | ⟨s, suf⟩
  · rw [List.append_nil] at hp; simp only [lN] at hpl; refine An (Ac fun _ k=>Aa Ab (Aa Ab (Aa (A7 CQ) (Aa Ay (Ad k (Ax (fun c17 => ?_) (fun c17 => ?_)))))))
    · omega
    refine AO (hR0 _ _ (Ac fun _ k=>Aa Ae (Ad k (Af (Aq ?_))))); exact bT ⟨by omega, by rw [← hp]; exact hinv⟩
  simp only [lC] at hpl; have hidx := Ch hp; refine An (Ac fun _ k=>Aa Ab (Aa Ab (Aa (A7 CQ) (Aa Ay (Ad k (Ax (fun c23 => ?_) (fun c23 => ?_)))))))
  · refine As (An (Ar (Ac fun _ k=>Aa Ab (Aa Ab (Aa (AL CQ DR (hl := (by exact AY hidx (by omega)))) (Aa (BP 7 am_fi102_2 am_cl56) (Aa (Bc am_ag56) (Aa (A7 CG) (Aa Ae (Ad k (Ac fun _ k=>Aa Ab (Aa Ab (Aa (AL CQ DR (hl := (by exact AY hidx (by omega)))) (Aa (BP 0 Gd Da) (Aa (Bc CL) (Aa (EX EW Dr) (Aa Bh (AP Ab (fun c24 => ?_) (fun c24 => ?_)))))))))))))))))))
    · refine Ai (Ai (Ai (Ai (Aa A5 (Aa Ab (Ai (Aa A5 (Ad k (B3 (Ac fun _ k=>Aa Ae (Ad k (Af (hR0 _ _ (Aq ?_)))))))))))))); exact bF (fun h => by have h1 := h.2 s (by rw [← hp]; simp); omega)
    refine Aa Ab (Aa Ab (Aa BM (Aa Bh (AP Ab (fun c25 => ?_) (fun c25 => ?_)))))
    · refine Aa Ab (Aa BJ (Aa A5 (Aa Au (AP Ab (fun c26 => ?_) (fun c26 => ?_)))))
      · refine Ai (Aa A5 (Ad k (B3 (Ac fun _ k=>Aa Ae (Ad k (Af (hR0 _ _ (Aq ?_)))))))); exact bF (fun h => by have h1 := h.2 s (by rw [← hp]; simp); omega)
      refine Aa Ab (Aa Bh (Aa Au (Ad k (Ax (fun c27 => ?_) (fun c27 => ?_)))))
      · refine Ac fun _ k=>Aa Ae (Ad k (Af (hR0 _ _ (Aq ?_)))); exact bF (fun h => by have h1 := h.2 s (by rw [← hp]; simp); omega)
      refine As (Ao fun _ k=>Aa Ab (Aa A6 (Aa Ae (Ad k (hR0 _ _ (A8 [] [0, 1] ⟨(pre ++ [s], suf), B2 hp, ?_⟩ BX AW (Ag (he := (by simp))) (.c (.c .n))))))))
      intro x hx; simp only [List.mem_append, List.mem_singleton] at hx; rcases hx with hx | rfl
      · exact hinv x hx
      · omega
    refine Ai (Aa Au (Aa Au (Aa Ab (Aa Ab (Aa Bh (Aa Au (Ad k (Ax (fun c28 => ?_) (fun c28 => ?_)))))))))
    · refine Ac fun _ k=>Aa Ae (Ad k (Af (hR0 _ _ (Aq ?_)))); exact bF (fun h => by have h1 := h.2 s (by rw [← hp]; simp); omega)
    refine As (Ao fun _ k=>Aa Ab (Aa A6 (Aa Ae (Ad k (hR0 _ _ (A8 [] [0, 1] ⟨(pre ++ [s], suf), B2 hp, ?_⟩ BX AW (Ag (he := (by simp))) (.c (.c .n))))))))
    intro x hx; simp only [List.mem_append, List.mem_singleton] at hx; rcases hx with hx | rfl
    · exact hinv x hx
    · omega
  omega
theorem dN {p r : Prop} [Decidable p] [Decidable r] (h : ¬ p ↔ r) : bL (!decide p) = bL (decide r) := by
  by_cases hp : p
  · rw [decide_eq_true hp, decide_eq_false (fun h2 => h.2 h2 hp)]; rfl
  rw [decide_eq_false hp, decide_eq_true (h.1 hp)]; rfl
theorem axis_fun (n : Int) : Fun Tryz.prog 153 [iL n] (AK (bL (decide (axOK n))) []) := by
  refine Fun.of (nt := 13) (rs := [.tmp 2]) Tryz.func153 rfl rfl rfl rfl rfl (Ac fun _ z=>Aa Ae (Ad z (Ac fun _ z=>Aa Ab (Aa Dk (DV Ab (fun c1 => ?_) (fun c1 => ?_))))))
  · refine Aa Ab (Aa C7 (Aa A5 (AP Ab (fun c2 => ?_) (fun c2 => ?_))))
    · refine Aa Ab (Aa BJ (Aa A5 (Aa Ae (Ad z (Af (Aq ?_)))))); exact dI ⟨fun h => ⟨by omega, by omega, by omega⟩, fun h => by unfold axOK at h; omega⟩
    refine Ai (Aa Au (Aa Ae (Ad z (Af (Aq ?_))))); exact bF (fun h => by unfold axOK at h; omega)
  refine Ai (Aa Au (Aa Ab (Ai (Aa Au (Aa Ae (Ad z (Af (Aq ?_)))))))); exact bF (fun h => by unfold axOK at h; omega)
theorem turnValid_fun (x y : Int) : Fun Tryz.prog 96 [.agg [iL x, iL y]] (AK (bL (decide (CR x y))) []) := by
  refine Fun.of (nt := 26) (rs := [.tmp 2]) Tryz.func96 rfl rfl rfl rfl rfl (Ac fun _ z=>A4 (Be _ true) (Aa Ae (Ad z (Ac fun _ z=>Aa (Ap 0 GC Ah) (Aa (At Al) (A3 (hF := axis_fun x) (h := AP Ab (fun c1 => ?_) (fun c1 => ?_))))))))
  · refine Aa (Ap 1 GB Ah) (Aa (At Al) (A3 (hF := axis_fun y) (h := Aa A5 (AP Ab (fun c2 => ?_) (fun c2 => ?_)))))
    · refine Aa (Ap 0 GC Ah) (Aa (At Al) (Aa (Ap 1 GB Ah) (Aa (At Al) (Aa Dk (Aa A5 (DV Ab (fun c3 => ?_) (fun c3 => ?_)))))))
      · refine Aa (Ap 0 GC Ah) (Aa (At Al) (Aa (Ap 1 GB Ah) (Aa (At Al) ?_))); have hy3 := ‹axOK y›
        unfold axOK at hy3
        refine Aa q.neg (Aa Dk (Aa A5 (Aa Ae (Ad z (Af (Aq ?_)))))); exact dN ⟨fun h => ⟨‹_›, ‹_›, ‹_›, fun e => h (by omega)⟩, fun h e => h.2.2.2 (by omega)⟩
      refine Ai (Ai (Ai (Aa Au (Aa Ae (Ad z (Af (Aq ?_))))))); exact bF (fun h => absurd ‹x = y› h.2.2.1)
    refine Ai (Ai (A9 (Aa Au (Aa Ab (Ai (Ai (Ai (Aa Au (Aa Ae (Ad z (Af (Aq ?_)))))))))))); exact bF (fun h => absurd h.2.1 ‹_›)
  refine Ai (A9 (Aa Au (Aa Ab (Ai (Ai (A9 (Aa Au (Aa Ab (Ai (Ai (Ai (Aa Au (Aa Ae (Ad z (Af (Aq ?_)))))))))))))))); exact bF (fun h => absurd h.1 ‹_›)
theorem unit_p1 : Fun Tryz.prog 240 [iL (1)] (AK (.agg [iL (1), iL (0), iL (0)]) []) := by
  refine Fun.of (nt := 14) (rs := [.cell 2 237]) Tryz.func240 rfl rfl rfl rfl rfl (Ac fun _ z=>A4 (Bd Ce) (Ad z (Ac fun _ z=>A4 (Bd Ce) (Ad z (An (Ac fun _ z=>Aa Ab (Aa Bh (Ad z (Ax (fun c1 => ?_) (fun c1 => ?_))))))))))
  · refine Ao fun _ z=>Aa Ab (Aa BV (Aa (CP Cp BL Ah) (AC _ true [_] Ej Ah (h := Ad z ?_)))); show Ev _ _ _ _; refine Ac fun _ z=>Aa (Av _ Bu AH) (AC _ true [_] Cs AH (h := Ad z (Af (BD (B7 [_, _, _] Bu AH BC) (⟨?_, rfl⟩))))); rfl
  omega
theorem unit_p2 : Fun Tryz.prog 240 [iL (2)] (AK (.agg [iL (0), iL (1), iL (0)]) []) := by
  refine Fun.of (nt := 14) (rs := [.cell 2 237]) Tryz.func240 rfl rfl rfl rfl rfl (Ac fun _ z=>A4 (Bd Ce) (Ad z (Ac fun _ z=>A4 (Bd Ce) (Ad z (An (Ac fun _ z=>Aa Ab (Aa Bh (Ad z (Ax (fun c1 => ?_) (fun c1 => ?_))))))))))
  · refine Ao fun _ z=>Aa Ab (Aa BV (Aa (CP Cp BL Ah) (AC _ true [_] Ej Ah (h := Ad z ?_)))); show Ev _ _ _ _; refine Ac fun _ z=>Aa (Av _ Bu AH) (AC _ true [_] Cs AH (h := Ad z (Af (BD (B7 [_, _, _] Bu AH BC) (⟨?_, rfl⟩))))); rfl
  omega
theorem unit_p3 : Fun Tryz.prog 240 [iL (3)] (AK (.agg [iL (0), iL (0), iL (1)]) []) := by
  refine Fun.of (nt := 14) (rs := [.cell 2 237]) Tryz.func240 rfl rfl rfl rfl rfl (Ac fun _ z=>A4 (Bd Ce) (Ad z (Ac fun _ z=>A4 (Bd Ce) (Ad z (An (Ac fun _ z=>Aa Ab (Aa Bh (Ad z (Ax (fun c1 => ?_) (fun c1 => ?_))))))))))
  · refine Ao fun _ z=>Aa Ab (Aa BV (Aa (CP Cp BL Ah) (AC _ true [_] Ej Ah (h := Ad z ?_)))); show Ev _ _ _ _; refine Ac fun _ z=>Aa (Av _ Bu AH) (AC _ true [_] Cs AH (h := Ad z (Af (BD (B7 [_, _, _] Bu AH BC) (⟨?_, rfl⟩))))); rfl
  omega
theorem unit_n1 : Fun Tryz.prog 240 [iL (-1)] (AK (.agg [iL (-1), iL (0), iL (0)]) []) := by
  refine Fun.of (nt := 14) (rs := [.cell 2 237]) Tryz.func240 rfl rfl rfl rfl rfl (Ac fun _ z=>A4 (Bd Ce) (Ad z (Ac fun _ z=>A4 (Bd Ce) (Ad z (An (Ac fun _ z=>Aa Ab (Aa Bh (Ad z (Ax (fun c1 => ?_) (fun c1 => ?_))))))))))
  · omega
  refine Ao fun _ z=>Aa Ab (Aa q.neg (Aa BV (Aa (CP Cp BL Ah) (AC _ true [_] Ej Ah (h := Ad z ?_))))); show Ev _ _ _ _; refine Ac fun _ z=>Aa (Av _ Bu AH) (AC _ true [_] Cs AH (h := Ad z (Af (BD (B7 [_, _, _] Bu AH BC) (⟨?_, rfl⟩))))); rfl
theorem unit_n2 : Fun Tryz.prog 240 [iL (-2)] (AK (.agg [iL (0), iL (-1), iL (0)]) []) := by
  refine Fun.of (nt := 14) (rs := [.cell 2 237]) Tryz.func240 rfl rfl rfl rfl rfl (Ac fun _ z=>A4 (Bd Ce) (Ad z (Ac fun _ z=>A4 (Bd Ce) (Ad z (An (Ac fun _ z=>Aa Ab (Aa Bh (Ad z (Ax (fun c1 => ?_) (fun c1 => ?_))))))))))
  · omega
  refine Ao fun _ z=>Aa Ab (Aa q.neg (Aa BV (Aa (CP Cp BL Ah) (AC _ true [_] Ej Ah (h := Ad z ?_))))); show Ev _ _ _ _; refine Ac fun _ z=>Aa (Av _ Bu AH) (AC _ true [_] Cs AH (h := Ad z (Af (BD (B7 [_, _, _] Bu AH BC) (⟨?_, rfl⟩))))); rfl
theorem unit_n3 : Fun Tryz.prog 240 [iL (-3)] (AK (.agg [iL (0), iL (0), iL (-1)]) []) := by
  refine Fun.of (nt := 14) (rs := [.cell 2 237]) Tryz.func240 rfl rfl rfl rfl rfl (Ac fun _ z=>A4 (Bd Ce) (Ad z (Ac fun _ z=>A4 (Bd Ce) (Ad z (An (Ac fun _ z=>Aa Ab (Aa Bh (Ad z (Ax (fun c1 => ?_) (fun c1 => ?_))))))))))
  · omega
  refine Ao fun _ z=>Aa Ab (Aa q.neg (Aa BV (Aa (CP Cp BL Ah) (AC _ true [_] Ej Ah (h := Ad z ?_))))); show Ev _ _ _ _; refine Ac fun _ z=>Aa (Av _ Bu AH) (AC _ true [_] Cs AH (h := Ad z (Af (BD (B7 [_, _, _] Bu AH BC) (⟨?_, rfl⟩))))); rfl
theorem Ef (n : Int) (h : axOK n) : Fun Tryz.prog 240 [iL n] (AK (.agg [iL (uV n 1), iL (uV n 2), iL (uV n 3)]) []) := by
  have hn : n = 1 ∨ n = 2 ∨ n = 3 ∨ n = -1 ∨ n = -2 ∨ n = -3 := by unfold axOK at h; omega
  rcases hn with rfl | rfl | rfl | rfl | rfl | rfl
  · exact unit_p1
  · exact unit_p2
  · exact unit_p3
  · exact unit_n1
  · exact unit_n2
  exact unit_n3
theorem ER (x y : Int) : Fun Tryz.prog 241 [.agg [iL (uV x 1), iL (uV x 2), iL (uV x 3)], .agg [iL (uV y 1), iL (uV y 2), iL (uV y 3)]] (AK (.agg [iL (crX x y), iL (crY x y), iL (crZ x y)]) []) := by
  have hb : ∀ i j : Int, -1 ≤ uV x i * uV y j ∧ uV x i * uV y j ≤ 1 := fun i j => by
    have := El (Fz x i) (Fz y j); omega
  have b1 := hb 2 3; have b2 := hb 3 2; have b3 := hb 3 1; have b4 := hb 1 3; have b5 := hb 1 2; have b6 := hb 2 1; refine Fun.of (nt := 39) (rs := [.cell 4 237]) Tryz.func241 rfl rfl rfl rfl rfl (Ac fun _ z=>A4 (Be _ true) (A4 (Be _ true) (A4 (Bd Ce) (Ad z (Ac fun _ z=>Aa (CP Cp BL Ah) (Aa (At Al) (Aa (CP Cp BL Ah) (Aa (At Al) (Aa BM (Aa (CP Cp BL Ah) (Aa (At Al) (Aa (CP Cp BL Ah) (Aa (At Al) (Aa BM (Aa BV (Aa (CP Cp BL Ah) (Aa (At Al) (Aa (CP Cp BL Ah) (Aa (At Al) (Aa BM (Aa (CP Cp BL Ah) (Aa (At Al) (Aa (CP Cp BL Ah) (Aa (At Al) (Aa BM (Aa BV (Aa (CP Cp BL Ah) (Aa (At Al) (Aa (CP Cp BL Ah) (Aa (At Al) (Aa BM (Aa (CP Cp BL Ah) (Aa (At Al) (Aa (CP Cp BL Ah) (Aa (At Al) (Aa BM (Aa BV (Aa (GE [_, _, _] Ce am_pn237 BL Ah) (AC _ true [_, _] Cs AH (h := Ad z (Af (BD (B7 [_, _, _] Bu AH BC) (⟨?_, rfl⟩))))))))))))))))))))))))))))))))))))))))))); rfl
theorem columns_fun (x y : Int) (h : CR x y) : Fun Tryz.prog 233 [.agg [iL x, iL y]] (AK (.agg [iL (uV x 1), iL (uV x 2), iL (uV x 3), iL (uV y 1), iL (uV y 2), iL (uV y 3), iL (crX x y), iL (crY x y), iL (crZ x y)]) []) := by
  refine Fun.of (nt := 17) (rs := [.cell 2 249]) Tryz.func233 rfl rfl rfl rfl rfl (Ac fun _ z=>A4 (Be _ true) (A4 (Bd EO) (Ad z (AT (Wk.frzv 1 [_]) (Ev.stp (m := 10) (L0 := #[false, false, false, false, false, false, false, false, false, false]) rfl (by kernel_rfl) (by exact rfl) fun _ z=>(HP.fa (i := 0) GC (by rw [Ah]; decide) rfl (h := (HP.ls1 (i := 1) Al rfl (h := (HP.fa (i := 3) GB (by rw [Ah]; decide) rfl (h := (HP.ls1 (i := 4) Al rfl (h := (.done (HT.three (i := 2) (j := 6) (k := 7) trivial rfl rfl rfl (A3 (hF := Ef x h.1) (h := AD ?_)) (A4 (Bd Ce) (AD ?_)) (A4 (Bd Ce) (AD ?_)))))))))))))))))
  · skip; refine HT.three (i := 5) (j := 6) (k := 7) trivial rfl rfl rfl (A3 (hF := Ef y h.2.1) (h := AD ?_)) (A4 (Bd Ce) (AD ?_)) (A4 (Bd Ce) (AD ?_))
    · skip; refine Dz (i := 6) (j := 7) trivial rfl rfl (A4 (Bd Ce) (AD ?_)) (A4 (Bd Ce) (AD ?_))
      · skip; refine AN (i := 7) trivial rfl (A4 (Bd Ce) (AD (AN (i := 8) trivial rfl (AC _ true [_, _] Cs AH (h := AD (AN (i := 9) trivial rfl (AC _ true [_, _] Cs AH (h := AD (Cw trivial (by kernel_rfl) (z _ (Ck (C8 [(0, 0), (0, 0), (0, 0), (0, 0), (4, 12), (5, 31), (6, 63)]) 6 fun _ z=>Ak (Av _ Bu AH) (Ak (Av _ Bu AH) (Ak (Av _ Bu AH) (Ak (Av _ Bu AH) (B1 (hF := ER x y) (h := Ak (GE [_, _, _, _, _, _, _, _, _] EO F2 Dj AH) (Bz [_, _, _] (h := AC _ true [_, _] Fg CT (h := Ad z (Af (BD (B7 [_, _, _, _, _, _, _, _, _] F1 CT BC) (⟨?_, rfl⟩)))))))))))))))))))))); rfl
      skip; refine AN (i := 6) trivial rfl (A4 (Bd Ce) (AD (AN (i := 8) trivial rfl (AC _ true [_, _] Cs AH (h := AD (AN (i := 9) trivial rfl (AC _ true [_, _] Cs AH (h := AD (Cw trivial (by kernel_rfl) (z _ (Ck (C8 [(0, 0), (0, 0), (0, 0), (0, 0), (4, 12), (5, 31), (6, 63)]) 6 fun _ z=>Ak (Av _ Bu AH) (Ak (Av _ Bu AH) (Ak (Av _ Bu AH) (Ak (Av _ Bu AH) (B1 (hF := ER x y) (h := Ak (GE [_, _, _, _, _, _, _, _, _] EO F2 Dj AH) (Bz [_, _, _] (h := AC _ true [_, _] Fg CT (h := Ad z (Af (BD (B7 [_, _, _, _, _, _, _, _, _] F1 CT BC) (⟨?_, rfl⟩)))))))))))))))))))))); rfl
    · skip; refine Dz (i := 5) (j := 7) trivial rfl rfl (A3 (hF := Ef y h.2.1) (h := AD ?_)) (A4 (Bd Ce) (AD ?_))
      · skip; refine AN (i := 7) trivial rfl (A4 (Bd Ce) (AD (AN (i := 8) trivial rfl (AC _ true [_, _] Cs AH (h := AD (AN (i := 9) trivial rfl (AC _ true [_, _] Cs AH (h := AD (Cw trivial (by kernel_rfl) (z _ (Ck (C8 [(0, 0), (0, 0), (0, 0), (0, 0), (4, 12), (5, 31), (6, 63)]) 6 fun _ z=>Ak (Av _ Bu AH) (Ak (Av _ Bu AH) (Ak (Av _ Bu AH) (Ak (Av _ Bu AH) (B1 (hF := ER x y) (h := Ak (GE [_, _, _, _, _, _, _, _, _] EO F2 Dj AH) (Bz [_, _, _] (h := AC _ true [_, _] Fg CT (h := Ad z (Af (BD (B7 [_, _, _, _, _, _, _, _, _] F1 CT BC) (⟨?_, rfl⟩)))))))))))))))))))))); rfl
      skip; refine AN (i := 5) trivial rfl (A3 (hF := Ef y h.2.1) (h := AD (AN (i := 8) trivial rfl (AC _ true [_, _] Cs AH (h := AD (AN (i := 9) trivial rfl (AC _ true [_, _] Cs AH (h := AD (Cw trivial (by kernel_rfl) (z _ (Ck (C8 [(0, 0), (0, 0), (0, 0), (0, 0), (4, 12), (5, 31), (6, 63)]) 6 fun _ z=>Ak (Av _ Bu AH) (Ak (Av _ Bu AH) (Ak (Av _ Bu AH) (Ak (Av _ Bu AH) (B1 (hF := ER x y) (h := Ak (GE [_, _, _, _, _, _, _, _, _] EO F2 Dj AH) (Bz [_, _, _] (h := AC _ true [_, _] Fg CT (h := Ad z (Af (BD (B7 [_, _, _, _, _, _, _, _, _] F1 CT BC) (⟨?_, rfl⟩)))))))))))))))))))))); rfl
    skip; refine Dz (i := 5) (j := 6) trivial rfl rfl (A3 (hF := Ef y h.2.1) (h := AD ?_)) (A4 (Bd Ce) (AD ?_))
    · skip; refine AN (i := 6) trivial rfl (A4 (Bd Ce) (AD (AN (i := 8) trivial rfl (AC _ true [_, _] Cs AH (h := AD (AN (i := 9) trivial rfl (AC _ true [_, _] Cs AH (h := AD (Cw trivial (by kernel_rfl) (z _ (Ck (C8 [(0, 0), (0, 0), (0, 0), (0, 0), (4, 12), (5, 31), (6, 63)]) 6 fun _ z=>Ak (Av _ Bu AH) (Ak (Av _ Bu AH) (Ak (Av _ Bu AH) (Ak (Av _ Bu AH) (B1 (hF := ER x y) (h := Ak (GE [_, _, _, _, _, _, _, _, _] EO F2 Dj AH) (Bz [_, _, _] (h := AC _ true [_, _] Fg CT (h := Ad z (Af (BD (B7 [_, _, _, _, _, _, _, _, _] F1 CT BC) (⟨?_, rfl⟩)))))))))))))))))))))); rfl
    skip; refine AN (i := 5) trivial rfl (A3 (hF := Ef y h.2.1) (h := AD (AN (i := 8) trivial rfl (AC _ true [_, _] Cs AH (h := AD (AN (i := 9) trivial rfl (AC _ true [_, _] Cs AH (h := AD (Cw trivial (by kernel_rfl) (z _ (Ck (C8 [(0, 0), (0, 0), (0, 0), (0, 0), (4, 12), (5, 31), (6, 63)]) 6 fun _ z=>Ak (Av _ Bu AH) (Ak (Av _ Bu AH) (Ak (Av _ Bu AH) (Ak (Av _ Bu AH) (B1 (hF := ER x y) (h := Ak (GE [_, _, _, _, _, _, _, _, _] EO F2 Dj AH) (Bz [_, _, _] (h := AC _ true [_, _] Fg CT (h := Ad z (Af (BD (B7 [_, _, _, _, _, _, _, _, _] F1 CT BC) (⟨?_, rfl⟩)))))))))))))))))))))); rfl
  · skip; refine Dz (i := 2) (j := 7) trivial rfl rfl (A3 (hF := Ef x h.1) (h := AD ?_)) (A4 (Bd Ce) (AD ?_))
    · skip; refine Dz (i := 5) (j := 7) trivial rfl rfl (A3 (hF := Ef y h.2.1) (h := AD ?_)) (A4 (Bd Ce) (AD ?_))
      · skip; refine AN (i := 7) trivial rfl (A4 (Bd Ce) (AD (AN (i := 8) trivial rfl (AC _ true [_, _] Cs AH (h := AD (AN (i := 9) trivial rfl (AC _ true [_, _] Cs AH (h := AD (Cw trivial (by kernel_rfl) (z _ (Ck (C8 [(0, 0), (0, 0), (0, 0), (0, 0), (4, 12), (5, 31), (6, 63)]) 6 fun _ z=>Ak (Av _ Bu AH) (Ak (Av _ Bu AH) (Ak (Av _ Bu AH) (Ak (Av _ Bu AH) (B1 (hF := ER x y) (h := Ak (GE [_, _, _, _, _, _, _, _, _] EO F2 Dj AH) (Bz [_, _, _] (h := AC _ true [_, _] Fg CT (h := Ad z (Af (BD (B7 [_, _, _, _, _, _, _, _, _] F1 CT BC) (⟨?_, rfl⟩)))))))))))))))))))))); rfl
      skip; refine AN (i := 5) trivial rfl (A3 (hF := Ef y h.2.1) (h := AD (AN (i := 8) trivial rfl (AC _ true [_, _] Cs AH (h := AD (AN (i := 9) trivial rfl (AC _ true [_, _] Cs AH (h := AD (Cw trivial (by kernel_rfl) (z _ (Ck (C8 [(0, 0), (0, 0), (0, 0), (0, 0), (4, 12), (5, 31), (6, 63)]) 6 fun _ z=>Ak (Av _ Bu AH) (Ak (Av _ Bu AH) (Ak (Av _ Bu AH) (Ak (Av _ Bu AH) (B1 (hF := ER x y) (h := Ak (GE [_, _, _, _, _, _, _, _, _] EO F2 Dj AH) (Bz [_, _, _] (h := AC _ true [_, _] Fg CT (h := Ad z (Af (BD (B7 [_, _, _, _, _, _, _, _, _] F1 CT BC) (⟨?_, rfl⟩)))))))))))))))))))))); rfl
    skip; refine AN (i := 2) trivial rfl (A3 (hF := Ef x h.1) (h := AD (AN (i := 5) trivial rfl (A3 (hF := Ef y h.2.1) (h := AD (AN (i := 8) trivial rfl (AC _ true [_, _] Cs AH (h := AD (AN (i := 9) trivial rfl (AC _ true [_, _] Cs AH (h := AD (Cw trivial (by kernel_rfl) (z _ (Ck (C8 [(0, 0), (0, 0), (0, 0), (0, 0), (4, 12), (5, 31), (6, 63)]) 6 fun _ z=>Ak (Av _ Bu AH) (Ak (Av _ Bu AH) (Ak (Av _ Bu AH) (Ak (Av _ Bu AH) (B1 (hF := ER x y) (h := Ak (GE [_, _, _, _, _, _, _, _, _] EO F2 Dj AH) (Bz [_, _, _] (h := AC _ true [_, _] Fg CT (h := Ad z (Af (BD (B7 [_, _, _, _, _, _, _, _, _] F1 CT BC) (⟨?_, rfl⟩))))))))))))))))))))))))); rfl
  skip; refine Dz (i := 2) (j := 6) trivial rfl rfl (A3 (hF := Ef x h.1) (h := AD ?_)) (A4 (Bd Ce) (AD ?_))
  · skip; refine Dz (i := 5) (j := 6) trivial rfl rfl (A3 (hF := Ef y h.2.1) (h := AD ?_)) (A4 (Bd Ce) (AD ?_))
    · skip; refine AN (i := 6) trivial rfl (A4 (Bd Ce) (AD (AN (i := 8) trivial rfl (AC _ true [_, _] Cs AH (h := AD (AN (i := 9) trivial rfl (AC _ true [_, _] Cs AH (h := AD (Cw trivial (by kernel_rfl) (z _ (Ck (C8 [(0, 0), (0, 0), (0, 0), (0, 0), (4, 12), (5, 31), (6, 63)]) 6 fun _ z=>Ak (Av _ Bu AH) (Ak (Av _ Bu AH) (Ak (Av _ Bu AH) (Ak (Av _ Bu AH) (B1 (hF := ER x y) (h := Ak (GE [_, _, _, _, _, _, _, _, _] EO F2 Dj AH) (Bz [_, _, _] (h := AC _ true [_, _] Fg CT (h := Ad z (Af (BD (B7 [_, _, _, _, _, _, _, _, _] F1 CT BC) (⟨?_, rfl⟩)))))))))))))))))))))); rfl
    skip; refine AN (i := 5) trivial rfl (A3 (hF := Ef y h.2.1) (h := AD (AN (i := 8) trivial rfl (AC _ true [_, _] Cs AH (h := AD (AN (i := 9) trivial rfl (AC _ true [_, _] Cs AH (h := AD (Cw trivial (by kernel_rfl) (z _ (Ck (C8 [(0, 0), (0, 0), (0, 0), (0, 0), (4, 12), (5, 31), (6, 63)]) 6 fun _ z=>Ak (Av _ Bu AH) (Ak (Av _ Bu AH) (Ak (Av _ Bu AH) (Ak (Av _ Bu AH) (B1 (hF := ER x y) (h := Ak (GE [_, _, _, _, _, _, _, _, _] EO F2 Dj AH) (Bz [_, _, _] (h := AC _ true [_, _] Fg CT (h := Ad z (Af (BD (B7 [_, _, _, _, _, _, _, _, _] F1 CT BC) (⟨?_, rfl⟩)))))))))))))))))))))); rfl
  skip; refine AN (i := 2) trivial rfl (A3 (hF := Ef x h.1) (h := AD (AN (i := 5) trivial rfl (A3 (hF := Ef y h.2.1) (h := AD (AN (i := 8) trivial rfl (AC _ true [_, _] Cs AH (h := AD (AN (i := 9) trivial rfl (AC _ true [_, _] Cs AH (h := AD (Cw trivial (by kernel_rfl) (z _ (Ck (C8 [(0, 0), (0, 0), (0, 0), (0, 0), (4, 12), (5, 31), (6, 63)]) 6 fun _ z=>Ak (Av _ Bu AH) (Ak (Av _ Bu AH) (Ak (Av _ Bu AH) (Ak (Av _ Bu AH) (B1 (hF := ER x y) (h := Ak (GE [_, _, _, _, _, _, _, _, _] EO F2 Dj AH) (Bz [_, _, _] (h := AC _ true [_, _] Fg CT (h := Ad z (Af (BD (B7 [_, _, _, _, _, _, _, _, _] F1 CT BC) (⟨?_, rfl⟩))))))))))))))))))))))))); rfl
def imK (x y a b c : Int) (k i : Nat) : Int := if i < k then (if i = 0 then (Gc x y (a, b, c)).1 else if i = 1 then (Gc x y (a, b, c)).2.1 else (Gc x y (a, b, c)).2.2) else 0
theorem image_fun (x y a b c : Int) (h : CR x y) (hn : CX (a, b, c)) : Fun Tryz.prog 218 [.agg [iL x, iL y], .agg [iL a, iL b, iL c]] (AK (.agg (C1 (Gc x y (a, b, c)))) []) := by
  obtain ⟨e1, e2⟩ := im_bd (x := x) (y := y) hn 1; obtain ⟨e3, e4⟩ := im_bd (x := x) (y := y) hn 2; obtain ⟨e5, e6⟩ := im_bd (x := x) (y := y) hn 3; obtain ⟨e7, e8, e9⟩ := im_bd3 (x := x) (y := y) hn
  dsimp only at e1 e2 e3 e4 e5 e6 e7 e8 e9
  refine Fun.of (nt := 46) (rs := [.cell 4 80]) Tryz.func218 rfl rfl rfl rfl rfl (Ac fun _ z=>A4 (Be _ true) (A4 (Be _ true) (A4 (Bd AJ) (Ad z (Ac fun _ z=>Aa (Av _ am_ag78 EP) (A3 (hF := columns_fun x y h) (h := A4 (Bd EO) (AC _ true [_, _, _] Fg CT (h := Ad z (Ac fun _ z=>A4 (Bd Ce) (Ad z (An (Ac fun _ z=>Aa Ab (Ad z (Ar (AI (ι := {k : Nat // k ≤ 3}) [4, 3, 1, 2] [3, 4, 5, 6] (fun ⟨k, _⟩ => [(10, iL (k : Int))]) (fun ⟨k, _⟩ => [(0, ⟨false, 237, 3, [[iL (imK x y a b c k 0), iL (imK x y a b c k 1), iL (imK x y a b c k 2)]], true⟩), (1, ⟨false, 249, 9, [[iL (uV x 1), iL (uV x 2), iL (uV x 3), iL (uV y 1), iL (uV y 2), iL (uV y 3), iL (crX x y), iL (crY x y), iL (crZ x y)]], true⟩), (2, ⟨false, 80, 3, [[iL (a), iL (b), iL (c)]], true⟩), (3, ⟨false, 80, 3, [[iL (0), iL (0), iL (0)]], true⟩)]) (fun ⟨k, _⟩ => 3 - k) ⟨0, by decide⟩ (.c (.c (.c (.c .n)))) (Aj (h := (Aj (h := (Aj (h := (Aj))))))) (Ag) ?_)))))))))))))))); rintro ⟨k, hk⟩ R0 hR0; dsimp only [cA, nA, lC, lN]
  have hk4 : k = 3 ∨ k = 0 ∨ k = 1 ∨ k = 2 := by omega
  rcases hk4 with hk4 | hk4 | hk4 | hk4
  · subst hk4; refine Ac fun _ z=>Aa Ay (Ad z (By (fun c1 => ?_) (fun c1 => ?_)))
    · omega
    refine AO (hR0 _ _ (Ac fun _ z=>Aa (CP Cp BL Ah) (Aa (At Al) (Aa (CP Cp BL Ah) (Aa (At Al) (Aa (CP Cp BL Ah) (Aa (At Al) (Aa (Bj _ AJ BH) (AC _ true [_, _, _] BG Am (h := Ad z (Af (BD (B7 [_, _, _] AF Am BC) (⟨?_, rfl⟩))))))))))))); rfl
  · subst hk4; refine Ac fun _ z=>Aa Ay (Ad z (By (fun c2 => ?_) (fun c2 => ?_)))
    · refine An (Ar (Ac fun _ z=>Aa Ab (Aa Ae (Ad z (CH (C8 [(0, 0), (0, 0), (0, 0), (3, 6), (4, 14), (0, 0), (6, 32), (7, 126), (0, 0), (0, 0), (10, 768), (11, 1792), (0, 0), (13, 4096), (14, 16128), (15, 32766), (0, 0), (0, 0), (18, 196608), (19, 458752), (0, 0), (21, 1048576), (22, 4128768), (23, 8388606), (24, 16777215), (25, 33554431)]) 25 fun _ z=>Ak Ab (Ak Ab (Ak (CP GN Dj AH) (Ak (CP Cp BL Ah) (Ak (At Al) (Ak (Ap 0 AU Ah) (Ak (At Al) (Ak BM (Ak Ab (Ak (CP GN Dj AH) (Ak (CP Cp BL Ah) (Ak (At Al) (Ak (Ap 1 Bi Ah) (Ak (At Al) (Ak BM (Ak A6 (Ak Ab (Ak (CP GN Dj AH) (Ak (CP Cp BL Ah) (Ak (At Al) (Ak (Ap 2 Bk Ah) (Ak (At Al) (Ak BM (Ak A6 (Ak (CP Cp BL Ah) (Bz [_, _, _, _] (h := AC _ true [_, _, _] Ej Ah (h := Ad z ?_)))))))))))))))))))))))))))))))); show Ev _ _ _ _; refine Ao fun _ z=>Aa A6 (Aa Ab (Ad z (hR0 _ _ (A8 [0, 1, 2, 3] [3, 4, 5, 6] ⟨1, by decide⟩ ?_ (Aj (h := (Aj (h := (Aj (h := (Aj))))))) (Ag) (.c (.c (.c (.c .n)))))))); skip; all_goals (dsimp only; omega)
    omega
  · subst hk4; refine Ac fun _ z=>Aa Ay (Ad z (By (fun c3 => ?_) (fun c3 => ?_)))
    · refine An (Ar (Ac fun _ z=>Aa Ab (Aa Ae (Ad z (CH (C8 [(0, 0), (0, 0), (0, 0), (3, 6), (4, 14), (0, 0), (6, 32), (7, 126), (0, 0), (0, 0), (10, 768), (11, 1792), (0, 0), (13, 4096), (14, 16128), (15, 32766), (0, 0), (0, 0), (18, 196608), (19, 458752), (0, 0), (21, 1048576), (22, 4128768), (23, 8388606), (24, 16777215), (25, 33554431)]) 25 fun _ z=>Ak Ab (Ak Ab (Ak (CP GN Dj AH) (Ak (CP Cp BL Ah) (Ak (At Al) (Ak (Ap 0 AU Ah) (Ak (At Al) (Ak BM (Ak Ab (Ak (CP GN Dj AH) (Ak (CP Cp BL Ah) (Ak (At Al) (Ak (Ap 1 Bi Ah) (Ak (At Al) (Ak BM (Ak A6 (Ak Ab (Ak (CP GN Dj AH) (Ak (CP Cp BL Ah) (Ak (At Al) (Ak (Ap 2 Bk Ah) (Ak (At Al) (Ak BM (Ak A6 (Ak (CP Cp BL Ah) (Bz [_, _, _, _] (h := AC _ true [_, _, _] Ej Ah (h := Ad z ?_)))))))))))))))))))))))))))))))); show Ev _ _ _ _; refine Ao fun _ z=>Aa A6 (Aa Ab (Ad z (hR0 _ _ (A8 [0, 1, 2, 3] [3, 4, 5, 6] ⟨2, by decide⟩ ?_ (Aj (h := (Aj (h := (Aj (h := (Aj))))))) (Ag) (.c (.c (.c (.c .n)))))))); skip; all_goals (dsimp only; omega)
    omega
  subst hk4; refine Ac fun _ z=>Aa Ay (Ad z (By (fun c4 => ?_) (fun c4 => ?_)))
  · refine An (Ar (Ac fun _ z=>Aa Ab (Aa Ae (Ad z (CH (C8 [(0, 0), (0, 0), (0, 0), (3, 6), (4, 14), (0, 0), (6, 32), (7, 126), (0, 0), (0, 0), (10, 768), (11, 1792), (0, 0), (13, 4096), (14, 16128), (15, 32766), (0, 0), (0, 0), (18, 196608), (19, 458752), (0, 0), (21, 1048576), (22, 4128768), (23, 8388606), (24, 16777215), (25, 33554431)]) 25 fun _ z=>Ak Ab (Ak Ab (Ak (CP GN Dj AH) (Ak (CP Cp BL Ah) (Ak (At Al) (Ak (Ap 0 AU Ah) (Ak (At Al) (Ak BM (Ak Ab (Ak (CP GN Dj AH) (Ak (CP Cp BL Ah) (Ak (At Al) (Ak (Ap 1 Bi Ah) (Ak (At Al) (Ak BM (Ak A6 (Ak Ab (Ak (CP GN Dj AH) (Ak (CP Cp BL Ah) (Ak (At Al) (Ak (Ap 2 Bk Ah) (Ak (At Al) (Ak BM (Ak A6 (Ak (CP Cp BL Ah) (Bz [_, _, _, _] (h := AC _ true [_, _, _] Ej Ah (h := Ad z ?_)))))))))))))))))))))))))))))))); show Ev _ _ _ _; refine Ao fun _ z=>Aa A6 (Aa Ab (Ad z (hR0 _ _ (A8 [0, 1, 2, 3] [3, 4, 5, 6] ⟨3, by decide⟩ ?_ (Aj (h := (Aj (h := (Aj (h := (Aj))))))) (Ag) (.c (.c (.c (.c .n)))))))); skip; all_goals (dsimp only; omega)
  omega
theorem placed_fun (x y : Int) (q p : P3) (h : CR x y) (hq : CX q) (hn : CX p) : Fun Tryz.prog 191 [.agg [iL x, iL y], .agg (C1 q), .agg (C1 p)] (AK (.agg (C1 (D3 q (Gc x y p)))) []) := by
  obtain ⟨a, b, c⟩ := p; obtain ⟨d, e, f⟩ := q; obtain ⟨e1, e2⟩ := im_bd (x := x) (y := y) hn 1; obtain ⟨e3, e4⟩ := im_bd (x := x) (y := y) hn 2; obtain ⟨e5, e6⟩ := im_bd (x := x) (y := y) hn 3; obtain ⟨e7, e8, e9⟩ := im_bd3 (x := x) (y := y) hn
  unfold CX at hq
  dsimp only at hq
  refine Fun.of (nt := 27) (rs := [.cell 6 80]) Tryz.func191 rfl rfl rfl rfl rfl (Ac fun _ z=>A4 (Be _ true) (A4 (Be _ true) (A4 (Be _ true) (A4 (Bd AJ) (Ad z (Ac fun _ z=>Aa (Av _ am_ag78 EP) (Aa (Av _ AF Am) (A3 (hF := image_fun x y a b c h hn) (h := A4 (Bd AJ) (AC _ true [_, _, _, _] BG Am (h := Ad z (Ac fun _ z=>Aa (Ap 0 AU Ah) (Aa (At Al) (Aa (Ap 0 AU Ah) (Aa (At Al) (Aa A6 (Aa (Ap 1 Bi Ah) (Aa (At Al) (Aa (Ap 1 Bi Ah) (Aa (At Al) (Aa A6 (Aa (Ap 2 Bk Ah) (Aa (At Al) (Aa (Ap 2 Bk Ah) (Aa (At Al) (Aa A6 (Aa (Bj _ AJ BH) (AC _ true [_, _, _, _] BG Am (h := Ad z (Af (BD (B7 [_, _, _] AF Am BC) (⟨?_, rfl⟩)))))))))))))))))))))))))))))))); rfl
def nrk (a b c : Int) (k : Nat) : Prop := ∀ i, i < k → -1048576 ≤ co3 a b c i ∧ co3 a b c i ≤ 1048576
theorem nrk_s {a b c : Int} {k : Nat} (h : nrk a b c k) (h1 : -1048576 ≤ co3 a b c k ∧ co3 a b c k ≤ 1048576) : nrk a b c (k + 1) := fun i hi => by
  by_cases e : i = k
  · subst e; exact h1
  · exact h i (by omega)
theorem nrk_3 {a b c : Int} (h : nrk a b c 3) : CX (a, b, c) := ⟨h 0 (by decide), h 1 (by decide), h 2 (by decide)⟩
theorem near_fun (l : List P3) (hlen : l.length ≤ 140737488355328) : Fun Tryz.prog 190 [.sh 3 (l.map C1)] (AK (bL (decide (Gj l))) []) := by
  refine Fun.of (nt := 31) (rs := [.tmp 2]) Tryz.func190 rfl rfl rfl rfl rfl (Ac fun _ z=>Aa Ae (Ad z (An (Ac fun _ z=>Aa Ab (Aa (A7 Bb) (Aa Ab (Ad z (Ar (AI (ι := {q : List (Int × Int × Int) × List (Int × Int × Int) // q.1 ++ q.2 = l ∧ Gj q.1}) [] [7, 8] (fun ⟨(pre, suf), _⟩ => [(9, iL (pre.length : Int))]) (fun ⟨(pre, suf), _⟩ => []) (fun ⟨(pre, suf), _⟩ => suf.length) ⟨([], l), rfl, fun x hx => by simp at hx⟩ (.c (.c .n)) AW (Ag) ?_))))))))); rintro ⟨⟨pre, suf⟩, hp, hinv⟩ R0 hR0; dsimp only [cA, nA, lC, lN]
  simp only at hp hinv
  have hpl := Cd hp
  rcases suf with _ | ⟨s, suf⟩
  · rw [List.append_nil] at hp; simp only [lN] at hpl; refine Ac fun _ z=>Aa Ay (Ad z (By (fun c1 => ?_) (fun c1 => ?_)))
    · omega
    refine AO (hR0 _ _ (Ac fun _ z=>Aa Ae (Ad z (Af (Aq ?_))))); exact bT (by rw [← hp]; exact hinv)
  simp only [lC] at hpl; have hidx := Ch hp; obtain ⟨a, b, c⟩ := s; refine Ac fun _ z=>Aa Ay (Ad z (By (fun c2 => ?_) (fun c2 => ?_)))
  · refine An (Ar (Ac fun _ z=>Aa (AL Bb Am (hl := (by exact AY hidx (by omega)))) (Aa (BF _ AF Am) (A4 (Bd AJ) (AC _ true [] BG Am (h := Ad z (Ac fun _ z=>Aa (Ap 0 AU Ah) (Aa (At Al) (Aa (Ap 1 Bi Ah) (Aa (At Al) (Aa (Ap 2 Bk Ah) (Aa (At Al) (Aa (GE [_, _, _] Ce am_pn237 BL Ah) (Aa Ab (Ad z (Ar (AI (ι := {k : Nat // k ≤ 3 ∧ nrk a b c k}) [] [7, 8, 9, 19] (fun ⟨k, _⟩ => [(20, iL (k : Int))]) (fun ⟨k, _⟩ => []) (fun ⟨k, _⟩ => 3 - k) ⟨0, by decide, fun i hi => absurd hi (by omega)⟩ (.c (.c (.c (.c .n)))) AW (Ag) ?_))))))))))))))))); rintro ⟨k, hk, hik⟩ R2 hR2; dsimp only [cA, nA, lC, lN]
    have hk4 : k = 3 ∨ k = 0 ∨ k = 1 ∨ k = 2 := by omega
    rcases hk4 with hk4 | hk4 | hk4 | hk4
    · subst hk4; refine Ac fun _ z=>Aa Ay (Ad z (By (fun c3 => ?_) (fun c3 => ?_)))
      · omega
      refine AO (hR2 _ _ (Ao fun _ z=>Aa A6 (Aa Ab (Ad z (hR0 _ _ (A8 [] [7, 8] ⟨(pre ++ [(a, b, c)], suf), B2 hp, ?_⟩ BX AW (Ag (he := (by congr 2; simp))) (.c (.c .n)))))))); intro x hx
      rcases List.mem_append.1 hx with hx | hx
      · exact hinv x hx
      · rw [List.mem_singleton] at hx; subst hx; exact nrk_3 hik
    · subst hk4; refine Ac fun _ z=>Aa Ay (Ad z (By (fun c4 => ?_) (fun c4 => ?_)))
      · refine An (Ar (Ac fun _ z=>Aa (q.ixg BL Al Ah) (Aa Ae (Ad z (Ac fun _ z=>Aa Ab (Aa Ay (AP Ab (fun c5 => ?_) (fun c5 => ?_))))))))
        · refine Ai (Aa A5 (Ad z (B3 (Ac fun _ z=>Aa Ae (Ad z (Af (hR2 _ _ (hR0 _ _ (Aq ?_))))))))); exact bF (fun h => by have h1 := h (a, b, c) (by rw [← hp]; simp); unfold CX at h1; dsimp only at h1; omega)
        refine Aa Ab (Aa Bh (Aa Au (Ad z (Ax (fun c6 => ?_) (fun c6 => ?_)))))
        · refine Ac fun _ z=>Aa Ae (Ad z (Af (hR2 _ _ (hR0 _ _ (Aq ?_))))); exact bF (fun h => by have h1 := h (a, b, c) (by rw [← hp]; simp); unfold CX at h1; dsimp only at h1; omega)
        refine As (Ao fun _ z=>Aa A6 (Aa Ab (Ad z (hR2 _ _ (A8 [] [7, 8, 9, 19] ⟨_, by decide, nrk_s hik (show -1048576 ≤ _ ∧ _ ≤ (1048576 : Int) from ⟨by simp [co3]; omega, by simp [co3]; omega⟩)⟩ ?_ AW (Ag) (.c (.c (.c (.c .n))))))))); skip; all_goals (dsimp only; omega)
      omega
    · subst hk4; refine Ac fun _ z=>Aa Ay (Ad z (By (fun c7 => ?_) (fun c7 => ?_)))
      · refine An (Ar (Ac fun _ z=>Aa (q.ixg BL Al Ah) (Aa Ae (Ad z (Ac fun _ z=>Aa Ab (Aa Ay (AP Ab (fun c8 => ?_) (fun c8 => ?_))))))))
        · refine Ai (Aa A5 (Ad z (B3 (Ac fun _ z=>Aa Ae (Ad z (Af (hR2 _ _ (hR0 _ _ (Aq ?_))))))))); exact bF (fun h => by have h1 := h (a, b, c) (by rw [← hp]; simp); unfold CX at h1; dsimp only at h1; omega)
        refine Aa Ab (Aa Bh (Aa Au (Ad z (Ax (fun c9 => ?_) (fun c9 => ?_)))))
        · refine Ac fun _ z=>Aa Ae (Ad z (Af (hR2 _ _ (hR0 _ _ (Aq ?_))))); exact bF (fun h => by have h1 := h (a, b, c) (by rw [← hp]; simp); unfold CX at h1; dsimp only at h1; omega)
        refine As (Ao fun _ z=>Aa A6 (Aa Ab (Ad z (hR2 _ _ (A8 [] [7, 8, 9, 19] ⟨_, by decide, nrk_s hik (show -1048576 ≤ _ ∧ _ ≤ (1048576 : Int) from ⟨by simp [co3]; omega, by simp [co3]; omega⟩)⟩ ?_ AW (Ag) (.c (.c (.c (.c .n))))))))); skip; all_goals (dsimp only; omega)
      omega
    subst hk4; refine Ac fun _ z=>Aa Ay (Ad z (By (fun c10 => ?_) (fun c10 => ?_)))
    · refine An (Ar (Ac fun _ z=>Aa (q.ixg BL Al Ah) (Aa Ae (Ad z (Ac fun _ z=>Aa Ab (Aa Ay (AP Ab (fun c11 => ?_) (fun c11 => ?_))))))))
      · refine Ai (Aa A5 (Ad z (B3 (Ac fun _ z=>Aa Ae (Ad z (Af (hR2 _ _ (hR0 _ _ (Aq ?_))))))))); exact bF (fun h => by have h1 := h (a, b, c) (by rw [← hp]; simp); unfold CX at h1; dsimp only at h1; omega)
      refine Aa Ab (Aa Bh (Aa Au (Ad z (Ax (fun c12 => ?_) (fun c12 => ?_)))))
      · refine Ac fun _ z=>Aa Ae (Ad z (Af (hR2 _ _ (hR0 _ _ (Aq ?_))))); exact bF (fun h => by have h1 := h (a, b, c) (by rw [← hp]; simp); unfold CX at h1; dsimp only at h1; omega)
      refine As (Ao fun _ z=>Aa A6 (Aa Ab (Ad z (hR2 _ _ (A8 [] [7, 8, 9, 19] ⟨_, by decide, nrk_s hik (show -1048576 ≤ _ ∧ _ ≤ (1048576 : Int) from ⟨by simp [co3]; omega, by simp [co3]; omega⟩)⟩ ?_ AW (Ag) (.c (.c (.c (.c .n))))))))); skip; all_goals (dsimp only; omega)
    omega
  omega
theorem nr1_l {p : P3} : Gj [p] ↔ CX p := ⟨fun h => h p (by simp), fun h q hq => by rw [List.mem_singleton] at hq; subst hq; exact h⟩
theorem framePath_fun (x y : Int) (q : P3) (l : List P3) (hlen : l.length ≤ 140737488355328) : Fun Tryz.prog 144 [.agg [iL x, iL y], .agg (C1 q), .sh 3 (l.map C1)] (AK (.tup [.sh 3 ((frV x y q l).map C1), iL (frE x y q l)]) []) := by
  obtain ⟨qa, qb, qc⟩ := q; refine Fun.of (nt := 44) (rs := [.tmp 6, .tmp 7]) Tryz.func144 rfl rfl rfl rfl rfl (Ac fun _ z=>A4 (Be _ true) (A4 (Be _ true) (Aa Ae (Aa Ae (Ad z (An (Ar (Ac fun _ z=>Aa (Av _ am_ag78 EP) (A3 (hF := turnValid_fun x y) (h := Aa BB (Aa Ae (Ad z (Cb (fun c1 => ?_) (fun c1 => ?_))))))))))))))
  · refine Ac fun _ z=>Aa Ae (Aa Ae (Ad z (AT (Wk.nsh C1 6 3) (Af (CC ?_))))); rw [(frE1 ‹_›).1, (frE1 ‹_›).2]
  refine Ac fun _ z=>Aa Ab (Aa (A7 Bb) (Aa Bh (Aa Ae (Ad z (Ax (fun c2 => ?_) (fun c2 => ?_))))))
  · refine Ac fun _ z=>Aa Ae (Aa Ae (Ad z (AT (Wk.nsh C1 6 3) (Af (CC ?_))))); rw [(frE4 ‹CR x y› (by omega)).1, (frE4 ‹CR x y› (by omega)).2]
  refine Ac fun _ z=>Aa (Av _ AF Am) (A4 (C3 [[_, _, _]] true Bb AJ Am) (SeqL.weaken (Wk.frzl (f := C1) [(qa, qb, qc)] 21 [_, _]) (A3 (hF := near_fun [(qa, qb, qc)] (by simp)) (h := Aa BB (DV Ab (fun c3 => ?_) (fun c3 => ?_))))))
  · refine Ai (A9 (Aa A5 (Aa Ae (Ad z (B3 (Ac fun _ z=>Aa Ae (Aa Ae (Ad z (AT (Wk.nsh C1 6 3) (Af (CC ?_))))))))))); rw [(frE2 (at_ := (qa, qb, qc)) ‹CR x y› (by omega) (fun h => absurd (nr1_l.2 h.1) ‹_›)).1, (frE2 (at_ := (qa, qb, qc)) ‹CR x y› (by omega) (fun h => absurd (nr1_l.2 h.1) ‹_›)).2]
  refine Aa Ab (A3 (hF := near_fun l (by omega)) (h := Aa BB (Aa Au (Aa Ae (Ad z (Cb (fun c4 => ?_) (fun c4 => ?_)))))))
  · refine Ac fun _ z=>Aa Ae (Aa Ae (Ad z (AT (Wk.nsh C1 6 3) (Af (CC ?_))))); rw [(frE2 (at_ := (qa, qb, qc)) ‹CR x y› (by omega) (fun h => absurd h.2 ‹_›)).1, (frE2 (at_ := (qa, qb, qc)) ‹CR x y› (by omega) (fun h => absurd h.2 ‹_›)).2]
  refine As (Ac fun _ z=>Aa Ae (Ad z (An (Ac fun _ z=>Aa Ab (Aa (A7 Bb) (Aa Ab (Ad z (Ar (AT (Wk.nown C1 8 80 3) (AI (ι := {p : List ((Int × Int × Int)) × List ((Int × Int × Int)) // p.1 ++ p.2 = l ∧ True}) [3, 0, 1] [3, 4, 29, 30] (fun ⟨(pre, suf), _⟩ => [(31, iL (pre.length : Int)), (8, .als 0 0 (pre.map (fun p => D3 (qa, qb, qc) (Gc x y p))).length)]) (fun ⟨(pre, suf), _⟩ => [(0, ⟨true, 80, 3, (pre.map (fun p => D3 (qa, qb, qc) (Gc x y p))).map C1, true⟩), (1, ⟨false, 78, 2, [[iL (x), iL (y)]], true⟩), (2, ⟨false, 80, 3, [[iL (qa), iL (qb), iL (qc)]], true⟩)]) (fun ⟨(pre, suf), _⟩ => suf.length) ⟨([], l), rfl, trivial⟩ (.c (.c (.c (.c .n)))) (Aj (h := (Aj (h := (Aj))))) (Ag (h := (Ag))) ?_)))))))))); rintro ⟨⟨pre, suf⟩, hp, hinv⟩ R1 hR1; dsimp only [cA, nA, lC, lN]
  simp only at hp hinv
  have hpl := Cd hp
  rcases suf with _ | ⟨s, suf⟩
  · rw [List.append_nil] at hp; simp only [lN] at hpl; refine Ac fun _ z=>Aa Ay (Ad z (By (fun c5 => ?_) (fun c5 => ?_)))
    · omega
    refine AO (hR1 _ _ (Ac fun _ z=>Aa Ab (Aa Ae (Aa Ae (Ad z (AT (Wk.frz 6 [_, _]) (Af (CC ?_)))))))); rw [(frE0 (at_ := (qa, qb, qc)) ‹CR x y› (by omega) ⟨nr1_l.1 ‹_›, ‹_›⟩).1, (frE0 (at_ := (qa, qb, qc)) ‹CR x y› (by omega) ⟨nr1_l.1 ‹_›, ‹_›⟩).2, ← hp]
  simp only [lC] at hpl; have hidx := Ch hp; obtain ⟨a, b, c⟩ := s; refine Ac fun _ z=>Aa Ay (Ad z (By (fun c6 => ?_) (fun c6 => ?_)))
  · refine An (Ar (Ac fun _ z=>Aa (AL Bb Am (hl := (by exact AY hidx (by omega)))) (Aa (BF _ AF Am) (A4 (Bd AJ) (AC _ true [_, _, _] BG Am (h := Ad z (Ao fun _ z=>Aa Ab (Aa (Av _ am_ag78 EP) (Aa (Av _ AF Am) (Aa (Av _ AF Am) (A3 (hF := placed_fun x y (qa, qb, qc) (a, b, c) ‹CR x y› (nr1_l.1 ‹Gj [(qa, qb, qc)]›) (‹Gj l› _ (by rw [← hp]; simp))) (h := A4 (C3 [[_, _, _]] true Bb AJ Am) (DJ [_, _, _, _] Bb AJ Am am_by80 (hh := Cu) (hr := (CS [D3 (qa, qb, qc) (Gc x y (a, b, c))])) (h := Aa Ae (Ad z ?_))))))))))))))); show Ev _ _ _ _; refine Ao fun _ z=>Aa A6 (Aa Ab (Ad z (hR1 _ _ (A8 [5, 1, 2] [3, 4, 29, 30] ⟨(pre ++ [(a, b, c)], suf), B2 hp, trivial⟩ BX (Aj (he := (by simp)) (h := (Aj (h := (Aj))))) (Ag (he := (by congr 2; simp)) (h := (Ag (he := (by congr 2; simp))))) (.c (.c (.c (.c .n)))))))); skip
  omega
theorem mv_x {b : Bar} {p : P3} {s : Int × Int} (h : s.2 = 120) : FR b p s = (p.1 + Bm b s.1.toNat, p.2.1, p.2.2) := if_pos h
theorem mv_X {b : Bar} {p : P3} {s : Int × Int} (h : s.2 = 88) : FR b p s = (p.1 - Bm b s.1.toNat, p.2.1, p.2.2) := (if_neg (by omega)).trans (if_pos h)
theorem mv_y {b : Bar} {p : P3} {s : Int × Int} (h : s.2 = 121) : FR b p s = (p.1, p.2.1 + Bm b s.1.toNat, p.2.2) := (if_neg (by omega)).trans ((if_neg (by omega)).trans (if_pos h))
theorem mv_Y {b : Bar} {p : P3} {s : Int × Int} (h : s.2 = 89) : FR b p s = (p.1, p.2.1 - Bm b s.1.toNat, p.2.2) := (if_neg (by omega)).trans ((if_neg (by omega)).trans ((if_neg (by omega)).trans (if_pos h)))
theorem mv_z {b : Bar} {p : P3} {s : Int × Int} (h : s.2 = 122) : FR b p s = (p.1, p.2.1, p.2.2 + Bm b s.1.toNat) := (if_neg (by omega)).trans ((if_neg (by omega)).trans ((if_neg (by omega)).trans ((if_neg (by omega)).trans (if_pos h))))
theorem way_of {k : Int} {s : Int × Int} (h : s ∈ Dd k) : s.2 = 120 ∨ s.2 = 88 ∨ s.2 = 121 ∨ s.2 = 89 ∨ s.2 = 122 := by
  rcases codes k with e | e | e | e | e | e | e | e | e
  iterate 8
    · rw [e] at h
      revert h s
      decide
  rw [(Fh e).1] at h; cases h
theorem path_row {b : Bar} {pre : List (Int × Int)} {s : Int × Int} {x y z : Int} (e : FR b (GH b pre) s = (x, y, z)) : (EC b pre (0, 0, 0) ++ [(x, y, z)]).map C1 = (EC b (pre ++ [s]) (0, 0, 0)).map C1 := by
  rw [pathG_snoc, show pre.foldl (FR b) (0, 0, 0) = GH b pre from rfl, e]
theorem path_alen {b : Bar} {pre : List (Int × Int)} {s : Int × Int} {q p : P3} : (EC b pre p ++ [q]).length = (EC b (pre ++ [s]) p).length := by
  rw [pathG_len, List.length_append, pathG_len]
  simp
theorem end_row {b : Bar} {pre : List (Int × Int)} {s : Int × Int} {x y z : Int} (e : FR b (GH b pre) s = (x, y, z)) : [[iL x, iL y, iL z]] = [[iL (GH b (pre ++ [s])).1, iL (GH b (pre ++ [s])).2.1, iL (GH b (pre ++ [s])).2.2]] := by
  rw [endG_snoc, e]
theorem end_bd {b : Bar} (h : Cg b) : ∀ pre : List (Int × Int), (∀ s ∈ pre, s ∈ Dd b.code) → (-262144 * (pre.length : Int) ≤ (GH b pre).1 ∧ (GH b pre).1 ≤ 262144 * pre.length) ∧ (-262144 * (pre.length : Int) ≤ (GH b pre).2.1 ∧ (GH b pre).2.1 ≤ 262144 * pre.length) ∧ -262144 * (pre.length : Int) ≤ (GH b pre).2.2 ∧ (GH b pre).2.2 ≤ 262144 * pre.length := by
  refine CY (fun _ => by simp [GH]) ?_; intro pre s ih hs; have h1 := ih fun t ht => hs t (by simp [ht]); have h2 := hs s (by simp); have hlb := leg_bd b.code s h2; obtain ⟨_, d1, d2⟩ := Ca h (i := s.1.toNat) (by omega); rw [endG_snoc, List.length_append, List.length_singleton]
  rcases way_of h2 with e | e | e | e | e
  · rw [mv_x e]; dsimp only; omega
  · rw [mv_X e]; dsimp only; omega
  · rw [mv_y e]; dsimp only; omega
  · rw [mv_Y e]; dsimp only; omega
  rw [mv_z e]; dsimp only; omega
theorem shapePath_fun (b : Bar) (hw : b.w) : Fun Tryz.prog 143 [.agg b.c] (AK (.tup [.sh 3 ((Fd b).map C1), iL (okE b)]) []) := by
  obtain ⟨hw1, hw2⟩ := id hw; obtain ⟨d1, d2, d3, d4⟩ := dims_eq b.code; refine Fun.of (nt := 71) (rs := [.tmp 2, .tmp 3]) Tryz.func143 rfl rfl rfl rfl rfl (Ac fun _ w=>A4 (Be _ true) (Aa Ae (Aa Ae (Ad w (An (Ac fun _ w=>Aa (Av _ Cm Bv) (A3 (hF := valid_fun _ (by assumption)) (h := Aa BB (Ad w (Cb (fun c1 => ?_) (fun c1 => ?_)))))))))))
  · refine Ac fun _ w=>Aa Ae (Aa Ae (Ad w (AT (Wk.nsh C1 2 3) (Af (CC ?_))))); rw [Fd, okE, if_neg ‹_›, if_neg ‹_›]
  refine As (Ac fun _ w=>A4 (Bd AJ) (Ad w (Ac fun _ w=>Aa (Av _ AF Am) (A4 (C3 [[_, _, _]] true Bb AJ Am) (Aa Ae (Ad w (An (Ac fun _ w=>Aa (Ap 3 am_fi72_3 Ah) (Aa (At Al) (A3 (hF := legs_fun _) (h := Aa (A7 EK) (Aa Ab (Ad w (Ar (AI (ι := {p : List (Int × Int) × List (Int × Int) // p.1 ++ p.2 = (Dd b.code) ∧ True}) [0, 2, 1] [1, 4, 16, 17] (fun ⟨(pre, suf), _⟩ => [(18, iL (pre.length : Int)), (5, .als 1 0 (EC b pre (0, 0, 0)).length)]) (fun ⟨(pre, suf), _⟩ => [(0, ⟨false, 72, 5, [[sL (b.mark), iL (b.size), iL (b.count), iL (b.code), .sh 1 ((b.dims).map Cz)]], true⟩), (1, ⟨true, 80, 3, (EC b pre (0, 0, 0)).map C1, true⟩), (2, ⟨false, 80, 3, [[iL ((GH b pre).1), iL ((GH b pre).2.1), iL ((GH b pre).2.2)]], true⟩)]) (fun ⟨(pre, suf), _⟩ => suf.length) ⟨([], (Dd b.code)), rfl, trivial⟩ (.c (.c (.c (.c .n)))) (Aj (h := (Aj (h := (Aj))))) (Ag (h := (Ag))) ?_))))))))))))))); rintro ⟨⟨pre, suf⟩, hp, hinv⟩ R0 hR0; dsimp only [cA, nA, lC, lN]
  simp only at hp hinv
  have hpl := Cd hp
  rcases suf with _ | ⟨s, suf⟩
  · rw [List.append_nil] at hp; simp only [lN] at hpl; refine Ac fun _ w=>Aa Ay (Ad w (By (fun c2 => ?_) (fun c2 => ?_)))
    · omega
    refine AO (hR0 _ _ (Ac fun _ w=>Aa Ab (Aa Ae (Aa Ae (Ad w (AT (Wk.frz 2 [_, _]) (Af (CC ?_)))))))); rw [Fd, okE, if_pos ‹_›, if_pos ‹_›, EN, ← hp]
  simp only [lC] at hpl; have hidx := Ch hp
  have hsm : s ∈ Dd b.code := by rw [← hp]; simp
  have hlb := leg_bd b.code s hsm; have hwy := way_of hsm; obtain ⟨hdi, hd1, hd2⟩ := Ca ‹Cg b› (i := s.1.toNat) (by omega); have heb := end_bd ‹Cg b› pre (fun t ht => by rw [← hp]; simp [ht]); have hpl6 := pathG_len b pre (0, 0, 0); refine Ac fun _ w=>Aa Ay (Ad w (By (fun c3 => ?_) (fun c3 => ?_)))
  · refine An (Ar (Ac fun _ w=>Aa (AL EK DL (hl := (by exact AY hidx (by omega)))) (Aa (BF _ am_ag196 DL) (A4 (Bd BZ) (AC _ true [_, _, _] am_in196 DL (h := Ad w (Ac fun _ w=>Aa (Ap 4 EQ FW) (Aa (At FT) (Aa (Ap 0 am_fi196_0 Ah) (Aa (At Al) (Aa (AL AG Ah (hl := (by exact AY hdi (by omega)))) (Aa (Bc Al) (Aa Ae (Ad w (An (Ac fun _ w=>Aa (Ap 1 am_fi196_1 am_cl5) (Aa (At am_ag5) (Ad w (Ar (Ac fun _ w=>Aa B6 (Aa Ae (Ad w (Ax (fun c4 => ?_) (fun c4 => ?_))))))))))))))))))))))))
    · refine Ao fun _ w=>Aa (Ap 0 AU Ah) (Aa (At Al) (Aa Ab (Aa A6 (Aa (Ap 0 AU Ah) (AC _ true [_, _, _] Ej Ah (h := Ad w ?_)))))); show Ev _ _ _ _; refine Ao fun _ w=>Aa Ab (Aa (Av _ AF Am) (A4 (C3 [[_, _, _]] true Bb AJ Am) (DJ [_, _, _, _] Bb AJ Am am_by80 (hh := Cu) (hr := (CS [(⟨_, _, _⟩ : Int × Int × Int)])) (h := Aa Ae (Ad w ?_))))); show Ev _ _ _ _; refine Ao fun _ w=>Aa A6 (Aa Ab (Ad w (hR0 _ _ (A8 [0, 5, 2] [1, 4, 16, 17] ⟨(pre ++ [s], suf), B2 hp, trivial⟩ BX (Aj (h := (Aj (he := (by exact path_row (mv_x ‹_›))) (h := (Aj (he := (by exact end_row (mv_x ‹_›)))))))) (Ag (he := (by congr 2; simp)) (h := (Ag (he := (by exact congrArg (fun k => AV.als 1 0 k) path_alen))))) (.c (.c (.c (.c .n)))))))); skip
    refine Ac fun _ w=>Aa B6 (Aa Ae (Ad w (Ax (fun c5 => ?_) (fun c5 => ?_))))
    · refine Ao fun _ w=>Aa (Ap 0 AU Ah) (Aa (At Al) (Aa Ab (Aa BV (Aa (Ap 0 AU Ah) (AC _ true [_, _, _] Ej Ah (h := Ad w ?_)))))); show Ev _ _ _ _; refine Ao fun _ w=>Aa Ab (Aa (Av _ AF Am) (A4 (C3 [[_, _, _]] true Bb AJ Am) (DJ [_, _, _, _] Bb AJ Am am_by80 (hh := Cu) (hr := (CS [(⟨_, _, _⟩ : Int × Int × Int)])) (h := Aa Ae (Ad w ?_))))); show Ev _ _ _ _; refine Ao fun _ w=>Aa A6 (Aa Ab (Ad w (hR0 _ _ (A8 [0, 5, 2] [1, 4, 16, 17] ⟨(pre ++ [s], suf), B2 hp, trivial⟩ BX (Aj (h := (Aj (he := (by exact path_row (mv_X ‹_›))) (h := (Aj (he := (by exact end_row (mv_X ‹_›)))))))) (Ag (he := (by congr 2; simp)) (h := (Ag (he := (by exact congrArg (fun k => AV.als 1 0 k) path_alen))))) (.c (.c (.c (.c .n)))))))); skip
    refine Ac fun _ w=>Aa B6 (Aa Ae (Ad w (Ax (fun c6 => ?_) (fun c6 => ?_))))
    · refine Ao fun _ w=>Aa (Ap 1 Bi Ah) (Aa (At Al) (Aa Ab (Aa A6 (Aa (Ap 1 Bi Ah) (AC _ true [_, _, _] Ej Ah (h := Ad w ?_)))))); show Ev _ _ _ _; refine Ao fun _ w=>Aa Ab (Aa (Av _ AF Am) (A4 (C3 [[_, _, _]] true Bb AJ Am) (DJ [_, _, _, _] Bb AJ Am am_by80 (hh := Cu) (hr := (CS [(⟨_, _, _⟩ : Int × Int × Int)])) (h := Aa Ae (Ad w ?_))))); show Ev _ _ _ _; refine Ao fun _ w=>Aa A6 (Aa Ab (Ad w (hR0 _ _ (A8 [0, 5, 2] [1, 4, 16, 17] ⟨(pre ++ [s], suf), B2 hp, trivial⟩ BX (Aj (h := (Aj (he := (by exact path_row (mv_y ‹_›))) (h := (Aj (he := (by exact end_row (mv_y ‹_›)))))))) (Ag (he := (by congr 2; simp)) (h := (Ag (he := (by exact congrArg (fun k => AV.als 1 0 k) path_alen))))) (.c (.c (.c (.c .n)))))))); skip
    refine Ac fun _ w=>Aa B6 (Aa Ae (Ad w (Ax (fun c7 => ?_) (fun c7 => ?_))))
    · refine Ao fun _ w=>Aa (Ap 1 Bi Ah) (Aa (At Al) (Aa Ab (Aa BV (Aa (Ap 1 Bi Ah) (AC _ true [_, _, _] Ej Ah (h := Ad w ?_)))))); show Ev _ _ _ _; refine Ao fun _ w=>Aa Ab (Aa (Av _ AF Am) (A4 (C3 [[_, _, _]] true Bb AJ Am) (DJ [_, _, _, _] Bb AJ Am am_by80 (hh := Cu) (hr := (CS [(⟨_, _, _⟩ : Int × Int × Int)])) (h := Aa Ae (Ad w ?_))))); show Ev _ _ _ _; refine Ao fun _ w=>Aa A6 (Aa Ab (Ad w (hR0 _ _ (A8 [0, 5, 2] [1, 4, 16, 17] ⟨(pre ++ [s], suf), B2 hp, trivial⟩ BX (Aj (h := (Aj (he := (by exact path_row (mv_Y ‹_›))) (h := (Aj (he := (by exact end_row (mv_Y ‹_›)))))))) (Ag (he := (by congr 2; simp)) (h := (Ag (he := (by exact congrArg (fun k => AV.als 1 0 k) path_alen))))) (.c (.c (.c (.c .n)))))))); skip
    refine Ac fun _ w=>Aa B6 (Aa Ae (Ad w (Ax (fun c8 => ?_) (fun c8 => ?_))))
    · refine Ao fun _ w=>Aa (Ap 2 Bk Ah) (Aa (At Al) (Aa Ab (Aa A6 (Aa (Ap 2 Bk Ah) (AC _ true [_, _, _] Ej Ah (h := Ad w ?_)))))); show Ev _ _ _ _; refine Ao fun _ w=>Aa Ab (Aa (Av _ AF Am) (A4 (C3 [[_, _, _]] true Bb AJ Am) (DJ [_, _, _, _] Bb AJ Am am_by80 (hh := Cu) (hr := (CS [(⟨_, _, _⟩ : Int × Int × Int)])) (h := Aa Ae (Ad w ?_))))); show Ev _ _ _ _; refine Ao fun _ w=>Aa A6 (Aa Ab (Ad w (hR0 _ _ (A8 [0, 5, 2] [1, 4, 16, 17] ⟨(pre ++ [s], suf), B2 hp, trivial⟩ BX (Aj (h := (Aj (he := (by exact path_row (mv_z ‹_›))) (h := (Aj (he := (by exact end_row (mv_z ‹_›)))))))) (Ag (he := (by congr 2; simp)) (h := (Ag (he := (by exact congrArg (fun k => AV.als 1 0 k) path_alen))))) (.c (.c (.c (.c .n)))))))); skip
    omega
  omega
theorem isPlace_fun (p : P3) (m : Int) (hm : 0 ≤ m ∧ m ≤ 1000000000) : Fun Tryz.prog 97 [.agg (C1 p), iL m] (AK (bL (decide (BI p m))) []) := by
  obtain ⟨a, b, c⟩ := p; refine Fun.of (nt := 26) (rs := [.tmp 4]) Tryz.func97 rfl rfl rfl rfl rfl (Ac fun _ z=>A4 (Be _ true) (Aa Ae (Ad z (Ac fun _ z=>Aa (Ap 0 AU Ah) (Aa (At Al) (Aa (Ap 1 Bi Ah) (Aa (At Al) (Aa (Ap 2 Bk Ah) (Aa (At Al) (Aa q.min3 (Aa Ab (Aa q.neg (Aa C7 (AP Ab (fun c1 => ?_) (fun c1 => ?_)))))))))))))))
  · refine Aa (Ap 0 AU Ah) (Aa (At Al) (Aa (Ap 1 Bi Ah) (Aa (At Al) (Aa (Ap 2 Bk Ah) (Aa (At Al) (Aa q.max3 (Aa Ab (Aa BJ (Aa A5 (Aa Ae (Ad z (Af (Aq ?_))))))))))))); exact dI ⟨fun h => by unfold BI; dsimp only; omega, fun h => by unfold BI at h; dsimp only at h; omega⟩
  refine Ai (Ai (Ai (Ai (A9 (Aa Au (Aa Ae (Ad z (Af (Aq ?_))))))))); exact bF (fun h => by unfold BI at h; dsimp only at h; omega)
theorem plus_fun (p q : P3) (k : Int) (hp : BI p 100000000) (hq : BI q 2097152) (hk : 0 ≤ k ∧ k ≤ 1000) : Fun Tryz.prog 99 [.agg (C1 p), .agg (C1 q), iL k] (AK (.agg (C1 (Gf p q k))) []) := by
  obtain ⟨a, b, c⟩ := p; obtain ⟨d, e, f⟩ := q
  unfold BI at hp hq
  dsimp only at hp hq
  have m1 := El (a := k) (b := d) (A := 1000) (B := 2097152) (by omega) hq.1; have m2 := El (a := k) (b := e) (A := 1000) (B := 2097152) (by omega) hq.2.1; have m3 := El (a := k) (b := f) (A := 1000) (B := 2097152) (by omega) hq.2.2; refine Fun.of (nt := 29) (rs := [.cell 6 80]) Tryz.func99 rfl rfl rfl rfl rfl (Ac fun _ z=>A4 (Be _ true) (A4 (Be _ true) (A4 (Bd AJ) (Ad z (Ac fun _ z=>Aa (Ap 0 AU Ah) (Aa (At Al) (Aa Ab (Aa (Ap 0 AU Ah) (Aa (At Al) (Aa BM (Aa A6 (Aa (Ap 1 Bi Ah) (Aa (At Al) (Aa Ab (Aa (Ap 1 Bi Ah) (Aa (At Al) (Aa BM (Aa A6 (Aa (Ap 2 Bk Ah) (Aa (At Al) (Aa Ab (Aa (Ap 2 Bk Ah) (Aa (At Al) (Aa BM (Aa A6 (Aa (Bj _ AJ BH) (AC _ true [_, _] BG Am (h := Ad z (Af (BD (B7 [_, _, _] AF Am BC) (⟨?_, rfl⟩))))))))))))))))))))))))))))))); rfl
theorem find1_fun (mk : List UInt8) (b : Bar) : Fun Tryz.prog 152 [.agg b.c, .sadr [sL mk] 0] (AK (bL (decide (b.mark = mk))) []) := by
  refine Fun.of (nt := 8) (rs := [.tmp 3]) Tryz.func152 rfl rfl rfl rfl rfl (Ac fun _ z=>A4 (Be _ true) (Aa Ae (Ad z (Ac fun _ z=>Aa (Ap 0 F9 Da) (Aa (At CL) (Aa (Bc CL) (Aa q.seqs (Aa Ae (Ad z (Af (Aq ?_))))))))))); rfl
theorem laidFind_fun (l : List Bar) (mk : List UInt8) (hlen : l.length ≤ 140737488355328) : Fun Tryz.prog 95 [.sh 5 (l.map Bar.c), sL mk] (AK (iL (D0 l mk)) []) := by
  refine Fun.of (nt := 8) (rs := [.tmp 4]) Tryz.func95 rfl rfl rfl rfl rfl (Ac fun _ z=>A4 (Be _ true) (Aa Ae (Ad z (Ac fun _ z=>Aa Ab (Aa q.mf (A3 (hF := indexFuncBar1 _ _ _ (find1_fun mk) l (by omega)) (h := Aa Ae (Ad z (Af (Aq ?_)))))))))); rfl
theorem markI_bd (l : List Bar) (mk : List UInt8) : -1 ≤ D0 l mk ∧ D0 l mk < (l.length : Int) := by
  have : ∀ (l : List Bar) (k : Int), 0 ≤ k → -1 ≤ CN (fun b : Bar => decide (b.mark = mk)) l k ∧ CN (fun b : Bar => decide (b.mark = mk)) l k < k + (l.length : Int) ∨ CN (fun b : Bar => decide (b.mark = mk)) l k = -1 := by
    intro l
    induction l with
    | nil => intro k hk; exact .inr rfl
    | cons x l ih =>
      intro k hk; rw [CN]
      split
      · left; simp only [List.length_cons]; omega
      rcases ih (k + 1) (by omega) with h | h
      · left; simp only [List.length_cons]; omega
      exact .inr h
  rcases this l 0 (by omega) with h | h
  · unfold D0; omega
  unfold D0; omega
theorem GK {l : List Bar} {mk : List UInt8} (h : 0 ≤ D0 l mk) : l[(D0 l mk).toNat]? = some (Bg l mk) := by
  have h1 := markI_bd l mk; have e : l[(D0 l mk).toNat]? = some (l[(D0 l mk).toNat]'(by omega)) := List.getElem?_eq_getElem _; rw [Bg, e]; rfl
theorem FK {l : List Bar} {mk : List UInt8} (h : 0 ≤ D0 l mk) : Bg l mk ∈ l := List.mem_of_getElem? (GK h)
theorem turned_fun (bars : List Bar) (r : Rn) (hlen : bars.length ≤ 140737488355328) (hw : Gl bars) (h : 0 ≤ D0 bars r.mark) : Fun Tryz.prog 98 [.sh 5 (bars.map Bar.c), .agg r.c] (AK (.sh 3 ((C4 bars r).map C1)) []) := by
  have hmb := markI_bd bars r.mark; have hlg := GK h; have hwl := hw _ (FK h); have hsl := shpV_len (Bg bars r.mark); refine Fun.of (nt := 29) (rs := [.tmp 4]) Tryz.func98 rfl rfl rfl rfl rfl (Ac fun _ z=>A4 (Be _ true) (Aa Ae (Ad z (Ac fun _ z=>Aa Ab (Aa Ab (Aa (Ap 0 Fq Da) (Aa (At CL) (A3 (hF := laidFind_fun bars r.mark hlen) (h := Aa (AL BO Bv (hl := (by exact AY hlg (by omega)))) (Aa (BF _ Cm Bv) (A3 (hF := shapePath_fun (Bg bars r.mark) hwl) (h := Aa Ab (Aa BA (Aa BA (Aa Ae (Aa Ae (Ad z (Ac fun _ z=>Aa (Ap 1 am_fi82_1 EP) (Aa (Av _ am_ag78 EP) (Aa (Bj _ AJ BH) (Aa Ab (A3 (hF := framePath_fun r.tx r.ty (0, 0, 0) (Fd (Bg bars r.mark)) (by omega)) (h := Aa Ab (Aa BA (Aa BA (Aa Ae (Aa Ae (Ad z (Ac fun _ z=>Aa Ab (Aa Ae (Ad z (Af (Aq ?_))))))))))))))))))))))))))))))))); rfl
theorem turned_bd {bars : List Bar} {r : Rn} {p : P3} (h : p ∈ C4 bars r) : BI p 10000000 := by
  unfold C4 frV at h
  split at h
  · rename_i he
    obtain ⟨q, hq, rfl⟩ := List.mem_map.1 h
    have hn : Gj (Fd (Bg bars r.mark)) := by
      unfold frE at he
      by_cases h1 : CR r.tx r.ty
      · rw [if_pos h1] at he
        by_cases h2 : (Fd (Bg bars r.mark)).length ≤ 1000
        · rw [if_pos h2] at he
          by_cases h3 : CX (0, 0, 0) ∧ Gj (Fd (Bg bars r.mark))
          · exact h3.2
          rw [if_neg h3] at he; omega
        rw [if_neg h2] at he; omega
      rw [if_neg h1] at he; omega
    have hq1 := hn q hq; obtain ⟨e1, e2⟩ := im_bd (x := r.tx) (y := r.ty) hq1 1; obtain ⟨e3, e4⟩ := im_bd (x := r.tx) (y := r.ty) hq1 2; obtain ⟨e5, e6⟩ := im_bd (x := r.tx) (y := r.ty) hq1 3; obtain ⟨e7, e8, e9⟩ := im_bd3 (x := r.tx) (y := r.ty) hq1
    unfold BI D3 Gc
    dsimp only
    omega
  cases h
theorem turnedV_len (bars : List Bar) (r : Rn) : (C4 bars r).length ≤ 7 := by
  have := shpV_len (Bg bars r.mark)
  unfold C4 frV
  split
  · rw [List.length_map]; omega
  simp
theorem Ea {p : P3} {a b : Int} (h : BI p a) (hab : a ≤ b) : BI p b := by
  unfold BI at *
  omega
theorem plus_bd {p q : P3} {k : Int} (hp : BI p 10000000) (hq : BI q 2097152) (hk : k = 1) : BI (Gf p q k) 100000000 := by
  subst hk
  unfold BI Gf at *
  dsimp only
  omega
theorem pt_t {r : Rn} {k : Int} {p : P3} (h : k > 0) : ptP r k p = Gf (Gf p r.at 1) r.st k := if_pos h
theorem pt_f {r : Rn} {k : Int} {p : P3} (h : ¬ k > 0) : ptP r k p = Gf p r.at 1 := if_neg h
def ptsOK (bars : List Bar) (r : Rn) (k : Nat) : Prop := (1 ≤ k → ∀ p ∈ C4 bars r, BI (ptP r 0 p) 1048576) ∧ (2 ≤ k → ∀ p ∈ C4 bars r, BI (ptP r (r.n - 1) p) 1048576)
theorem laidRight_fun (bars : List Bar) (r : Rn) (hlen : bars.length ≤ 140737488355328) (hw : Gl bars) (hrw : r.mark.length ≤ 140737488355328) : Fun Tryz.prog 55 [.sh 5 (bars.map Bar.c), .agg r.c] (AK (bL (decide (Fo bars r))) []) := by
  have hmb := markI_bd bars r.mark; have htl := turnedV_len bars r; refine Fun.of (nt := 87) (rs := [.tmp 4]) Tryz.func55 rfl rfl rfl rfl rfl (Ac fun _ z=>A4 (Be _ true) (Aa Ae (Ad z (An (Ac fun _ z=>Aa Ab (Aa (Ap 0 Fq Da) (Aa (At CL) (A3 (hF := laidFind_fun bars r.mark hlen) (h := Aa Ay (AP Ab (fun c1 => ?_) (fun c1 => ?_)))))))))))
  · refine Ai (Ai (Aa A5 (Aa Ab (Ai (A9 (Aa A5 (Aa Ab (Ai (A9 (Aa A5 (Aa Ab (Ai (Ai (Aa A5 (Ad z (B3 (Ac fun _ z=>Aa Ae (Ad z (Af (Aq ?_)))))))))))))))))))); exact bF (fun h => by have h1 := h.1; omega)
  refine Aa (Ap 1 am_fi82_1 EP) (Aa (Av _ am_ag78 EP) (A3 (hF := turnValid_fun r.tx r.ty) (h := Aa BB (Aa Au (DV Ab (fun c2 => ?_) (fun c2 => ?_))))))
  · refine Ai (A9 (Aa A5 (Aa Ab (Ai (A9 (Aa A5 (Aa Ab (Ai (Ai (Aa A5 (Ad z (B3 (Ac fun _ z=>Aa Ae (Ad z (Af (Aq ?_)))))))))))))))); exact bF (fun h => absurd h.2.1 ‹¬ CR r.tx r.ty›)
  refine Aa (Ap 9 B4 Ah) (Aa (At Al) (Aa Ay (Aa Au (AP Ab (fun c3 => ?_) (fun c3 => ?_)))))
  · refine Ai (A9 (Aa A5 (Aa Ab (Ai (Ai (Aa A5 (Ad z (B3 (Ac fun _ z=>Aa Ae (Ad z (Af (Aq ?_)))))))))))); exact bF (fun h => by have h1 := h.2.2.1; omega)
  refine Aa (Ap 9 B4 Ah) (Aa (At Al) (Aa Bh (Aa Au (AP Ab (fun c4 => ?_) (fun c4 => ?_)))))
  · refine Ai (Ai (Aa A5 (Ad z (B3 (Ac fun _ z=>Aa Ae (Ad z (Af (Aq ?_)))))))); exact bF (fun h => by have h1 := h.2.2.1; omega)
  refine Aa (Ap 3 FB Am) (Aa (Av _ AF Am) (A3 (hF := isPlace_fun r.at 1048576 (by omega)) (h := Aa BB (Aa Au (Ad z (Cb (fun c5 => ?_) (fun c5 => ?_)))))))
  · refine Ac fun _ z=>Aa Ae (Ad z (Af (Aq ?_))); exact bF (fun h => absurd h.2.2.2.1 ‹¬ BI r.at 1048576›)
  refine As (An (Ac fun _ z=>Aa (Ap 9 B4 Ah) (Aa (At Al) (Aa Bh (AP Ab (fun c6 => ?_) (fun c6 => ?_))))))
  · refine Aa (Ap 6 Ge Am) (Aa (Av _ AF Am) (Aa (Bj _ AJ BH) (Aa (q.seql am_eq80 (am_sq80 _ _ _ _ _ _)) (S.bb Ab (fun c7 => ?_) (fun c7 => ?_)))))
    · refine Ai (Ai (Aa A5 (Aa A5 (Ad z (B3 (Ac fun _ z=>Aa Ae (Ad z (Af (Aq ?_))))))))); exact bF (fun h => by have h1 := (h.2.2.2.2.1 (by omega)).1; simp_all)
    refine Aa (Ap 6 Ge Am) (Aa (Av _ AF Am) (A3 (hF := isPlace_fun r.st 2097152 (by omega)) (h := Aa BB (Aa Au (Aa A5 (Ad z (Cb (fun c8 => ?_) (fun c8 => ?_))))))))
    · refine Ac fun _ z=>Aa Ae (Ad z (Af (Aq ?_))); exact bF (fun h => absurd (h.2.2.2.2.1 (by omega)).2 ‹¬ BI r.st 2097152›)
    refine As ?_; have hto : CR r.tx r.ty := ‹_›; have hat : BI r.at 1048576 := ‹_›
    have hst : r.n > 1 → BI r.st 2097152 := by exact fun _ => ‹BI r.st 2097152›
    have hst2 : r.n > 1 → ¬ (r.sx = 0 ∧ r.sy = 0 ∧ r.sz = 0) := by intro _ hz; simp_all
    refine Ac fun _ z=>Aa Ab (Aa (Av _ FX B5) (A3 (hF := turned_fun bars r hlen hw (by omega)) (h := Aa Ae (Ad z (An (Ac fun _ z=>Aa (Ap 9 B4 Ah) (Aa (At Al) (Aa BV (A4 (C3 [[_], [_]] true AG Ed Ah) (Aa (q.lena AG) (Aa Ab (Ad z (Ar (AI (ι := {k : Nat // k ≤ 2 ∧ ptsOK bars r k}) [1, 0] [3, 5, 60] (fun ⟨k, _⟩ => [(61, iL (k : Int)), (59, .als 0 0 ([0, r.n - 1]).length)]) (fun ⟨k, _⟩ => [(0, ⟨true, 3, 1, ([0, r.n - 1]).map Cz, true⟩), (1, ⟨false, 82, 10, [[sL (r.mark), iL (r.tx), iL (r.ty), iL (r.ax), iL (r.ay), iL (r.az), iL (r.sx), iL (r.sy), iL (r.sz), iL (r.n)]], true⟩)]) (fun ⟨k, _⟩ => 2 - k) ⟨0, by decide, fun h => absurd h (by decide), fun h => absurd h (by decide)⟩ (.c (.c (.c .n))) (Aj (h := (Aj))) (Ag (h := (Ag))) ?_)))))))))))))); rintro ⟨k, hk, hok⟩ R0 hR0; dsimp only [cA, nA, lC, lN]
    have hk3 : k = 2 ∨ k = 0 ∨ k = 1 := by omega
    rcases hk3 with hk3 | hk3 | hk3
    · subst hk3; refine Ac fun _ z=>Aa Ay (Ad z (By (fun c9 => ?_) (fun c9 => ?_)))
      · omega
      refine AO (hR0 _ _ (Ac fun _ z=>Aa Ae (Ad z (Af (Aq ?_))))); exact bT ⟨by omega, hto, by omega, hat, fun h => ⟨hst2 h, hst h⟩, hok.1 (by omega), hok.2 (by omega)⟩
    · subst hk3; obtain ⟨v, hv⟩ : ∃ v : Int, v = 0 := ⟨_, rfl⟩
      have hidx : [0, r.n - 1][0]? = some v := by rw [hv]; rfl
      have hv0 : 0 ≤ v ∧ v ≤ 1000 ∧ (v > 0 → r.n > 1) := by omega
      have hnx : (∀ p ∈ C4 bars r, BI (ptP r v p) 1048576) → ptsOK bars r 1 := fun h => ⟨fun _ => by rw [← hv]; exact h, fun h2 => absurd h2 (by decide)⟩
      have hall0 : Fo bars r → ∀ p ∈ C4 bars r, BI (ptP r v p) 1048576 := fun h => by rw [hv]; exact h.2.2.2.2.2.1
      refine Ac fun _ z=>Aa Ay (Ad z (By (fun c10 => ?_) (fun c10 => ?_)))
      · refine An (Ar (Ac fun _ z=>Aa (q.ia AG Ah) (Aa (q.lx Al (hl := (by exact at_ hidx (by omega)))) (Aa Ae (Ad z (Ac fun _ z=>Aa Ab (Aa (A7 Bb) (Aa Ab (Ad z (Ar (AI (ι := {q : List (Int × Int × Int) × List (Int × Int × Int) // q.1 ++ q.2 = C4 bars r ∧ ∀ p ∈ q.1, BI (ptP r v p) 1048576}) [0, 1] [3, 5, 7, 60, 61, 65, 66] (fun ⟨(pre, suf), _⟩ => [(67, iL (pre.length : Int)), (59, .als 0 0 ([0, r.n - 1]).length)]) (fun ⟨(pre, suf), _⟩ => [(0, ⟨true, 3, 1, ([0, r.n - 1]).map Cz, true⟩), (1, ⟨false, 82, 10, [[sL (r.mark), iL (r.tx), iL (r.ty), iL (r.ax), iL (r.ay), iL (r.az), iL (r.sx), iL (r.sy), iL (r.sz), iL (r.n)]], true⟩)]) (fun ⟨(pre, suf), _⟩ => suf.length) ⟨([], (C4 bars r)), rfl, fun x hx => by simp at hx⟩ (.c (.c (.c (.c (.c (.c (.c .n))))))) (Aj (h := (Aj))) (Ag (h := (Ag))) ?_))))))))))); rintro ⟨⟨pre, suf⟩, hp, hinv⟩ R2 hR2; dsimp only [cA, nA, lC, lN]
        simp only at hp hinv
        have hpl := Cd hp
        rcases suf with _ | ⟨s, suf⟩
        · rw [List.append_nil] at hp; simp only [lN] at hpl; refine Ac fun _ z=>Aa Ay (Ad z (By (fun c11 => ?_) (fun c11 => ?_)))
          · omega
          refine AO (hR2 _ _ (Ao fun _ z=>Aa A6 (Aa Ab (Ad z (hR0 _ _ (A8 [0, 1] [3, 5, 60] ⟨_, by decide, hnx (by rw [← hp]; exact hinv)⟩ ?_ (Aj (h := (Aj))) (Ag (h := (Ag))) (.c (.c (.c .n))))))))); skip; all_goals (dsimp only; omega)
        simp only [lC] at hpl
        have hidx2 : (C4 bars r)[pre.length]? = some s := by rw [← hp]; simp
        have hms := GA hp; obtain ⟨a, b, c⟩ := s; have hpb := turned_bd hms; have hall := fun h => hall0 h _ hms; refine Ac fun _ z=>Aa Ay (Ad z (By (fun c12 => ?_) (fun c12 => ?_)))
        · refine An (Ar (Ac fun _ z=>Aa (AL Bb Am (hl := (by exact AY hidx2 (by omega)))) (Aa (BF _ AF Am) (A4 (Bd AJ) (AC _ true [_, _] BG Am (h := Ad z (Ac fun _ z=>Aa (Av _ AF Am) (Aa (Ap 3 FB Am) (Aa (Av _ AF Am) (A3 (hF := plus_fun (a, b, c) r.at 1 (Ea hpb (by omega)) (Ea hat (by omega)) (by omega)) (h := A4 (Bd AJ) (AC _ true [_, _, _] BG Am (h := Ad z (An (Ac fun _ z=>Aa Ab (Aa Bh (Ad z (Ax (fun c13 => ?_) (fun c13 => ?_)))))))))))))))))))
          · omega
          refine As (Ac fun _ z=>Aa (Av _ AF Am) (A3 (hF := (by exact isPlace_fun (Gf (a, b, c) r.at 1) 1048576 (by omega))) (h := Aa BB (Ad z (Cb (fun c15 => ?_) (fun c15 => ?_))))))
          · refine Ac fun _ z=>Aa Ae (Ad z (Af (hR2 _ _ (hR0 _ _ (Aq ?_))))); exact bF (fun h => by have h1 := hall h; rw [pt_f ‹_›] at h1; exact absurd h1 ‹_›)
          refine As (Ao fun _ z=>Aa A6 (Aa Ab (Ad z (hR2 _ _ (A8 [0, 1] [3, 5, 7, 60, 61, 65, 66] ⟨(pre ++ [(a, b, c)], suf), B2 hp, ?_⟩ BX (Aj (h := (Aj))) (Ag (he := (by congr 2; simp)) (h := (Ag))) (.c (.c (.c (.c (.c (.c (.c .n)))))))))))); intro x hx
          rcases List.mem_append.1 hx with hx | hx
          · exact hinv x hx
          · rw [List.mem_singleton] at hx; subst hx; (rw [pt_f ‹_›]; assumption)
        omega
      omega
    subst hk3; obtain ⟨v, hv⟩ : ∃ v : Int, v = r.n - 1 := ⟨_, rfl⟩
    have hidx : [0, r.n - 1][1]? = some v := by rw [hv]; rfl
    have hv0 : 0 ≤ v ∧ v ≤ 1000 ∧ (v > 0 → r.n > 1) := by omega
    have hnx : (∀ p ∈ C4 bars r, BI (ptP r v p) 1048576) → ptsOK bars r 2 := fun h => ⟨fun _ => hok.1 (by decide), fun _ => by rw [← hv]; exact h⟩
    have hall0 : Fo bars r → ∀ p ∈ C4 bars r, BI (ptP r v p) 1048576 := fun h => by rw [hv]; exact h.2.2.2.2.2.2
    refine Ac fun _ z=>Aa Ay (Ad z (By (fun c16 => ?_) (fun c16 => ?_)))
    · refine An (Ar (Ac fun _ z=>Aa (q.ia AG Ah) (Aa (q.lx Al (hl := (by exact at_ hidx (by omega)))) (Aa Ae (Ad z (Ac fun _ z=>Aa Ab (Aa (A7 Bb) (Aa Ab (Ad z (Ar (AI (ι := {q : List (Int × Int × Int) × List (Int × Int × Int) // q.1 ++ q.2 = C4 bars r ∧ ∀ p ∈ q.1, BI (ptP r v p) 1048576}) [0, 1] [3, 5, 7, 60, 61, 65, 66] (fun ⟨(pre, suf), _⟩ => [(67, iL (pre.length : Int)), (59, .als 0 0 ([0, r.n - 1]).length)]) (fun ⟨(pre, suf), _⟩ => [(0, ⟨true, 3, 1, ([0, r.n - 1]).map Cz, true⟩), (1, ⟨false, 82, 10, [[sL (r.mark), iL (r.tx), iL (r.ty), iL (r.ax), iL (r.ay), iL (r.az), iL (r.sx), iL (r.sy), iL (r.sz), iL (r.n)]], true⟩)]) (fun ⟨(pre, suf), _⟩ => suf.length) ⟨([], (C4 bars r)), rfl, fun x hx => by simp at hx⟩ (.c (.c (.c (.c (.c (.c (.c .n))))))) (Aj (h := (Aj))) (Ag (h := (Ag))) ?_))))))))))); rintro ⟨⟨pre, suf⟩, hp, hinv⟩ R2 hR2; dsimp only [cA, nA, lC, lN]
      simp only at hp hinv
      have hpl := Cd hp
      rcases suf with _ | ⟨s, suf⟩
      · rw [List.append_nil] at hp; simp only [lN] at hpl; refine Ac fun _ z=>Aa Ay (Ad z (By (fun c17 => ?_) (fun c17 => ?_)))
        · omega
        refine AO (hR2 _ _ (Ao fun _ z=>Aa A6 (Aa Ab (Ad z (hR0 _ _ (A8 [0, 1] [3, 5, 60] ⟨_, by decide, hnx (by rw [← hp]; exact hinv)⟩ ?_ (Aj (h := (Aj))) (Ag (h := (Ag))) (.c (.c (.c .n))))))))); skip; all_goals (dsimp only; omega)
      simp only [lC] at hpl
      have hidx2 : (C4 bars r)[pre.length]? = some s := by rw [← hp]; simp
      have hms := GA hp; obtain ⟨a, b, c⟩ := s; have hpb := turned_bd hms; have hall := fun h => hall0 h _ hms; refine Ac fun _ z=>Aa Ay (Ad z (By (fun c18 => ?_) (fun c18 => ?_)))
      · refine An (Ar (Ac fun _ z=>Aa (AL Bb Am (hl := (by exact AY hidx2 (by omega)))) (Aa (BF _ AF Am) (A4 (Bd AJ) (AC _ true [_, _] BG Am (h := Ad z (Ac fun _ z=>Aa (Av _ AF Am) (Aa (Ap 3 FB Am) (Aa (Av _ AF Am) (A3 (hF := plus_fun (a, b, c) r.at 1 (Ea hpb (by omega)) (Ea hat (by omega)) (by omega)) (h := A4 (Bd AJ) (AC _ true [_, _, _] BG Am (h := Ad z (An (Ac fun _ z=>Aa Ab (Aa Bh (Ad z (Ax (fun c19 => ?_) (fun c19 => ?_)))))))))))))))))))
        · refine Ao fun _ z=>Aa (Av _ AF Am) (Aa (Ap 6 Ge Am) (Aa (Av _ AF Am) (Aa Ab (A3 (hF := plus_fun (Gf (a, b, c) r.at 1) r.st v (plus_bd hpb (Ea hat (by omega)) rfl) (hst (by omega)) (by omega)) (h := AC _ true [_, _, _] BG Am (h := Ad z ?_)))))); show Ev _ _ _ _; refine Ac fun _ z=>Aa (Av _ AF Am) (A3 (hF := (by exact isPlace_fun (Gf (Gf (a, b, c) r.at 1) r.st v) 1048576 (by omega))) (h := Aa BB (Ad z (Cb (fun c20 => ?_) (fun c20 => ?_)))))
          · refine Ac fun _ z=>Aa Ae (Ad z (Af (hR2 _ _ (hR0 _ _ (Aq ?_))))); exact bF (fun h => by have h1 := hall h; rw [pt_t ‹_›] at h1; exact absurd h1 ‹_›)
          refine As (Ao fun _ z=>Aa A6 (Aa Ab (Ad z (hR2 _ _ (A8 [0, 1] [3, 5, 7, 60, 61, 65, 66] ⟨(pre ++ [(a, b, c)], suf), B2 hp, ?_⟩ BX (Aj (h := (Aj))) (Ag (he := (by congr 2; simp)) (h := (Ag))) (.c (.c (.c (.c (.c (.c (.c .n)))))))))))); intro x hx
          rcases List.mem_append.1 hx with hx | hx
          · exact hinv x hx
          · rw [List.mem_singleton] at hx; subst hx; (rw [pt_t ‹_›]; assumption)
        omega
      omega
    omega
  refine Ai (Ai (Ai (Ai (Ai (Aa Au (Ad z (Ei (As ?_)))))))); have hto : CR r.tx r.ty := ‹_›; have hat : BI r.at 1048576 := ‹_›
  have hst : r.n > 1 → BI r.st 2097152 := by exact fun h => absurd h (by omega)
  have hst2 : r.n > 1 → ¬ (r.sx = 0 ∧ r.sy = 0 ∧ r.sz = 0) := by exact fun h => absurd h (by omega)
  refine Ac fun _ z=>Aa Ab (Aa (Av _ FX B5) (A3 (hF := turned_fun bars r hlen hw (by omega)) (h := Aa Ae (Ad z (An (Ac fun _ z=>Aa (Ap 9 B4 Ah) (Aa (At Al) (Aa BV (A4 (C3 [[_], [_]] true AG Ed Ah) (Aa (q.lena AG) (Aa Ab (Ad z (Ar (AI (ι := {k : Nat // k ≤ 2 ∧ ptsOK bars r k}) [1, 0] [3, 5, 60] (fun ⟨k, _⟩ => [(61, iL (k : Int)), (59, .als 0 0 ([0, r.n - 1]).length)]) (fun ⟨k, _⟩ => [(0, ⟨true, 3, 1, ([0, r.n - 1]).map Cz, true⟩), (1, ⟨false, 82, 10, [[sL (r.mark), iL (r.tx), iL (r.ty), iL (r.ax), iL (r.ay), iL (r.az), iL (r.sx), iL (r.sy), iL (r.sz), iL (r.n)]], true⟩)]) (fun ⟨k, _⟩ => 2 - k) ⟨0, by decide, fun h => absurd h (by decide), fun h => absurd h (by decide)⟩ (.c (.c (.c .n))) (Aj (h := (Aj))) (Ag (h := (Ag))) ?_)))))))))))))); rintro ⟨k, hk, hok⟩ R0 hR0; dsimp only [cA, nA, lC, lN]
  have hk3 : k = 2 ∨ k = 0 ∨ k = 1 := by omega
  rcases hk3 with hk3 | hk3 | hk3
  · subst hk3; refine Ac fun _ z=>Aa Ay (Ad z (By (fun c22 => ?_) (fun c22 => ?_)))
    · omega
    refine AO (hR0 _ _ (Ac fun _ z=>Aa Ae (Ad z (Af (Aq ?_))))); exact bT ⟨by omega, hto, by omega, hat, fun h => ⟨hst2 h, hst h⟩, hok.1 (by omega), hok.2 (by omega)⟩
  · subst hk3; obtain ⟨v, hv⟩ : ∃ v : Int, v = 0 := ⟨_, rfl⟩
    have hidx : [0, r.n - 1][0]? = some v := by rw [hv]; rfl
    have hv0 : 0 ≤ v ∧ v ≤ 1000 ∧ (v > 0 → r.n > 1) := by omega
    have hnx : (∀ p ∈ C4 bars r, BI (ptP r v p) 1048576) → ptsOK bars r 1 := fun h => ⟨fun _ => by rw [← hv]; exact h, fun h2 => absurd h2 (by decide)⟩
    have hall0 : Fo bars r → ∀ p ∈ C4 bars r, BI (ptP r v p) 1048576 := fun h => by rw [hv]; exact h.2.2.2.2.2.1
    refine Ac fun _ z=>Aa Ay (Ad z (By (fun c23 => ?_) (fun c23 => ?_)))
    · refine An (Ar (Ac fun _ z=>Aa (q.ia AG Ah) (Aa (q.lx Al (hl := (by exact at_ hidx (by omega)))) (Aa Ae (Ad z (Ac fun _ z=>Aa Ab (Aa (A7 Bb) (Aa Ab (Ad z (Ar (AI (ι := {q : List (Int × Int × Int) × List (Int × Int × Int) // q.1 ++ q.2 = C4 bars r ∧ ∀ p ∈ q.1, BI (ptP r v p) 1048576}) [0, 1] [3, 5, 7, 60, 61, 65, 66] (fun ⟨(pre, suf), _⟩ => [(67, iL (pre.length : Int)), (59, .als 0 0 ([0, r.n - 1]).length)]) (fun ⟨(pre, suf), _⟩ => [(0, ⟨true, 3, 1, ([0, r.n - 1]).map Cz, true⟩), (1, ⟨false, 82, 10, [[sL (r.mark), iL (r.tx), iL (r.ty), iL (r.ax), iL (r.ay), iL (r.az), iL (r.sx), iL (r.sy), iL (r.sz), iL (r.n)]], true⟩)]) (fun ⟨(pre, suf), _⟩ => suf.length) ⟨([], (C4 bars r)), rfl, fun x hx => by simp at hx⟩ (.c (.c (.c (.c (.c (.c (.c .n))))))) (Aj (h := (Aj))) (Ag (h := (Ag))) ?_))))))))))); rintro ⟨⟨pre, suf⟩, hp, hinv⟩ R2 hR2; dsimp only [cA, nA, lC, lN]
      simp only at hp hinv
      have hpl := Cd hp
      rcases suf with _ | ⟨s, suf⟩
      · rw [List.append_nil] at hp; simp only [lN] at hpl; refine Ac fun _ z=>Aa Ay (Ad z (By (fun c24 => ?_) (fun c24 => ?_)))
        · omega
        refine AO (hR2 _ _ (Ao fun _ z=>Aa A6 (Aa Ab (Ad z (hR0 _ _ (A8 [0, 1] [3, 5, 60] ⟨_, by decide, hnx (by rw [← hp]; exact hinv)⟩ ?_ (Aj (h := (Aj))) (Ag (h := (Ag))) (.c (.c (.c .n))))))))); skip; all_goals (dsimp only; omega)
      simp only [lC] at hpl
      have hidx2 : (C4 bars r)[pre.length]? = some s := by rw [← hp]; simp
      have hms := GA hp; obtain ⟨a, b, c⟩ := s; have hpb := turned_bd hms; have hall := fun h => hall0 h _ hms; refine Ac fun _ z=>Aa Ay (Ad z (By (fun c25 => ?_) (fun c25 => ?_)))
      · refine An (Ar (Ac fun _ z=>Aa (AL Bb Am (hl := (by exact AY hidx2 (by omega)))) (Aa (BF _ AF Am) (A4 (Bd AJ) (AC _ true [_, _] BG Am (h := Ad z (Ac fun _ z=>Aa (Av _ AF Am) (Aa (Ap 3 FB Am) (Aa (Av _ AF Am) (A3 (hF := plus_fun (a, b, c) r.at 1 (Ea hpb (by omega)) (Ea hat (by omega)) (by omega)) (h := A4 (Bd AJ) (AC _ true [_, _, _] BG Am (h := Ad z (An (Ac fun _ z=>Aa Ab (Aa Bh (Ad z (Ax (fun c26 => ?_) (fun c26 => ?_)))))))))))))))))))
        · omega
        refine As (Ac fun _ z=>Aa (Av _ AF Am) (A3 (hF := (by exact isPlace_fun (Gf (a, b, c) r.at 1) 1048576 (by omega))) (h := Aa BB (Ad z (Cb (fun c28 => ?_) (fun c28 => ?_))))))
        · refine Ac fun _ z=>Aa Ae (Ad z (Af (hR2 _ _ (hR0 _ _ (Aq ?_))))); exact bF (fun h => by have h1 := hall h; rw [pt_f ‹_›] at h1; exact absurd h1 ‹_›)
        refine As (Ao fun _ z=>Aa A6 (Aa Ab (Ad z (hR2 _ _ (A8 [0, 1] [3, 5, 7, 60, 61, 65, 66] ⟨(pre ++ [(a, b, c)], suf), B2 hp, ?_⟩ BX (Aj (h := (Aj))) (Ag (he := (by congr 2; simp)) (h := (Ag))) (.c (.c (.c (.c (.c (.c (.c .n)))))))))))); intro x hx
        rcases List.mem_append.1 hx with hx | hx
        · exact hinv x hx
        · rw [List.mem_singleton] at hx; subst hx; (rw [pt_f ‹_›]; assumption)
      omega
    omega
  subst hk3; obtain ⟨v, hv⟩ : ∃ v : Int, v = r.n - 1 := ⟨_, rfl⟩
  have hidx : [0, r.n - 1][1]? = some v := by rw [hv]; rfl
  have hv0 : 0 ≤ v ∧ v ≤ 1000 ∧ (v > 0 → r.n > 1) := by omega
  have hnx : (∀ p ∈ C4 bars r, BI (ptP r v p) 1048576) → ptsOK bars r 2 := fun h => ⟨fun _ => hok.1 (by decide), fun _ => by rw [← hv]; exact h⟩
  have hall0 : Fo bars r → ∀ p ∈ C4 bars r, BI (ptP r v p) 1048576 := fun h => by rw [hv]; exact h.2.2.2.2.2.2
  refine Ac fun _ z=>Aa Ay (Ad z (By (fun c29 => ?_) (fun c29 => ?_)))
  · refine An (Ar (Ac fun _ z=>Aa (q.ia AG Ah) (Aa (q.lx Al (hl := (by exact at_ hidx (by omega)))) (Aa Ae (Ad z (Ac fun _ z=>Aa Ab (Aa (A7 Bb) (Aa Ab (Ad z (Ar (AI (ι := {q : List (Int × Int × Int) × List (Int × Int × Int) // q.1 ++ q.2 = C4 bars r ∧ ∀ p ∈ q.1, BI (ptP r v p) 1048576}) [0, 1] [3, 5, 7, 60, 61, 65, 66] (fun ⟨(pre, suf), _⟩ => [(67, iL (pre.length : Int)), (59, .als 0 0 ([0, r.n - 1]).length)]) (fun ⟨(pre, suf), _⟩ => [(0, ⟨true, 3, 1, ([0, r.n - 1]).map Cz, true⟩), (1, ⟨false, 82, 10, [[sL (r.mark), iL (r.tx), iL (r.ty), iL (r.ax), iL (r.ay), iL (r.az), iL (r.sx), iL (r.sy), iL (r.sz), iL (r.n)]], true⟩)]) (fun ⟨(pre, suf), _⟩ => suf.length) ⟨([], (C4 bars r)), rfl, fun x hx => by simp at hx⟩ (.c (.c (.c (.c (.c (.c (.c .n))))))) (Aj (h := (Aj))) (Ag (h := (Ag))) ?_))))))))))); rintro ⟨⟨pre, suf⟩, hp, hinv⟩ R2 hR2; dsimp only [cA, nA, lC, lN]
    simp only at hp hinv
    have hpl := Cd hp
    rcases suf with _ | ⟨s, suf⟩
    · rw [List.append_nil] at hp; simp only [lN] at hpl; refine Ac fun _ z=>Aa Ay (Ad z (By (fun c30 => ?_) (fun c30 => ?_)))
      · omega
      refine AO (hR2 _ _ (Ao fun _ z=>Aa A6 (Aa Ab (Ad z (hR0 _ _ (A8 [0, 1] [3, 5, 60] ⟨_, by decide, hnx (by rw [← hp]; exact hinv)⟩ ?_ (Aj (h := (Aj))) (Ag (h := (Ag))) (.c (.c (.c .n))))))))); skip; all_goals (dsimp only; omega)
    simp only [lC] at hpl
    have hidx2 : (C4 bars r)[pre.length]? = some s := by rw [← hp]; simp
    have hms := GA hp; obtain ⟨a, b, c⟩ := s; have hpb := turned_bd hms; have hall := fun h => hall0 h _ hms; refine Ac fun _ z=>Aa Ay (Ad z (By (fun c31 => ?_) (fun c31 => ?_)))
    · refine An (Ar (Ac fun _ z=>Aa (AL Bb Am (hl := (by exact AY hidx2 (by omega)))) (Aa (BF _ AF Am) (A4 (Bd AJ) (AC _ true [_, _] BG Am (h := Ad z (Ac fun _ z=>Aa (Av _ AF Am) (Aa (Ap 3 FB Am) (Aa (Av _ AF Am) (A3 (hF := plus_fun (a, b, c) r.at 1 (Ea hpb (by omega)) (Ea hat (by omega)) (by omega)) (h := A4 (Bd AJ) (AC _ true [_, _, _] BG Am (h := Ad z (An (Ac fun _ z=>Aa Ab (Aa Bh (Ad z (Ax (fun c32 => ?_) (fun c32 => ?_)))))))))))))))))))
      · omega
      refine As (Ac fun _ z=>Aa (Av _ AF Am) (A3 (hF := (by exact isPlace_fun (Gf (a, b, c) r.at 1) 1048576 (by omega))) (h := Aa BB (Ad z (Cb (fun c34 => ?_) (fun c34 => ?_))))))
      · refine Ac fun _ z=>Aa Ae (Ad z (Af (hR2 _ _ (hR0 _ _ (Aq ?_))))); exact bF (fun h => by have h1 := hall h; rw [pt_f ‹_›] at h1; exact absurd h1 ‹_›)
      refine As (Ao fun _ z=>Aa A6 (Aa Ab (Ad z (hR2 _ _ (A8 [0, 1] [3, 5, 7, 60, 61, 65, 66] ⟨(pre ++ [(a, b, c)], suf), B2 hp, ?_⟩ BX (Aj (h := (Aj))) (Ag (he := (by congr 2; simp)) (h := (Ag))) (.c (.c (.c (.c (.c (.c (.c .n)))))))))))); intro x hx
      rcases List.mem_append.1 hx with hx | hx
      · exact hinv x hx
      · rw [List.mem_singleton] at hx; subst hx; (rw [pt_f ‹_›]; assumption)
    omega
  omega
theorem cnt_nn {l : List Rn} (h : ∀ r ∈ l, 1 ≤ r.n) : 0 ≤ Dt l := by
  induction l with
  | nil => exact Int.le_refl _
  | cons r l ih =>
    have h1 := h r (by simp); have h2 := ih fun x hx => h x (by simp [hx]); simp only [Dt, List.map_cons, List.sum_cons] at *; omega
theorem cnt_cut {pre suf l : List Rn} {s : Rn} (hp : pre ++ s :: suf = l) (h : ∀ r ∈ l, 1 ≤ r.n) : Dt l = Dt pre + s.n + Dt suf ∧ 0 ≤ Dt suf := by
  have h2 := cnt_nn (l := suf) fun r hr => h r (by rw [← hp]; simp [hr]); refine ⟨?_, h2⟩; rw [← hp]; simp only [Dt, List.map_append, List.map_cons, List.sum_append, List.sum_cons]; omega
theorem cnt_snoc (pre : List Rn) (s : Rn) : Dt (pre ++ [s]) = Dt pre + s.n := by simp [Dt]
theorem laidValid_fun (bars : List Bar) (runs : List Rn) (hlen : bars.length ≤ 140737488355328) (hw : Gl bars) (hrl : runs.length ≤ 140737488355328) (hrw : runW runs) : Fun Tryz.prog 30 [.sh 5 (bars.map Bar.c), .sh 10 (runs.map Rn.c)] (AK (bL (decide (Dq bars runs))) []) := by
  refine Fun.of (nt := 37) (rs := [.tmp 4]) Tryz.func30 rfl rfl rfl rfl rfl (Ac fun _ z=>Aa Ae (Ad z (An (Ac fun _ z=>Aa Ab (A3 (hF := schedValid_fun bars hlen hw) (h := Aa BB (DV Ab (fun c1 => ?_) (fun c1 => ?_))))))))
  · refine Ai (A9 (Aa A5 (Ad z (B3 (Ac fun _ z=>Aa Ae (Ad z (Af (Aq ?_)))))))); exact bF (fun h => absurd h.1 ‹¬ CJ bars›)
  refine Aa Ab (Aa (A7 Bo) (Aa Bh (Aa Au (Ad z (Ax (fun c2 => ?_) (fun c2 => ?_))))))
  · refine Ac fun _ z=>Aa Ae (Ad z (Af (Aq ?_))); exact bF (fun h => by have h1 := h.2.1; omega)
  refine As (Ac fun _ z=>Aa Ae (Ad z (An (Ac fun _ z=>Aa Ab (Aa (A7 Bo) (Aa Ab (Ad z (Ar (AI (ι := {q : List Rn × List Rn // q.1 ++ q.2 = runs ∧ ((∀ r ∈ q.1, Fo bars r) ∧ 0 ≤ Dt q.1 ∧ Dt q.1 ≤ 2000)}) [] [0, 16, 17] (fun ⟨(pre, suf), _⟩ => [(18, iL (pre.length : Int)), (5, iL (2000 - Dt pre))]) (fun ⟨(pre, suf), _⟩ => []) (fun ⟨(pre, suf), _⟩ => suf.length) ⟨([], runs), rfl, ⟨fun x hx => by simp at hx, Int.le_refl 0, (by show (0:Int) ≤ 2000; omega)⟩⟩ (.c (.c (.c .n))) AW (Ag (h := (Ag))) ?_))))))))); rintro ⟨⟨pre, suf⟩, hp, hinv⟩ R0 hR0; dsimp only [cA, nA, lC, lN]
  simp only at hp hinv
  have hpl := Cd hp
  rcases suf with _ | ⟨s, suf⟩
  · rw [List.append_nil] at hp; simp only [lN] at hpl; obtain ⟨hinv, hi1, hi2⟩ := hinv; refine Ac fun _ z=>Aa Ay (Ad z (By (fun c3 => ?_) (fun c3 => ?_)))
    · omega
    refine AO (hR0 _ _ (Ac fun _ z=>Aa Ae (Ad z (Af (Aq ?_))))); exact bT ⟨‹CJ bars›, by omega, by rw [← hp]; exact hinv, by rw [← hp]; omega⟩
  simp only [lC] at hpl; have hidx := Ch hp; have hms := GA hp; obtain ⟨hinv, hi1, hi2⟩ := hinv; have hsn := cnt_snoc pre s; refine Ac fun _ z=>Aa Ay (Ad z (By (fun c4 => ?_) (fun c4 => ?_)))
  · refine An (Ar (Ac fun _ z=>Aa (AL Bo B5 (hl := (by exact AY hidx (by omega)))) (Aa (BF _ FX B5) (A4 (Bd am_ze82) (AC _ true [] am_in82 B5 (h := Ad z (An (Ac fun _ z=>Aa Ab (Aa (Av _ FX B5) (A3 (hF := laidRight_fun bars s hlen hw (hrw s hms)) (h := Aa BB (DV Ab (fun c5 => ?_) (fun c5 => ?_)))))))))))))
    · refine Ai (Ai (Aa A5 (Ad z (B3 (Ac fun _ z=>Aa Ae (Ad z (Af (hR0 _ _ (Aq ?_))))))))); exact bF (fun h => absurd (h.2.2.1 s hms) ‹¬ Fo bars s›)
    refine Aa (Ap 9 B4 Ah) (Aa (At Al) (Aa Ab (Aa Bh (Aa Au (Ad z (Ax (fun c6 => ?_) (fun c6 => ?_)))))))
    · refine Ac fun _ z=>Aa Ae (Ad z (Af (hR0 _ _ (Aq ?_)))); exact bF (fun h => by have h1 := cnt_cut hp (fun x hx => (h.2.2.1 x hx).2.2.1.1); have h2 := h.2.2.2; omega)
    refine As ?_; have hrs0 := (‹Fo bars s›).2.2.1; refine Ao fun _ z=>Aa Ab (Aa (Ap 9 B4 Ah) (Aa (At Al) (Aa BV (Aa Ae (Ad z ?_))))); show Ev _ _ _ _; refine Ao fun _ z=>Aa A6 (Aa Ab (Ad z (hR0 _ _ (A8 [] [0, 16, 17] ⟨(pre ++ [s], suf), B2 hp, ?_⟩ BX AW (Ag (he := (by congr 2; simp)) (h := (Ag (he := (by exact iE (by rw [cnt_snoc]; omega)))))) (.c (.c (.c .n))))))); have hrs := (‹Fo bars s›).2.2.1; exact ⟨fun x hx => by rcases List.mem_append.1 hx with hx | hx; exact hinv x hx; rw [List.mem_singleton] at hx; subst hx; assumption, by dsimp only; omega, by dsimp only; omega⟩
  omega
def Gy (b : Bx) : Prop := C5 b ∧ b.lx < b.hx ∧ b.ly < b.hy ∧ b.lz < b.hz
instance (b) : Decidable (Gy b) := by unfold Gy; infer_instance
def Eo (bs hs : List Bx) : Prop := (1 ≤ bs.length ∧ bs.length ≤ 20) ∧ hs.length ≤ 20 ∧ (∀ b ∈ bs, Gy b) ∧ ∀ b ∈ hs, Gy b
instance (bs hs) : Decidable (Eo bs hs) := by unfold Eo; infer_instance
structure Mem where
  name : List UInt8
  bs : List Bx
  hs : List Bx
  cov : Int
  agg : Int
  pok : Int
def Mem.c : Mem → List AV
  | ⟨n, bs, hs, a, b, c⟩ => [sL n, .sh 6 (bs.map Bx.c), .sh 6 (hs.map Bx.c), iL a, iL b, iL c]
def memOK (m : Mem) : Prop := FM m.name ∧ Eo m.bs m.hs ∧ (0 ≤ m.cov ∧ m.cov ≤ 200) ∧ (1 ≤ m.agg ∧ m.agg ≤ 100) ∧ 1 ≤ m.pok ∧ m.pok ≤ 200
instance (m) : Decidable (memOK m) := by unfold memOK; infer_instance
def Mem.w (m : Mem) : Prop := m.name.length ≤ 140737488355328 ∧ m.bs.length ≤ 140737488355328 ∧ m.hs.length ≤ 140737488355328
structure Rul where
  r1 : Int
  r2 : Int
  r3 : Int
  r4 : Int
  r5 : Int
  r6 : Int
  r7 : Int
  r8 : Int
  r9 : Int
def Rul.c : Rul → List AV
  | ⟨a, b, c, d, e, f, g, h, i⟩ => [iL a, iL b, iL c, iL d, iL e, iL f, iL g, iL h, iL i]
def Rul.l (r : Rul) : List Int := [r.r1, r.r2, r.r3, r.r4, r.r5, r.r6, r.r7, r.r8]
def G6 (r : Rul) : Prop := (∀ n ∈ r.l, 1 ≤ n ∧ n ≤ 1000) ∧ r.r4 ≤ r.r3 ∧ r.r8 ≤ r.r7 ∧ r.r5 ≤ r.r6 ∧ 0 ≤ r.r9 ∧ r.r9 ≤ 1000
instance (r) : Decidable (G6 r) := by unfold G6; infer_instance
structure Det where
  mem : Mem
  bars : List Bar
  runs : List Rn
  laps : List (Int × Int)
  dems : List Dem
  rule : Rul
def Det.c : Det → List AV
  | ⟨⟨n, bs, hs, a, b, c⟩, bars, runs, laps, dems, ⟨r1, r2, r3, r4, r5, r6, r7, r8, r9⟩⟩ => [sL n, .sh 6 (bs.map Bx.c), .sh 6 (hs.map Bx.c), iL a, iL b, iL c, .sh 5 (bars.map Bar.c), .sh 10 (runs.map Rn.c), .sh 2 (laps.map CB), .sh 8 (dems.map Dem.c), iL r1, iL r2, iL r3, iL r4, iL r5, iL r6, iL r7, iL r8, iL r9]
def Det.w (x : Det) : Prop := x.mem.w ∧ (x.bars.length ≤ 140737488355328 ∧ Gl x.bars) ∧ (x.runs.length ≤ 140737488355328 ∧ runW x.runs) ∧ x.laps.length ≤ 140737488355328 ∧ x.dems.length ≤ 140737488355328 ∧ demW x.dems
structure Mn where
  leg : Bx
  has : Bool
  size : Int
  mark : List UInt8
def Mn.c : Mn → List AV
  | ⟨⟨a, b, c, d, e, f⟩, h, s, m⟩ => [iL a, iL b, iL c, iL d, iL e, iL f, bL h, iL s, sL m]
def isLeg (p q : P3) : Prop := p.1 ≠ q.1 ∧ p.2.1 = q.2.1 ∧ p.2.2 = q.2.2
instance (p q) : Decidable (isLeg p q) := by unfold isLeg; infer_instance
def legB (p q : P3) : Bx := ⟨min p.1 q.1, p.2.1, p.2.2, max p.1 q.1, p.2.1, p.2.2⟩
def zeroB : Bx := ⟨0, 0, 0, 0, 0, 0⟩
def C6 : List P3 → Bool × Bx
  | p :: q :: l => if isLeg p q then (true, legB p q) else C6 (q :: l)
  | _ => (false, zeroB)
def mainOf (b : Bar) (l : List P3) : Mn := ⟨(C6 l).2, (C6 l).1, b.size, b.mark⟩
def atR (r : Rn) (k : Nat) : P3 := (r.ax + (k : Int) * r.sx, r.ay + (k : Int) * r.sy, r.az + (k : Int) * r.sz)
def runGood (bars : List Bar) (r : Rn) (n : Nat) : Prop := ∀ k, k < n → frE r.tx r.ty (atR r k) (Fd (Bg bars r.mark)) = 0
instance (bars r n) : Decidable (runGood bars r n) := Nat.decidableBallLT n _
def DE (bars : List Bar) (r : Rn) (n : Nat) : List Mn := (List.range n).map fun k => mainOf (Bg bars r.mark) (frV r.tx r.ty (atR r k) (Fd (Bg bars r.mark)))
def F5 (bars : List Bar) (runs : List Rn) : List Mn := runs.flatMap fun r => DE bars r r.n.toNat
def CD (bars : List Bar) (runs : List Rn) : List Mn := if ∀ r ∈ runs, runGood bars r r.n.toNat then F5 bars runs else []
def DA (l : List Mn) (i : Int) : Mn := (l[i.toNat]?).getD ⟨zeroB, false, 0, []⟩
def jointP (l : List Mn) (j : Int × Int) : Prop := (0 ≤ j.1 ∧ j.1 < l.length ∧ 0 ≤ j.2 ∧ j.2 < l.length) ∧ (DA l j.1).has = true ∧ (DA l j.2).has = true ∧ (DA l j.1).leg.lx < (DA l j.2).leg.lx ∧ (DA l j.1).leg.hx < (DA l j.2).leg.hx ∧ (DA l j.2).leg.lx ≤ (DA l j.1).leg.hx
instance (l j) : Decidable (jointP l j) := by unfold jointP; infer_instance
def lapsOK (l : List Mn) (laps : List (Int × Int)) : Prop := (∀ j ∈ laps, jointP l j) ∧ laps.Pairwise fun i j => i.1 ≠ j.1 ∧ i.2 ≠ j.2
instance (l laps) : Decidable (lapsOK l laps) := by unfold lapsOK; infer_instance
def baseOK (x : Det) : Prop := memOK x.mem ∧ Dq x.bars x.runs ∧ okDems x.dems ∧ G6 x.rule ∧ x.laps.length ≤ 1000
instance (x) : Decidable (baseOK x) := by unfold baseOK; infer_instance
def Do (x : Det) : Prop := baseOK x ∧ lapsOK (CD x.bars x.runs) x.laps
instance (x) : Decidable (Do x) := by unfold Do; infer_instance
theorem thick_fun (b : Bx) : Fun Tryz.prog 104 [.agg b.c] (AK (bL (decide (Gy b))) []) := by
  refine Fun.of (nt := 32) (rs := [.tmp 2]) Tryz.func104 rfl rfl rfl rfl rfl (Ac fun _ z=>A4 (Be _ true) (Aa Ae (Ad z (Ac fun _ z=>Aa (Av _ Bq AB) (A3 (hF := boxValid_fun b) (h := AP Ab (fun c1 => ?_) (fun c1 => ?_)))))))
  · refine Aa (Ap 0 AR Am) (Aa (Ap 0 AU Ah) (Aa (At Al) (Aa (Ap 3 AQ Am) (Aa (Ap 3 AU Ah) (Aa (At Al) (Aa Ay (Aa A5 (AP Ab (fun c2 => ?_) (fun c2 => ?_)))))))))
    · refine Aa (Ap 0 AR Am) (Aa (Ap 1 Bi Ah) (Aa (At Al) (Aa (Ap 3 AQ Am) (Aa (Ap 4 Bi Ah) (Aa (At Al) (Aa Ay (Aa A5 (AP Ab (fun c3 => ?_) (fun c3 => ?_)))))))))
      · refine Aa (Ap 0 AR Am) (Aa (Ap 2 Bk Ah) (Aa (At Al) (Aa (Ap 3 AQ Am) (Aa (Ap 5 Bk Ah) (Aa (At Al) (Aa Ay (Aa A5 (Aa Ae (Ad z (Af (Aq ?_))))))))))); exact dI ⟨fun h => ⟨‹_›, by omega, by omega, h⟩, fun h => h.2.2.2⟩
      refine Ai (Ai (Ai (A9 (Aa Au (Aa Ae (Ad z (Af (Aq ?_)))))))); exact bF (fun h => by have h1 := h.2.2.1; omega)
    refine Ai (Ai (Ai (A9 (Aa Au (Aa Ab (Ai (Ai (Ai (A9 (Aa Au (Aa Ae (Ad z (Af (Aq ?_)))))))))))))); exact bF (fun h => by have h1 := h.2.1; omega)
  refine Ai (Ai (Ai (A9 (Aa Au (Aa Ab (Ai (Ai (Ai (A9 (Aa Au (Aa Ab (Ai (Ai (Ai (A9 (Aa Au (Aa Ae (Ad z (Af (Aq ?_)))))))))))))))))))); exact bF (fun h => absurd h.1 ‹_›)
theorem indexFuncBx0 (g : FuncId)  (p : Bx → Bool) (hg : ∀ s, Fun Tryz.prog g [.agg (Bx.c s)] (AK (bL (p s)) [])) (l : List (Bx)) (hlen : l.length ≤ 140737488355328) :
    Fun Tryz.prog 158 [.sh 6 (l.map Bx.c), .fn (.func g) [] []] (AK (iL (CN p l 0)) []) := by
  refine Fun.of (nt := 19) (rs := [.tmp 4]) Tryz.func158 rfl rfl rfl rfl rfl (Ac fun _ z=>Aa Ae (Ad z (An (Ac fun _ z=>Aa Ab (Aa (A7 Bs) (Aa Ab (Ad z (Ar (AI (ι := {q : List (Bx) × List (Bx) // q.1 ++ q.2 = l ∧ ∀ x ∈ q.1, p x = false}) [] [0, 1, 7] (fun ⟨(pre, suf), _⟩ => [(8, iL (pre.length : Int))]) (fun ⟨(pre, suf), _⟩ => []) (fun ⟨(pre, suf), _⟩ => suf.length) ⟨([], l), rfl, fun x hx => by simp at hx⟩ (.c (.c (.c .n))) AW (Ag) ?_))))))))); rintro ⟨⟨pre, suf⟩, hp, hinv⟩ R0 hR0; dsimp only [cA, nA, lC, lN]
  simp only at hp hinv
  have hpl := Cd hp
  rcases suf with _ | ⟨s, suf⟩
  · rw [List.append_nil] at hp; subst hp; simp only [List.length_nil] at hpl; refine Ac fun _ z=>Aa Ay (Ad z (By (fun c1 => ?_) (fun c1 => ?_)))
    · omega
    refine AO (hR0 _ _ (Ac fun _ z=>Aa Ae (Ad z (Af (Aq ?_)))))
    congr 2; rw [Gh p pre 0 hinv]
  simp only [lC] at hpl; have hidx := Ch hp; refine Ac fun _ z=>Aa Ay (Ad z (By (fun c3 => ?_) (fun c3 => ?_)))
  · refine An (Ar (Ac fun _ z=>Aa Ab (Aa Ae (Ad z (Ac fun _ z=>Aa Ab (Aa Ab (Aa Ab (Aa (AL Bs AB (hl := (by exact AY hidx (by omega)))) (Aa (BF _ Bq AB) (A3 (hF := hg s) (h := Ad z (Ev.c (fun c4 => ?_) (fun c4 => ?_)))))))))))))
    · refine Ac fun _ z=>Aa Ab (Aa Ae (Ad z (Af (hR0 _ _ (Aq ?_)))))
      congr 2; rw [← hp, DD p pre _ 0 hinv, CN, if_pos ‹_›]; omega
    refine As (Ao fun _ z=>Aa A6 (Aa Ab (Ad z (hR0 _ _ (A8 [] [0, 1, 7] ⟨(pre ++ [s], suf), B2 hp, ?_⟩ BX AW (Ag (he := (by simp))) (.c (.c (.c .n))))))))
    intro x hx; simp only [List.mem_append, List.mem_singleton] at hx; rcases hx with hx | rfl
    · exact hinv x hx
    · assumption
  omega
theorem containsFuncBx0 (g : FuncId)  (p : Bx → Bool) (hg : ∀ s, Fun Tryz.prog g [.agg (Bx.c s)] (AK (bL (p s)) [])) (l : List (Bx)) (hlen : l.length ≤ 140737488355328) :
    Fun Tryz.prog 105 [.sh 6 (l.map Bx.c), .fn (.func g) [] []] (AK (bL (decide (∃ x ∈ l, p x = true))) []) := by
  have hd : (decide (∃ x ∈ l, p x = true)) = decide (0 ≤ CN p l 0) := by simp only [Gn p l 0 (Int.le_refl _)]
  rw [hd]; refine Fun.of (nt := 9) (rs := [.tmp 4]) Tryz.func105 rfl rfl rfl rfl rfl (Ac fun _ z=>Aa Ae (Ad z (Ac fun _ z=>Aa Ab (Aa Ab (A3 (hF := indexFuncBx0 g  p hg l hlen) (h := Aa C7 (Aa Ae (Ad z (Af (Aq ?_)))))))))); rfl
theorem indexFuncInt0 (g : FuncId)  (p : Int → Bool) (hg : ∀ s, Fun Tryz.prog g [(Cz s).headD .top] (AK (bL (p s)) [])) (l : List (Int)) (hlen : l.length ≤ 140737488355328) :
    Fun Tryz.prog 217 [.sh 1 (l.map Cz), .fn (.func g) [] []] (AK (iL (CN p l 0)) []) := by
  refine Fun.of (nt := 19) (rs := [.tmp 4]) Tryz.func217 rfl rfl rfl rfl rfl (Ac fun _ z=>Aa Ae (Ad z (An (Ac fun _ z=>Aa Ab (Aa (A7 AG) (Aa Ab (Ad z (Ar (AI (ι := {q : List (Int) × List (Int) // q.1 ++ q.2 = l ∧ ∀ x ∈ q.1, p x = false}) [] [0, 1, 7] (fun ⟨(pre, suf), _⟩ => [(8, iL (pre.length : Int))]) (fun ⟨(pre, suf), _⟩ => []) (fun ⟨(pre, suf), _⟩ => suf.length) ⟨([], l), rfl, fun x hx => by simp at hx⟩ (.c (.c (.c .n))) AW (Ag) ?_))))))))); rintro ⟨⟨pre, suf⟩, hp, hinv⟩ R0 hR0; dsimp only [cA, nA, lC, lN]
  simp only at hp hinv
  have hpl := Cd hp
  rcases suf with _ | ⟨s, suf⟩
  · rw [List.append_nil] at hp; subst hp; simp only [List.length_nil] at hpl; refine Ac fun _ z=>Aa Ay (Ad z (By (fun c1 => ?_) (fun c1 => ?_)))
    · omega
    refine AO (hR0 _ _ (Ac fun _ z=>Aa Ae (Ad z (Af (Aq ?_)))))
    congr 2; rw [Gh p pre 0 hinv]
  simp only [lC] at hpl; have hidx := Ch hp; refine Ac fun _ z=>Aa Ay (Ad z (By (fun c3 => ?_) (fun c3 => ?_)))
  · refine An (Ar (Ac fun _ z=>Aa Ab (Aa Ae (Ad z (Ac fun _ z=>Aa Ab (Aa Ab (Aa Ab (Aa (AL AG Ah (hl := (by exact AY hidx (by omega)))) (Aa (Bc Al) (A3 (hF := hg s) (h := Ad z (Ev.c (fun c4 => ?_) (fun c4 => ?_)))))))))))))
    · refine Ac fun _ z=>Aa Ab (Aa Ae (Ad z (Af (hR0 _ _ (Aq ?_)))))
      congr 2; rw [← hp, DD p pre _ 0 hinv, CN, if_pos ‹_›]; omega
    refine As (Ao fun _ z=>Aa A6 (Aa Ab (Ad z (hR0 _ _ (A8 [] [0, 1, 7] ⟨(pre ++ [s], suf), B2 hp, ?_⟩ BX AW (Ag (he := (by simp))) (.c (.c (.c .n))))))))
    intro x hx; simp only [List.mem_append, List.mem_singleton] at hx; rcases hx with hx | rfl
    · exact hinv x hx
    · assumption
  omega
theorem containsFuncInt0 (g : FuncId)  (p : Int → Bool) (hg : ∀ s, Fun Tryz.prog g [(Cz s).headD .top] (AK (bL (p s)) [])) (l : List (Int)) (hlen : l.length ≤ 140737488355328) :
    Fun Tryz.prog 188 [.sh 1 (l.map Cz), .fn (.func g) [] []] (AK (bL (decide (∃ x ∈ l, p x = true))) []) := by
  have hd : (decide (∃ x ∈ l, p x = true)) = decide (0 ≤ CN p l 0) := by simp only [Gn p l 0 (Int.le_refl _)]
  rw [hd]; refine Fun.of (nt := 9) (rs := [.tmp 4]) Tryz.func188 rfl rfl rfl rfl rfl (Ac fun _ z=>Aa Ae (Ad z (Ac fun _ z=>Aa Ab (Aa Ab (A3 (hF := indexFuncInt0 g  p hg l hlen) (h := Aa C7 (Aa Ae (Ad z (Af (Aq ?_)))))))))); rfl
theorem thin_fun (b : Bx) : Fun Tryz.prog 103 [.agg b.c] (AK (bL (decide (¬ Gy b))) []) := by
  refine Fun.of (nt := 6) (rs := [.tmp 2]) Tryz.func103 rfl rfl rfl rfl rfl (Ac fun _ z=>A4 (Be _ true) (Aa Ae (Ad z (Ac fun _ z=>Aa (Av _ Bq AB) (A3 (hF := thick_fun b) (h := Aa BB (Aa Ae (Ad z (Af (Aq ?_)))))))))); exact dN Iff.rfl
theorem allThick {l : List Bx} : (¬ ∃ x ∈ l, decide (¬ Gy x) = true) ↔ ∀ b ∈ l, Gy b := by
  constructor
  · intro h b hb
    by_cases ht : Gy b
    · exact ht
    exact absurd ⟨b, hb, decide_eq_true ht⟩ h
  rintro h ⟨b, hb, hd⟩; exact of_decide_eq_true hd (h b hb)
theorem solValid_fun (bs hs : List Bx) (h1 : bs.length ≤ 140737488355328) (h2 : hs.length ≤ 140737488355328) : Fun Tryz.prog 58 [.agg [.sh 6 (bs.map Bx.c), .sh 6 (hs.map Bx.c)]] (AK (bL (decide (Eo bs hs))) []) := by
  refine Fun.of (nt := 34) (rs := [.tmp 2]) Tryz.func58 rfl rfl rfl rfl rfl (Ac fun _ z=>A4 (Be _ true) (Aa Ae (Ad z (Ac fun _ z=>Aa Ae (Ad z (Ac fun _ z=>Aa (Ap 0 DP CF) (Aa (At CI) (Aa (A7 Bs) (Aa C7 (AP Ab (fun c1 => ?_) (fun c1 => ?_)))))))))))
  · refine Aa (Ap 0 DP CF) (Aa (At CI) (Aa (A7 Bs) (Aa BJ (Aa A5 (AP Ab (fun c2 => ?_) (fun c2 => ?_))))))
    · refine Aa (Ap 1 E6 CF) (Aa (At CI) (Aa (A7 Bs) (Aa BJ (Aa A5 (AP Ab (fun c3 => ?_) (fun c3 => ?_))))))
      · refine Aa (Ap 0 DP CF) (Aa (At CI) (Aa Ab (A3 (hF := containsFuncBx0 _ _ thin_fun bs (by omega)) (h := Aa BB (Aa A5 (DV Ab (fun c4 => ?_) (fun c4 => ?_)))))))
        · refine Aa (Ap 1 E6 CF) (Aa (At CI) (Aa Ab (A3 (hF := containsFuncBx0 _ _ thin_fun hs (by omega)) (h := Aa BB (Aa A5 (Aa Ae (Ad z (Af (Aq ?_))))))))); exact dN ⟨fun h => ⟨⟨by omega, by omega⟩, by omega, allThick.1 ‹_›, allThick.1 h⟩, fun h => allThick.2 h.2.2.2⟩
        refine Ai (Ai (A9 (Aa Au (Aa Ae (Ad z (Af (Aq ?_))))))); exact bF (fun h => allThick.2 h.2.2.1 ‹_›)
      refine Ai (Ai (A9 (Aa Au (Aa Ab (Ai (Ai (A9 (Aa Au (Aa Ae (Ad z (Af (Aq ?_)))))))))))); exact bF (fun h => by have h1 := h.1; have h2 := h.2.1; omega)
    refine Ai (Ai (Aa Au (Aa Ab (Ai (Ai (A9 (Aa Au (Aa Ab (Ai (Ai (A9 (Aa Au (Aa Ae (Ad z (Af (Aq ?_)))))))))))))))); exact bF (fun h => by have h1 := h.1; have h2 := h.2.1; omega)
  refine Ai (Ai (Aa Au (Aa Ab (Ai (Ai (Aa Au (Aa Ab (Ai (Ai (A9 (Aa Au (Aa Ab (Ai (Ai (A9 (Aa Au (Aa Ae (Ad z (Af (Aq ?_)))))))))))))))))))); exact bF (fun h => by have h1 := h.1; have h2 := h.2.1; omega)
theorem mwithin_fun (n lo hi : Int) : Fun Tryz.prog 137 [iL n, iL lo, iL hi] (AK (bL (decide (lo ≤ n ∧ n ≤ hi))) []) := by
  refine Fun.of (nt := 15) (rs := [.tmp 6]) Tryz.func137 rfl rfl rfl rfl rfl (Ac fun _ z=>Aa Ae (Ad z (Ac fun _ z=>Aa Ab (Aa Ab (Aa C7 (AP Ab (fun c1 => ?_) (fun c1 => ?_)))))))
  · refine Aa Ab (Aa Ab (Aa BJ (Aa A5 (Aa Ae (Ad z (Af (Aq ?_))))))); exact dI ⟨fun h => by omega, fun h => by omega⟩
  refine Ai (A9 (Aa Au (Aa Ae (Ad z (Af (Aq ?_)))))); exact bF (fun h => by omega)
theorem member_fun (x : Mem) (hw : x.w) : Fun Tryz.prog 84 [.agg x.c] (AK (bL (decide (memOK x))) []) := by
  obtain ⟨hw1, hw2, hw3⟩ := hw; refine Fun.of (nt := 30) (rs := [.tmp 2]) Tryz.func84 rfl rfl rfl rfl rfl (Ac fun _ z=>A4 (Be _ true) (Aa Ae (Ad z (Ac fun _ z=>Aa Ae (Ad z (Ac fun _ z=>Aa (Ap 0 am_fi26_0 Da) (Aa (At CL) (A3 (hF := isName_fun x.name (by omega)) (h := AP Ab (fun c1 => ?_) (fun c1 => ?_))))))))))
  · refine Aa (Ap 1 am_fi26_1 E7) (Aa (Av _ FS E7) (A3 (hF := solValid_fun x.bs x.hs (by omega) (by omega)) (h := Aa A5 (AP Ab (fun c2 => ?_) (fun c2 => ?_)))))
    · refine Aa Ab (Aa (Ap 3 am_fi26_2 Ah) (Aa (At Al) (A3 (hF := mwithin_fun x.cov 0 200) (h := Aa A5 (AP Ab (fun c3 => ?_) (fun c3 => ?_))))))
      · refine Aa Ab (Aa (Ap 4 am_fi26_3 Ah) (Aa (At Al) (A3 (hF := mwithin_fun x.agg 1 100) (h := Aa A5 (AP Ab (fun c4 => ?_) (fun c4 => ?_))))))
        · refine Aa Ab (Aa (Ap 5 am_fi26_4 Ah) (Aa (At Al) (A3 (hF := mwithin_fun x.pok 1 200) (h := Aa A5 (Aa Ae (Ad z (Af (Aq ?_)))))))); exact dI ⟨fun h => ⟨‹_›, ‹_›, ‹_›, ‹_›, h⟩, fun h => h.2.2.2.2⟩
        refine Ai (Ai (Aa Au (Aa Ae (Ad z (Af (Aq ?_)))))); exact bF (fun h => absurd h.2.2.2.1 ‹_›)
      refine Ai (Ai (Aa Au (Aa Ab (Ai (Ai (Aa Au (Aa Ae (Ad z (Af (Aq ?_)))))))))); exact bF (fun h => absurd h.2.2.1 ‹_›)
    refine Ai (Ai (Aa Au (Aa Ab (Ai (Ai (Aa Au (Aa Ab (Ai (Ai (Aa Au (Aa Ae (Ad z (Af (Aq ?_)))))))))))))); exact bF (fun h => absurd h.2.1 ‹_›)
  refine Ai (A9 (Aa Au (Aa Ab (Ai (Ai (Aa Au (Aa Ab (Ai (Ai (Aa Au (Aa Ab (Ai (Ai (Aa Au (Aa Ae (Ad z (Af (Aq ?_)))))))))))))))))); exact bF (fun h => absurd h.1 ‹_›)
theorem anw_fun (s : Int) : Fun Tryz.prog 189 [iL s] (AK (bL (decide (¬ (1 ≤ s ∧ s ≤ 1000)))) []) := by
  refine Fun.of (nt := 9) (rs := [.tmp 2]) Tryz.func189 rfl rfl rfl rfl rfl (Ac fun _ z=>Aa Ae (Ad z (Ac fun _ z=>Aa Ab (Aa Ay (AP Ab (fun c1 => ?_) (fun c1 => ?_))))))
  · refine Ai (Aa A5 (Aa Ae (Ad z (Af (Aq ?_))))); exact bT (fun h => by omega)
  refine Aa Ab (Aa Bh (Aa Au (Aa Ae (Ad z (Af (Aq ?_)))))); exact dI ⟨fun h h2 => by omega, fun h => by omega⟩
theorem allIn {l : List Int} : (¬ ∃ x ∈ l, decide (¬ (1 ≤ x ∧ x ≤ 1000)) = true) ↔ ∀ b ∈ l, 1 ≤ b ∧ b ≤ 1000 := by
  constructor
  · intro h b hb
    by_cases ht : 1 ≤ b ∧ b ≤ 1000
    · exact ht
    exact absurd ⟨b, hb, decide_eq_true ht⟩ h
  rintro h ⟨b, hb, hd⟩; exact of_decide_eq_true hd (h b hb)
theorem within_fun (l : List Int) (h1 : l.length ≤ 140737488355328) : Fun Tryz.prog 141 [.sh 1 (l.map Cz)] (AK (bL (decide (∀ n ∈ l, 1 ≤ n ∧ n ≤ 1000))) []) := by
  refine Fun.of (nt := 6) (rs := [.tmp 2]) Tryz.func141 rfl rfl rfl rfl rfl (Ac fun _ z=>Aa Ae (Ad z (Ac fun _ z=>Aa Ab (A3 (hF := containsFuncInt0 _ _ anw_fun l (by omega)) (h := Aa BB (Aa Ae (Ad z (Af (Aq ?_))))))))); exact dN allIn
theorem ruleValid_fun (r : Rul) : Fun Tryz.prog 86 [.agg r.c] (AK (bL (decide (G6 r))) []) := by
  refine Fun.of (nt := 52) (rs := [.tmp 2]) Tryz.func86 rfl rfl rfl rfl rfl (Ac fun _ z=>A4 (Be _ true) (Aa Ae (Ad z (Ac fun _ z=>Aa (Ap 0 am_fi32_0 Ah) (Aa (At Al) (Aa (Ap 1 am_fi32_1 Ah) (Aa (At Al) (Aa (Ap 2 am_fi32_2 Ah) (Aa (At Al) (Aa (Ap 3 am_fi32_3 Ah) (Aa (At Al) (Aa (Ap 4 am_fi32_4 Ah) (Aa (At Al) (Aa (Ap 5 am_fi32_5 Ah) (Aa (At Al) (Aa (Ap 6 am_fi32_6 Ah) (Aa (At Al) (Aa (Ap 7 am_fi32_7 Ah) (Aa (At Al) (A4 (C3 [[_], [_], [_], [_], [_], [_], [_], [_]] true AG Ed Ah) (SeqL.weaken (Wk.frzl (f := Cz) r.l 19 [_]) (A3 (hF := within_fun r.l (show 8 ≤ 140737488355328 by decide)) (h := AP Ab (fun c1 => ?_) (fun c1 => ?_))))))))))))))))))))))))
  · refine Aa (Ap 2 am_fi32_2 Ah) (Aa (At Al) (Aa (Ap 3 am_fi32_3 Ah) (Aa (At Al) (Aa C7 (Aa A5 (AP Ab (fun c2 => ?_) (fun c2 => ?_)))))))
    · refine Aa (Ap 6 am_fi32_6 Ah) (Aa (At Al) (Aa (Ap 7 am_fi32_7 Ah) (Aa (At Al) (Aa C7 (Aa A5 (AP Ab (fun c3 => ?_) (fun c3 => ?_)))))))
      · refine Aa (Ap 4 am_fi32_4 Ah) (Aa (At Al) (Aa (Ap 5 am_fi32_5 Ah) (Aa (At Al) (Aa BJ (Aa A5 (AP Ab (fun c4 => ?_) (fun c4 => ?_)))))))
        · refine Aa (Ap 8 am_fi32_8 Ah) (Aa (At Al) (Aa C7 (Aa A5 (AP Ab (fun c5 => ?_) (fun c5 => ?_)))))
          · refine Aa (Ap 8 am_fi32_8 Ah) (Aa (At Al) (Aa BJ (Aa A5 (Aa Ae (Ad z (Af (Aq ?_))))))); exact dI ⟨fun h => ⟨‹_›, by omega, by omega, by omega, by omega, h⟩, fun h => h.2.2.2.2.2⟩
          refine Ai (A9 (Aa Au (Aa Ae (Ad z (Af (Aq ?_)))))); exact bF (fun h => by have h1 := h.2; omega)
        refine Ai (A9 (Aa Au (Aa Ab (Ai (A9 (Aa Au (Aa Ae (Ad z (Af (Aq ?_)))))))))); exact bF (fun h => by have h1 := h.2; omega)
      refine Ai (Ai (A9 (Aa Au (Aa Ab (Ai (A9 (Aa Au (Aa Ab (Ai (A9 (Aa Au (Aa Ae (Ad z (Af (Aq ?_))))))))))))))); exact bF (fun h => by have h1 := h.2; omega)
    refine Ai (Ai (A9 (Aa Au (Aa Ab (Ai (Ai (A9 (Aa Au (Aa Ab (Ai (A9 (Aa Au (Aa Ab (Ai (A9 (Aa Au (Aa Ae (Ad z (Af (Aq ?_)))))))))))))))))))); exact bF (fun h => by have h1 := h.2; omega)
  refine Ai (Ai (A9 (Aa Au (Aa Ab (Ai (Ai (A9 (Aa Au (Aa Ab (Ai (Ai (A9 (Aa Au (Aa Ab (Ai (A9 (Aa Au (Aa Ab (Ai (A9 (Aa Au (Aa Ae (Ad z (Af (Aq ?_))))))))))))))))))))))))); exact bF (fun h => absurd h.1 ‹_›)
def findV (l : List Bar) (mk : List UInt8) : Int := if CJ l then (if 0 ≤ D0 l mk then D0 l mk else 0) else 0
def findE (l : List Bar) (mk : List UInt8) : Int := if CJ l then (if 0 ≤ D0 l mk then 0 else 9) else 1
theorem find_t {l : List Bar} {mk : List UInt8} (h : CJ l) (h2 : 0 ≤ D0 l mk) : findV l mk = D0 l mk ∧ findE l mk = 0 := ⟨(if_pos h).trans (if_pos h2), (if_pos h).trans (if_pos h2)⟩
theorem find_f {l : List Bar} {mk : List UInt8} (h : CJ l) (h2 : ¬ 0 ≤ D0 l mk) : findV l mk = 0 ∧ findE l mk = 9 := ⟨(if_pos h).trans (if_neg h2), (if_pos h).trans (if_neg h2)⟩
theorem find_n {l : List Bar} {mk : List UInt8} (h : ¬ CJ l) : findV l mk = 0 ∧ findE l mk = 1 := ⟨if_neg h, if_neg h⟩
theorem find_fun (l : List Bar) (mk : List UInt8) (hlen : l.length ≤ 140737488355328) (hw : Gl l) : Fun Tryz.prog 142 [.sh 5 (l.map Bar.c), sL mk] (AK (.tup [iL (findV l mk), iL (findE l mk)]) []) := by
  have hmb := markI_bd l mk; refine Fun.of (nt := 16) (rs := [.tmp 4, .tmp 5]) Tryz.func142 rfl rfl rfl rfl rfl (Ac fun _ G=>Aa Ae (Aa Ae (Ad G (An (Ac fun _ G=>Aa Ab (A3 (hF := schedValid_fun _ (by omega) (by assumption)) (h := Aa BB (Ad G (Cb (fun c1 => ?_) (fun c1 => ?_))))))))))
  · refine Ac fun _ G=>Aa Ae (Aa Ae (Ad G (Af (CC ?_)))); rw [(find_n ‹¬ CJ l›).1, (find_n ‹¬ CJ l›).2]
  refine As (Ac fun _ G=>Aa Ab (Aa Ab (A3 (hF := schedIndex_fun _ _ (by omega)) (h := Aa Ae (Ad G (An (Ac fun _ G=>Aa Ab (Aa Ay (Ad G (Ax (fun c2 => ?_) (fun c2 => ?_)))))))))))
  · refine Ac fun _ G=>Aa Ae (Aa Ae (Ad G (Af (CC ?_)))); rw [(find_f ‹CJ l› (by omega)).1, (find_f ‹CJ l› (by omega)).2]
  refine As (Ac fun _ G=>Aa Ab (Aa Ae (Aa Ae (Ad G (Af (CC ?_)))))); rw [(find_t ‹CJ l› (by omega)).1, (find_t ‹CJ l› (by omega)).2]
theorem find_ok {l : List Bar} {mk : List UInt8} (hlen : l.length ≤ 140737488355328) (hw : Gl l) (h : CJ l) (h2 : 0 ≤ D0 l mk) : Fun Tryz.prog 142 [.sh 5 (l.map Bar.c), sL mk] (AK (.tup [iL (D0 l mk), iL 0]) []) := by
  have h1 := find_fun l mk hlen hw
  rwa [(find_t h h2).1, (find_t h h2).2] at h1
theorem path_ok {b : Bar} (hw : b.w) (h : Cg b) : Fun Tryz.prog 143 [.agg b.c] (AK (.tup [.sh 3 ((Fd b).map C1), iL 0]) []) := by
  have h1 := shapePath_fun b hw
  rwa [okE_in h] at h1
theorem legF_1 (l : List P3) : C6 (l.take 1) = (false, ⟨0, 0, 0, 0, 0, 0⟩) := by
  rcases l with _ | ⟨a, l⟩ <;> rfl
theorem legF_s : ∀ (l : List P3) (i : Nat) (p q : P3), 1 ≤ i → (C6 (l.take i)).1 = false → l[i - 1]? = some p → l[i]? = some q →
    C6 (l.take (i + 1)) = (if isLeg p q then (true, legB p q) else (false, ⟨0, 0, 0, 0, 0, 0⟩)) ∧ C6 (l.take i) = (false, ⟨0, 0, 0, 0, 0, 0⟩)
  | [], i, p, q, h1, h2, h3, h4 => by simp at h4
  | a :: t, 0, p, q, h1, h2, h3, h4 => absurd h1 (by omega)
  | a :: t, 1, p, q, h1, h2, h3, h4 => by
    simp only [Nat.sub_self, List.getElem?_cons_zero, Option.some.injEq] at h3; subst h3
    rcases t with _ | ⟨b, t⟩
    · simp at h4
    · simp only [List.getElem?_cons_succ, List.getElem?_cons_zero, Option.some.injEq] at h4; subst h4; exact ⟨rfl, rfl⟩
  | a :: t, j + 2, p, q, h1, h2, h3, h4 => by
    rcases t with _ | ⟨b, t⟩
    · simp at h4
    · have e : ∀ n, C6 ((a :: b :: t).take (n + 2)) = if isLeg a b then (true, legB a b) else C6 ((b :: t).take (n + 1)) := fun n => rfl; rw [e] at h2; rw [e, e]
      have hn : ¬ isLeg a b := fun h => by rw [if_pos h] at h2; cases h2
      rw [if_neg hn] at h2 ⊢; rw [if_neg hn]; exact legF_s (b :: t) (j + 1) p q (by omega) h2 (by simpa using h3) (by simpa using h4)
theorem legF_end : ∀ (l : List P3) (i : Nat), (C6 (l.take i)).1 = true → C6 l = C6 (l.take i)
  | [], i, h => by simp [C6] at h
  | a :: t, 0, h => by cases h
  | a :: t, 1, h => by cases h
  | a :: [], j + 2, h => by simp [C6] at h
  | a :: b :: t, j + 2, h => by
    have e : ∀ n, C6 ((a :: b :: t).take (n + 2)) = if isLeg a b then (true, legB a b) else C6 ((b :: t).take (n + 1)) := fun n => rfl; have e2 : C6 (a :: b :: t) = if isLeg a b then (true, legB a b) else C6 (b :: t) := rfl; rw [e] at h ⊢; rw [e2]
    split
    · rfl
    · rename_i hn
      rw [if_neg hn] at h; exact legF_end (b :: t) (j + 1) h
theorem legF_full {l : List P3} {i : Nat} (h : l.length ≤ i) : C6 l = C6 (l.take i) := by rw [List.take_of_length_le h]
theorem leg_t {l : List P3} {i : Nat} {p q : P3} (h1 : 1 ≤ i) (h2 : (C6 (l.take i)).1 = false) (h3 : l[i - 1]? = some p) (h4 : l[i]? = some q) (h : isLeg p q) : C6 (l.take (i + 1)) = (true, ⟨min p.1 q.1, p.2.1, p.2.2, max p.1 q.1, p.2.1, p.2.2⟩) := by
  rw [(legF_s l i p q h1 h2 h3 h4).1, if_pos h]; rfl
theorem leg_n {l : List P3} {i : Nat} {p q : P3} (h1 : 1 ≤ i) (h2 : (C6 (l.take i)).1 = false) (h3 : l[i - 1]? = some p) (h4 : l[i]? = some q) (h : ¬ isLeg p q) : C6 (l.take (i + 1)) = C6 (l.take i) := by
  rw [(legF_s l i p q h1 h2 h3 h4).1, (legF_s l i p q h1 h2 h3 h4).2, if_neg h]
def legRow (v : Bool × Bx) (s : Int) (mk : List UInt8) : List AV := [iL v.2.lx, iL v.2.ly, iL v.2.lz, iL v.2.hx, iL v.2.hy, iL v.2.hz, bL v.1, iL s, sL mk]
theorem leg_row {v w : Bool × Bx} {s : Int} {mk : List UInt8} (e : v = w) : [legRow w s mk] = [legRow v s mk] := by rw [e]
theorem runMains_succ (bars : List Bar) (r : Rn) (k : Nat) : DE bars r (k + 1) = DE bars r k ++ [mainOf (Bg bars r.mark) (frV r.tx r.ty (atR r k) (Fd (Bg bars r.mark)))] := by
  rw [DE, List.range_succ, List.map_append]; rfl
theorem G0 (bars : List Bar) (r : Rn) (k : Nat) : (DE bars r k).length = k := by simp [DE]
theorem runGood_succ {bars : List Bar} {r : Rn} {k : Nat} (h : runGood bars r k) (h1 : frE r.tx r.ty (atR r k) (Fd (Bg bars r.mark)) = 0) : runGood bars r (k + 1) := fun j hj => by
  by_cases e : j = k
  · subst e; exact h1
  · exact h j (by omega)
theorem mainsG_snoc (bars : List Bar) (pre : List Rn) (s : Rn) : F5 bars (pre ++ [s]) = F5 bars pre ++ DE bars s s.n.toNat := by simp [F5]
theorem mainsG_len (bars : List Bar) : ∀ l : List Rn, (∀ r ∈ l, 1 ≤ r.n) → ((F5 bars l).length : Int) = Dt l := by
  refine CY (fun _ => rfl) ?_; intro l s ih h; have h1 := ih fun r hr => h r (by simp [hr]); have h2 := h s (by simp); rw [mainsG_snoc, List.length_append, G0, cnt_snoc]; omega
theorem mains_row {bars : List Bar} {r : Rn} {k : Nat} {l : List P3} {i : Nat} (X : List Mn) (e : C6 l = C6 (l.take i)) (hl : l = frV r.tx r.ty (atR r k) (Fd (Bg bars r.mark))) :
    (X ++ DE bars r k ++ [(⟨⟨(C6 (l.take i)).2.lx, (C6 (l.take i)).2.ly, (C6 (l.take i)).2.lz, (C6 (l.take i)).2.hx, (C6 (l.take i)).2.hy, (C6 (l.take i)).2.hz⟩, (C6 (l.take i)).1, (Bg bars r.mark).size, (Bg bars r.mark).mark⟩ : Mn)]).map Mn.c = (X ++ DE bars r (k + 1)).map Mn.c := by
  rw [runMains_succ, ← List.append_assoc, ← hl, mainOf, e]
theorem mains_row_t {bars : List Bar} {r : Rn} {k : Nat} {l : List P3} {i : Nat} (X : List Mn) (e : C6 l = C6 (l.take i)) (hl : l = frV r.tx r.ty (atR r k) (Fd (Bg bars r.mark))) (hb : (C6 (l.take i)).1 = true) :
    (X ++ DE bars r k ++ [(⟨⟨(C6 (l.take i)).2.lx, (C6 (l.take i)).2.ly, (C6 (l.take i)).2.lz, (C6 (l.take i)).2.hx, (C6 (l.take i)).2.hy, (C6 (l.take i)).2.hz⟩, true, (Bg bars r.mark).size, (Bg bars r.mark).mark⟩ : Mn)]).map Mn.c = (X ++ DE bars r (k + 1)).map Mn.c := by
  rw [← hb]; exact mains_row X e hl
theorem leg_row_n {v w : Bool × Bx} {s : Int} {mk : List UInt8} (e : v = w) (hb : w.1 = false) : [[iL w.2.lx, iL w.2.ly, iL w.2.lz, iL w.2.hx, iL w.2.hy, iL w.2.hz, bL false, iL s, sL mk]] = [legRow v s mk] := by
  subst e; rw [legRow, hb]
theorem run_bd {bars : List Bar} {r : Rn} {k : Nat} (h : Fo bars r) (hk : (k : Int) < r.n) : (-2097152000 ≤ (k : Int) * r.sx ∧ (k : Int) * r.sx ≤ 2097152000) ∧ (-2097152000 ≤ (k : Int) * r.sy ∧ (k : Int) * r.sy ≤ 2097152000) ∧ (-2097152000 ≤ (k : Int) * r.sz ∧ (k : Int) * r.sz ≤ 2097152000) ∧ (-1048576 ≤ r.ax ∧ r.ax ≤ 1048576) ∧ (-1048576 ≤ r.ay ∧ r.ay ≤ 1048576) ∧ -1048576 ≤ r.az ∧ r.az ≤ 1048576 := by
  obtain ⟨g1, g2, g3, g4, g5, g6, g7⟩ := h; have ha : (-1048576 ≤ r.ax ∧ r.ax ≤ 1048576) ∧ (-1048576 ≤ r.ay ∧ r.ay ≤ 1048576) ∧ -1048576 ≤ r.az ∧ r.az ≤ 1048576 := g4
  by_cases h1 : r.n > 1
  · have hs : (-2097152 ≤ r.sx ∧ r.sx ≤ 2097152) ∧ (-2097152 ≤ r.sy ∧ r.sy ≤ 2097152) ∧ -2097152 ≤ r.sz ∧ r.sz ≤ 2097152 := (g5 h1).2; have m1 := El (a := (k : Int)) (b := r.sx) (A := 1000) (B := 2097152) (by omega) hs.1; have m2 := El (a := (k : Int)) (b := r.sy) (A := 1000) (B := 2097152) (by omega) hs.2.1; have m3 := El (a := (k : Int)) (b := r.sz) (A := 1000) (B := 2097152) (by omega) hs.2.2; refine ⟨by omega, by omega, by omega, ha⟩
  obtain rfl : k = 0 := by omega
  refine ⟨?_, ?_, ?_, ha⟩ <;> simp
theorem frV_len (x y : Int) (q : P3) (b : Bar) : (frV x y q (Fd b)).length ≤ 7 := by
  have := shpV_len b
  unfold frV
  split
  · rw [List.length_map]; omega
  simp
theorem mains_len {bars : List Bar} {runs : List Rn} (h : Dq bars runs) : (CD bars runs).length ≤ 2000 := by
  have h1 := mainsG_len bars runs fun r hr => (h.2.2.1 r hr).2.2.1.1; have h2 := h.2.2.2
  unfold CD
  split
  · omega
  simp
theorem mains_bad {bars : List Bar} {runs pre suf : List Rn} {s : Rn} {k : Nat} (hp : pre ++ s :: suf = runs) (hk : (k : Int) < s.n) (h : ¬ frE s.tx s.ty (atR s k) (Fd (Bg bars s.mark)) = 0) : CD bars runs = [] :=
  if_neg fun h2 => h (h2 s (by rw [← hp]; simp) k (by omega))
theorem mains_fun (x : Det) (hw : x.w) (hlo : Dq x.bars x.runs) : Fun Tryz.prog 87 [.agg x.c] (AK (.sh 9 ((CD x.bars x.runs).map Mn.c)) []) := by
  obtain ⟨hw1, ⟨hw2, hw2b⟩, ⟨hw3, hw3b⟩, hw4, hw5, hw6⟩ := hw; obtain ⟨hl1, hl2, hl3, hl4⟩ := id hlo; refine Fun.of (nt := 164) (rs := [.tmp 2]) Tryz.func87 rfl rfl rfl rfl rfl (Ac fun _ G=>A4 (Be _ true) (Aa Ae (Ad G (Ac fun _ G=>Aa Ae (Ad G (An (Ac fun _ G=>Aa (Ap 7 E9 FG) (Aa (At FD) (Aa (A7 Bo) (Aa Ab (Ad G (Ar (AT (Wk.nown Mn.c 3 183 9) (AI (ι := {q : List Rn × List Rn // q.1 ++ q.2 = x.runs ∧ ∀ r ∈ q.1, runGood x.bars r r.n.toNat}) [0, 1] [1, 19, 20] (fun ⟨(pre, suf), _⟩ => [(21, iL (pre.length : Int)), (3, .als 1 0 (F5 x.bars pre).length)]) (fun ⟨(pre, suf), _⟩ => [(0, ⟨false, 34, 19, [[sL (x.mem.name), .sh 6 ((x.mem.bs).map Bx.c), .sh 6 ((x.mem.hs).map Bx.c), iL (x.mem.cov), iL (x.mem.agg), iL (x.mem.pok), .sh 5 ((x.bars).map Bar.c), .sh 10 ((x.runs).map Rn.c), .sh 2 ((x.laps).map CB), .sh 8 ((x.dems).map Dem.c), iL (x.rule.r1), iL (x.rule.r2), iL (x.rule.r3), iL (x.rule.r4), iL (x.rule.r5), iL (x.rule.r6), iL (x.rule.r7), iL (x.rule.r8), iL (x.rule.r9)]], true⟩), (1, ⟨true, 183, 9, (F5 x.bars pre).map Mn.c, true⟩)]) (fun ⟨(pre, suf), _⟩ => suf.length) ⟨([], x.runs), rfl, fun x hx => by simp at hx⟩ (.c (.c (.c .n))) (Aj (h := (Aj))) (Ag (h := (Ag))) ?_)))))))))))))); rintro ⟨⟨pre, suf⟩, hp, hinv⟩ R0 hR0; dsimp only [cA, nA, lC, lN]
  simp only at hp hinv
  have hpl := Cd hp
  rcases suf with _ | ⟨s, suf⟩
  · rw [List.append_nil] at hp; simp only [lN] at hpl; refine Ac fun _ G=>Aa Ay (Ad G (By (fun c1 => ?_) (fun c1 => ?_)))
    · omega
    refine AO (hR0 _ _ (Ac fun _ G=>Aa Ab (Aa Ae (Ad G (AT (Wk.frz 2 [_]) (Af (Aq ?_))))))); rw [CD, if_pos (by rw [← hp]; exact hinv), ← hp]
  simp only [lC] at hpl; have hidx := Ch hp; have hms := GA hp; have hrp := hl3 s hms; have hmk := hrp.1; have hsn := hrp.2.2.1; have hlg := GK hmk; have hwl := hw2b _ (FK hmk); have hob := hl1.2.1 _ (FK hmk); have hsl := shpV_len (Bg x.bars s.mark); have hct := cnt_cut hp (fun z hz => (hl3 z hz).2.2.1.1); have hgl := mainsG_len x.bars pre (fun z hz => (hl3 z (by rw [← hp]; simp [hz])).2.2.1.1); have hmb := markI_bd x.bars s.mark; refine Ac fun _ G=>Aa Ay (Ad G (By (fun c2 => ?_) (fun c2 => ?_)))
  · refine An (Ar (Ac fun _ G=>Aa (AL Bo B5 (hl := (by exact AY hidx (by omega)))) (Aa (BF _ FX B5) (A4 (Bd am_ze82) (AC _ true [_, _] am_in82 B5 (h := Ad G (Ac fun _ G=>Aa (Ap 6 Eh Fu) (Aa (At Fx) (Aa (Ap 0 Fq Da) (Aa (At CL) (A3 (hF := find_ok hw2 hw2b hl1 hmk) (h := Aa Ab (Aa BA (Aa BA (Aa Ae (Aa Ae (Ad G (An (Ac fun _ G=>Aa Ab (Aa Dk (Ad G (Cb (fun c3 => ?_) (fun c3 => ?_)))))))))))))))))))))))
    · omega
    refine As (Ac fun _ G=>Aa (Ap 6 Eh Fu) (Aa (At Fx) (Aa Ab (Aa (AL BO Bv (hl := (by exact AY hlg (by omega)))) (Aa (BF _ Cm Bv) (A4 (Bd am_ze72) (AC _ true [_, _, _] am_in72 Bv (h := Ad G (Ac fun _ G=>Aa (Av _ Cm Bv) (A3 (hF := path_ok hwl hob) (h := Aa Ab (Aa BA (Aa BA (Aa Ae (Aa Ae (Ad G (An (Ac fun _ G=>Aa Ab (Aa Dk (Ad G (Cb (fun c4 => ?_) (fun c4 => ?_))))))))))))))))))))))
    · omega
    refine As (Ac fun _ G=>Aa (Ap 9 B4 Ah) (Aa (At Al) (Aa Ab (Ad G (Ar (AI (ι := {k : Nat // (k : Int) ≤ s.n ∧ runGood x.bars s k}) [0, 1, 2, 3] [1, 5, 8, 9, 19, 20, 21, 48] (fun ⟨k, _⟩ => [(49, iL (k : Int)), (3, .als 1 0 (F5 x.bars pre ++ DE x.bars s k).length)]) (fun ⟨k, _⟩ => [(0, ⟨false, 34, 19, [[sL (x.mem.name), .sh 6 ((x.mem.bs).map Bx.c), .sh 6 ((x.mem.hs).map Bx.c), iL (x.mem.cov), iL (x.mem.agg), iL (x.mem.pok), .sh 5 ((x.bars).map Bar.c), .sh 10 ((x.runs).map Rn.c), .sh 2 ((x.laps).map CB), .sh 8 ((x.dems).map Dem.c), iL (x.rule.r1), iL (x.rule.r2), iL (x.rule.r3), iL (x.rule.r4), iL (x.rule.r5), iL (x.rule.r6), iL (x.rule.r7), iL (x.rule.r8), iL (x.rule.r9)]], true⟩), (1, ⟨true, 183, 9, (F5 x.bars pre ++ DE x.bars s k).map Mn.c, true⟩), (2, ⟨false, 82, 10, [[sL (s.mark), iL (s.tx), iL (s.ty), iL (s.ax), iL (s.ay), iL (s.az), iL (s.sx), iL (s.sy), iL (s.sz), iL (s.n)]], true⟩), (3, ⟨false, 72, 5, [[sL ((Bg x.bars s.mark).mark), iL ((Bg x.bars s.mark).size), iL ((Bg x.bars s.mark).count), iL ((Bg x.bars s.mark).code), .sh 1 (((Bg x.bars s.mark).dims).map Cz)]], true⟩)]) (fun ⟨k, _⟩ => s.n.toNat - k) ⟨0, by omega, fun j hj => absurd hj (by omega)⟩ (.c (.c (.c (.c (.c (.c (.c (.c .n)))))))) (Aj (h := (Aj (he := (by simp [DE])) (h := (Aj (h := (Aj))))))) (Ag (h := (Ag (he := (by exact congrArg (fun q => AV.als 1 0 q) (by simp only [List.length_append, G0, List.length_cons, List.length_nil]; omega)))))) ?_))))))
    rintro ⟨k, hk, hgk⟩ R2 hR2; dsimp only [cA, nA, lC, lN]
    by_cases hkn : (k : Int) < s.n
    rotate_left
    · have hke : k = s.n.toNat := by omega
      refine Ac fun _ G=>Aa Ay (Ad G (By (fun c5 => ?_) (fun c5 => ?_)))
      · omega
      refine AO (hR2 _ _ (Ao fun _ G=>Aa A6 (Aa Ab (Ad G (hR0 _ _ (A8 [0, 1] [1, 19, 20] ⟨(pre ++ [s], suf), B2 hp, ?_⟩ BX (Aj (h := (Aj (he := (by rw [mainsG_snoc, hke]))))) (Ag (he := (by congr 2; simp)) (h := (Ag (he := (by exact congrArg (fun q => AV.als 1 0 q) (by rw [mainsG_snoc, hke])))))) (.c (.c (.c .n))))))))); intro z hz
      rcases List.mem_append.1 hz with hz | hz
      · exact hinv z hz
      · rw [List.mem_singleton] at hz; subst hz; rw [← hke]; exact hgk
    obtain ⟨b1, b2, b3, b4, b5, b6⟩ := run_bd hrp hkn; have hrl := G0 x.bars s k; refine Ac fun _ G=>Aa Ay (Ad G (By (fun c6 => ?_) (fun c6 => ?_)))
    · refine An (Ar (Ac fun _ G=>Aa Ab (Aa Ae (Ad G (Ac fun _ G=>Aa (Ap 3 FB Am) (Aa (Ap 3 AU Ah) (Aa (At Al) (Aa Ab (Aa (Ap 6 Ge Am) (Aa (Ap 6 AU Ah) (Aa (At Al) (Aa BM (Aa A6 (Aa (Ap 3 FB Am) (Aa (Ap 4 Bi Ah) (Aa (At Al) (Aa Ab (Aa (Ap 6 Ge Am) (Aa (Ap 7 Bi Ah) (Aa (At Al) (Aa BM (Aa A6 (Aa (Ap 3 FB Am) (Aa (Ap 5 Bk Ah) (Aa (At Al) (Aa Ab (Aa (Ap 6 Ge Am) (Aa (Ap 8 Bk Ah) (Aa (At Al) (Aa BM (Aa A6 (Aa (Bj _ AJ BH) (A4 (Bd AJ) (AC _ true [_, _, _, _] BG Am (h := Ad G (Ac fun _ G=>Aa (Ap 1 am_fi82_1 EP) (Aa (Av _ am_ag78 EP) (Aa (Av _ AF Am) (Aa Ab (A3 (hF := framePath_fun s.tx s.ty (atR s k) (Fd (Bg x.bars s.mark)) (by omega)) (h := Aa Ab (Aa BA (Aa BA (Aa Ae (Aa Ae (Ad G (An (Ac fun _ G=>Aa Ab (Aa Dk (Ad G (Cb (fun c7 => ?_) (fun c7 => ?_))))))))))))))))))))))))))))))))))))))))))))))))))))
      · refine Ac fun _ G=>Aa Ae (Ad G (AT (Wk.nsh Mn.c 2 9) (Af (hR2 _ _ (hR0 _ _ (Aq ?_)))))); rw [mains_bad (k := k) hp hkn ‹_›]
      refine As (Ac fun _ G=>Aa (Ap 1 DT Ah) (Aa (At Al) (Aa (Ap 0 F9 Da) (Aa (At CL) (Aa (Bj _ am_ze183 am_pl183) (A4 (Bd am_ze183) (AC _ true [_, _, _, _, _] am_in183 Fa (h := Ad G (An ?_)))))))))
      have hgd : frE s.tx s.ty (atR s k) (Fd (Bg x.bars s.mark)) = 0 := by omega
      obtain ⟨l, hl⟩ : ∃ l, l = frV s.tx s.ty (atR s k) (Fd (Bg x.bars s.mark)) := ⟨_, rfl⟩; have hll := frV_len s.tx s.ty (atR s k) (Bg x.bars s.mark); rw [← hl] at hll; rw [← hl]
      refine Ac fun _ G=>Aa Ae (Ad G (Ar (AI (ι := {i : Nat // 1 ≤ i ∧ i ≤ 8}) [0, 1, 2, 3, 4, 5] [1, 5, 8, 9, 12, 14, 19, 20, 21, 48, 49] (fun ⟨i, _⟩ => [(15, iL (i : Int)), (3, .als 1 0 (F5 x.bars pre ++ DE x.bars s k).length)]) (fun ⟨i, _⟩ => [(0, ⟨false, 34, 19, [[sL (x.mem.name), .sh 6 ((x.mem.bs).map Bx.c), .sh 6 ((x.mem.hs).map Bx.c), iL (x.mem.cov), iL (x.mem.agg), iL (x.mem.pok), .sh 5 ((x.bars).map Bar.c), .sh 10 ((x.runs).map Rn.c), .sh 2 ((x.laps).map CB), .sh 8 ((x.dems).map Dem.c), iL (x.rule.r1), iL (x.rule.r2), iL (x.rule.r3), iL (x.rule.r4), iL (x.rule.r5), iL (x.rule.r6), iL (x.rule.r7), iL (x.rule.r8), iL (x.rule.r9)]], true⟩), (1, ⟨true, 183, 9, (F5 x.bars pre ++ DE x.bars s k).map Mn.c, true⟩), (2, ⟨false, 82, 10, [[sL (s.mark), iL (s.tx), iL (s.ty), iL (s.ax), iL (s.ay), iL (s.az), iL (s.sx), iL (s.sy), iL (s.sz), iL (s.n)]], true⟩), (3, ⟨false, 72, 5, [[sL ((Bg x.bars s.mark).mark), iL ((Bg x.bars s.mark).size), iL ((Bg x.bars s.mark).count), iL ((Bg x.bars s.mark).code), .sh 1 (((Bg x.bars s.mark).dims).map Cz)]], true⟩), (4, ⟨false, 80, 3, [[iL ((atR s k).1), iL ((atR s k).2.1), iL ((atR s k).2.2)]], true⟩), (5, ⟨false, 183, 9, [[iL ((C6 (l.take i)).2.lx), iL ((C6 (l.take i)).2.ly), iL ((C6 (l.take i)).2.lz), iL ((C6 (l.take i)).2.hx), iL ((C6 (l.take i)).2.hy), iL ((C6 (l.take i)).2.hz), bL ((C6 (l.take i)).1), iL ((Bg x.bars s.mark).size), sL ((Bg x.bars s.mark).mark)]], true⟩)]) (fun ⟨i, _⟩ => 8 - i) ⟨1, by decide, by decide⟩ (.c (.c (.c (.c (.c (.c (.c (.c (.c (.c (.c .n))))))))))) (Aj (h := (Aj (h := (Aj (h := (Aj (h := (Aj (h := (Aj (he := (by exact leg_row (legF_1 _)))))))))))))) (Ag (h := (Ag))) ?_)))
      rintro ⟨i, hi1, hi2⟩ R4 hR4; dsimp only [cA, nA, lC, lN]
      by_cases hil : i < l.length
      rotate_left
      rotate_left
      rcases hbl : (C6 (l.take i)).1
      rotate_left
      · have hle := legF_end l i hbl; refine An (Ac fun _ G=>Aa Ab (Aa Ab (Aa (A7 Bb) (Aa Ay (AP Ab (fun c8 => ?_) (fun c8 => ?_))))))
        · refine Aa (Ap 6 am_fi183_1 am_cl4) (Aa (At am_ag4) (Aa BB (Aa A5 (Ad G (Ev.c (fun c9 => ?_) (fun c9 => ?_))))))
          · contradiction
          refine AO (hR4 _ _ (Ao fun _ G=>Aa Ab (Aa (Av _ am_ag183 Fa) (A4 (C3 [[_, _, _, _, _, _, _, _, _]] true am_el103 am_ze183 Fa) (DJ [_, _, _, _, _, _] am_el103 am_ze183 Fa am_by183 (hh := Cu) (hr := (CS [(⟨⟨_, _, _, _, _, _⟩, _, _, _⟩ : Mn)])) (h := Aa Ae (Ad G ?_))))))); show Ev _ _ _ _; refine Ao fun _ G=>Aa A6 (Aa Ab (Ad G (hR2 _ _ (A8 [0, 7, 2, 3] [1, 5, 8, 9, 19, 20, 21, 48] ⟨k + 1, by omega, runGood_succ hgk hgd⟩ ?_ (Aj (h := (Aj (he := (by exact mains_row_t _ hle hl hbl)) (h := (Aj (h := (Aj))))))) (Ag (h := (Ag (he := (by exact congrArg (fun q => AV.als 1 0 q) (by simp only [List.length_append, G0, List.length_cons, List.length_nil]; omega)))))) (.c (.c (.c (.c (.c (.c (.c (.c .n)))))))))))); skip; all_goals (dsimp only; omega)
        omega
      · have hle := legF_full (l := l) (i := i) (by omega); refine An (Ac fun _ G=>Aa Ab (Aa Ab (Aa (A7 Bb) (Aa Ay (AP Ab (fun c13 => ?_) (fun c13 => ?_))))))
        · omega
        refine Ai (A9 (Aa Au (Ad G (Ei (AO (hR4 _ _ (Ao fun _ G=>Aa Ab (Aa (Av _ am_ag183 Fa) (A4 (C3 [[_, _, _, _, _, _, _, _, _]] true am_el103 am_ze183 Fa) (DJ [_, _, _, _, _, _] am_el103 am_ze183 Fa am_by183 (hh := Cu) (hr := (CS [(⟨⟨_, _, _, _, _, _⟩, _, _, _⟩ : Mn)])) (h := Aa Ae (Ad G ?_)))))))))))); show Ev _ _ _ _; refine Ao fun _ G=>Aa A6 (Aa Ab (Ad G (hR2 _ _ (A8 [0, 7, 2, 3] [1, 5, 8, 9, 19, 20, 21, 48] ⟨k + 1, by omega, runGood_succ hgk hgd⟩ ?_ (Aj (h := (Aj (he := (by exact mains_row _ hle hl)) (h := (Aj (h := (Aj))))))) (Ag (h := (Ag (he := (by exact congrArg (fun q => AV.als 1 0 q) (by simp only [List.length_append, G0, List.length_cons, List.length_nil]; omega)))))) (.c (.c (.c (.c (.c (.c (.c (.c .n)))))))))))); skip; all_goals (dsimp only; omega)
      obtain ⟨⟨p1, p2, p3⟩, hp1⟩ : ∃ p, l[i - 1]? = some p := ⟨_, List.getElem?_eq_getElem (by omega)⟩; obtain ⟨⟨q1, q2, q3⟩, hq1⟩ : ∃ q, l[i]? = some q := ⟨_, List.getElem?_eq_getElem (by omega)⟩
      have hp2 : l[((i : Int) - 1).toNat]? = some (p1, p2, p3) := by rw [← hp1]; congr 1; omega
      refine An (Ac fun _ G=>Aa Ab (Aa Ab (Aa (A7 Bb) (Aa Ay (AP Ab (fun c18 => ?_) (fun c18 => ?_))))))
      · refine Aa (Ap 6 am_fi183_1 am_cl4) (Aa (At am_ag4) (Aa BB (Aa A5 (Ad G (Ev.c (fun c19 => ?_) (fun c19 => ?_))))))
        · refine As (An (Ar (Ev.sl (C8 [(0, 0), (0, 0), (2, 2), (3, 7), (4, 15), (0, 0), (0, 0), (7, 96), (8, 224), (0, 0), (0, 0), (11, 1567), (12, 4095)]) 11 fun _ G=>Ak Ab (Ak Ab (Ak BV (Ak (AL Bb Am (hl := (by exact AY hp2 (by omega)))) (Ak (BF _ AF Am) (Ak Ab (Ak Ab (Ak (AL Bb Am (hl := (by exact AY hq1 (by omega)))) (Ak (BF _ AF Am) (Gs [_] (Bd AJ) (h := Gs [_, _] (Bd AJ) (h := M.late [_, _, _] true [_, _, _, _, _, _, _, _] BG Am (h := AC _ true [_, _, _, _, _, _, _] BG Am (h := Ad G (Ac fun _ G=>Aa (Ap 0 AU Ah) (Aa (At Al) (Aa (Ap 0 AU Ah) (Aa (At Al) (Aa Dk (DV Ab (fun c20 => ?_) (fun c20 => ?_)))))))))))))))))))))))
          · refine Aa (Ap 1 Bi Ah) (Aa (At Al) (Aa (Ap 1 Bi Ah) (Aa (At Al) (Aa B6 (Aa A5 (AP Ab (fun c21 => ?_) (fun c21 => ?_)))))))
            · refine Aa (Ap 2 Bk Ah) (Aa (At Al) (Aa (Ap 2 Bk Ah) (Aa (At Al) (Aa B6 (Aa A5 (Ad G (Ax (fun c22 => ?_) (fun c22 => ?_))))))))
              · refine Ao fun _ G=>Aa (Ap 0 AU Ah) (Aa (At Al) (Aa (Ap 0 AU Ah) (Aa (At Al) (Aa Gt (Aa (Ap 1 Bi Ah) (Aa (At Al) (Aa (Ap 2 Bk Ah) (Aa (At Al) (Aa (Bj _ AJ BH) (Aa (Ap 0 AU Ah) (Aa (At Al) (Aa (Ap 0 AU Ah) (Aa (At Al) (Aa EI (Aa (Ap 1 Bi Ah) (Aa (At Al) (Aa (Ap 2 Bk Ah) (Aa (At Al) (Aa (Bj _ AJ BH) (Aa (Bj _ BS am_pl100) (Aa (Ap 0 GL AB) (AC _ true [_, _, _, _, _, _, _] CK AB (h := Aa (Ap 6 am_fi183_1 am_cl4) (AC _ true [_, _, _, _, _, _, _] am_in4 am_cl4 (h := Ad G ?_))))))))))))))))))))))))); show Ev _ _ _ _; refine Ao fun _ G=>Aa Ab (Aa A6 (Aa Ae (Ad G (hR4 _ _ (A8 [0, 1, 2, 3, 4, 5] [1, 5, 8, 9, 12, 14, 19, 20, 21, 48, 49] ⟨i + 1, by omega, by omega⟩ ?_ (Aj (h := (Aj (h := (Aj (h := (Aj (h := (Aj (h := (Aj (he := (by exact leg_row (leg_t hi1 hbl hp1 hq1 ⟨by assumption, by assumption, by assumption⟩)))))))))))))) (Ag (h := (Ag))) (.c (.c (.c (.c (.c (.c (.c (.c (.c (.c (.c .n)))))))))))))))); skip; all_goals (dsimp only; omega)
              refine As (Ao fun _ G=>Aa Ab (Aa A6 (Aa Ae (Ad G (hR4 _ _ (A8 [0, 1, 2, 3, 4, 5] [1, 5, 8, 9, 12, 14, 19, 20, 21, 48, 49] ⟨i + 1, by omega, by omega⟩ ?_ (Aj (h := (Aj (h := (Aj (h := (Aj (h := (Aj (h := (Aj (he := (by exact leg_row_n (leg_n hi1 hbl hp1 hq1 (fun hh => by have h1 := hh.1; have h2 := hh.2.1; have h3 := hh.2.2; contradiction)) hbl))))))))))))) (Ag (h := (Ag))) (.c (.c (.c (.c (.c (.c (.c (.c (.c (.c (.c .n))))))))))))))))); skip; all_goals (dsimp only; omega)
            refine Ai (Ai (A9 (Aa Au (Ad G (Ei (As (Ao fun _ G=>Aa Ab (Aa A6 (Aa Ae (Ad G (hR4 _ _ (A8 [0, 1, 2, 3, 4, 5] [1, 5, 8, 9, 12, 14, 19, 20, 21, 48, 49] ⟨i + 1, by omega, by omega⟩ ?_ (Aj (h := (Aj (h := (Aj (h := (Aj (h := (Aj (h := (Aj (he := (by exact leg_row_n (leg_n hi1 hbl hp1 hq1 (fun hh => by have h1 := hh.1; have h2 := hh.2.1; have h3 := hh.2.2; contradiction)) hbl))))))))))))) (Ag (h := (Ag))) (.c (.c (.c (.c (.c (.c (.c (.c (.c (.c (.c .n))))))))))))))))))))))); skip; all_goals (dsimp only; omega)
          refine Ai (Ai (A9 (Aa Au (Aa Ab (Ai (Ai (A9 (Aa Au (Ad G (Ei (As (Ao fun _ G=>Aa Ab (Aa A6 (Aa Ae (Ad G (hR4 _ _ (A8 [0, 1, 2, 3, 4, 5] [1, 5, 8, 9, 12, 14, 19, 20, 21, 48, 49] ⟨i + 1, by omega, by omega⟩ ?_ (Aj (h := (Aj (h := (Aj (h := (Aj (h := (Aj (h := (Aj (he := (by exact leg_row_n (leg_n hi1 hbl hp1 hq1 (fun hh => by have h1 := hh.1; have h2 := hh.2.1; have h3 := hh.2.2; contradiction)) hbl))))))))))))) (Ag (h := (Ag))) (.c (.c (.c (.c (.c (.c (.c (.c (.c (.c (.c .n)))))))))))))))))))))))))))); skip; all_goals (dsimp only; omega)
        contradiction
      omega
    omega
  omega
end Go.Proofs.YtlpgjlnkfgacbaaGreatDoor
