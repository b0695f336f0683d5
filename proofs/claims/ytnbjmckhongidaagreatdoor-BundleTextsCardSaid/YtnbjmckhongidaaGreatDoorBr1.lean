/-
  Bundles: numerals, lines and texts, read.
  Conditions: none.
-/
import Derived.Test.YtnbjmckhongidaaGreatDoorBd1
import Derived.Test.YtnbjmckhongidaaGreatDoorSpl
import Derived.Test.YtnbjmckhongidaaGreatDoorBld
import Derived.Test.YtnbjmckhongidaaGreatDoorNames
import Derived.Test.YtnbjmckhongidaaGreatDoorAmAtoi
namespace Go.Proofs.YtnbjmckhongidaaGreatDoor
open Go Go.AM
set_option linter.unusedSimpArgs false
set_option linter.unusedVariables false
set_option maxRecDepth 100000
set_option maxHeartbeats 1000000
theorem u8_of {b : UInt8} {n : Nat} (h : b.toNat = n) : b = UInt8.ofNat n := by rw [← h]; simp
/-- All bytes are digits. -/
def allDig (w : List UInt8) : Prop := ∀ b ∈ w, 48 ≤ b.toNat ∧ b.toNat ≤ 57
instance (w) : Decidable (allDig w) := inferInstanceAs (Decidable (∀ b ∈ w, 48 ≤ b.toNat ∧ b.toNat ≤ 57))
def digW (w : List UInt8) : Prop := 0 < w.length ∧ allDig w
instance (w) : Decidable (digW w) := by unfold digW; infer_instance

/-- A numeral: at most fifteen digits, no zero ahead. -/
def numOk15 (w : List UInt8) : Prop := digW w ∧ w.length ≤ 15 ∧ ¬ (1 < w.length ∧ w[0]? = some 48)
instance (w) : Decidable (numOk15 w) := by unfold numOk15; infer_instance
def numV (w : List UInt8) : Int := (((Go.Lib.decFrom 0 w).getD 0 : Nat) : Int)
theorem dig_val {b : UInt8} (h : 48 ≤ b.toNat ∧ b.toNat ≤ 57) : Go.Lib.digitVal b = some (b.toNat - 48) := if_pos h
theorem dec_some : ∀ (w : List UInt8) (acc : Nat), allDig w → ∃ m, Go.Lib.decFrom acc w = some m ∧ m < (acc + 1) * 10 ^ w.length
  | [], acc, _ => ⟨acc, rfl, by simp⟩
  | b :: w, acc, h => by
    have hb := h b (by simp)
    obtain ⟨m, h1, h2⟩ := dec_some w (acc * 10 + (b.toNat - 48)) fun x hx => h x (by simp [hx])
    refine ⟨m, ?_, Nat.lt_of_lt_of_le h2 ?_⟩
    · rw [Go.Lib.decFrom, dig_val hb]; exact h1
    · rw [List.length_cons, Nat.pow_succ, Nat.mul_comm (10 ^ w.length) 10, ← Nat.mul_assoc]
      exact Nat.mul_le_mul_right _ (by omega)
theorem dec_snoc : ∀ (l : List UInt8) (acc : Nat) (b : UInt8), Go.Lib.decFrom acc (l ++ [b]) = (Go.Lib.decFrom acc l).bind fun m => (Go.Lib.digitVal b).map fun d => m * 10 + d
  | [], acc, b => by
    simp only [List.nil_append, Go.Lib.decFrom, Option.bind_some]
    cases Go.Lib.digitVal b <;> simp [Go.Lib.decFrom]
  | c :: l, acc, b => by
    rw [List.cons_append, Go.Lib.decFrom, Go.Lib.decFrom]
    cases Go.Lib.digitVal c with
    | none => rfl
    | some d => exact dec_snoc l _ b
theorem ofNat_val {k : Nat} (h : k < 10) : (UInt8.ofNat (48 + k)).toNat = 48 + k := by rw [UInt8.toNat_ofNat']; omega
/-- A numeral's value is the number. -/
theorem dec_digits (u : Nat) : Go.Lib.decFrom 0 (Go.Lib.decDigits u) = some u ∧ allDig (Go.Lib.decDigits u) ∧ 0 < (Go.Lib.decDigits u).length ∧ ((Go.Lib.decDigits u)[0]? = some 48 → u = 0) := by
  induction u using Nat.strongRecOn with
  | _ u ih =>
    rw [Go.Lib.decDigits]
    split
    · rename_i h
      have hv := ofNat_val h
      refine ⟨?_, fun b hb => ?_, by simp, fun h0 => ?_⟩
      · rw [Go.Lib.decFrom, dig_val (by rw [hv]; omega), hv]
        simp [Go.Lib.decFrom]
      · rw [List.mem_singleton.1 hb, hv]; omega
      · simp only [List.getElem?_cons_zero, Option.some.injEq] at h0
        have := congrArg UInt8.toNat h0
        rw [hv] at this
        have e : (48 : UInt8).toNat = 48 := rfl
        omega
    · rename_i h
      obtain ⟨h1, h2, h3, h4⟩ := ih (u / 10) (by omega)
      have hv := ofNat_val (Nat.mod_lt u (by decide : 0 < 10))
      refine ⟨?_, fun b hb => ?_, by simp, fun h0 => ?_⟩
      · rw [dec_snoc, h1, Option.bind_some, dig_val (by rw [hv]; omega), hv, Option.map_some]
        congr 1
        omega
      · rcases List.mem_append.1 hb with hb | hb
        · exact h2 b hb
        · rw [List.mem_singleton.1 hb, hv]; omega
      · rw [List.getElem?_append_left h3] at h0
        have := h4 h0
        omega
theorem dd_lo {u : Nat} (h : u < 10) : Go.Lib.decDigits u = [UInt8.ofNat (48 + u)] := by rw [Go.Lib.decDigits, dif_pos h]
theorem dd_hi {u : Nat} (h : ¬ u < 10) : Go.Lib.decDigits u = Go.Lib.decDigits (u / 10) ++ [UInt8.ofNat (48 + u % 10)] := by
  conv => lhs; rw [Go.Lib.decDigits, dif_neg h]
theorem itoa_nn {n : Int} (h : 0 ≤ n) : Go.Lib.itoa n = Go.Lib.decDigits n.toNat := by
  unfold Go.Lib.itoa
  rw [if_neg (by omega)]
theorem digs_back : ∀ l : List UInt8, allDig l → 0 < l.length → l[0]? ≠ some 48 → ∃ m, Go.Lib.decFrom 0 l = some m ∧ 1 ≤ m ∧ Go.Lib.decDigits m = l := by
  refine snoc_ind (fun _ h => by simp at h) ?_
  intro l b ih h _ h0
  have hb := h b (by simp)
  have hd := dig_val hb
  have hbv : b = UInt8.ofNat (48 + (b.toNat - 48)) := by rw [show 48 + (b.toNat - 48) = b.toNat by omega]; simp
  rcases l with _ | ⟨c, l⟩
  · rw [List.nil_append] at h0 ⊢
    have hne : b.toNat ≠ 48 := fun e => h0 (by rw [u8_of e]; rfl)
    refine ⟨b.toNat - 48, by rw [Go.Lib.decFrom, hd]; simp [Go.Lib.decFrom], by omega, ?_⟩
    rw [dd_lo (by omega), ← hbv]
  · obtain ⟨m, h1, h2, h3⟩ := ih (fun x hx => h x (by simp only [List.mem_append]; exact .inl hx)) (by simp) (by simpa using h0)
    refine ⟨m * 10 + (b.toNat - 48), by rw [dec_snoc, h1, hd]; rfl, by omega, ?_⟩
    rw [dd_hi (by omega), show (m * 10 + (b.toNat - 48)) / 10 = m by omega, show (m * 10 + (b.toNat - 48)) % 10 = b.toNat - 48 by omega, h3, ← hbv]
theorem numV_bd15 {w : List UInt8} (h : allDig w) (hl : w.length ≤ 15) : 0 ≤ numV w ∧ numV w ≤ 999999999999999 := by
  obtain ⟨m, h1, h2⟩ := dec_some w 0 h
  rw [numV, h1]
  have h3 : 10 ^ w.length ≤ 10 ^ 15 := Nat.pow_le_pow_right (by decide) hl
  have h4 : (10 : Nat) ^ 15 = 1000000000000000 := by decide
  simp only [Option.getD_some]
  omega
theorem num_itoa15 {n : Int} (h0 : 0 ≤ n) (h1 : (Go.Lib.itoa n).length ≤ 15) : numOk15 (Go.Lib.itoa n) ∧ numV (Go.Lib.itoa n) = n := by
  obtain ⟨g1, g2, g3, g4⟩ := dec_digits n.toNat
  rw [itoa_nn h0] at h1 ⊢
  refine ⟨⟨⟨g3, g2⟩, h1, fun h => ?_⟩, by rw [numV, g1, Option.getD_some]; omega⟩
  have := g4 h.2
  rw [this, dd_lo (by decide)] at h
  simp at h
theorem itoa_num15 {w : List UInt8} (h : numOk15 w) : Go.Lib.itoa (numV w) = w := by
  rw [itoa_nn (numV_bd15 h.1.2 h.2.1).1]
  by_cases h0 : w[0]? = some 48
  · have h1 : w.length = 1 := by
      have := h.1.1
      rcases Nat.lt_or_ge 1 w.length with h2 | h2
      · exact absurd ⟨h2, h0⟩ h.2.2
      · omega
    obtain ⟨b, rfl⟩ := List.length_eq_one_iff.1 h1
    simp only [List.getElem?_cons_zero, Option.some.injEq] at h0
    subst h0
    rw [show numV [48] = 0 from rfl]
    exact dd_lo (by decide)
  · obtain ⟨m, h1, _, h3⟩ := digs_back w h.1.2 h.1.1 h0
    rw [numV, h1, Option.getD_some, Int.toNat_natCast, h3]
theorem pu10_dig : ∀ (l : List UInt8) (acc : Nat), allDig l → (acc + 1) * 10 ^ l.length ≤ 10000000000000000 → ∃ m, Go.Lib.decFrom acc l = some m ∧ Go.Lib.parseUint10 acc l = .ok m
  | [], acc, _, _ => ⟨acc, rfl, rfl⟩
  | b :: l, acc, h, hb => by
    have hd := h b (by simp)
    have hp : 0 < 10 ^ l.length := Nat.pow_pos (by decide)
    have hb2 : ((acc + 1) * 10) * 10 ^ l.length ≤ 10000000000000000 := by rw [List.length_cons, Nat.pow_succ, Nat.mul_comm (10 ^ l.length) 10, ← Nat.mul_assoc] at hb; exact hb
    have hb3 : (acc + 1) * 10 ≤ 10000000000000000 := Nat.le_trans (Nat.le_mul_of_pos_right _ hp) hb2
    have hle : (acc * 10 + (b.toNat - 48) + 1) * 10 ^ l.length ≤ 10000000000000000 := Nat.le_trans (Nat.mul_le_mul_right _ (by omega)) hb2
    obtain ⟨m, h1, h2⟩ := pu10_dig l (acc * 10 + (b.toNat - 48)) (fun x hx => h x (by simp [hx])) hle
    refine ⟨m, by rw [Go.Lib.decFrom, dig_val hd]; exact h1, ?_⟩
    rw [Go.Lib.parseUint10, if_pos hd, if_neg (by omega), if_neg (by omega), h2]
theorem atoi15 {w : List UInt8} (h : numOk15 w) : Go.Lib.atoiAll w = .ok (numV w) := by
  have hb := numV_bd15 h.1.2 h.2.1
  have h3 : 10 ^ w.length ≤ 10 ^ 15 := Nat.pow_le_pow_right (by decide) h.2.1
  have h4 : (10 : Nat) ^ 15 = 1000000000000000 := by decide
  obtain ⟨m, h1, h2⟩ := pu10_dig w 0 h.1.2 (by omega)
  have hm : numV w = (m : Int) := by rw [numV, h1, Option.getD_some]
  rcases w with _ | ⟨c, r⟩
  · exact absurd h.1.1 (by simp)
  · have hc := h.1.2 c (by simp)
    rw [Go.Lib.atoiAll_plain c r (by omega) (by omega), Go.Lib.parseMag, if_neg (by simp), h2, hm]
    unfold Go.Lib.signless
    simp only
    rw [if_neg (by omega)]
theorem num_of {w : List UInt8} {v : Int} (h : Go.Lib.atoiAll w = .ok v) (hl : w.length ≤ 15) (h0 : 0 ≤ v) (he : Go.Lib.itoa v = w) : numOk15 w := by
  rw [← he] at hl ⊢
  exact (num_itoa15 h0 hl).1
theorem num_iff {w : List UInt8} {v : Int} (h : Go.Lib.atoiAll w = .ok v) : numOk15 w ↔ (w.length ≤ 15 ∧ 0 ≤ v ∧ Go.Lib.itoa v = w) := by
  constructor
  · intro hn
    have h1 := atoi15 hn
    rw [h] at h1
    injection h1 with h1
    rw [h1]
    exact ⟨hn.2.1, (numV_bd15 hn.1.2 hn.2.1).1, itoa_num15 hn⟩
  · rintro ⟨h1, h2, h3⟩
    exact num_of h h1 h2 h3
theorem num_dec {w : List UInt8} {v : Int} (h : Go.Lib.atoiAll w = .ok v) (hl : (w.length : Int) ≤ 15) (h0 : 0 ≤ v) : decide (numOk15 w) = decide (Go.Lib.itoa v = w) := by
  have h1 := num_iff h
  by_cases h2 : Go.Lib.itoa v = w
  · rw [decide_eq_true h2, decide_eq_true (h1.2 ⟨by omega, h0, h2⟩)]
  · rw [decide_eq_false h2, decide_eq_false (fun h => h2 (h1.1 h).2.2)]
theorem num_not {w : List UInt8} (h : ∀ v, Go.Lib.atoiAll w ≠ .ok v) : ¬ numOk15 w := fun hn => h _ (atoi15 hn)
theorem atoi_two (w : List UInt8) : (∃ v, Go.Lib.atoiAll w = .ok v) ∨ ∀ v, Go.Lib.atoiAll w ≠ .ok v := by
  rcases h : Go.Lib.atoiAll w with v | _ | _
  · exact .inl ⟨v, rfl⟩
  · exact .inr fun v hv => by cases hv
  · exact .inr fun v hv => by cases hv
theorem atoiV_ok {w : List UInt8} {v : Int} (h : Go.Lib.atoiAll w = .ok v) : atoiV w = v := by rw [atoiV, h]
theorem atoiV_num {w : List UInt8} (h : numOk15 w) : atoiV w = numV w := atoiV_ok (atoi15 h)
theorem atoiV_bd (w : List UInt8) : -9223372036854775808 ≤ atoiV w ∧ atoiV w ≤ 9223372036854775807 := by
  unfold atoiV
  split
  · rename_i v h; exact Go.Lib.atoiAll_bounds h
  · omega
  · exact Go.Lib.atoiSat_bounds w
theorem sepcat_cons (c : UInt8) (y : List UInt8) (l : List (List UInt8)) : sepcat [c] (y :: l) = c :: joinS [c] (y :: l) := by simp [sepcat, joinS]
theorem join_split (sv : Nat) (c : UInt8) (hsv : sv ≠ 1) : ∀ s : List UInt8, joinS [c] (splitG sv c s) = s
  | [] => rfl
  | b :: l => by
    have ih := join_split sv c hsv l
    rw [splitG]
    split
    · rename_i hb
      try rw [if_neg hsv]
      rcases hs : splitG sv c l with _ | ⟨w, ws⟩
      · exact absurd hs (splitG_ne sv c l)
      · rw [hs] at ih
        rw [joinS, List.nil_append, sepcat_cons, ih, hb]
    · rcases hs : splitG sv c l with _ | ⟨w, ws⟩
      · exact absurd hs (splitG_ne sv c l)
      · rw [hs] at ih
        simp only [joinS] at ih ⊢
        rw [List.cons_append, ih]
/-- The line of a bundle. -/
def wordsU (b : Bundle) : List (List UInt8) := [b.tag, b.mark, Go.Lib.itoa b.count, Go.Lib.itoa b.mass]
def lineX (b : Bundle) : List UInt8 := joinS [32] (wordsU b) ++ [10]
def textU (l : List Bundle) : List UInt8 := (l.map lineX).flatten
theorem textU_snoc (l : List Bundle) (b : Bundle) : textU (l ++ [b]) = textU l ++ lineX b := by simp [textU]
def lineOk (t m a c : List UInt8) : Prop := IsName t ∧ IsName m ∧ numOk15 a ∧ numOk15 c
instance (t m a c) : Decidable (lineOk t m a c) := by unfold lineOk; infer_instance
def zeroU : Bundle := ⟨[], [], 0, 0⟩
/-- The line of a bundle, read. -/
def readB (s : List UInt8) : Option Bundle := match splitG 0 32 s with
  | [t, m, a, c] => if lineOk t m a c then some ⟨t, m, numV a, numV c⟩ else none
  | _ => none
/-- What the function hands back beside it. -/
def readF (s : List UInt8) : Bundle := match splitG 0 32 s with
  | [t, m, a, c] => if IsName t ∧ IsName m then ⟨t, m, atoiV a, atoiV c⟩ else zeroU
  | _ => zeroU
theorem readB_of {s t m a c : List UInt8} (hs : splitG 0 32 s = [t, m, a, c]) (h : lineOk t m a c) : readB s = some ⟨t, m, numV a, numV c⟩ := by
  unfold readB; rw [hs]; exact if_pos h
theorem readF_some {s : List UInt8} {b : Bundle} (h : readB s = some b) : readF s = b := by
  unfold readB at h
  split at h
  · rename_i t m a c hs
    split at h
    · rename_i ho
      obtain ⟨o1, o2, o3, o4⟩ := ho
      simp only [Option.some.injEq] at h
      subst h
      unfold readF
      rw [hs]
      simp only
      rw [if_pos ⟨o1, o2⟩, atoiV_num o3, atoiV_num o4]
    · cases h
  · cases h
theorem read_short {s : List UInt8} (h : ¬ (splitG 0 32 s).length = 4) : readB s = none ∧ readF s = zeroU := by
  unfold readB readF
  split
  · rename_i t m a c hs
    rw [hs] at h
    exact absurd rfl h
  · exact ⟨rfl, rfl⟩
theorem four {s : List UInt8} (h : (splitG 0 32 s).length = 4) : ∃ t m a c, splitG 0 32 s = [t, m, a, c] := by
  rcases hs : splitG 0 32 s with _ | ⟨t, _ | ⟨m, _ | ⟨a, _ | ⟨c, _ | ⟨d, r⟩⟩⟩⟩⟩
  · rw [hs] at h; cases h
  · rw [hs] at h; cases h
  · rw [hs] at h; cases h
  · rw [hs] at h; cases h
  · exact ⟨t, m, a, c, rfl⟩
  · rw [hs] at h
    simp only [List.length_cons] at h
    omega
theorem read_four {s t m a c : List UInt8} (hs : splitG 0 32 s = [t, m, a, c]) : (readB s).isSome = (decide (IsName t) && (decide (IsName m) && (decide (numOk15 a) && decide (numOk15 c)))) ∧ readF s = if IsName t ∧ IsName m then ⟨t, m, atoiV a, atoiV c⟩ else zeroU := by
  unfold readB readF
  rw [hs]
  refine ⟨?_, rfl⟩
  simp only
  by_cases h : lineOk t m a c
  · rw [if_pos h, decide_eq_true h.1, decide_eq_true h.2.1, decide_eq_true h.2.2.1, decide_eq_true h.2.2.2]; rfl
  · rw [if_neg h]
    by_cases h1 : IsName t
    · by_cases h2 : IsName m
      · by_cases h3 : numOk15 a
        · by_cases h4 : numOk15 c
          · exact absurd ⟨h1, h2, h3, h4⟩ h
          · simp [h4]
        · simp [h3]
      · simp [h2]
    · simp [h1]
theorem itoa_len15 {n : Int} (h0 : 0 ≤ n) (h1 : n ≤ 1099511627776) : (Go.Lib.itoa n).length ≤ 15 := by
  rw [itoa_nn h0]
  have := dec_len 13 n.toNat (by
    have h4 : (10 : Nat) ^ (13 + 1) = 100000000000000 := by decide
    omega)
  omega
theorem line_read {s : List UInt8} {b : Bundle} (h : readB s = some b) : joinS [32] (wordsU b) = s := by
  unfold readB at h
  split at h
  · rename_i t m a c hs
    split at h
    · rename_i ho
      obtain ⟨o1, o2, o3, o4⟩ := ho
      simp only [Option.some.injEq] at h
      subst h
      have hlw : wordsU ⟨t, m, numV a, numV c⟩ = [t, m, a, c] := by
        show [t, m, Go.Lib.itoa (numV a), Go.Lib.itoa (numV c)] = _
        rw [itoa_num15 o3, itoa_num15 o4]
      rw [hlw, ← hs]
      exact join_split 0 32 (by decide) s
    · cases h
  · cases h
/-- The pieces between line ends, read; 0, or the number of the line that is none. -/
def readL : List (List UInt8) → List Bundle → List Bundle × Int
  | [], out => (out, 0)
  | l :: r, out => if l = [] ∧ r = [] then (out, 0) else if r = [] then ([], out.length + 1) else match readB l with
    | some b => readL r (out ++ [b])
    | none => ([], out.length + 1)
theorem text_read : ∀ (ps : List (List UInt8)) (out x : List Bundle), ps ≠ [] → readL ps out = (x, 0) → ∃ l, x = out ++ l ∧ joinS [10] ps = textU l
  | [], out, x, h, _ => absurd rfl h
  | l :: r, out, x, _, h => by
    rw [readL] at h
    split at h
    · rename_i hl
      obtain ⟨rfl, rfl⟩ := hl
      simp only [Prod.mk.injEq, and_true] at h
      exact ⟨[], by simp [h], by simp [joinS, sepcat, textU]⟩
    · split at h
      · simp only [Prod.mk.injEq] at h
        omega
      · rename_i hr
        split at h
        · rename_i b hb
          obtain ⟨l', h1, h2⟩ := text_read r (out ++ [b]) x hr h
          refine ⟨b :: l', by rw [h1]; simp, ?_⟩
          have e : textU (b :: l') = joinS [32] (wordsU b) ++ 10 :: textU l' := by simp [textU, lineX]
          rw [e, line_read hb, ← h2]
          rcases r with _ | ⟨y, r⟩
          · exact absurd rfl hr
          · rw [joinS, sepcat_cons]
        · simp only [Prod.mk.injEq] at h
          omega

def readR (s : List UInt8) : List Bundle × Int := readL (splitG 0 10 s) []
def parseV (s : List UInt8) : List Bundle := if s.length ≤ 262144 ∧ (readR s).2 = 0 ∧ okBuns (readR s).1 then (readR s).1 else []
def parseL (s : List UInt8) : Int := if s.length ≤ 262144 then (readR s).2 else 0
def parseC (s : List UInt8) : Int := if parseL s = 0 then 0 else 1
def parseE (s : List UInt8) : Int := if s.length ≤ 262144 then (if (readR s).2 = 0 then (if okBuns (readR s).1 then 0 else 1) else 7) else 4
theorem read_cut (r : List UInt8) (out : List Bundle) (hr : r ≠ []) : (cutB 10 r).2.1.length < r.length ∧ (cutB 10 r).1.length ≤ r.length ∧
    ((cutB 10 r).2.2 = false → readL (splitG 0 10 r) out = ([], (out.length : Int) + 1)) ∧
    ((cutB 10 r).2.2 = true → readB (cutB 10 r).1 = none → readL (splitG 0 10 r) out = ([], (out.length : Int) + 1)) ∧
    (∀ b, (cutB 10 r).2.2 = true → readB (cutB 10 r).1 = some b → readL (splitG 0 10 r) out = readL (splitG 0 10 (cutB 10 r).2.1) (out ++ [b])) := by
  have hpos : 0 < r.length := List.length_pos_iff.2 hr
  rcases index_facts 10 r with ⟨_, h1⟩ | ⟨m, h1, h2, h3, h4, h5⟩
  · rw [cutB_no h1, splitG_no 0 h1]
    refine ⟨by simpa using hpos, Nat.le_refl _, (fun _ => ?_), (fun h => by cases h), (fun b h => by cases h)⟩
    rw [readL, if_neg (fun h => hr h.1), if_pos rfl]
  · have e : cutB 10 r = (r.take m, r.drop (m + 1), true) := by conv => lhs; rw [h3, cutB_app h4]
    have es : splitG 0 10 r = r.take m :: splitG 0 10 (r.drop (m + 1)) := by
      conv => lhs; rw [h3, splitG_app 0 _ h4]
      simp
    have hne := splitG_ne 0 10 (r.drop (m + 1))
    rw [e, es]
    refine ⟨by simp only [List.length_drop]; omega, by simp only [List.length_take]; omega, (fun h => by cases h), (fun _ hl => ?_), (fun b _ hl => ?_)⟩
    · rw [readL, if_neg (fun h => hne h.2), if_neg hne]
      simp only at hl
      rw [hl]
    · rw [readL, if_neg (fun h => hne h.2), if_neg hne]
      simp only at hl
      rw [hl]
theorem parse_none {s : List UInt8} (h : ¬ parseE s = 0) : parseV s = [] := by
  unfold parseE at h
  unfold parseV
  refine if_neg ?_
  rintro ⟨h1, h2, h3⟩
  rw [if_pos h1, if_pos h2, if_pos h3] at h
  exact h rfl
theorem parse_back {s : List UInt8} (h : parseE s = 0) : okBuns (parseV s) ∧ textU (parseV s) = s := by
  unfold parseE at h
  split at h
  · rename_i h1
    split at h
    · rename_i h2
      split at h
      · rename_i h3
        have e : parseV s = (readR s).1 := if_pos ⟨h1, h2, h3⟩
        rw [e]
        refine ⟨h3, ?_⟩
        obtain ⟨l, g1, g2⟩ := text_read (splitG 0 10 s) [] (readR s).1 (splitG_ne 0 10 s) (by rw [← h2]; rfl)
        rw [g1, List.nil_append, ← g2]
        exact join_split 0 10 (by decide) s
      · omega
    · omega
  · omega
theorem readB_w {s : List UInt8} {b : Bundle} (h : readB s = some b) : b.w := by
  unfold readB at h
  split at h
  · rename_i t m a c hs
    split at h
    · rename_i ho
      have h1 := (isName_len ho.1).2
      have h2 := (isName_len ho.2.1).2
      simp only [Option.some.injEq] at h
      subst h
      exact ⟨by show t.length ≤ _; omega, by show m.length ≤ _; omega⟩
    · cases h
  · cases h
theorem parse_long {s : List UInt8} (h : ¬ s.length ≤ 262144) : parseV s = [] ∧ parseL s = 0 ∧ parseC s = 0 ∧ parseE s = 4 := by
  have h1 : parseL s = 0 := if_neg h
  exact ⟨if_neg fun g => h g.1, h1, if_pos h1, if_neg h⟩
theorem parse_bad {s : List UInt8} {x : List Bundle} {n : Int} (h : s.length ≤ 262144) (hr : readR s = (x, n)) (hn : ¬ n = 0) : parseV s = [] ∧ parseL s = n ∧ parseC s = 1 ∧ parseE s = 7 := by
  have h2 : (readR s).2 = n := by rw [hr]
  have h1 : parseL s = n := (if_pos h).trans h2
  exact ⟨if_neg fun g => hn (h2.symm.trans g.2.1), h1, if_neg (by rw [h1]; exact hn), (if_pos h).trans (if_neg (by rw [h2]; exact hn))⟩
theorem parse_arg {s : List UInt8} {x : List Bundle} (h : s.length ≤ 262144) (hr : readR s = (x, 0)) (hx : ¬ okBuns x) : parseV s = [] ∧ parseL s = 0 ∧ parseC s = 0 ∧ parseE s = 1 := by
  have h2 : (readR s).2 = 0 := by rw [hr]
  have h3 : ¬ okBuns (readR s).1 := by rw [hr]; exact hx
  have h1 : parseL s = 0 := (if_pos h).trans h2
  exact ⟨if_neg fun g => h3 g.2.2, h1, if_pos h1, (if_pos h).trans ((if_pos h2).trans (if_neg h3))⟩
theorem parse_ok {s : List UInt8} {x : List Bundle} (h : s.length ≤ 262144) (hr : readR s = (x, 0)) (hx : okBuns x) : parseV s = x ∧ parseL s = 0 ∧ parseC s = 0 ∧ parseE s = 0 := by
  have h2 : (readR s).2 = 0 := by rw [hr]
  have h3 : okBuns (readR s).1 := by rw [hr]; exact hx
  have h1 : parseL s = 0 := (if_pos h).trans h2
  exact ⟨(if_pos ⟨h, h2, h3⟩).trans (by rw [hr]), h1, if_pos h1, (if_pos h).trans ((if_pos h2).trans (if_pos h3))⟩
end Go.Proofs.YtnbjmckhongidaaGreatDoor
