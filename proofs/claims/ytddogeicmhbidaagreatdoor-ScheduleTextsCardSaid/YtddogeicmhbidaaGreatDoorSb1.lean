/-
  Schedules: texts, read.
  Conditions: none.
-/
import Derived.Test.YtddogeicmhbidaaGreatDoorNum
import Derived.Test.YtddogeicmhbidaaGreatDoorSpl
import Derived.Test.YtddogeicmhbidaaGreatDoorAmConv
namespace Go.Proofs.YtddogeicmhbidaaGreatDoor
open Go Go.AM
set_option linter.unusedSimpArgs false
set_option linter.unusedVariables false
set_option maxRecDepth 100000
set_option maxHeartbeats 1000000

theorem dw_nil {T : Type} {p : T → Bool} : ∀ {l : List T}, (∀ x ∈ l, p x = true) → l.dropWhile p = []
  | [], _ => rfl
  | x :: l, h => by
    rw [List.dropWhile_cons, if_pos (h x (by simp))]
    exact dw_nil fun y hy => h y (by simp [hy])
theorem dw_all {T : Type} {p : T → Bool} : ∀ {l : List T}, (∀ x ∈ l.dropWhile p, p x = true) → l.dropWhile p = []
  | [], _ => rfl
  | x :: l, h => by
    rw [List.dropWhile_cons] at h ⊢
    split at h
    · rename_i hx
      rw [if_pos hx]
      exact dw_all h
    · rename_i hx
      exact absurd (h x (by simp)) hx
theorem dw_of {T : Type} {p : T → Bool} : ∀ {l : List T}, l.dropWhile p = [] → ∀ x ∈ l, p x = true
  | x :: l, h, y, hy => by
    rw [List.dropWhile_cons] at h
    split at h
    · rename_i hx
      rcases List.mem_cons.1 hy with rfl | hy
      · exact hx
      · exact dw_of h y hy
    · cases h
theorem trim_nil (w cs : List UInt8) : Go.Lib.trimS w cs = [] ↔ ∀ b ∈ w, cs.contains b = true := by
  unfold Go.Lib.trimS Go.Lib.trimLeftS Go.Lib.trimRightS
  constructor
  · intro h
    have h1 := dw_of h
    have h2 : w.reverse.dropWhile (cs.contains ·) = [] := dw_all fun x hx => h1 x (List.mem_reverse.2 hx)
    intro b hb
    exact dw_of h2 b (List.mem_reverse.2 hb)
  · intro h
    rw [dw_nil (l := w.reverse) fun x hx => h x (List.mem_reverse.1 hx)]
    rfl
def digC : List UInt8 := [48, 49, 50, 51, 52, 53, 54, 55, 56, 57]
theorem u8_of {b : UInt8} {n : Nat} (h : b.toNat = n) : b = UInt8.ofNat n := by rw [← h]; simp
theorem digC_iff (b : UInt8) : digC.contains b = true ↔ 48 ≤ b.toNat ∧ b.toNat ≤ 57 := by
  constructor
  · intro h
    simp only [digC, List.contains_eq_mem, List.mem_cons, List.not_mem_nil, or_false, decide_eq_true_eq] at h
    rcases h with rfl | rfl | rfl | rfl | rfl | rfl | rfl | rfl | rfl | rfl <;> decide
  · rintro ⟨h1, h2⟩
    have : b.toNat = 48 ∨ b.toNat = 49 ∨ b.toNat = 50 ∨ b.toNat = 51 ∨ b.toNat = 52 ∨ b.toNat = 53 ∨ b.toNat = 54 ∨ b.toNat = 55 ∨ b.toNat = 56 ∨ b.toNat = 57 := by omega
    rcases this with h | h | h | h | h | h | h | h | h | h <;> rw [u8_of h] <;> decide
/-- All bytes are digits. -/
def allDig (w : List UInt8) : Prop := ∀ b ∈ w, 48 ≤ b.toNat ∧ b.toNat ≤ 57
instance (w) : Decidable (allDig w) := inferInstanceAs (Decidable (∀ b ∈ w, 48 ≤ b.toNat ∧ b.toNat ≤ 57))
def digW (w : List UInt8) : Prop := 0 < w.length ∧ allDig w
instance (w) : Decidable (digW w) := by unfold digW; infer_instance
theorem trim_dig (w : List UInt8) : Go.Lib.trimS w digC = [] ↔ allDig w := (trim_nil w digC).trans ⟨fun h b hb => (digC_iff b).1 (h b hb), fun h b hb => (digC_iff b).2 (h b hb)⟩
/-- A numeral: at most ten digits, no zero ahead. -/
def numOk (w : List UInt8) : Prop := digW w ∧ w.length ≤ 10 ∧ ¬ (1 < w.length ∧ w[0]? = some 48)
instance (w) : Decidable (numOk w) := by unfold numOk; infer_instance
def numV (w : List UInt8) : Int := (((Go.Lib.decFrom 0 w).getD 0 : Nat) : Int)
theorem dig_val {b : UInt8} (h : 48 ≤ b.toNat ∧ b.toNat ≤ 57) : Go.Lib.digitVal b = some (b.toNat - 48) := if_pos h
theorem dec_some : ∀ (w : List UInt8) (acc : Nat), allDig w → ∃ m, Go.Lib.decFrom acc w = some m ∧ m < (acc + 1) * 10 ^ w.length
  | [], acc, _ => ⟨acc, rfl, by simp⟩
  | b :: w, acc, h => by
    have hb := h b (by simp)
    obtain ⟨m, h1, h2⟩ := dec_some w (acc * 10 + (b.toNat - 48)) fun x hx => h x (by simp [hx])
    refine ⟨m, ?_, Nat.lt_of_lt_of_le h2 ?_⟩
    · rw [Go.Lib.decFrom, dig_val hb]; exact h1
    · rw [List.length_cons, Nat.pow_succ, Nat.mul_comm (10 ^ w.length) 10, ← Nat.mul_assoc]
      exact Nat.mul_le_mul_right _ (by omega)
theorem numV_bd {w : List UInt8} (h : numOk w) : 0 ≤ numV w ∧ numV w ≤ 9999999999 := by
  obtain ⟨m, h1, h2⟩ := dec_some w 0 h.1.2
  rw [numV, h1]
  have h3 : 10 ^ w.length ≤ 10 ^ 10 := Nat.pow_le_pow_right (by decide) h.2.1
  have h4 : (10 : Nat) ^ 10 = 10000000000 := by decide
  simp only [Option.getD_some]
  omega
theorem atoi_dig {w : List UInt8} (h : digW w) : Go.Lib.atoi w = some (numV w) := by
  obtain ⟨m, h1, _⟩ := dec_some w 0 h.2
  rw [numV, h1]
  cases w with
  | nil => exact absurd h.1 (by simp)
  | cons b r =>
    have hb := h.2 b (by simp)
    rw [Go.Lib.atoi, if_neg (by simp only [beq_iff_eq]; intro e; rw [e] at hb; revert hb; decide), if_neg (by simp only [beq_iff_eq]; intro e; rw [e] at hb; revert hb; decide)]
    simp [Go.Lib.decNat, h1]
theorem dec_snoc : ∀ (l : List UInt8) (acc : Nat) (b : UInt8), Go.Lib.decFrom acc (l ++ [b]) = (Go.Lib.decFrom acc l).bind fun m => (Go.Lib.digitVal b).map fun d => m * 10 + d
  | [], acc, b => by
    simp only [List.nil_append, Go.Lib.decFrom, Option.bind_some]
    cases Go.Lib.digitVal b <;> simp [Go.Lib.decFrom]
  | c :: l, acc, b => by
    rw [List.cons_append, Go.Lib.decFrom, Go.Lib.decFrom]
    cases Go.Lib.digitVal c with
    | none => rfl
    | some d => exact dec_snoc l _ b
theorem dd_lo {u : Nat} (h : u < 10) : Go.Lib.decDigits u = [UInt8.ofNat (48 + u)] := by rw [Go.Lib.decDigits, dif_pos h]
theorem dd_hi {u : Nat} (h : ¬ u < 10) : Go.Lib.decDigits u = Go.Lib.decDigits (u / 10) ++ [UInt8.ofNat (48 + u % 10)] := by
  conv => lhs; rw [Go.Lib.decDigits, dif_neg h]
theorem itoa_nn {n : Int} (h : 0 ≤ n) : Go.Lib.itoa n = Go.Lib.decDigits n.toNat := by
  unfold Go.Lib.itoa
  rw [if_neg (by omega)]
theorem digs_back : ∀ l : List UInt8, allDig l → 0 < l.length → l[0]? ≠ some 48 → ∃ m, Go.Lib.decFrom 0 l = some m ∧ 1 ≤ m ∧ Go.Lib.decDigits m = l := by
  refine snoc_ind (fun _ h => by simp at h) ?_
  intro l b ih h _ h0
  have hb := h b (by simp)
  have hd := dig_val hb
  have hbv : b = UInt8.ofNat (48 + (b.toNat - 48)) := by rw [show 48 + (b.toNat - 48) = b.toNat by omega]; simp
  rcases l with _ | ⟨c, l⟩
  · rw [List.nil_append] at h0 ⊢
    have hne : b.toNat ≠ 48 := fun e => h0 (by rw [u8_of e]; rfl)
    refine ⟨b.toNat - 48, by rw [Go.Lib.decFrom, hd]; simp [Go.Lib.decFrom], by omega, ?_⟩
    rw [dd_lo (by omega), ← hbv]
  · obtain ⟨m, h1, h2, h3⟩ := ih (fun x hx => h x (by simp only [List.mem_append]; exact .inl hx)) (by simp) (by simpa using h0)
    refine ⟨m * 10 + (b.toNat - 48), by rw [dec_snoc, h1, hd]; rfl, by omega, ?_⟩
    rw [dd_hi (by omega), show (m * 10 + (b.toNat - 48)) / 10 = m by omega, show (m * 10 + (b.toNat - 48)) % 10 = b.toNat - 48 by omega, h3, ← hbv]
theorem itoa_num {w : List UInt8} (h : numOk w) : Go.Lib.itoa (numV w) = w := by
  rw [itoa_nn (numV_bd h).1]
  by_cases h0 : w[0]? = some 48
  · have h1 : w.length = 1 := by
      have := h.1.1
      rcases Nat.lt_or_ge 1 w.length with h2 | h2
      · exact absurd ⟨h2, h0⟩ h.2.2
      · omega
    obtain ⟨b, rfl⟩ := List.length_eq_one_iff.1 h1
    simp only [List.getElem?_cons_zero, Option.some.injEq] at h0
    subst h0
    rw [show numV [48] = 0 from rfl]
    exact dd_lo (by decide)
  · obtain ⟨m, h1, _, h3⟩ := digs_back w h.1.2 h.1.1 h0
    rw [numV, h1, Option.getD_some, Int.toNat_natCast, h3]
theorem sepcat_cons (c : UInt8) (y : List UInt8) (l : List (List UInt8)) : sepcat [c] (y :: l) = c :: joinS [c] (y :: l) := by simp [sepcat, joinS]
theorem join_split (sv : Nat) (c : UInt8) (hsv : sv ≠ 1) : ∀ s : List UInt8, joinS [c] (splitG sv c s) = s
  | [] => rfl
  | b :: l => by
    have ih := join_split sv c hsv l
    rw [splitG]
    split
    · rename_i hb
      try rw [if_neg hsv]
      rcases hs : splitG sv c l with _ | ⟨w, ws⟩
      · exact absurd hs (splitG_ne sv c l)
      · rw [hs] at ih
        rw [joinS, List.nil_append, sepcat_cons, ih, hb]
    · rcases hs : splitG sv c l with _ | ⟨w, ws⟩
      · exact absurd hs (splitG_ne sv c l)
      · rw [hs] at ih
        simp only [joinS] at ih ⊢
        rw [List.cons_append, ih]
/-- The two digits of a code. -/
def codeV (k : List UInt8) : Int := 10 * (((k[0]?.getD 0).toNat : Int) - 48) + (((k[1]?.getD 0).toNat : Int) - 48)
theorem code_back {k : List UInt8} (h : k.length = 2) (hd : allDig k) : 0 ≤ codeV k ∧ codeV k ≤ 99 ∧ code2 (codeV k) = k := by
  obtain ⟨a, b, rfl⟩ : ∃ a b, k = [a, b] := by
    rcases k with _ | ⟨a, _ | ⟨b, _ | ⟨c, k⟩⟩⟩ <;> simp at h
    exact ⟨a, b, rfl⟩
  have ha := hd a (by simp)
  have hb := hd b (by simp)
  have e : codeV [a, b] = (((a.toNat - 48) * 10 + (b.toNat - 48) : Nat) : Int) := by simp only [codeV, List.getElem?_cons_zero, List.getElem?_cons_succ, Option.getD_some]; omega
  have eb : UInt8.ofNat (48 + (b.toNat - 48)) = b := by rw [show 48 + (b.toNat - 48) = b.toNat by omega]; simp
  have ea : UInt8.ofNat (48 + (a.toNat - 48)) = a := by rw [show 48 + (a.toNat - 48) = a.toNat by omega]; simp
  rw [e]
  refine ⟨by omega, by omega, ?_⟩
  unfold code2
  rw [itoa_nn (by omega), Int.toNat_natCast]
  by_cases h0 : a.toNat = 48
  · rw [if_pos (by omega), dd_lo (by omega), show 48 + ((a.toNat - 48) * 10 + (b.toNat - 48)) = 48 + (b.toNat - 48) by omega, eb, u8_of h0]
    rfl
  · rw [if_neg (by omega), dd_hi (by omega), show ((a.toNat - 48) * 10 + (b.toNat - 48)) / 10 = a.toNat - 48 by omega, show ((a.toNat - 48) * 10 + (b.toNat - 48)) % 10 = b.toNat - 48 by omega, dd_lo (by omega), ea, eb]
    rfl
/-- The line of a bar, read. -/
def lineOk (m a c k : List UInt8) (ds : List (List UInt8)) : Prop := IsName m ∧ k.length = 2 ∧ digW k ∧ numOk a ∧ numOk c ∧ 0 < ds.length ∧ ∀ x ∈ ds, numOk x
instance (m a c k ds) : Decidable (lineOk m a c k ds) := by unfold lineOk; infer_instance
def readB (s : List UInt8) : Option Bar := match splitG 0 32 s with
  | m :: a :: c :: k :: ds => if lineOk m a c k ds then some ⟨m, numV a, numV c, codeV k, ds.map numV⟩ else none
  | _ => none
theorem readB_of {s m a c k : List UInt8} {ds : List (List UInt8)} (hs : splitG 0 32 s = m :: a :: c :: k :: ds) (h : lineOk m a c k ds) : readB s = some ⟨m, numV a, numV c, codeV k, ds.map numV⟩ := by
  unfold readB; rw [hs]; exact if_pos h
theorem line_read {s : List UInt8} {b : Bar} (h : readB s = some b) : joinS [32] (lineW b) = s := by
  unfold readB at h
  split at h
  · rename_i m a c k ds hs
    split at h
    · rename_i ho
      obtain ⟨o1, o2, o3, o4, o5, o6, o7⟩ := ho
      simp only [Option.some.injEq] at h
      subst h
      have hlw : lineW ⟨m, numV a, numV c, codeV k, ds.map numV⟩ = m :: a :: c :: k :: ds := by
        show m :: Go.Lib.itoa (numV a) :: Go.Lib.itoa (numV c) :: code2 (codeV k) :: (ds.map numV).map Go.Lib.itoa = _
        rw [itoa_num o4, itoa_num o5, (code_back o2 o3.2).2.2, List.map_map]
        have e : ds.map (Go.Lib.itoa ∘ numV) = ds := by
          conv => rhs; rw [← List.map_id ds]
          exact List.map_congr_left fun d hd => itoa_num (o7 d hd)
        rw [e]
      rw [hlw, ← hs]
      exact join_split 0 32 (by decide) s
    · cases h
  · cases h
/-- The pieces between line ends, read; 0, or the number of the line that is none. -/
def readL : List (List UInt8) → List Bar → List Bar × Int
  | [], out => (out, 0)
  | l :: r, out => if l = [] ∧ r = [] then (out, 0) else if r = [] then ([], out.length + 1) else match readB l with
    | some b => readL r (out ++ [b])
    | none => ([], out.length + 1)
theorem text_read : ∀ (ps : List (List UInt8)) (out x : List Bar), ps ≠ [] → readL ps out = (x, 0) → ∃ l, x = out ++ l ∧ joinS [10] ps = textP l
  | [], out, x, h, _ => absurd rfl h
  | l :: r, out, x, _, h => by
    rw [readL] at h
    split at h
    · rename_i hl
      obtain ⟨rfl, rfl⟩ := hl
      simp only [Prod.mk.injEq, and_true] at h
      exact ⟨[], by simp [h], by simp [joinS, sepcat, textP]⟩
    · split at h
      · simp only [Prod.mk.injEq] at h
        omega
      · rename_i hr
        split at h
        · rename_i b hb
          obtain ⟨l', h1, h2⟩ := text_read r (out ++ [b]) x hr h
          refine ⟨b :: l', by rw [h1]; simp, ?_⟩
          have e : textP (b :: l') = joinS [32] (lineW b) ++ 10 :: textP l' := by simp [textP, lineT]
          rw [e, line_read hb, ← h2]
          rcases r with _ | ⟨y, r⟩
          · exact absurd rfl hr
          · rw [joinS, sepcat_cons]
        · simp only [Prod.mk.injEq] at h
          omega

end Go.Proofs.YtddogeicmhbidaaGreatDoor
namespace Go.Proofs.YtddogeicmhbidaaGreatDoor
open Go Go.AM
set_option linter.unusedSimpArgs false
set_option linter.unusedVariables false
set_option maxRecDepth 100000
set_option maxHeartbeats 1000000

def readR (s : List UInt8) : List Bar × Int := readL (splitG 0 10 s) []
def parseV (s : List UInt8) : List Bar := if s.length ≤ 262144 ∧ (readR s).2 = 0 ∧ okSched (readR s).1 then (readR s).1 else []
def parseL (s : List UInt8) : Int := if s.length ≤ 262144 then (readR s).2 else 0
def parseC (s : List UInt8) : Int := if parseL s = 0 then 0 else 1
def parseE (s : List UInt8) : Int := if s.length ≤ 262144 then (if (readR s).2 = 0 then (if okSched (readR s).1 then 0 else 1) else 7) else 4
theorem read_cut (r : List UInt8) (out : List Bar) (hr : r ≠ []) : (cutB 10 r).2.1.length < r.length ∧ (cutB 10 r).1.length ≤ r.length ∧
    ((cutB 10 r).2.2 = false → readL (splitG 0 10 r) out = ([], (out.length : Int) + 1)) ∧
    ((cutB 10 r).2.2 = true → readB (cutB 10 r).1 = none → readL (splitG 0 10 r) out = ([], (out.length : Int) + 1)) ∧
    (∀ b, (cutB 10 r).2.2 = true → readB (cutB 10 r).1 = some b → readL (splitG 0 10 r) out = readL (splitG 0 10 (cutB 10 r).2.1) (out ++ [b])) := by
  have hpos : 0 < r.length := List.length_pos_iff.2 hr
  rcases index_facts 10 r with ⟨_, h1⟩ | ⟨m, h1, h2, h3, h4, h5⟩
  · rw [cutB_no h1, splitG_no 0 h1]
    refine ⟨by simpa using hpos, Nat.le_refl _, (fun _ => ?_), (fun h => by cases h), (fun b h => by cases h)⟩
    rw [readL, if_neg (fun h => hr h.1), if_pos rfl]
  · have e : cutB 10 r = (r.take m, r.drop (m + 1), true) := by conv => lhs; rw [h3, cutB_app h4]
    have es : splitG 0 10 r = r.take m :: splitG 0 10 (r.drop (m + 1)) := by
      conv => lhs; rw [h3, splitG_app 0 _ h4]
      simp
    have hne := splitG_ne 0 10 (r.drop (m + 1))
    rw [e, es]
    refine ⟨by simp only [List.length_drop]; omega, by simp only [List.length_take]; omega, (fun h => by cases h), (fun _ hl => ?_), (fun b _ hl => ?_)⟩
    · rw [readL, if_neg (fun h => hne h.2), if_neg hne]
      simp only at hl
      rw [hl]
    · rw [readL, if_neg (fun h => hne h.2), if_neg hne]
      simp only at hl
      rw [hl]
theorem parse_none {s : List UInt8} (h : ¬ parseE s = 0) : parseV s = [] := by
  unfold parseE at h
  unfold parseV
  refine if_neg ?_
  rintro ⟨h1, h2, h3⟩
  rw [if_pos h1, if_pos h2, if_pos h3] at h
  exact h rfl
theorem parse_back {s : List UInt8} (h : parseE s = 0) : okSched (parseV s) ∧ textP (parseV s) = s := by
  unfold parseE at h
  split at h
  · rename_i h1
    split at h
    · rename_i h2
      split at h
      · rename_i h3
        have e : parseV s = (readR s).1 := if_pos ⟨h1, h2, h3⟩
        rw [e]
        refine ⟨h3, ?_⟩
        obtain ⟨l, g1, g2⟩ := text_read (splitG 0 10 s) [] (readR s).1 (splitG_ne 0 10 s) (by rw [← h2]; rfl)
        rw [g1, List.nil_append, ← g2]
        exact join_split 0 10 (by decide) s
      · omega
    · omega
  · omega
/-- What the walk asks of a line that is read. -/
theorem readB_w {s : List UInt8} {b : Bar} (h : readB s = some b) : b.mark.length ≤ 20 ∧ b.dims.length ≤ s.length + 1 := by
  have hn := splitG_len 0 32 s
  have hc : Go.Lib.countByte s 32 ≤ s.length := List.count_le_length
  unfold readB at h
  split at h
  · rename_i m a c k ds hs
    split at h
    · rename_i ho
      simp only [Option.some.injEq] at h
      subst h
      rw [hs] at hn
      simp only [List.length_cons] at hn
      refine ⟨(isName_len ho.1).2, ?_⟩
      simp only [List.length_map]
      omega
    · cases h
  · cases h

end Go.Proofs.YtddogeicmhbidaaGreatDoor
