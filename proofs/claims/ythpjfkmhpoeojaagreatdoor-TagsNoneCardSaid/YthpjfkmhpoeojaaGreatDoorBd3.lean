/-
  Tags: the book and its methods, what they answer.
  Conditions: none.
-/
import Derived.Test.YthpjfkmhpoeojaaGreatDoorSched
import Derived.Test.YthpjfkmhpoeojaaGreatDoorBend
import Derived.Test.YthpjfkmhpoeojaaGreatDoorAmItoa
import Derived.Test.YthpjfkmhpoeojaaGreatDoorAmBld
import Derived.Test.YthpjfkmhpoeojaaGreatDoorAmMap

namespace Go.Proofs.YthpjfkmhpoeojaaGreatDoor
open Go Go.AM
set_option linter.unusedSimpArgs false
set_option linter.unusedVariables false
set_option maxRecDepth 100000
structure Bundle where
  tag : List UInt8
  mark : List UInt8
  count : Int
  mass : Int
  deriving DecidableEq
def Bundle.c : Bundle → List AV
  | ⟨t, k, n, m⟩ => [.lit (str t), .lit (str k), .lit (.int .i64 n), .lit (.int .i64 m)]
def chunks (w left : Int) : List Int := if h : 0 < left ∧ 0 < w then min left w :: chunks w (left - min left w) else []
termination_by left.toNat
decreasing_by omega
theorem chunks_pos {w left : Int} (h1 : 0 < left) (h2 : 0 < w) : chunks w left = min left w :: chunks w (left - min left w) := by rw [chunks, dif_pos ⟨h1, h2⟩]
theorem chunks_zero (w : Int) {left : Int} (h : left ≤ 0) : chunks w left = [] := by rw [chunks, dif_neg (by omega)]
theorem chunks_sum {w : Int} (hw : 0 < w) : ∀ (n : Nat) (left : Int), left = n → sumI (chunks w left) = left ∧ (∀ x ∈ chunks w left, 1 ≤ x ∧ x ≤ w ∧ x ≤ left) ∧ (chunks w left).length ≤ n := by
  intro n
  induction n using Nat.strongRecOn with
  | _ n ih =>
    intro left hl
    by_cases h : 0 < left
    · obtain ⟨i1, i2, i3⟩ := ih (left - min left w).toNat (by omega) (left - min left w) (by omega); rw [chunks_pos h hw]; refine ⟨by rw [sumI_cons, i1]; omega, fun x hx => ?_, by rw [List.length_cons]; omega⟩
      rcases List.mem_cons.1 hx with rfl | hx
      · omega
      · have := i2 x hx; omega
    · rw [chunks_zero w (by omega)]; exact ⟨by rw [show sumI [] = 0 from rfl]; omega, by simp, by simp⟩
abbrev Unit2 := Bar × Int
def tagOf (k : Nat) : List UInt8 := 116 :: Go.Lib.itoa (k : Int)
def bun (k : Nat) : Unit2 → Bundle
  | (b, n) => ⟨tagOf (k + 1), b.mark, n, n * oneOf b⟩
def bunL : Nat → List Unit2 → List Bundle
  | _, [] => []
  | k, u :: l => bun k u :: bunL (k + 1) l
theorem bunL_len : ∀ (l : List Unit2) (k : Nat), (bunL k l).length = l.length
  | [], _ => rfl
  | u :: l, k => by rw [bunL, List.length_cons, List.length_cons, bunL_len l]
theorem bunL_snoc : ∀ (l : List Unit2) (k : Nat) (u : Unit2), bunL k (l ++ [u]) = bunL k l ++ [bun (k + l.length) u]
  | [], k, u => rfl
  | v :: l, k, u => by
    rw [List.cons_append, bunL, bunL, bunL_snoc l, List.cons_append, List.length_cons]
    congr 4; omega
theorem bunL_get : ∀ (l : List Unit2) (k i : Nat), (bunL k l)[i]? = (l[i]?).map (bun (k + i))
  | [], _, _ => by simp [bunL]
  | u :: l, k, 0 => by simp [bunL]
  | u :: l, k, i + 1 => by
    rw [bunL, List.getElem?_cons_succ, List.getElem?_cons_succ, bunL_get l]
    congr 2; omega
def unitsB (most : Int) (b : Bar) : List Unit2 := (chunks (most / oneOf b) b.count).map (fun n => (b, n))
def units (most : Int) (l : List Bar) : List Unit2 := (l.map (unitsB most)).flatten
theorem units_snoc (most : Int) (l : List Bar) (s : Bar) : units most (l ++ [s]) = units most l ++ unitsB most s := by simp [units]
theorem units_app (most : Int) (l m : List Bar) : units most (l ++ m) = units most l ++ units most m := by simp [units]
theorem one_bd {b : Bar} (h : okBar b) : 1 ≤ oneOf b ∧ oneOf b ≤ 10343154 := by
  obtain ⟨h1, h2, _⟩ := barMass_bd h; refine ⟨?_, h2⟩; obtain ⟨c1, c2⟩ := cutOf_bd h; have hz := h.2.1
  unfold oneOf massOf
  generalize cutOf b = c at c1 c2
  simp only [sizes, List.mem_cons, List.not_mem_nil, or_false] at hz
  rcases hz with e | e | e | e | e | e | e | e | e <;> rw [e] <;> omega
theorem whole_pos {b : Bar} {most : Int} (h : okBar b) (hm : oneOf b ≤ most) : 0 < most / oneOf b ∧ most / oneOf b ≤ most := by
  obtain ⟨h1, _⟩ := one_bd h; have h3 : 1 ≤ most / oneOf b := (Int.le_ediv_iff_mul_le (by omega)).2 (by omega); exact ⟨by omega, Int.ediv_le_self _ (by omega)⟩
def overP (most : Int) (l : List Bar) : Prop := ∃ b ∈ l, decide (most < oneOf b) = true
instance (most l) : Decidable (overP most l) := by unfold overP; infer_instance
def makeE (l : List Bar) (most : Int) : Int := if okSched l then (if 1 ≤ most ∧ most ≤ 1099511627776 then (if overP most l then 20 else if (units most l).length ≤ 1000 then 0 else 4) else 2) else 1
def makeV (l : List Bar) (most : Int) : List Bundle := if makeE l most = 0 then bunL 0 (units most l) else []
theorem makeE_ok {l : List Bar} {most : Int} (h : makeE l most = 0) : okSched l ∧ (1 ≤ most ∧ most ≤ 1099511627776) ∧ ¬ overP most l ∧ (units most l).length ≤ 1000 := by
  unfold makeE at h
  split at h
  · split at h
    · split at h
      · cases h
      · split at h
        · exact ⟨by assumption, by assumption, by assumption, by assumption⟩
        · cases h
    · cases h
  · cases h
theorem fill_more {most left : Int} {s : Bar} {q : List Unit2} (hs : okBar s) (hm : oneOf s ≤ most) (h0 : 0 < left) (hq : q ++ (chunks (most / oneOf s) left).map (fun n => (s, n)) = unitsB most s) :
    (q ++ [(s, min left (most / oneOf s))]) ++ (chunks (most / oneOf s) (left - min left (most / oneOf s))).map (fun n => (s, n)) = unitsB most s := by
  rw [chunks_pos h0 (whole_pos hs hm).1] at hq; rw [← hq]
  simp
theorem fill_full {most left : Int} {l pre suf : List Bar} {s : Bar} {q : List Unit2} (hp : pre ++ s :: suf = l) (hs : okBar s) (hm : oneOf s ≤ most) (h0 : 0 < left) (hq : q ++ (chunks (most / oneOf s) left).map (fun n => (s, n)) = unitsB most s)
    (hf : (units most pre ++ q).length = 1000) : ¬ (units most l).length ≤ 1000 := by
  rw [chunks_pos h0 (whole_pos hs hm).1] at hq
  have e : units most l = units most pre ++ (unitsB most s ++ units most suf) := by
    rw [← hp, units_app]
    simp [units]
  rw [e, ← hq]; simp only [List.length_append, List.length_map, List.length_cons, List.map_cons] at hf ⊢; omega
theorem fill_done {most left : Int} {s : Bar} {q : List Unit2} (h0 : ¬ 0 < left) (hq : q ++ (chunks (most / oneOf s) left).map (fun n => (s, n)) = unitsB most s) : q = unitsB most s := by
  rw [chunks_zero _ (by omega)] at hq
  simpa using hq
open Go.Lib in
theorem dec_len : ∀ (k u : Nat), u < 10 ^ (k + 1) → (decDigits u).length ≤ k + 1 := by
  intro k
  induction k with
  | zero =>
    intro u h; rw [decDigits, dif_pos (by omega)]
    simp
  | succ k ih =>
    intro u h; rw [decDigits]
    split
    · simp
    · have := ih (u / 10) (by rw [Nat.pow_succ] at h; omega); simp only [List.length_append, List.length_singleton]; omega
theorem itoa_len {N : Int} (h0 : 0 ≤ N) (h1 : N ≤ 1099511627777) : (Go.Lib.itoa N).length ≤ 21 := by
  obtain ⟨u, rfl⟩ : ∃ u : Nat, N = u := ⟨N.toNat, by omega⟩; rw [Go.Lib.itoa_nonneg]; have := dec_len 20 u (by omega); omega
def digZ (n : Int) : List UInt8 := if n = 0 then [] else Go.Lib.itoa n
theorem digZ_pos {n : Int} (h : 0 < n) : digZ n = digZ (n / 10) ++ [UInt8.ofNat (48 + n % 10).toNat] := by
  obtain ⟨u, rfl⟩ : ∃ u : Nat, n = u := ⟨n.toNat, by omega⟩
  have e : ((u : Int) % 10).toNat = u % 10 := by omega
  have e0 : (48 + (u : Int) % 10).toNat = 48 + u % 10 := by omega
  have e2 : ((u : Int) / 10) = ((u / 10 : Nat) : Int) := by omega
  rw [e0, e2, digZ, if_neg (by omega), Go.Lib.itoa_nonneg, Go.Lib.decDigits]
  by_cases h10 : u < 10
  · rw [dif_pos h10, digZ, if_pos (by omega), Nat.mod_eq_of_lt h10]; rfl
  · rw [dif_neg h10, digZ, if_neg (by omega), Go.Lib.itoa_nonneg]
theorem dig_byte {n : Int} (h : 0 ≤ n) : [[AV.lit (.int .u8 (48 + n % 10))]] = [UInt8.ofNat (48 + n % 10).toNat].map byteC := by
  have : ((UInt8.ofNat (48 + n % 10).toNat).toNat : Int) = 48 + n % 10 := by
    rw [UInt8.toNat_ofNat']; omega
  simp only [List.map_cons, List.map_nil, byteC, this]
end Go.Proofs.YthpjfkmhpoeojaaGreatDoor
namespace Go.Proofs.YthpjfkmhpoeojaaGreatDoor
open Go Go.AM
set_option linter.unusedSimpArgs false
set_option linter.unusedVariables false
set_option maxRecDepth 100000
theorem chunks_one {w left : Int} (h0 : 0 < left) (h : left ≤ w) : chunks w left = [left] := by
  rw [chunks_pos h0 (by omega), chunks_zero w (by omega), show min left w = left by omega]
end Go.Proofs.YthpjfkmhpoeojaaGreatDoor
namespace Go.Proofs.YthpjfkmhpoeojaaGreatDoor
open Go Go.AM
set_option linter.unusedSimpArgs false
set_option linter.unusedVariables false
set_option maxRecDepth 100000
def okBun (b : Bundle) : Prop := IsName b.tag ∧ IsName b.mark ∧ 1 ≤ b.count ∧ b.count ≤ 1000 ∧ 0 ≤ b.mass ∧ b.mass ≤ 1099511627776
instance (b) : Decidable (okBun b) := by unfold okBun; infer_instance
def okBuns (l : List Bundle) : Prop := l.length ≤ 1000 ∧ (∀ b ∈ l, okBun b) ∧ l.Pairwise (fun a b => a.tag ≠ b.tag)
instance (l) : Decidable (okBuns l) := by unfold okBuns; infer_instance
def Bundle.w (b : Bundle) : Prop := b.tag.length ≤ 140737488355328 ∧ b.mark.length ≤ 140737488355328
def bunW (l : List Bundle) : Prop := ∀ b ∈ l, b.w
def tagsM (l : List Bundle) : List (List UInt8 × Bool) := l.map fun c => (c.tag, true)
theorem tags_no {l : List Bundle} {k : List UInt8} (h : (mget (tagsM l) k).getD false = false) : ∀ a ∈ l, a.tag ≠ k := by
  intro a ha e
  have h1 : k ∈ (tagsM l).map (·.1) := by simp only [tagsM, List.map_map, List.mem_map]; exact ⟨a, ha, e⟩
  obtain ⟨v, hv⟩ := Option.isSome_iff_exists.1 ((mget_isSome _ _).2 h1); have h2 := mget_mem hv; simp only [tagsM, List.mem_map, Prod.mk.injEq] at h2; obtain ⟨_, _, _, rfl⟩ := h2; rw [hv] at h
  simp at h
theorem tags_yes {l : List Bundle} {k : List UInt8} (h : (mget (tagsM l) k).getD false = true) : ∃ a ∈ l, a.tag = k := by
  cases hm : mget (tagsM l) k with
  | none => rw [hm] at h; simp at h
  | some v =>
    have h2 := mget_mem hm; simp only [tagsM, List.mem_map, Prod.mk.injEq] at h2; obtain ⟨a, ha, e, _⟩ := h2; exact ⟨a, ha, e⟩
theorem tags_snoc {l : List Bundle} {c : Bundle} (h : (mget (tagsM l) c.tag).getD false = false) : mput (tagsM l) c.tag true = tagsM (l ++ [c]) := by
  have hn : mget (tagsM l) c.tag = none := by
    cases hm : mget (tagsM l) c.tag with
    | none => rfl
    | some v =>
      have h2 := mget_mem hm; simp only [tagsM, List.mem_map, Prod.mk.injEq] at h2; obtain ⟨_, _, _, rfl⟩ := h2; rw [hm] at h
      simp at h
  rw [mput_none true hn]
  simp [tagsM]
theorem buns_cut {pre suf l : List Bundle} {s : Bundle} (hp : pre ++ s :: suf = l) (h : okBuns l) : okBun s ∧ ∀ a ∈ pre, a.tag ≠ s.tag := by
  obtain ⟨h1, h2, h3⟩ := h; refine ⟨h2 s (by rw [← hp]; simp), fun a ha => ?_⟩; rw [← hp, List.pairwise_append] at h3; exact h3.2.2 a ha s (by simp)
theorem buns_snoc {pre : List Bundle} {s : Bundle} (h : (∀ c ∈ pre, okBun c) ∧ pre.Pairwise (fun a b => a.tag ≠ b.tag)) (h1 : okBun s) (h2 : ∀ a ∈ pre, a.tag ≠ s.tag) :
    (∀ c ∈ pre ++ [s], okBun c) ∧ (pre ++ [s]).Pairwise (fun a b => a.tag ≠ b.tag) := by
  refine ⟨fun b hb => ?_, List.pairwise_append.2 ⟨h.2, by simp, fun a ha b hb => ?_⟩⟩
  · rcases List.mem_append.1 hb with hb | hb
    · exact h.1 b hb
    · simp at hb; subst hb; exact h1
  · simp at hb; subst hb
    exact h2 a ha
theorem idxP_at {T : Type} {p : T → Bool} {pre suf l : List T} {s : T} (hp : pre ++ s :: suf = l) (hs : p s = true) : idxP p l 0 = pre.length ↔ ∀ a ∈ pre, p a = false := by
  constructor
  · intro h a ha
    cases hpa : p a with
    | false => rfl
    | true =>
      obtain ⟨p1, p2, rfl⟩ := List.append_of_mem ha
      have hle : ∀ (q : List T) (k : Int) (r : List T), idxP p (q ++ a :: r) k ≤ k + q.length := by
        intro q
        induction q with
        | nil => intro k r; rw [List.nil_append, idxP, if_pos hpa]; simp
        | cons x q ih =>
          intro k r; rw [List.cons_append, idxP]
          split
          · simp only [List.length_cons]; omega
          · have := ih (k + 1) r; simp only [List.length_cons]; omega
      have h2 := hle p1 0 (p2 ++ s :: suf); rw [← List.cons_append, ← List.append_assoc, hp, h] at h2; simp only [List.length_append, List.length_cons] at h2; omega
  · intro h; rw [← hp, idxP_append _ pre _ 0 h, idxP, if_pos hs]; omega
def tagI (l : List Bundle) (t : List UInt8) : Int := idxP (fun b => decide (b.tag = t)) l 0
def massSum (l : List Bundle) : Int := l.foldl (fun a b => a + b.mass) 0
theorem massSum_snoc (l : List Bundle) (s : Bundle) : massSum (l ++ [s]) = massSum l + s.mass := by simp [massSum]
def barsOf (l : List Bundle) (k : List UInt8) : Int := l.foldl (fun a b => if b.mark = k then a + b.count else a) 0
theorem barsOf_snoc (l : List Bundle) (s : Bundle) (k : List UInt8) : barsOf (l ++ [s]) k = if s.mark = k then barsOf l k + s.count else barsOf l k := by simp [barsOf]
def cntM (l : List Bundle) : List (List UInt8 × Int) := l.foldl (fun q b => mput q b.mark (barsOf [] b.mark + (mget q b.mark).getD 0 + b.count)) []
def masM (l : List Bar) : List (List UInt8 × Int) := l.map fun b => (b.mark, oneOf b)
theorem masM_none {l : List Bar} {k : List UInt8} (h : ∀ b ∈ l, b.mark ≠ k) : mget (masM l) k = none := by
  cases hm : mget (masM l) k with
  | none => rfl
  | some v =>
    have h2 := mget_mem hm; simp only [masM, List.mem_map, Prod.mk.injEq] at h2; obtain ⟨b, hb, e, _⟩ := h2; exact absurd e (h b hb)
theorem masM_get {l : List Bar} (h : okSched l) (k : List UInt8) : (markI l k < 0 ∧ mget (masM l) k = none) ∨ (0 ≤ markI l k ∧ ∃ b, l[(markI l k).toNat]? = some b ∧ b ∈ l ∧ b.mark = k ∧ mget (masM l) k = some (oneOf b)) := by
  by_cases h0 : 0 ≤ markI l k
  · right
    obtain ⟨_, b, h2, h3⟩ := idxP_get (fun b : Bar => decide (b.mark = k)) l 0 (Int.le_refl _) h0; have hb := List.mem_of_getElem? h2; refine ⟨h0, b, by unfold markI; simpa using h2, hb, of_decide_eq_true h3, ?_⟩; refine mget_of_mem ?_ ?_
    · simp only [masM, List.map_map]; rw [List.Nodup, List.pairwise_map]; exact h.2.2
    · simp only [masM, List.mem_map, Prod.mk.injEq]; exact ⟨b, hb, of_decide_eq_true h3, rfl⟩
  · left
    refine ⟨by omega, masM_none fun b hb e => ?_⟩; exact h0 ((idxP_nonneg _ l 0 (Int.le_refl _)).2 ⟨b, hb, decide_eq_true e⟩)
def find1 (l : List Bundle) (b : Bar) : List (Int × List UInt8) := if barsOf l b.mark < b.count then [(1, b.mark)] else if b.count < barsOf l b.mark then [(2, b.mark)] else []
def find2 (bars : List Bar) (x : Bundle) : List (Int × List UInt8) := match mget (masM bars) x.mark with
  | none => [(3, x.tag)]
  | some m => if x.mass = x.count * m then [] else [(4, x.tag)]
def fnd1 (l : List Bundle) (bars : List Bar) : List (Int × List UInt8) := (bars.map (find1 l)).flatten
def fnd2 (bars : List Bar) (l : List Bundle) : List (Int × List UInt8) := (l.map (find2 bars)).flatten
def checkP (bars : List Bar) (l : List Bundle) : List (Int × List UInt8) := fnd1 l bars ++ fnd2 bars l
def chkE (bars : List Bar) (l : List Bundle) : Int := if okSched bars ∧ okBuns l then 0 else 1
def chkV (bars : List Bar) (l : List Bundle) : List (Int × List UInt8) := if okSched bars ∧ okBuns l then checkP bars l else []
def bunsE (l : List Bundle) : Int := if okBuns l then 0 else 1
def massV (l : List Bundle) : Int := if okBuns l then massSum l else 0
def findE (l : List Bundle) (t : List UInt8) : Int := if okBuns l then (if tagI l t < 0 then 9 else 0) else 1
def findV (l : List Bundle) (t : List UInt8) : Int := if okBuns l then (if tagI l t < 0 then 0 else tagI l t) else 0
end Go.Proofs.YthpjfkmhpoeojaaGreatDoor
