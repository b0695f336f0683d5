/-
  Small definitions and laws.
  Conditions: none.
-/
import Derived.Test.YthiockdlhehhoaaDoorAmAuto
import Derived.Test.YthiockdlhehhoaaDoorAmStr
import Derived.Test.YthiockdlhehhoaaDoorAmFactx
namespace Go.Proofs.YthiockdlhehhoaaDoor
open Go Go.AM
set_option linter.unusedSimpArgs false
set_option linter.unusedVariables false
set_option maxRecDepth 100000

theorem bT {p : Prop} [Decidable p] (h : p) : AV.lit (.bool true) = .lit (.bool (decide p)) := by rw [decide_eq_true h]
theorem bF {p : Prop} [Decidable p] (h : ¬ p) : AV.lit (.bool false) = .lit (.bool (decide p)) := by rw [decide_eq_false h]
theorem dI {p q : Prop} [Decidable p] [Decidable q] (h : p ↔ q) : AV.lit (.bool (decide p)) = .lit (.bool (decide q)) := by rw [decide_eq_decide.2 h]
theorem lawT {p : Prop} [Decidable p] (h : p) : AV.lit (.bool (decide p)) = .lit (.bool true) := by rw [decide_eq_true h]
theorem iE {a b : Int} (h : a = b) : AV.lit (.int .i64 a) = .lit (.int .i64 b) := by rw [h]
def intC (n : Int) : List AV := [.lit (.int .i64 n)]
def strC (s : List UInt8) : List AV := [.lit (str s)]
def pairC : Int × Int → List AV
  | (a, b) => [.lit (.int .i64 a), .lit (.int .i64 b)]
def findC : Int × List UInt8 → List AV
  | (a, b) => [.lit (.int .i64 a), .lit (str b)]
theorem last_get {T : Type} {pre : List T} (h : 0 < pre.length) : pre.getLast? = some (pre.getLast (List.ne_nil_of_length_pos h)) := List.getLast?_eq_some_getLast _
theorem pre_last {T : Type} {pre suf l : List T} (hp : pre ++ suf = l) (h : 0 < pre.length) : l[pre.length - 1]? = some (pre.getLast (List.ne_nil_of_length_pos h)) := by
  rw [← hp, List.getElem?_append_left (by omega), ← List.getLast?_eq_getElem?, last_get h]
theorem snoc_ind {T : Type} {P : List T → Prop} (h0 : P []) (hs : ∀ l s, P l → P (l ++ [s])) : ∀ l, P l := by
  intro l
  have : ∀ n, ∀ l : List T, l.length = n → P l := by
    intro n
    induction n with
    | zero => intro l h; rw [List.eq_nil_of_length_eq_zero h]; exact h0
    | succ n ih =>
      intro l h
      have hne : l ≠ [] := by intro e; subst e; simp at h
      rw [← List.dropLast_concat_getLast hne]
      exact hs _ _ (ih _ (by simp [h]))
  exact this _ l rfl
/-- The place of the first one, or -1. -/
def idxP {T : Type} (p : T → Bool) : List T → Int → Int
  | [], _ => -1
  | x :: l, k => if p x = true then k else idxP p l (k + 1)
theorem idxP_append {T : Type} (p : T → Bool) : ∀ (l m : List T) (k : Int), (∀ x ∈ l, p x = false) → idxP p (l ++ m) k = idxP p m (k + l.length)
  | [], m, k, _ => by simp
  | x :: l, m, k, h => by
    have h1 := h x (by simp)
    rw [List.cons_append, idxP, h1, if_neg (by simp), idxP_append p l m _ (fun y hy => h y (by simp [hy]))]
    congr 1
    simp; omega
theorem idxP_none {T : Type} (p : T → Bool) (l : List T) (k : Int) (h : ∀ x ∈ l, p x = false) : idxP p l k = -1 := by
  have := idxP_append p l [] k h
  rw [List.append_nil] at this
  rw [this]; rfl
theorem idxP_nonneg {T : Type} (p : T → Bool) : ∀ (l : List T) (k : Int), 0 ≤ k → (0 ≤ idxP p l k ↔ ∃ x ∈ l, p x = true)
  | [], k, _ => by simp [idxP]
  | x :: l, k, hk => by
    rw [idxP]
    split
    · rename_i h; simp [h, hk]
    · rename_i h; rw [idxP_nonneg p l (k + 1) (by omega)]; simp [h]
end Go.Proofs.YthiockdlhehhoaaDoor
