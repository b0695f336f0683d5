/-
  Part 23 of the proof: functions walked on the abstract machine.
  Conditions: none.
-/
import Derived.Test.YtlpgjlnkfgacbaaGreatDoorX22
set_option linter.unusedSimpArgs false
set_option linter.unusedVariables false
set_option maxRecDepth 100000
namespace Go.Proofs.YtlpgjlnkfgacbaaGreatDoor
open Go Go.AM
theorem bT {p : Prop} [Decidable p] (h : p) : bL true = bL (decide p) := by rw [decide_eq_true h]
theorem bF {p : Prop} [Decidable p] (h : ¬ p) : bL false = bL (decide p) := by rw [decide_eq_false h]
theorem dI {p q : Prop} [Decidable p] [Decidable q] (h : p ↔ q) : bL (decide p) = bL (decide q) := by rw [decide_eq_decide.2 h]
theorem lawT {p : Prop} [Decidable p] (h : p) : bL (decide p) = bL true := by rw [decide_eq_true h]
theorem iE {a b : Int} (h : a = b) : iL a = iL b := by rw [h]
def Cz (n : Int) : List AV := [iL n]
def CB : Int × Int → List AV
  | (a, b) => [iL a, iL b]
def findC : Int × List UInt8 → List AV
  | (a, b) => [iL a, sL b]
theorem last_get {T : Type} {pre : List T} (h : 0 < pre.length) : pre.getLast? = some (pre.getLast (List.ne_nil_of_length_pos h)) := List.getLast?_eq_some_getLast _
theorem pre_last {T : Type} {pre suf l : List T} (hp : pre ++ suf = l) (h : 0 < pre.length) : l[pre.length - 1]? = some (pre.getLast (List.ne_nil_of_length_pos h)) := by
  rw [← hp, List.getElem?_append_left (by omega), ← List.getLast?_eq_getElem?, last_get h]
theorem mul_bd {k a K A : Int} (h1 : 0 ≤ k) (h2 : k ≤ K) (h3 : 0 ≤ a) (h4 : a ≤ A) : 0 ≤ k * a ∧ k * a ≤ K * A := ⟨Int.mul_nonneg h1 h3, Int.mul_le_mul h2 h4 h3 (by omega)⟩
theorem CY {T : Type} {P : List T → Prop} (h0 : P []) (hs : ∀ l s, P l → P (l ++ [s])) : ∀ l, P l := by
  intro l
  have : ∀ n, ∀ l : List T, l.length = n → P l := by
    intro n
    induction n with
    | zero => intro l h; rw [List.eq_nil_of_length_eq_zero h]; exact h0
    | succ n ih =>
      intro l h
      have hne : l ≠ [] := by intro e; subst e; simp at h
      rw [← List.dropLast_concat_getLast hne]; exact hs _ _ (ih _ (by simp [h]))
  exact this _ l rfl
def CN {T : Type} (p : T → Bool) : List T → Int → Int
  | [], _ => -1
  | x :: l, k => if p x = true then k else CN p l (k + 1)
theorem DD {T : Type} (p : T → Bool) : ∀ (l m : List T) (k : Int), (∀ x ∈ l, p x = false) → CN p (l ++ m) k = CN p m (k + l.length)
  | [], m, k, _ => by simp
  | x :: l, m, k, h => by
    have h1 := h x (by simp); rw [List.cons_append, CN, h1, if_neg (by simp), DD p l m _ (fun y hy => h y (by simp [hy]))]
    congr 1
    simp; omega
theorem Gh {T : Type} (p : T → Bool) (l : List T) (k : Int) (h : ∀ x ∈ l, p x = false) : CN p l k = -1 := by
  have := DD p l [] k h; rw [List.append_nil] at this; rw [this]; rfl
theorem Gn {T : Type} (p : T → Bool) : ∀ (l : List T) (k : Int), 0 ≤ k → (0 ≤ CN p l k ↔ ∃ x ∈ l, p x = true)
  | [], k, _ => by simp [CN]
  | x :: l, k, hk => by
    rw [CN]
    split
    · rename_i h; simp [h, hk]
    · rename_i h; rw [Gn p l (k + 1) (by omega)]; simp [h]
end Go.Proofs.YtlpgjlnkfgacbaaGreatDoor
