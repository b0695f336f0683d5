/-
  Chapter 23: boxes and demands.
  Conditions: none.
-/
import Derived.Test.YthiockdlhehhoaaDoorStp
import Derived.Test.YthiockdlhehhoaaDoorNames
namespace Go.Proofs.YthiockdlhehhoaaDoor
open Go Go.AM
set_option linter.unusedSimpArgs false
set_option linter.unusedVariables false
set_option maxRecDepth 100000
set_option maxHeartbeats 1000000

structure Bx where
  lx : Int
  ly : Int
  lz : Int
  hx : Int
  hy : Int
  hz : Int
def Bx.c : Bx → List AV
  | ⟨a, b, c, d, e, f⟩ => [.lit (.int .i64 a), .lit (.int .i64 b), .lit (.int .i64 c), .lit (.int .i64 d), .lit (.int .i64 e), .lit (.int .i64 f)]
/-- A valid box. -/
def okBx (b : Bx) : Prop := (b.lx ≤ b.hx ∧ -1048576 ≤ b.lx ∧ b.hx ≤ 1048576) ∧ (b.ly ≤ b.hy ∧ -1048576 ≤ b.ly ∧ b.hy ≤ 1048576) ∧ (b.lz ≤ b.hz ∧ -1048576 ≤ b.lz ∧ b.hz ≤ 1048576)
instance (b) : Decidable (okBx b) := by unfold okBx; infer_instance
/-- A demand. -/
structure Dem where
  name : List UInt8
  zone : Bx
  steps : List (Int × Int)
def Dem.c : Dem → List AV
  | ⟨n, ⟨a, b, c, d, e, f⟩, s⟩ => [.lit (str n), .lit (.int .i64 a), .lit (.int .i64 b), .lit (.int .i64 c), .lit (.int .i64 d), .lit (.int .i64 e), .lit (.int .i64 f), .sh 2 (s.map pairC)]
def okDem (d : Dem) : Prop := IsName d.name ∧ okBx d.zone ∧ okSteps d.steps
instance (d) : Decidable (okDem d) := by unfold okDem; infer_instance
def Dem.w (d : Dem) : Prop := d.name.length ≤ 140737488355328 ∧ d.steps.length ≤ 140737488355328
def demW (l : List Dem) : Prop := ∀ d ∈ l, d.w
def okDems (l : List Dem) : Prop := l.length ≤ 20 ∧ (∀ d ∈ l, okDem d) ∧ l.Pairwise (fun a b => a.name ≠ b.name)
instance (l) : Decidable (okDems l) := by unfold okDems; infer_instance
def demI (l : List Dem) (n : List UInt8) : Int := idxP (fun d => decide (d.name = n)) l 0
theorem demI_at {pre suf l : List Dem} {s : Dem} (hp : pre ++ s :: suf = l) : demI l s.name = pre.length ↔ ∀ a ∈ pre, a.name ≠ s.name := by
  constructor
  · intro h a ha hm
    obtain ⟨p1, p2, rfl⟩ := List.append_of_mem ha
    have hle : demI l s.name ≤ p1.length := by
      rw [← hp, demI, List.append_assoc]
      have : ∀ (q : List Dem) (k : Int) (r : List Dem), a.name = s.name → idxP (fun b : Dem => decide (b.name = s.name)) (q ++ a :: r) k ≤ k + q.length := by
        intro q
        induction q with
        | nil => intro k r hm; rw [List.nil_append, idxP, if_pos (by simp [hm])]; simp
        | cons x q ih =>
          intro k r hm
          rw [List.cons_append, idxP]
          split
          · simp only [List.length_cons]; omega
          · have := ih (k + 1) r hm
            simp only [List.length_cons]; omega
      have := this p1 0 (p2 ++ s :: suf) hm
      simpa using this
    rw [h] at hle
    simp only [List.length_append, List.length_cons] at hle
    omega
  · intro h
    rw [demI, ← hp, idxP_append _ pre _ 0 (fun a ha => by simp [h a ha]), idxP, if_pos (by simp)]
    omega
theorem dems_cut {pre suf l : List Dem} {s : Dem} (hp : pre ++ s :: suf = l) (h : okDems l) : okDem s ∧ ∀ a ∈ pre, a.name ≠ s.name := by
  obtain ⟨h1, h2, h3⟩ := h
  refine ⟨h2 s (by rw [← hp]; simp), fun a ha => ?_⟩
  rw [← hp, List.pairwise_append] at h3
  exact h3.2.2 a ha s (by simp)
theorem dems_snoc {pre : List Dem} {s : Dem} (h : (∀ b ∈ pre, okDem b) ∧ pre.Pairwise (fun a b => a.name ≠ b.name)) (h1 : okDem s) (h2 : ∀ a ∈ pre, a.name ≠ s.name) :
    (∀ b ∈ pre ++ [s], okDem b) ∧ (pre ++ [s]).Pairwise (fun a b => a.name ≠ b.name) := by
  refine ⟨fun b hb => ?_, List.pairwise_append.2 ⟨h.2, by simp, fun a ha b hb => ?_⟩⟩
  · rcases List.mem_append.1 hb with hb | hb
    · exact h.1 b hb
    · simp at hb; subst hb; exact h1
  · simp at hb; subst hb
    exact h2 a ha
theorem take_pre {T : Type} {pre suf l : List T} {s : T} (hp : pre ++ s :: suf = l) : l.take pre.length = pre := by rw [← hp, List.take_left]
/-- Few demands with few steps and short names, or somewhat too many. -/
def smD (l : List Dem) (most : Int) : Prop := ¬ ((l.length : Int) > most ∧ l.length ≤ 20 ∨ l.length > 25) ∧ ∀ d ∈ l, ¬ (d.name.length > 60 ∨ (d.steps.length : Int) > 2 * most ∧ d.steps.length ≤ 200 ∨ d.steps.length > 205)
instance (l most) : Decidable (smD l most) := by unfold smD; infer_instance
end Go.Proofs.YthiockdlhehhoaaDoor
