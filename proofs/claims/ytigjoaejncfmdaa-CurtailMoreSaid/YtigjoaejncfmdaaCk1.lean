/-
  Going through the events of a demand and of bars: plain laws.
  Conditions: none.
-/
import Derived.Test.YtigjoaejncfmdaaAmAuto
namespace Go.Proofs.Ytigjoaejncfmdaa
open Go Go.AM
set_option linter.unusedSimpArgs false
set_option linter.unusedVariables false
set_option maxRecDepth 100000

theorem snocI {T : Type} {P : List T → Prop} (h0 : P []) (hs : ∀ l s, P l → P (l ++ [s])) : ∀ l, P l := by
  intro l
  have : ∀ m : List T, P m.reverse := by
    intro m
    induction m with
    | nil => exact h0
    | cons x m ih => rw [List.reverse_cons]; exact hs _ _ ih
  have := this l.reverse
  rwa [List.reverse_reverse] at this
abbrev Ev3 := Int × Int × Int
def swF (q : Int × Int) (e : Ev3) : Int × Int := if e.2.1 = 1 then (e.2.2, q.2) else (q.1, q.2 + e.2.2)
def swE (P : List Ev3) : Int × Int := P.foldl swF (0, 0)
def goesOn (e : Ev3) : List Ev3 → Bool
  | [] => false
  | f :: _ => decide (f.1 = e.1)
def sweep (A : Int) : Int × Int → List Ev3 → Bool
  | _, [] => true
  | q, e :: r => (goesOn e r || decide ((swF q e).1 ≤ (swF q e).2 * A)) && sweep A (swF q e) r
/-! What a prefix adds up to. -/
def chSum (P : List Ev3) : Int := (P.map fun e => if e.2.1 = 1 then 0 else e.2.2).sum
def lastD (v : Int) (P : List Ev3) : Int := P.foldl (fun v e => if e.2.1 = 1 then e.2.2 else v) v
/-! The events of a demand and of bars. -/
def evSteps (l : List (Int × Int)) : List Ev3 := l.map fun s => (s.1, 1, s.2)
def evBar (a : Int) (b : Int × Int) : List Ev3 := if b.1 + a < b.2 - a then [(b.1 + a, 0, 1), (b.2 - a, 0, -1)] else []
def evs (l : List (Int × Int)) (a : Int) (bars : List (Int × Int)) : List Ev3 := evSteps l ++ bars.flatMap (evBar a)
def serveAt (bars : List (Int × Int)) (a x : Int) : Int := (bars.map fun b => if b.1 + a ≤ x ∧ x < b.2 - a then (1 : Int) else 0).sum
def needAt (l : List (Int × Int)) (x : Int) : Int := l.foldl (fun v s => if s.1 ≤ x then s.2 else v) 0
theorem serveAt_nn (a x : Int) : ∀ bars : List (Int × Int), 0 ≤ serveAt bars a x ∧ serveAt bars a x ≤ bars.length := by
  refine snocI (by simp [serveAt]) ?_
  intro bars b ih
  simp only [serveAt, List.map_append, List.sum_append, List.map_cons, List.map_nil, List.sum_cons, List.sum_nil, List.length_append, List.length_singleton] at ih ⊢
  split <;> omega
def upTo (x : Int) (e : Ev3) : Int := if e.1 ≤ x then (if e.2.1 = 1 then 0 else e.2.2) else 0
def okAt (l bars : List (Int × Int)) (a A x : Int) : Prop := needAt l x ≤ serveAt bars a x * A
instance (l bars a A x) : Decidable (okAt l bars a A x) := by unfold okAt; infer_instance
/-! It is enough to look where the demand changes, and where bars end. -/
def checkP (l : List (Int × Int)) (a A : Int) (bars : List (Int × Int)) : Prop := (∀ s ∈ l, okAt l bars a A s.1) ∧ ∀ b ∈ bars, okAt l bars a A (b.2 - a)
instance (l a A bars) : Decidable (checkP l a A bars) := by unfold checkP; infer_instance
end Go.Proofs.Ytigjoaejncfmdaa
