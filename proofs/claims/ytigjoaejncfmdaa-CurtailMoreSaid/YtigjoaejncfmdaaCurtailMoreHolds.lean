/-
  The statement CurtailMore: for every input the law returns true and its arguments read as before.
  Conditions: none.
-/
import Derived.Test.YtigjoaejncfmdaaAd5
import Derived.Test.YtigjoaejncfmdaaAmFactl
import Derived.Test.YtigjoaejncfmdaaAmLaw
namespace Go.Proofs.Ytigjoaejncfmdaa
open Go Go.AM
set_option linter.unusedSimpArgs false
set_option linter.unusedVariables false
set_option maxRecDepth 100000
open Go.ChangeShapes Go.WideShapes Go.RowKit
theorem open_steps {row : List AV} (h : WT Try.prog 22 row) : ∃ l : List (Int × Int), row = [.sh 2 (l.map stepC)] ∧ l.length ≤ 140737488355328 := by
  obtain ⟨rows, rfl, h1, h2⟩ := h.slice_inv am_el22
  obtain ⟨l, rfl, _⟩ := rows_map (f := stepC) (q := fun _ => True) (rows := rows) (fun r hr => by
    obtain ⟨r1, r2, rfl, k1, k2⟩ := ((h2 r hr).struct_inv am_ft57).cons_inv
    obtain ⟨r3, r4, rfl, k3, k4⟩ := k2.cons_inv
    obtain rfl := k4.nil_inv
    obtain ⟨a, rfl, _⟩ := k1.int_inv am_un3
    obtain ⟨b, rfl, _⟩ := k3.int_inv am_un3
    exact ⟨(a, b), rfl, trivial⟩)
  refine ⟨l, by rw [am_cl57], ?_⟩
  rw [am_by57, List.length_map] at h1
  simp only [reachBytes] at h1
  omega

theorem curtailMore_lifted (os : Os) (started : os.Started) (H : Type) (enc : TypeId × Value → H) :
    ReturnsInHanded {} Try.checked os 6 .any (Rows.curtailMoreSpec.pre6 enc Try.prog Try.f6 Rows.curtailMoreRow.domain false) (Rows.curtailMoreSpec.post enc Try.prog Try.f6 false true false false) := by
  refine law_lifted (C := Try.checked) (s := Rows.curtailMoreSpec) (ts := [22, 22, 3, 3, 5]) (tb := 4) am_own started (by kernel_rfl) Try.func6
    (ChangeSpec.witness6 (enc := enc) (C := Try.checked) false ⟨#[], #[.slice none 0 0, .slice none 0 0, .int .i64 0, .int .i64 0, .int .u8 0], []⟩ 8 (by kernel_rfl) (by kernel_rfl) (by kernel_rfl) (by kernel_rfl)) am_laid rfl rfl (by kernel_rfl) rfl (by kernel_rfl) (by kernel_rfl) ?_ ?_
  · intro ds h
    match ds, h with
    | [d0, d1, d2, d3, d4], _ => rfl
  · intro avs h0
    have h : WTA Try.prog [22, 22, 3, 3, 5] avs := h0
    clear h0
    show Fun Try.prog 6 avs _
    obtain ⟨r0, l0, rfl, k0, h⟩ := h.cons_inv
    obtain ⟨r1, l1, rfl, k1, h⟩ := h.cons_inv
    obtain ⟨r2, l2, rfl, k2, h⟩ := h.cons_inv
    obtain ⟨r3, l3, rfl, k3, h⟩ := h.cons_inv
    obtain ⟨r4, l4, rfl, k4, h⟩ := h.cons_inv
    obtain rfl := h.nil_inv
    obtain ⟨v0, rfl, hl0⟩ := open_steps k0
    obtain ⟨v1, rfl, hl1⟩ := open_steps k1
    obtain ⟨v2, rfl, _⟩ := k2.int_inv am_un3
    obtain ⟨v3, rfl, _⟩ := k3.int_inv am_un3
    obtain ⟨v4, rfl, hi4⟩ := k4.int_inv am_un5
    rw [argAV_one am_ag22, argAV_one am_ag22, argAV_one am_ag3, argAV_one am_ag3, argAV_one am_ag5]
    exact more_law v0 v1 v2 v3 v4 hl0 hl1 hi4
theorem curtailMore_holds : Rows.CurtailMoreSaid :=
  OpenClaim.holds_of_wide 6 Try.f6 rfl rfl rfl rfl rfl rfl rfl ⟨rfl, rfl, rfl, rfl, rfl⟩ rfl rfl rfl rfl rfl (by kernel_rfl) Try.func6 (by kernel_rfl)
    (of_decide_eq_true (by kernel_rfl)) (by unfold Func.isWrapper; first | (rw [if_pos (by decide +kernel)]; kernel_rfl) | (rw [if_neg (by decide +kernel)]; exact ⟨rfl, rfl⟩))
    (fun os started H enc _ => curtailMore_lifted os started H enc)

#print axioms curtailMore_holds
end Go.Proofs.Ytigjoaejncfmdaa
