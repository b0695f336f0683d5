/-
  The law ScheduleBack, walked.
  Conditions: none.
-/
import Derived.Test.YtddogeicmhbidaaGreatDoorAw1
import Derived.Test.YtddogeicmhbidaaGreatDoorSb3
namespace Go.Proofs.YtddogeicmhbidaaGreatDoor
open Go Go.AM
set_option linter.unusedSimpArgs false
set_option linter.unusedVariables false
set_option maxRecDepth 100000
set_option maxHeartbeats 1000000

theorem word_fine {b : Bar} (h : okBar b) : ∀ x ∈ lineW b, x.length ≤ 22 := by
  have h1 := isName_len h.1
  have h2 := size_bd h.2.1
  have h3 := h.2.2.1
  have h4 := h.2.2.2.1
  have h5 := okBar_code h
  intro x hx
  simp only [lineW, lineH, List.mem_append, List.mem_cons, List.not_mem_nil, or_false, List.mem_map] at hx
  rcases hx with (rfl | rfl | rfl | rfl) | ⟨d, hd, rfl⟩
  · omega
  · have := itoa_len (N := b.size) (by omega) (by omega); omega
  · have := itoa_len (N := b.count) (by omega) (by omega); omega
  · have := itoa_len (N := b.code) (by omega) (by omega)
    unfold code2
    split
    · simp only [List.length_append, List.length_cons, List.length_nil]; omega
    · omega
  · have h8 := dims_in h.2.2.2.2.2.2 hd
    have := itoa_len (N := d) (by omega) (by omega); omega
theorem sep_fine : ∀ l : List (List UInt8), (∀ x ∈ l, x.length ≤ 22) → (sepcat [32] l).length ≤ 23 * l.length := by
  refine snoc_ind (fun _ => by simp [sepcat]) ?_
  intro l s ih h
  have := ih fun b hb => h b (by simp [hb])
  have := h s (by simp)
  rw [sepcat_snoc, List.length_append, List.length_append, List.length_append, List.length_singleton, List.length_singleton, Nat.mul_add]
  omega
theorem line_fine {b : Bar} (h : okBar b) : (lineT b).length ≤ 300 ∧ 0 < (lineT b).length := by
  have h1 := word_fine h
  have h2 := (lineW_el h).1
  rw [lineT, List.length_append, List.length_singleton]
  rcases hlw : lineW b with _ | ⟨x, l⟩
  · simp [joinS]
  · rw [hlw] at h1 h2
    have h3 := sep_fine l fun w hw => h1 w (by simp [hw])
    have h4 := h1 x (by simp)
    rw [List.length_cons] at h2
    rw [joinS, List.length_append]
    omega
theorem text_fine : ∀ l : List Bar, (∀ c ∈ l, okBar c) → (textP l).length ≤ 300 * l.length := by
  refine snoc_ind (fun _ => by simp [textP]) ?_
  intro l s ih h
  have := ih fun b hb => h b (by simp [hb])
  have := (line_fine (h s (by simp))).1
  rw [textP_snoc, List.length_append, List.length_append, List.length_singleton, Nat.mul_add]
  omega

theorem okSched_w {l : List Bar} (h : okSched l) : schedW l := fun b hb => by
  have h1 := (isName_len (h.2.1 b hb).1).2
  have h2 := (h.2.1 b hb).2.2.2.2.2.1
  have h3 := (dims_eq b.code).2.2.1
  exact ⟨by omega, by omega⟩
end Go.Proofs.YtddogeicmhbidaaGreatDoor
