/-
  The abstract machine, continued: results that are kept in memory cells.
  Conditions: none; generic over the program.
-/
import Derived.Test.YtigjoaejncfmdaaAmStr
namespace Go.AM
set_option linter.unusedVariables false
set_option linter.unusedSimpArgs false
set_option linter.unusedSectionVars false
variable {P : Program} {s : List (Nat × AV)} {b : List (Nat × Obj)} {n t e : Nat} {rs : List ResultVar} {vs cs : List AV} {u v w x : AV} {r ri rj a q : Nat}
theorem res_n : resAV P ⟨s, b, n, t, e⟩ [] = some [] := rfl
theorem res_t (h : resAV P ⟨s, b, n, t, e⟩ rs = some vs) (h1 : find s q = some v := by exact rfl) : resAV P ⟨s, b, n, t, e⟩ (.tmp q :: rs) = some (v :: vs) := by
  simp only [resAV, h, Option.map_some, St.get, h1, Option.getD_some]
variable {Post : AV → List (Nat × Obj) → Prop}
/-! ### Slices made by make -/
variable {ops : Array Oper} {rest : List Oper} {Q : St → Prop} {d ty : Nat} {pos : String} {aft : Array Edge} {g : Option (Nat × Bool)} {y z : Operand} {k k' : IntKind}
theorem S.mk {st el c by' m : Nat} {zs : List AV} (hel : elemOfSlice P st = some el) (hz : zeroCellsAV P el = some zs) (hcl : P.cellsOf el = c) (hby : P.bytesOf el = by') (h : SeqL P ops rest ⟨(d, .als n 0 m) :: s, (n, ⟨true, el, c, List.replicate m zs, true⟩) :: b, n + 1, t, e⟩ Q)
    (hx : opv s y = some (.lit (.int k (m : Int))) := by exact rfl) (hy : opv s z = some (.lit (.int k' (m : Int))) := by exact rfl) (hm : m ≤ 1000000 := by omega) (hmb : m * by' ≤ 100000000 := by omega) (hmc : m * c ≤ 2 ^ 24 := by omega) (hzc : (Nat.beq zs.length c && !Nat.beq c 0) = true := by exact rfl)
    (hg : guardGo (dstsOf ops) ⟨s, b, n, t, e⟩ g = some true := by exact rfl) (hd : Nat.blt d t = true := by exact rfl) :
    SeqL P ops (⟨some d, .makeSlice st y z, ty, pos, aft, g⟩ :: rest) ⟨s, b, n, t, e⟩ Q := by
  subst hcl
  simp only [Bool.and_eq_true, Nat.beq_eq, Bool.not_eq_true'] at hzc
  have hl : Local P ⟨s, b, n, t, e⟩ ⟨some d, .makeSlice st y z, ty, pos, aft, g⟩ (.als n 0 m) [(n, ⟨true, el, P.cellsOf el, List.replicate m zs, true⟩)] :=
    Local.makeSlice rfl hel hz hzc.1 (beq_false_ne hzc.2) hby (opv_ev hx) (opv_ev hy) hm hmb hmc
  have hw : Writer P ⟨s, b, n, t, e⟩ ⟨some d, .makeSlice st y z, ty, pos, aft, g⟩ ((⟨s, b, n, t, e⟩ : St).ext (some d) (.als n 0 m) [(n, ⟨true, el, P.cellsOf el, List.replicate m zs, true⟩)] (n + 1)) := by
    refine Writer.of_local hl (fun d' e => ?_) (fun r o h => ?_) (Nat.le_succ _)
    · simp only [Option.some.injEq] at e
      subst e
      exact Nat.le_of_ble_eq_true hd
    · rw [find_cons] at h
      split at h
      · show n ≤ r ∧ r < n + 1; omega
      · simp [find] at h
  exact SeqL.write hg hw h
/-! ### Is a slice nil? -/
/-! ### A result of one's own -/
end Go.AM
