/-
  The abstract machine, continued: maps whose values have no fields, that is sets.
  Conditions: none; generic over the program.
-/
import Derived.Test.YtkbpignlggahaaaGreatDoorAmMap
import Derived.Test.YtkbpignlggahaaaGreatDoorAmDel
namespace Go.AM
open Go.MapKept
set_option linter.unusedVariables false
set_option linter.unusedSimpArgs false
set_option linter.unusedSectionVars false
section plain
variable {K : Type} [DecidableEq K]
def kput (m : List K) (k : K) : List K := if k ∈ m then m else m ++ [k]
def kpos : List K → K → Nat
  | [], _ => 0
  | p :: m, k => if k = p then 0 else kpos m k + 1
end plain
def rowU {K : Type} (kv : K → Value) (p : K) : List AV := [.lit (kv p), .top]
section find
variable {K : Type} [DecidableEq K] {d : TypeDesc} {kv : K → Value}
end find
section rules
variable {P : Program} {ops : Array Oper} {rest : List Oper} {s : List (Nat × AV)} {b : List (Nat × Obj)} {n t e id : Nat} {Q : St → Prop} {dd ty : Nat} {pos : String} {aft : Array Edge} {g : Option (Nat × Bool)} {x y z : Operand}
variable {K : Type} [DecidableEq K] {d : TypeDesc} {kv : K → Value} {m : List K} {k : K} {mt r el : Nat} {cl : Bool}
theorem Wk.frzv {slc : Bool} {r el sz : Nat} {row : List AV} (d : Nat) (b' : List (Nat × Obj)) (hs : find s d = some (.adr r 0 0) := by exact rfl) (ho : find b r = some ⟨slc, el, sz, [row], true⟩ := by exact rfl) (hk : Nat.ble e r = true := by exact rfl) (hb : del b r = b' := by exact rfl) :
    Wk ⟨s, b, n, t, e⟩ ⟨(d, .sadr row 0) :: s, b', n, t, e⟩ := by
  subst hb; intro C E X a hr; obtain ⟨g1, g2, g3, g4⟩ := hr.objs r _ ho; have hk' : e ≤ r := Nat.le_of_ble_eq_true hk
  let E' : Env := { E with S := fun b => E.S b ∨ blockOf (E.H r) = some b }
  have hle' : E.le E' := ⟨fun b hb => ⟨.inl hb, rfl⟩, fun r hD => ⟨hD, rfl, rfl⟩⟩
  have hd : ∀ r' o', find (del b r) r' = some o' → find b r' = some o' ∧ r' ≠ r := by
    intro r' o' hf; rw [find_del] at hf
    split at hf
    · cases hf
    · rename_i e; exact ⟨hf, fun e' => e e'.symm⟩
  refine ⟨E', X, rfl, ⟨?_, hr.size, hr.defers, ?_, ?_, ?_, hr.fresh, hr.kept, ?_, ?_, hr.envD, ?_, ?_, hr.envk, hr.glob.le hle'⟩⟩
  · intro s' v hv; rw [find_cons] at hv
    split at hv
    · rename_i e
      simp only [Option.some.injEq] at hv; subst e hv; have hx := hr.slots d _ hs; simp only [FV] at hx; obtain ⟨_, a0, hH, hsp, hxe⟩ := hx; obtain ⟨_, hh⟩ := g3.holds (a0 := a0) hH; have g5 : FVr E.clear sz [row] (X r) := g4; simp only [FVr] at g5; obtain ⟨ys, zs, e1, _, e2, rfl⟩ := g5; rw [List.append_nil] at e1; simp only [FV]; refine ⟨a0, X r, by rw [hxe, Nat.zero_mul], hsp, .inr (blockOf_base hH), by rw [e1]; exact FVc.le _ hle'.clear _ e2, hh⟩
    · exact FV.le _ hle' _ (hr.slots s' v hv)
  · intro r' o' hf; obtain ⟨hf, hne⟩ := hd r' o' hf; obtain ⟨k1, k2, k3, k4⟩ := hr.objs r' o' hf; exact ⟨k1, k2, k3, FVr.le _ _ (hle'.by _) _ k4⟩
  · intro r1 r2 o1 o2 b h1 h2 hb1 hb2; exact hr.apart r1 r2 o1 o2 b (hd r1 o1 h1).1 (hd r2 o2 h2).1 hb1 hb2
  · rintro b (hb | hb)
    · exact ⟨(hr.stay b hb).1, fun r' o' hf => (hr.stay b hb).2 r' o' (hd r' o' hf).1⟩
    · refine ⟨g3.lt hb, fun r' o' hf hbk => ?_⟩; obtain ⟨hf, hne⟩ := hd r' o' hf; exact hne (hr.apart r' r o' _ b hf ho hbk hb)
  · intro r' o' b hf hbk; exact hr.mine r' o' b (hd r' o' hf).1 hbk
  · exact hr.env
  · intro b hb; exact .inl (hr.base b hb)
  · rintro b (hb | hb)
    · exact hr.grow b hb
    · rcases hr.mine r _ b ho hb with h | h
      · exact .inr (.inr h)
      · exact .inr (.inl h)
end rules
end Go.AM
