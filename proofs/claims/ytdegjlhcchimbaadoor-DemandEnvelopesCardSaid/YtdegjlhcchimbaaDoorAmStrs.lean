/-
  The abstract machine, continued: parts of strings; strings.Index and strings.Count at one byte by the kit's contracts.
  Conditions: none; generic over the program.
-/
import Derived.Test.YtdegjlhcchimbaaDoorAmArr
import Derived.Test.YtdegjlhcchimbaaDoorAmLib
import Derived.Shelf.Strings.Search3
import Derived.Shelf.Strings.Count
namespace Go.AM
open Go.Proofs Go.Lib Go.Shelf
set_option linter.unusedVariables false
set_option linter.unusedSimpArgs false
set_option linter.unusedSectionVars false
/-- A call that reckons alone. -/
theorem fun_of_same {P : Program} {f : FuncId} {args : List Value} {y : Value} (hB : Bodied P f) (h : ∀ w, Calls P f args.toArray w fun e w' => e = .returned y ∧ w' = w) : Fun P f (args.map .lit) (Ret (.lit y) []) := by
  refine ⟨hB, fun E xs hx hS hG => ?_⟩
  have hxs : xs = args := by
    clear h hS hG
    induction args generalizing xs with
    | nil => simpa [FVs] using hx
    | cons a args ih =>
      simp only [List.map_cons, FVs, FV] at hx
      obtain ⟨y1, ys, rfl, rfl, h2⟩ := hx
      rw [ih ys h2]
  subst hxs
  refine (h E.w).mono ?_
  rintro e w' ⟨rfl, rfl⟩
  refine ⟨_, _, _, E.clear, fun _ => [], rfl, rfl, ⟨rfl, rfl⟩, ?_⟩
  refine ⟨⟨rfl, Tp.refl _, rfl, Nat.le_refl _, fun b hb _ => rfl⟩, ⟨fun b hb => ⟨hb, rfl⟩, fun r hr => hr.elim⟩, fun r hr => .inl hr, fun b hb => .inl hb, ?_, ?_, by simp [FV, FVs]⟩
  · intro r o hr; simp [find] at hr
  · intro r r' o o' b hr; simp [find] at hr
theorem index1_F {P : Program} {ρ : Ren} (L : Lays.n143 P ρ) (hB : Bodied P (ρ.f 143)) (s : List UInt8) (c : UInt8) : Fun P (ρ.f 143) [.lit (str s), .lit (str [c])] (Ret (.lit (.int .i64 (Go.Lib.indexByte s c))) []) :=
  fun_of_same (args := [str s, str [c]]) hB fun w => Any.strings_Index_one L ⟨s.toArray⟩ c w
theorem indexl_F {P : Program} {ρ : Ren} (L : Lays.n219 P ρ) (hB : Bodied P (ρ.f 219)) (s : List UInt8) (c : UInt8) : Fun P (ρ.f 219) [.lit (str s), .lit (str [c])] (Ret (.lit (.int .i64 (Go.Lib.indexByte s c))) []) :=
  fun_of_same (args := [str s, str [c]]) hB fun w => Any.stringslite_Index_one L ⟨s.toArray⟩ c w
theorem count1_F {P : Program} {ρ : Ren} (L : Lays.n138 P ρ) (hB : Bodied P (ρ.f 138)) (s : List UInt8) (c : UInt8) : Fun P (ρ.f 138) [.lit (str s), .lit (str [c])] (Ret (.lit (.int .i64 ((Go.Lib.countByte s c : Nat) : Int))) []) :=
  fun_of_same (args := [str s, str [c]]) hB fun w => Any.strings_Count_one L ⟨s.toArray⟩ c w
theorem bytes_extract (l : List UInt8) (a b : Nat) : (⟨l.toArray⟩ : ByteArray).extract a b = ⟨((l.take b).drop a).toArray⟩ := by
  apply ByteArray.ext
  simp [ByteArray.data_extract, List.extract_eq_take_drop, List.drop_take]
section rules
variable {P : Program} {s : List (Nat × AV)} {b : List (Nat × Obj)} {n t e id : Nat} {x y z : Operand} {k k' : IntKind} {i j : Int} {l : List UInt8}
theorem q.slhi {st : Nat} (he : elemOfSlice P st = none) (hu : P.underlying st = some .string) (hx : opv s x = some (.lit (str l)) := by exact rfl) (hy : opv s y = some (.lit (.int k i)) := by exact rfl) (h0 : 0 ≤ i := by first | omega | assumption) (h1 : i ≤ l.length := by first | omega | assumption) :
    stepQ P ⟨s, b, n, t, e⟩ id (.slice st x none (some y) none) = some (.lit (str (l.take i.toNat)), []) := by
  have ha : pureOn P (asIntOf (.int k i)) = some (k, i) := rfl
  have : sliceV P st (str l) none (some (.int k i)) = some (str (l.take i.toNat)) := by
    simp only [sliceV, Instr.sliceAt, Instr.slice, str, pureOn_bind, pureOn_underlying hu, Option.bind_some, Instr.sliceBounds, Instr.sliceBound, ha, bytes_size, h0, h1, and_self, if_true, pureOn_pure, Option.isSome_none, Bool.false_eq_true, if_false, bytes_extract, List.drop_zero]
  simp only [stepQ, he, opv_ev hx, opv_ev hy, toVal, optVal, Option.map_some, this, lits]
theorem q.sllo {st : Nat} (he : elemOfSlice P st = none) (hu : P.underlying st = some .string) (hx : opv s x = some (.lit (str l)) := by exact rfl) (hy : opv s y = some (.lit (.int k i)) := by exact rfl) (h0 : 0 ≤ i := by first | omega | assumption) (h1 : i ≤ l.length := by first | omega | assumption) :
    stepQ P ⟨s, b, n, t, e⟩ id (.slice st x (some y) none none) = some (.lit (str (l.drop i.toNat)), []) := by
  have ha : pureOn P (asIntOf (.int k i)) = some (k, i) := rfl
  have : sliceV P st (str l) (some (.int k i)) none = some (str (l.drop i.toNat)) := by
    simp only [sliceV, Instr.sliceAt, Instr.slice, str, pureOn_bind, pureOn_underlying hu, Option.bind_some, Instr.sliceBounds, Instr.sliceBound, ha, bytes_size, h0, h1, and_self, if_true, pureOn_pure, Option.isSome_none, Bool.false_eq_true, if_false, bytes_extract, List.take_length]
  simp only [stepQ, he, opv_ev hx, opv_ev hy, toVal, optVal, Option.map_some, this, lits]
theorem q.slbo {st : Nat} (he : elemOfSlice P st = none) (hu : P.underlying st = some .string) (hx : opv s x = some (.lit (str l)) := by exact rfl) (hy : opv s y = some (.lit (.int k i)) := by exact rfl) (hz : opv s z = some (.lit (.int k' j)) := by exact rfl) (h0 : 0 ≤ i := by first | omega | assumption) (h1 : i ≤ j := by first | omega | assumption) (h2 : j ≤ l.length := by first | omega | assumption) :
    stepQ P ⟨s, b, n, t, e⟩ id (.slice st x (some y) (some z) none) = some (.lit (str ((l.take j.toNat).drop i.toNat)), []) := by
  have ha : pureOn P (asIntOf (.int k i)) = some (k, i) := rfl
  have hb : pureOn P (asIntOf (.int k' j)) = some (k', j) := rfl
  have h3 : 0 ≤ j := by omega
  have h4 : i ≤ (j.toNat : Int) := by omega
  have : sliceV P st (str l) (some (.int k i)) (some (.int k' j)) = some (str ((l.take j.toNat).drop i.toNat)) := by
    simp only [sliceV, Instr.sliceAt, Instr.slice, str, pureOn_bind, pureOn_underlying hu, Option.bind_some, Instr.sliceBounds, Instr.sliceBound, ha, hb, bytes_size, h0, h2, h3, h4, and_self, if_true, pureOn_pure, Option.isSome_none, Bool.false_eq_true, if_false, bytes_extract]
  simp only [stepQ, he, opv_ev hx, opv_ev hy, opv_ev hz, toVal, optVal, Option.map_some, this, lits]
end rules
end Go.AM
