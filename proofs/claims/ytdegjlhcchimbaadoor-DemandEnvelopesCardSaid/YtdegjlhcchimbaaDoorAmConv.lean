/-
  The abstract machine, continued: strings.Trim at a set of ASCII bytes, strconv.Atoi at a short numeral, by the kit's contracts.
  Conditions: none; generic over the program.
-/
import Derived.Test.YtdegjlhcchimbaaDoorAmStrs
import Derived.Shelf.Strings.SlTrimAscii
import Derived.Shelf.Strconv.Atoi
import Derived.Lib.AtoiErrMem
namespace Go.AM
open Go.Proofs Go.Lib Go.Sort Go.Shelf
set_option linter.unusedVariables false
set_option linter.unusedSimpArgs false
set_option linter.unusedSectionVars false
/-- A call that lays new rows alone. -/
theorem fun_of_new {P : Program} {f : FuncId} {args : List Value} {y : Value} {v : AV} (hB : Bodied P f) (hv : ∀ E, FV E v y) (h : ∀ w, Calls P f args.toArray w fun e w' => e = .returned y ∧ Go.RowKit.Below w.heap.size w w' ∧ w.drawn ≤ w'.drawn) : Fun P f (args.map .lit) (Ret v []) := by
  refine ⟨hB, fun E xs hx hS hG => ?_⟩
  have hxs : xs = args := by
    clear h hS hG
    induction args generalizing xs with
    | nil => simpa [FVs] using hx
    | cons a args ih =>
      simp only [List.map_cons, FVs, FV] at hx
      obtain ⟨y1, ys, rfl, rfl, h2⟩ := hx
      rw [ih ys h2]
  subst hxs
  refine (h E.w).mono ?_
  rintro e w' ⟨rfl, hb, hd⟩
  refine ⟨_, _, _, { E.clear with w := w' }, fun _ => [], rfl, rfl, ⟨rfl, rfl⟩, ?_⟩
  refine ⟨⟨hb.os, ⟨hb.tape, hd⟩, hb.output, hb.size, fun b hbb _ => hb.block b hbb⟩, ⟨fun b hbb => ⟨hbb, hb.block b (hS b hbb)⟩, fun r hr => hr.elim⟩, fun r hr => .inl hr, fun b hb => .inl hb, ?_, ?_, hv _⟩
  · intro r o hr; simp [find] at hr
  · intro r r' o o' b hr; simp [find] at hr
/-- strings.Trim at a set of two ASCII bytes or more. -/
theorem trim_F {P : Program} {ρ : Ren} (L : Lays.n160 P ρ) (hB : Bodied P (ρ.f 160)) (hv116 : ∀ w, (zeroValue (ρ.t 116)).run P w = .ok (.agg (Array.replicate 256 (.bool false))) w) (hi116 : (P.info? (ρ.t 116)).map (·.size) = some 256) (s cs : List UInt8) (h2 : 2 ≤ cs.length) (h0 : 0 < s.length) (hs : s.length ≤ 1000000000) (hc : cs.length ≤ 1000) (ha : (cs.all fun b => decide (b.toNat < 128)) = true) :
    Fun P (ρ.f 160) [.lit (str s), .lit (str cs)] (Ret (.lit (str (trimS s cs))) []) := by
  refine fun_of_new (args := [str s, str cs]) (y := str (trimS s cs)) hB (fun E => by simp [FV]) fun w => ?_
  have e1 : ∀ l : List UInt8, (⟨l.toArray⟩ : ByteArray).size = l.length := fun l => rfl
  refine (Any.strings_Trim_set L hv116 hi116 ⟨s.toArray⟩ ⟨cs.toArray⟩ w (by rw [e1]; exact h2) (by rw [e1]; exact h0) (by rw [e1]; omega) (by rw [e1]; omega) (fun j b hb => by
    have := List.all_eq_true.1 ha b (List.mem_of_getElem? hb)
    simpa using this)).mono ?_
  rintro e w' ⟨rfl, q, rfl⟩
  refine ⟨rfl, ⟨rfl, rfl, rfl, ?_, fun k hk => ?_⟩, Nat.le_add_right _ _⟩
  · show w.heap.size ≤ ((w.heap.push _).push _).size
    simp only [Array.size_push]
    omega
  · show ((w.heap.push _).push _)[k]? = w.heap[k]?
    rw [Array.getElem?_push, if_neg (by simp only [Array.size_push]; omega), Array.getElem?_push, if_neg (by omega)]
/-- strconv.Atoi at a short numeral. -/
theorem atoi_F {P : Program} {ρ : Ren} (L : Lays.n172 P ρ) (hB : Bodied P (ρ.f 172)) (s : List UInt8) (n : Int) (hl : s.length ≤ 18) (h : Lib.atoi s = some n) : Fun P (ρ.f 172) [.lit (str s)] (Ret (.tup [.lit (.int .i64 n), .lit .nilIface]) []) := by
  refine fun_of_new (args := [str s]) (y := .tuple #[.int .i64 n, .nilIface]) hB (fun E => by simp [FV, FVs]) fun w => ?_
  refine (Any.strconv_Atoi L ⟨s.toArray⟩ n hl h w).mono ?_
  rintro e w' ⟨rfl, t, rfl⟩
  exact ⟨rfl, bytesWorld_below w _ t, Nat.le_succ _⟩
section
variable {P : Program} {s : List (Nat × AV)} {b : List (Nat × Obj)} {n t e : Nat}
/-- What stands behind the first i elements of a row of the call's own, as a value. -/
theorem Wk.frzo {T : Type} {f : T → List AV} (l : List T) (d i : Nat) (b' : List (Nat × Obj)) {slc : Bool} {r el c m : Nat} (hs : find s d = some (.als r i m) := by exact rfl) (ho : find b r = some ⟨slc, el, c, l.map f, true⟩ := by exact rfl) (hm : i + m = l.length := by omega) (hk : Nat.ble e r = true := by exact rfl) (hb : del b r = b' := by exact rfl) :
    Wk ⟨s, b, n, t, e⟩ ⟨(d, .sh c ((l.drop i).map f)) :: s, b', n, t, e⟩ := by
  subst hb
  have := Wk.freeze (σ := ⟨s, b, n, t, e⟩) d (r := r) (lo := i) (n := m) (by simp [St.get, hs]) ho rfl (by simp only [List.length_map]; omega) (Nat.le_of_ble_eq_true hk)
  rw [List.take_of_length_le (by simp only [List.length_drop, List.length_map]; omega), ← List.map_drop] at this
  exact this
/-- A nil interface value against the literal nil. -/
theorem q.ifn {ty d id : Nat} {x : Operand} {ms : _} (hu : P.underlying ty = some (.interface ms)) (hx : opv s x = some (.lit .nilIface) := by exact rfl) : stepQ P ⟨s, b, n, t, e⟩ id (.binOp .eql ty x (.const .nilIface) d) = some (.lit (.bool true), []) := by
  have h1 := pureOn_underlying hu
  have h2 : pureOn P (Op.equal ty .nilIface .nilIface) = some true := by
    rw [show Op.equal ty .nilIface .nilIface = Op.equalIn (9999 + 1) ty .nilIface .nilIface from rfl, Op.equalIn]
    simp only [pureOn_bind, h1, Option.bind_some]
    rfl
  have h3 : bin P .eql ty x (.const .nilIface) .nilIface .nilIface = some (.bool true) := by
    simp [bin, eqGuard, binOp, pureOn_bind, pureOn_pure, h2, -bind_pure_comp]
  have hy : opv s (.const .nilIface) = some (.lit .nilIface) := rfl
  simp only [stepQ, opv_ev hx, opv_ev hy, toVal, h3]
  rfl
end
end Go.AM
