/-
  The abstract machine, continued: strconv.Atoi at every string, its error told up to a choice.
  Conditions: the sentinels ErrSyntax and ErrRange are listed; generic over the program.
-/
import Derived.Test.YtnbjmckhongidaaGreatDoorAmConv
import Derived.Test.YtnbjmckhongidaaGreatDoorAmMono
import Derived.Shelf.Strconv.AtoiAll
namespace Go.AM
open Go.Proofs Go.Lib Go.Sort Go.Shelf
set_option linter.unusedVariables false
set_option linter.unusedSimpArgs false
set_option linter.unusedSectionVars false
/-- A call that lays new rows alone, its value told up to a choice. -/
theorem fun_of_newx {ι : Type} {Φ : ι → Prop} {vf : ι → AV} {yf : ι → Value} {P : Program} {f : FuncId} {args : List Value} (hB : Bodied P f) (hv : ∀ E i, FV E (vf i) (yf i)) (h : ∀ w S, LaidOK w S → Calls P f args.toArray w fun e w' => (∃ i, Φ i ∧ e = .returned (yf i)) ∧ Go.RowKit.Below w.heap.size w w') : Fun P f (args.map .lit) (fun v l => ∃ i, Φ i ∧ v = vf i ∧ l = []) := by
  refine ⟨hB, fun E xs hx hS hG => ?_⟩
  have hxs : xs = args := by
    clear h hS hG
    induction args generalizing xs with
    | nil => simpa [FVs] using hx
    | cons a args ih =>
      simp only [List.map_cons, FVs, FV] at hx
      obtain ⟨y1, ys, rfl, rfl, h2⟩ := hx
      rw [ih ys h2]
  subst hxs
  refine (Calls.drawn (h E.w E.S hG)).mono ?_
  rintro e w' ⟨⟨⟨i, hi, rfl⟩, hb⟩, hd⟩
  refine ⟨_, _, _, { E.clear with w := w' }, fun _ => [], rfl, rfl, ⟨i, hi, rfl, rfl⟩, ?_⟩
  refine ⟨⟨hb.os, ⟨hb.tape, hd _ rfl⟩, hb.output, hb.size, fun b hbb _ => hb.block b hbb⟩, ⟨fun b hbb => ⟨hbb, hb.block b (hS b hbb)⟩, fun r hr => hr.elim⟩, fun r hr => .inl hr, fun b hb => .inl hb, ?_, ?_, hv _ i⟩
  · intro r o hr; simp [find] at hr
  · intro r r' o o' b hr; simp [find] at hr
/-- The number that strconv.Atoi hands back. -/
def atoiV (s : List UInt8) : Int := match Lib.atoiAll s with
  | .ok v => v
  | .«syntax» => 0
  | .range => Lib.atoiSat s
theorem atoi_ok {P : Program} {ρ : Ren} (L : LaysC.n172 P ρ) (hB : Bodied P (ρ.f 172)) {s : List UInt8} {n : Int} (hl : s.length ≤ 1000000000) (h : Lib.atoiAll s = .ok n) : Fun P (ρ.f 172) [.lit (str s)] (Ret (.tup [.lit (.int .i64 n), .lit .nilIface]) []) := by
  refine fun_of_new (args := [str s]) (y := .tuple #[.int .i64 n, .nilIface]) hB (fun E => by simp [FV, FVs]) fun w => ?_
  have e1 : (⟨s.toArray⟩ : ByteArray).size = s.length := rfl
  refine (Any.strconv_Atoi_ok L ⟨s.toArray⟩ (by rw [e1]; omega) n h w).mono ?_
  rintro e w' ⟨rfl, rfl | ⟨t, rfl⟩⟩
  · exact ⟨rfl, ⟨rfl, rfl, rfl, Nat.le_refl _, fun k hk => rfl⟩, Nat.le_refl _⟩
  · exact ⟨rfl, bytesWorld_below w _ t, Nat.le_succ _⟩
theorem laid_cell {w : World} {S : Nat → Prop} (h : LaidOK w S) {g : Nat} (hg : g ∈ laidE) : ∃ te pe, w.cell? ⟨g, 0, none⟩ = some (.iface te pe) := by
  obtain ⟨_, t, fz, te, pe, e⟩ := h.2 g hg
  exact ⟨te, pe, by simp [World.cell?, e]⟩
theorem atoi_bad {P : Program} {ρ : Ren} (L : LaysC.n172 P ρ) (hB : Bodied P (ρ.f 172)) (h15 : ρ.g 15 ∈ laidE) (h16 : ρ.g 16 ∈ laidE) {s : List UInt8} (hl : s.length ≤ 1000000000) (h : ∀ v, Lib.atoiAll s ≠ .ok v) :
    Fun P (ρ.f 172) [.lit (str s)] (fun v l => ∃ N : Nat, True ∧ v = .tup [.lit (.int .i64 (atoiV s)), .lit (.iface (ρ.t 168) (.pointer (some ⟨N, 0, none⟩)))] ∧ l = []) := by
  refine fun_of_newx (args := [str s]) (yf := fun N => .tuple #[.int .i64 (atoiV s), .iface (ρ.t 168) (.pointer (some ⟨N, 0, none⟩))]) hB (fun E i => by simp [FV, FVs]) fun w S hG => ?_
  have e1 : (⟨s.toArray⟩ : ByteArray).size = s.length := rfl
  cases hs : Lib.atoiAll s with
  | ok v => exact absurd hs (h v)
  | «syntax» =>
    obtain ⟨te, pe, hc⟩ := laid_cell hG h15
    refine (Any.strconv_Atoi_syntax L ⟨s.toArray⟩ (by rw [e1]; omega) hs _ w hc (.inr ⟨_, _, rfl⟩)).mono ?_
    rintro e w' ⟨N, rfl, _, _, hb⟩
    refine ⟨⟨N, trivial, ?_⟩, hb⟩
    rw [show atoiV s = 0 by rw [atoiV, hs]]
  | range =>
    obtain ⟨te, pe, hc⟩ := laid_cell hG h16
    refine (Any.strconv_Atoi_range L ⟨s.toArray⟩ (by rw [e1]; omega) hs _ w hc (.inr ⟨_, _, rfl⟩)).mono ?_
    rintro e w' ⟨N, rfl, _, _, hb⟩
    refine ⟨⟨N, trivial, ?_⟩, hb⟩
    rw [show atoiV s = Lib.atoiSat s by rw [atoiV, hs]]
section rules
variable {P : Program} {s : List (Nat × AV)} {b : List (Nat × Obj)} {n t e : Nat} {ops : Array Oper} {rest : List Oper} {Q : St → Prop} {d ty : Nat} {pos' : String} {aft : Array Edge} {g : Option (Nat × Bool)} {x : Operand}
/-- An interface value that is not nil against the literal nil. -/
theorem q.ifi {ty d id u : Nat} {p : Value} {x : Operand} {ms : _} (hu : P.underlying ty = some (.interface ms)) (hx : opv s x = some (.lit (.iface u p)) := by exact rfl) : stepQ P ⟨s, b, n, t, e⟩ id (.binOp .eql ty x (.const .nilIface) d) = some (.lit (.bool false), []) := by
  have h1 := pureOn_underlying hu
  have h2 : pureOn P (Op.equal ty (.iface u p) .nilIface) = some false := by
    rw [show Op.equal ty (.iface u p) .nilIface = Op.equalIn (9999 + 1) ty (.iface u p) .nilIface from rfl, Op.equalIn]
    simp only [pureOn_bind, h1, Option.bind_some]
    rfl
  have h3 : bin P .eql ty x (.const .nilIface) (.iface u p) .nilIface = some (.bool false) := by
    simp [bin, eqGuard, binOp, pureOn_bind, pureOn_pure, h2, -bind_pure_comp]
  have hy : opv s (.const .nilIface) = some (.lit .nilIface) := rfl
  simp only [stepQ, opv_ev hx, opv_ev hy, toVal, h3]
  rfl
/-- A call by values whose value is told up to a choice. -/
theorem S.c0v {ι : Type} {Φ : ι → Prop} {vf vf' : ι → AV} {as_ : Array Operand} {ts : Array TypeId} {f : FuncId} {first caps : List AV} {vs : List AV} (hc : calleeOf (St.ev ⟨s, b, n, t, e⟩ x) = some (f, first, caps) := by exact rfl) (hv : viewL ⟨s, b, n, t, e⟩ (first ++ (as_.toList.map (St.ev ⟨s, b, n, t, e⟩) ++ caps)) = some vs := by exact rfl) (hF : Fun P f vs (fun v l => ∃ i, Φ i ∧ v = vf i ∧ l = []))
    (hm : closedL (first ++ (as_.toList.map (St.ev ⟨s, b, n, t, e⟩) ++ caps)) = true := by exact rfl) (hl : ∀ i, liftAV n (vf i) = some (vf' i) := by intro _; exact rfl)
    (hg : guardGo (dstsOf ops) ⟨s, b, n, t, e⟩ g = some true := by exact rfl) (hd : Nat.blt d t = true := by exact rfl) (h : ∀ i, Φ i → SeqL P ops rest ⟨(d, vf' i) :: s, b, n, t, e⟩ Q) :
    SeqL P ops (⟨some d, .call { callee := .value x, args := as_, argTypes := ts }, ty, pos', aft, g⟩ :: rest) ⟨s, b, n, t, e⟩ Q := by
  refine SeqL.call hg rfl hc hv hF (.inl hm) (fun d' h' => by cases h'; exact Nat.le_of_ble_eq_true hd) ?_
  rintro u l ⟨i, hi, rfl, rfl⟩
  exact ⟨vf' i, [], n, hl i, rfl, fun r ob h => by simp [find] at h, Nat.le_refl _, h i hi⟩
end rules
end Go.AM
