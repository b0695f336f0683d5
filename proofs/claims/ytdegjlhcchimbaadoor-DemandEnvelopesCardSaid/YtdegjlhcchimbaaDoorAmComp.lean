/-
  The abstract machine, continued: a function that is handed a row, changes it in place and hands back its first elements; slices.Compact at ints; the first elements of a row as a value; string(rune).
  Conditions: none; generic over the program.
-/
import Derived.Test.YtdegjlhcchimbaaDoorAmSortI
import Derived.Test.YtdegjlhcchimbaaDoorAmConv
import Derived.Shelf.Slices.CompactI
namespace Go.AM
open Go.Proofs Go.Lib Go.Sort Go.Shelf
set_option linter.unusedVariables false
set_option linter.unusedSimpArgs false
set_option linter.unusedSectionVars false
theorem relS {C : Ctx} {E : Env} {X : Nat → List Value} {objs : List (Nat × Obj)} {n k : Nat} {v : AV} {y : Value} (h : Rel C E X ⟨[(0, .tup [])], objs, n, 1, k⟩ { tmps := #[.tuple #[]], defers := [] }) (hv : FV E v y) : Rel C E X ⟨[(0, v)], objs, n, 1, k⟩ { tmps := #[y], defers := [] } := by
  refine ⟨fun s u hs => ?_, rfl, rfl, h.objs, h.apart, h.stay, h.fresh, h.kept, h.mine, h.env, h.envD, h.base, h.grow, h.envk, h.glob⟩
  rw [find_cons] at hs
  split at hs
  · rename_i e
    subst e
    simp only [Option.some.injEq] at hs
    subst hs
    simpa using hv
  · simp [find] at hs
/-- A function that is handed one slice and values, puts other elements in their places, and hands back the first ones. -/
theorem inplaceS_X {α : Type} {f : α → List AV} {enc : α → List Value} {k : Nat} [Inhabited α] {P : Program} {g : FuncId} {el : Nat} {l : List α} {more : List AV} {Φ : List α → Prop} {K : List α → Nat} (hB : Bodied P g) (he : EncL f enc k) (h0 : 0 < k) (hΦ : ∀ l', Φ l' → l'.length = l.length) (hK : ∀ l', Φ l' → K l' ≤ l.length) (hc : closedL more = true)
    (hnil : l = [] → Φ []) (hnilr : l = [] → ∀ (E : Env) (ms : List Value), FVs E.clear more ms → Calls P g (.slice none 0 0 :: ms).toArray E.w fun e w' => e = .returned (.slice none 0 0) ∧ w' = E.w)
    (h : ∀ (E : Env) (b cap : Nat) (ms : List Value), FVs E.clear more ms → HoldsK enc k E.w b 0 l.toArray → b < E.w.heap.size → l.length ≤ cap →
      Calls P g (.slice (some ⟨b, 0, none⟩) l.length cap :: ms).toArray E.w fun e w' => ∃ (l' : List α) (n : Nat) (os : Array Go.Obj), e = .returned (.slice (some ⟨b, 0, none⟩) (K l') cap) ∧ Φ l' ∧ w' = grow (putRowK enc k (Sort.ahead E.w n) b 0 l'.toArray) os) :
    FunR P g (.als 0 0 l.length :: more) [(0, ⟨true, el, k, l.map f, true⟩)] 1 (fun v objs => ∃ l', Φ l' ∧ v = .als 0 0 (K l') ∧ objs = [(0, ⟨true, el, k, l'.map f, true⟩)]) := by
  refine ⟨hB, fun E X xs hE hx => ?_⟩
  have hf0 : find [(0, (⟨true, el, k, l.map f, true⟩ : Obj))] 0 = some ⟨true, el, k, l.map f, true⟩ := by simp [find_cons]
  obtain ⟨hD0, hZ, hok, hrow⟩ := hE.objs 0 _ hf0
  have hrel := rel0 hE
  simp only [FVs] at hx
  obtain ⟨y, ms, rfl, hy, hms⟩ := hx
  have hms' := FVs.closed hc hms
  simp only [FV] at hy
  obtain ⟨hD, A0, n0, c0, A, c, hH, rfl, hnc, hA, _⟩ := hy
  obtain ⟨rfl, rfl⟩ := hA rfl
  simp only [ObjOK] at hok
  rcases hok with ⟨hd, hr, hxs⟩ | ⟨b, cap, cur, hd, hg, hcap, hmax, hcs, htk⟩ | ⟨b, es, clk, hd, _⟩
  rotate_right
  · rw [hH] at hd; cases hd
  · have hd' := hd
    rw [hH] at hd
    simp only [Value.slice.injEq] at hd
    obtain ⟨rfl, _, rfl⟩ := hd
    have hl : l = [] := by simpa using hr
    subst hl
    have hK0 : K [] = 0 := by have := hK [] (hnil rfl); simpa using this
    refine (hnilr rfl E ms hms').mono ?_
    rintro e w' ⟨rfl, rfl⟩
    refine ⟨_, .als 0 0 (K []), _, E, X, 1, rfl, rfl, ⟨[], hnil rfl, rfl, rfl⟩, fun r hr => .inl ((hE.dom r).1 hr), relS hrel ?_⟩
    simp only [FV]
    exact ⟨hD, _, _, _, _, _, hd', by rw [hK0], by omega, fun _ => ⟨rfl, rfl⟩, fun hp => by omega⟩
  · have hd' := hd
    rw [hH] at hd
    simp only [Value.slice.injEq] at hd
    obtain ⟨rfl, _, rfl⟩ := hd
    have hcells := he.cells hrow
    have hblt : b < E.w.heap.size := (Array.getElem?_eq_some_iff.1 hg).1
    simp only [List.length_map] at htk hcap hcs
    refine (h E b _ ms hms' (he.holds h0 hg (by rw [htk, hcells])) hblt hcap).mono ?_
    rintro e w' ⟨l', n, os, rfl, hΦ', rfl⟩
    have hll := hΦ l' hΦ'
    have hkl := hK l' hΦ'
    generalize hF : flatK enc k l'.toArray = F
    have hFs : F.size = l.length * k := by rw [← hF, size_flatK]; simp [hll]
    have hFl : F.toList = (l'.map enc).flatten := by rw [← hF]; exact flat_list _ k he.len h0 _ l' rfl
    have hFc : F.size ≤ cur.size := by rw [hFs, hcs]; exact Nat.mul_le_mul_right _ hcap
    obtain ⟨t1, t2⟩ := take_put F cur hFc
    have hw : putRowK enc k (Sort.ahead E.w n) b 0 l'.toArray = mapBlock (Sort.ahead E.w n) b (putCells id 0 F) := by rw [← hF]; rfl
    have hb : blockOf (E.H 0) = some b := by rw [hd']; rfl
    have hbl : ∀ k, (mapBlock (Sort.ahead E.w n) b (putCells id 0 F)).heap[k]? = if b = k then (E.w.heap[k]?).map (onCells (putCells id 0 F)) else E.w.heap[k]? := fun k => by
      simp only [mapBlock, Sort.ahead, Array.getElem?_modify]
    rw [hw]
    obtain ⟨g1, g2⟩ := hrel.update (r := 0) (o := ⟨true, el, k, l.map f, true⟩) (o' := ⟨true, el, k, l'.map f, true⟩) (b := b) (w' := mapBlock (Sort.ahead E.w n) b (putCells id 0 F)) (xs' := (l'.map enc).flatten) hf0 hb rfl ⟨rfl, Nat.le_add_right _ _⟩ rfl (by simp [mapBlock, Sort.ahead])
      (fun k hk => by rw [hbl, if_neg (fun e => hk e.symm)]) rfl
      (by
        simp only [ObjOK]
        refine .inr (.inl ⟨b, _, putCells id 0 F cur, by rw [hd']; simp [hll], by rw [hbl, if_pos rfl, hg]; rfl, by simpa [hll] using hcap, hmax, by rw [t1, hcs], ?_⟩)
        rw [List.length_map, hll, ← hFs, t2, hFl])
      (he.rows _ _)
    have e1 : del [(0, (⟨true, el, k, l.map f, true⟩ : Obj))] 0 = [] := by simp [del_cons, del_nil]
    simp only [e1] at g1
    refine ⟨_, .als 0 0 (K l'), _, { E with w := Go.Sort.grow (mapBlock (Sort.ahead E.w n) b (putCells id 0 F)) os }, _, 1, rfl, rfl, ⟨l', hΦ', rfl, rfl⟩, fun r hr => .inl ((hE.dom r).1 hr), relS (g1.grown os) ?_⟩
    simp only [FV]
    exact ⟨hD, _, _, _, _, _, hd', rfl, by omega, fun _ => ⟨rfl, rfl⟩, fun _ => ⟨_, rfl, rfl, by simp [Addr.add]⟩⟩
/-- slices.Compact at ints: the first elements, and zeros behind them. -/
def cmpR (l : List Int) : List Int := Lib.compact l ++ List.replicate (l.length - (Lib.compact l).length) 0
theorem compact_len (l : List Int) : (Lib.compact l).length ≤ l.length := by
  have key : ∀ m, (Lib.compactUpTo l.toArray m).length ≤ m := by
    intro m
    induction m with
    | zero => simp [Lib.compactUpTo]
    | succ m ih =>
      rw [Lib.compactUpTo_succ, List.length_append]
      split <;> simp <;> omega
  exact key l.length
theorem compactI_R {P : Program} {ρ : Ren} (L : Lays2.n20 P ρ) (hB : Bodied P (ρ.f 20)) {el : Nat} (l : List Int) (hn : l.length ≤ 1000000) :
    FunR P (ρ.f 20) [.als 0 0 l.length] [(0, ⟨true, el, 1, l.map fun x => [.lit (.int .i64 x)], true⟩)] 1 (fun v objs => ∃ l' : List Int, l' = cmpR l ∧ v = .als 0 0 (Lib.compact l).length ∧ objs = [(0, ⟨true, el, 1, l'.map fun x => [.lit (.int .i64 x)], true⟩)]) := by
  have hcl := compact_len l
  refine inplaceS_X (more := []) (Φ := fun l' : List Int => l' = cmpR l) (K := fun _ => (Lib.compact l).length) hB encI_L (by decide) (fun l' h => by rw [h, cmpR]; simp; omega) (fun _ _ => hcl) rfl (fun e => by rw [e]; rfl) ?_ ?_
  · intro hl E ms hms
    simp only [FVs] at hms
    subst hms
    exact Any.slices_Compact_int_empty L none 0 E.w
  · intro E b cap ms hms hH hb hcap
    simp only [FVs] at hms
    subst hms
    refine (Any.slices_Compact_int L b 0 cap l E.w (holds1 hH) (by omega) hcap).mono ?_
    rintro e w' ⟨rfl, n, rfl⟩
    refine ⟨_, n, #[], rfl, rfl, ?_⟩
    rw [grow_empty, cmpR, putRow1]
section
variable {P : Program} {s : List (Nat × AV)} {b : List (Nat × Obj)} {n t e : Nat}
/-- The first elements of a row of the call's own, as a value. -/
theorem Wk.frzp {T : Type} {f : T → List AV} (l : List T) (d : Nat) (b' : List (Nat × Obj)) {slc : Bool} {r el c m : Nat} (hs : find s d = some (.als r 0 m) := by exact rfl) (ho : find b r = some ⟨slc, el, c, l.map f, true⟩ := by exact rfl) (hm : m ≤ l.length := by omega) (hk : Nat.ble e r = true := by exact rfl) (hb : del b r = b' := by exact rfl) :
    Wk ⟨s, b, n, t, e⟩ ⟨(d, .sh c ((l.take m).map f)) :: s, b', n, t, e⟩ := by
  subst hb
  have := Wk.freeze (σ := ⟨s, b, n, t, e⟩) d (r := r) (lo := 0) (n := m) (by simp [St.get, hs]) ho rfl (by simp only [List.length_map]; omega) (Nat.le_of_ble_eq_true hk)
  rw [List.drop_zero, ← List.map_take] at this
  exact this
/-- A rune below 128 as a string. -/
theorem q.rstr {sd dd id : Nat} {x : Operand} {k : IntKind} {i : Int} (hd : P.underlying dd = some .string) (hs : (P.underlying sd).isSome = true) (hx : opv s x = some (.lit (.int k i)) := by exact rfl) (h1 : 0 ≤ i := by first | omega | assumption) (h2 : i < 128 := by first | omega | assumption) :
    stepQ P ⟨s, b, n, t, e⟩ id (.convert sd dd x) = some (.lit (str [UInt8.ofNat i.toNat]), []) := by
  obtain ⟨u, hu⟩ := Option.isSome_iff_exists.1 hs
  have g1 := pureOn_underlying hu
  have g2 := pureOn_underlying hd
  have e1 : Utf8.encode i = ⟨[UInt8.ofNat i.toNat].toArray⟩ := by
    have hv : Utf8.valid i = true := by
      simp only [Utf8.valid, Bool.or_eq_true, Bool.and_eq_true, decide_eq_true_eq]
      exact .inl ⟨h1, by omega⟩
    have hlt : i.toNat < 0x80 := by omega
    simp only [Utf8.encode, hv, if_true, if_pos hlt]
  have g3 : conv P sd dd (.int k i) = some (str [UInt8.ofNat i.toNat]) := by
    simp only [conv, convert, pureOn_bind, g1, g2, Option.bind_some]
    cases u <;> simp only [Conv.intToString, pureOn_pure, e1]
  simp only [stepQ, opv_ev hx, toVal, Option.bind_some, g3]
  rfl
end
end Go.AM
namespace Go.AM
set_option linter.unusedVariables false
set_option linter.unusedSimpArgs false
section
variable {P : Program} {s : List (Nat × AV)} {b : List (Nat × Obj)} {n t e : Nat}
theorem q.cv32 {sd dd id : Nat} {x : Operand} {k : IntKind} {i : Int} (hd : P.underlying dd = some (.int .i32)) (hs : (P.underlying sd).isSome = true) (hx : opv s x = some (.lit (.int k i)) := by exact rfl) (h1 : -2147483648 ≤ i := by first | omega | assumption) (h2 : i ≤ 2147483647 := by first | omega | assumption) :
    stepQ P ⟨s, b, n, t, e⟩ id (.convert sd dd x) = some (.lit (.int .i32 i), []) := q_conv hd hs hx (wrap_i32 h1 h2)
end
end Go.AM
namespace Go.AM
set_option linter.unusedVariables false
set_option linter.unusedSimpArgs false
section
variable {P : Program} {s : List (Nat × AV)} {b : List (Nat × Obj)} {n t e : Nat}
theorem tdiv_neg {a b : Int} (h : a < 0) (hb : 0 < b) : a.tdiv b = -(-a / b) := by
  have h1 : a.tdiv b = -((-a).tdiv b) := by rw [Int.neg_tdiv, Int.neg_neg]
  rw [h1, Int.tdiv_eq_ediv_of_nonneg (by omega)]
theorem tmod_neg {a b : Int} (h : a < 0) (hb : 0 < b) : a.tmod b = -(-a % b) := by
  have h1 : a.tmod b = -((-a).tmod b) := by rw [Int.neg_tmod, Int.neg_neg]
  rw [h1, Int.tmod_eq_emod_of_nonneg (by omega)]
theorem q.quoN {id ty d : Nat} {x y : Operand} {i j : Int} (hx : opv s x = some (.lit (.int .i64 i)) := by exact rfl) (hy : opv s y = some (.lit (.int .i64 j)) := by exact rfl) (h1 : i < 0 := by first | omega | assumption) (h2 : -9223372036854775808 ≤ i := by first | omega | assumption) (h3 : 0 < j := by first | omega | assumption) :
    stepQ P ⟨s, b, n, t, e⟩ id (.binOp .quo ty x y d) = some (.lit (.int .i64 (-(-i / j))), []) := by
  have h4 : 0 ≤ -i / j := Int.ediv_nonneg (by omega) (by omega)
  have h5 : -i / j ≤ -i := Int.ediv_le_self _ (by omega)
  simp only [stepQ, opv_ev hx, opv_ev hy, toVal, bin_quo _ _ _ _ _ _ _ (show j ≠ 0 by omega), lits, Option.map_some, tdiv_neg h1 h3, wrap_i64 (show -9223372036854775808 ≤ -(-i / j) by omega) (show -(-i / j) ≤ 9223372036854775807 by omega)]
theorem q.remN {id ty d : Nat} {x y : Operand} {i j : Int} (hx : opv s x = some (.lit (.int .i64 i)) := by exact rfl) (hy : opv s y = some (.lit (.int .i64 j)) := by exact rfl) (h1 : i < 0 := by first | omega | assumption) (h3 : 0 < j := by first | omega | assumption) :
    stepQ P ⟨s, b, n, t, e⟩ id (.binOp .rem ty x y d) = some (.lit (.int .i64 (-(-i % j))), []) := by
  simp only [stepQ, opv_ev hx, opv_ev hy, toVal, bin_rem _ _ _ _ _ _ _ (show j ≠ 0 by omega), lits, Option.map_some, tmod_neg h1 h3]
end
end Go.AM
