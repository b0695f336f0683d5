/-
  Part 19 of the proof: the abstract machine, proved sound over the model.
  Conditions: none.
-/
import Derived.Shelf.Strings.SlTrimAscii
import Derived.Shelf.Strconv.Atoi
import Derived.Lib.AtoiErrMem
import Derived.Test.YtlpgjlnkfgacbaaGreatX18
set_option linter.unusedVariables false
set_option linter.unusedSimpArgs false
set_option linter.unusedSectionVars false
namespace Go.AM
section
open Go.Proofs Go.Lib Go.Sort Go.Shelf
section
variable {P : Program} {s : List (Nat × AV)} {b : List (Nat × Obj)} {n t e : Nat}
end
end
section
open Go.Proofs Go.Lib Go.Sort Go.Shelf
theorem relS {C : Ctx} {E : Env} {X : Nat → List Value} {objs : List (Nat × Obj)} {n k : Nat} {v : AV} {y : Value} (h : Rel C E X ⟨[(0, .tup [])], objs, n, 1, k⟩ { tmps := #[.tuple #[]], defers := [] }) (hv : FV E v y) : Rel C E X ⟨[(0, v)], objs, n, 1, k⟩ { tmps := #[y], defers := [] } := by
  refine ⟨fun s u hs => ?_, rfl, h.defers, h.objs, h.apart, h.stay, h.fresh, h.kept, h.mine, h.env, h.envD, h.base, h.grow, h.envk, h.glob⟩; rw [find_cons] at hs
  split at hs
  · rename_i e
    subst e; simp only [Option.some.injEq] at hs; subst hs
    simpa using hv
  · simp [find] at hs
theorem inplaceS_X {α : Type} {f : α → List AV} {enc : α → List Value} {k : Nat} [Inhabited α] {P : Program} {g : FuncId} {el : Nat} {l : List α} {more : List AV} {Φ : List α → Prop} {K : List α → Nat} (hB : Bodied P g) (he : EncL f enc k) (h0 : 0 < k) (hΦ : ∀ l', Φ l' → l'.length = l.length) (hK : ∀ l', Φ l' → K l' ≤ l.length) (hc : closedL more = true)
    (hnil : l = [] → Φ []) (hnilr : l = [] → ∀ (E : Env) (ms : List Value), FVs E.clear more ms → Calls P g (.slice none 0 0 :: ms).toArray E.w fun e w' => e = .returned (.slice none 0 0) ∧ w' = E.w)
    (h : ∀ (E : Env) (b cap : Nat) (ms : List Value), FVs E.clear more ms → HoldsK enc k E.w b 0 l.toArray → b < E.w.heap.size → l.length ≤ cap →
      Calls P g (.slice (some ⟨b, 0, none⟩) l.length cap :: ms).toArray E.w fun e w' => ∃ (l' : List α) (n : Nat) (os : Array Go.Obj), e = .returned (.slice (some ⟨b, 0, none⟩) (K l') cap) ∧ Φ l' ∧ w' = grow (putRowK enc k (Sort.ahead E.w n) b 0 l'.toArray) os) :
    FunR P g (.als 0 0 l.length :: more) [(0, ⟨true, el, k, l.map f, true⟩)] 1 (fun v objs => ∃ l', Φ l' ∧ v = .als 0 0 (K l') ∧ objs = [(0, ⟨true, el, k, l'.map f, true⟩)]) := by
  refine ⟨hB, fun E X xs hE hx => ?_⟩
  have hf0 : find [(0, (⟨true, el, k, l.map f, true⟩ : Obj))] 0 = some ⟨true, el, k, l.map f, true⟩ := by simp [find_cons]
  obtain ⟨hD0, hZ, hok, hrow⟩ := hE.objs 0 _ hf0; have hrel := rel0 hE; simp only [FVs] at hx; obtain ⟨y, ms, rfl, hy, hms⟩ := hx; have hms' := FVs.closed hc hms; simp only [FV] at hy; obtain ⟨hD, A0, n0, c0, A, c, hH, rfl, hnc, hA, _⟩ := hy; obtain ⟨rfl, rfl⟩ := hA rfl; simp only [ObjOK] at hok
  rcases hok with ⟨hd, hr, hxs⟩ | ⟨b, cap, cur, hd, hg, hcap, hmax, hcs, htk⟩ | ⟨b, es, clk, hd, _⟩
  rotate_right
  · rw [hH] at hd; cases hd
  · have hd' := hd; rw [hH] at hd; simp only [Value.slice.injEq] at hd; obtain ⟨rfl, _, rfl⟩ := hd
    have hl : l = [] := by simpa using hr
    subst hl
    have hK0 : K [] = 0 := by have := hK [] (hnil rfl); simpa using this
    refine (hnilr rfl E ms hms').mono ?_; rintro e w' ⟨rfl, rfl⟩; refine ⟨_, .als 0 0 (K []), _, E, X, 1, rfl, rfl, ⟨[], hnil rfl, rfl, rfl⟩, fun r hr => .inl ((hE.dom r).1 hr), relS hrel ?_⟩; simp only [FV]; exact ⟨hD, _, _, _, _, _, hd', by rw [hK0], by omega, fun _ => ⟨rfl, rfl⟩, fun hp => by omega⟩
  · have hd' := hd; rw [hH] at hd; simp only [Value.slice.injEq] at hd; obtain ⟨rfl, _, rfl⟩ := hd; have hcells := he.cells hrow; have hblt : b < E.w.heap.size := (Array.getElem?_eq_some_iff.1 hg).1; simp only [List.length_map] at htk hcap hcs; refine (h E b _ ms hms' (he.holds h0 hg (by rw [htk, hcells])) hblt hcap).mono ?_; rintro e w' ⟨l', n, os, rfl, hΦ', rfl⟩; have hll := hΦ l' hΦ'; have hkl := hK l' hΦ'
    generalize hF : flatK enc k l'.toArray = F
    have hFs : F.size = l.length * k := by rw [← hF, size_flatK]; simp [hll]
    have hFl : F.toList = (l'.map enc).flatten := by rw [← hF]; exact flat_list _ k he.len h0 _ l' rfl
    have hFc : F.size ≤ cur.size := by rw [hFs, hcs]; exact Nat.mul_le_mul_right _ hcap
    obtain ⟨t1, t2⟩ := take_put F cur hFc
    have hw : putRowK enc k (Sort.ahead E.w n) b 0 l'.toArray = mapBlock (Sort.ahead E.w n) b (putCells id 0 F) := by rw [← hF]; rfl
    have hb : blockOf (E.H 0) = some b := by rw [hd']; rfl
    have hbl : ∀ k, (mapBlock (Sort.ahead E.w n) b (putCells id 0 F)).heap[k]? = if b = k then (E.w.heap[k]?).map (onCells (putCells id 0 F)) else E.w.heap[k]? := fun k => by
      simp only [mapBlock, Sort.ahead, Array.getElem?_modify]
    rw [hw]
    obtain ⟨g1, g2⟩ := hrel.update (r := 0) (o := ⟨true, el, k, l.map f, true⟩) (o' := ⟨true, el, k, l'.map f, true⟩) (b := b) (w' := mapBlock (Sort.ahead E.w n) b (putCells id 0 F)) (xs' := (l'.map enc).flatten) hf0 hb rfl ⟨rfl, Nat.le_add_right _ _⟩ rfl (by simp [mapBlock, Sort.ahead])
      (fun k hk => by rw [hbl, if_neg (fun e => hk e.symm)]) rfl
      (by
        simp only [ObjOK]; refine .inr (.inl ⟨b, _, putCells id 0 F cur, by rw [hd']; simp [hll], by rw [hbl, if_pos rfl, hg]; rfl, by simpa [hll] using hcap, hmax, by rw [t1, hcs], ?_⟩)
        rw [List.length_map, hll, ← hFs, t2, hFl])
      (he.rows _ _)
    have e1 : del [(0, (⟨true, el, k, l.map f, true⟩ : Obj))] 0 = [] := by simp [del_cons, del_nil]
    simp only [e1] at g1; refine ⟨_, .als 0 0 (K l'), _, { E with w := Go.Sort.grow (mapBlock (Sort.ahead E.w n) b (putCells id 0 F)) os }, _, 1, rfl, rfl, ⟨l', hΦ', rfl, rfl⟩, fun r hr => .inl ((hE.dom r).1 hr), relS (g1.grown os) ?_⟩; simp only [FV]; exact ⟨hD, _, _, _, _, _, hd', rfl, by omega, fun _ => ⟨rfl, rfl⟩, fun _ => ⟨_, rfl, rfl, by simp [Addr.add]⟩⟩
end
end Go.AM
