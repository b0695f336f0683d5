/-
  Part 16 of the proof: the abstract machine, proved sound over the model.
  Conditions: none.
-/
import Derived.Shelf.SlSortCmp.NoneTotal
import Derived.Test.YtlpgjlnkfgacbaaGreatX15
set_option linter.unusedVariables false
set_option linter.unusedSimpArgs false
set_option linter.unusedSectionVars false
namespace Go.AM
open Go.Proofs Go.Lib Go.Sort
theorem Keep.grown {w w' : World} (h : Keep (fun _ => False) w w') : ∃ q os, w' = grow (w.drewN q) os := by
  refine ⟨w'.drawn - w.drawn, w'.heap.extract w.heap.size w'.heap.size, ?_⟩; obtain ⟨h1, h2, h3, h4, h5⟩ := h
  have hh : w'.heap = w.heap ++ w'.heap.extract w.heap.size w'.heap.size := by
    apply Array.ext_getElem?
    intro i; rw [Array.getElem?_append]
    split
    · rename_i hi; exact h5 i hi (fun h => h)
    · rename_i hi
      rw [Array.getElem?_extract]
      split
      · congr 1; omega
      · rw [Array.getElem?_eq_none]; omega
  have hd : w'.drawn = w.drawn + (w'.drawn - w.drawn) := by have := h2.2; omega
  cases w'
  simp only [grow, World.drewN] at *; simp only [World.mk.injEq]; exact ⟨hh, h2.1, hd, h1, h3⟩
theorem Rel.grown {C : Ctx} {E : Env} {X : Nat → List Value} {σ : St} {a : Act} (h : Rel C E X σ a) (os : Array Go.Obj) : Rel C { E with w := Go.Sort.grow E.w os } X σ a := by
  have hb : ∀ b, b < E.w.heap.size → (Go.Sort.grow E.w os).heap[b]? = E.w.heap[b]? := fun b hb => by
    show (E.w.heap ++ os)[b]? = _
    rw [Array.getElem?_append_left hb]
  have hle : E.le { E with w := Go.Sort.grow E.w os } := ⟨fun b hbS => ⟨hbS, hb b (h.stay b hbS).1⟩, fun r hr => ⟨hr, rfl, rfl⟩⟩
  have hsz : E.w.heap.size ≤ (Go.Sort.grow E.w os).heap.size := by
    show _ ≤ (E.w.heap ++ os).size
    simp
  exact ⟨fun s v hv => FV.le _ hle _ (h.slots s v hv), h.size, h.defers, fun r o hr => ⟨(h.objs r o hr).1, (h.objs r o hr).2.1, (h.objs r o hr).2.2.1.kept (fun b hbk => hb b ((h.objs r o hr).2.2.1.lt hbk)), FVr.le _ _ (hle.by _) _ (h.objs r o hr).2.2.2⟩, h.apart,
    fun b hbS => ⟨Nat.lt_of_lt_of_le (h.stay b hbS).1 hsz, (h.stay b hbS).2⟩, h.fresh, ⟨h.kept.os, h.kept.tape, h.kept.output, Nat.le_trans h.kept.size hsz, fun b hbl hno => (hb b (Nat.lt_of_lt_of_le hbl h.kept.size)).trans (h.kept.block b hbl hno)⟩, h.mine, h.env, h.envD, h.base, h.grow, h.envk, h.glob.le hle⟩
structure EncL {α : Type} (f : α → List AV) (enc : α → List Value) (k : Nat) : Prop where
  lit : ∀ x, f x = (enc x).map .lit
  len : ∀ x, (enc x).length = k
  one : ∀ x, ∀ v ∈ enc x, v.oneCell' = true
section
variable {α : Type} {f : α → List AV} {enc : α → List Value} {k : Nat}
theorem FVc_lit_of {E : Env} : ∀ {vs xs : List Value}, FVc E (vs.map .lit) xs → xs = vs
  | [], xs, h => by simpa [FVc] using h
  | v :: vs, xs, h => by
    simp only [List.map_cons, FVc] at h; obtain ⟨y, ys, rfl, _, h1, h2⟩ := h; simp only [FV] at h1; rw [h1, FVc_lit_of h2]
theorem FVc_of_lit {E : Env} : ∀ {vs : List Value}, (∀ v ∈ vs, v.oneCell' = true) → FVc E (vs.map .lit) vs
  | [], _ => rfl
  | v :: vs, h => by
    simp only [List.map_cons, FVc]; exact ⟨v, vs, rfl, h v (by simp), by simp [FV], FVc_of_lit fun u hu => h u (by simp [hu])⟩
theorem EncL.cells (h : EncL f enc k) {E : Env} : ∀ {l : List α} {xs : List Value}, FVr E k (l.map f) xs → xs = (l.map enc).flatten
  | [], xs, hx => by simpa [FVr] using hx
  | x :: l, xs, hx => by
    simp only [List.map_cons, FVr] at hx; obtain ⟨ys, zs, rfl, _, h1, h2⟩ := hx; rw [h.lit] at h1; rw [FVc_lit_of h1, h.cells h2]
    simp
theorem EncL.rows (h : EncL f enc k) (E : Env) : ∀ l : List α, FVr E k (l.map f) (l.map enc).flatten
  | [] => rfl
  | x :: l => by
    simp only [List.map_cons, FVr, List.flatten_cons]; exact ⟨enc x, _, rfl, by rw [h.lit]; simp [h.len], by rw [h.lit]; exact FVc_of_lit (h.one x), h.rows E l⟩
theorem EncL.holds [Inhabited α] (h : EncL f enc k) (h0 : 0 < k) {w : World} {b el : Nat} {cur : Array Value} {l : List α} (hg : w.heap[b]? = some (.cells cur el (0, 0))) (htk : cur.toList.take (l.length * k) = (l.map enc).flatten) : HoldsK enc k w b 0 l.toArray := by
  intro j hj; have hF := flat_list enc k h.len h0 _ l rfl; rw [size_flatK] at hj
  have hj' : j < (flatK enc k l.toArray).size := by rw [size_flatK]; exact hj
  rw [Nat.zero_add, getElem!_pos _ j hj']; have e1 : (flatK enc k l.toArray)[j]? = some (flatK enc k l.toArray)[j] := Array.getElem?_eq_getElem hj'
  have e2 : cur[j]? = some (flatK enc k l.toArray)[j] := by
    rw [← e1, ← Array.getElem?_toList, ← Array.getElem?_toList, hF, ← htk, List.getElem?_take, if_pos (by simpa using hj)]
  refine ⟨?_, ?_⟩
  · simp [World.cell?, hg, e2]
  · simp [World.frozen?, hg]
theorem inplace_X [Inhabited α] {P : Program} {g : FuncId} {el : Nat} {l : List α} {more : List AV} {Φ : List α → Prop} (hB : Bodied P g) (he : EncL f enc k) (h0 : 0 < k) (hΦ : ∀ l', Φ l' → l'.length = l.length) (hc : closedL more = true)
    (hnil : l = [] → Φ []) (hnilr : l = [] → ∀ (E : Env) (ms : List Value), FVs E.clear more ms → Calls P g (.slice none 0 0 :: ms).toArray E.w fun e w' => e = .returned (.tuple #[]) ∧ w' = E.w)
    (h : ∀ (E : Env) (b cap : Nat) (ms : List Value), FVs E.clear more ms → HoldsK enc k E.w b 0 l.toArray → b < E.w.heap.size → LaidOK E.w E.S → (∀ c, E.S c → c ≠ b ∧ c < E.w.heap.size) →
      Calls P g (.slice (some ⟨b, 0, none⟩) l.length cap :: ms).toArray E.w fun e w' => e = .returned (.tuple #[]) ∧ ∃ (l' : List α) (n : Nat) (os : Array Go.Obj), Φ l' ∧ w' = grow (putRowK enc k (Sort.ahead E.w n) b 0 l'.toArray) os) :
    FunR P g (.als 0 0 l.length :: more) [(0, ⟨true, el, k, l.map f, true⟩)] 1 (fun v objs => ∃ l', Φ l' ∧ v = .tup [] ∧ objs = [(0, ⟨true, el, k, l'.map f, true⟩)]) := by
  refine ⟨hB, fun E X xs hE hx => ?_⟩
  have hf0 : find [(0, (⟨true, el, k, l.map f, true⟩ : Obj))] 0 = some ⟨true, el, k, l.map f, true⟩ := by simp [find_cons]
  obtain ⟨_, hZ, hok, hrow⟩ := hE.objs 0 _ hf0; have hrel := rel0 hE; simp only [FVs] at hx; obtain ⟨y, ms, rfl, hy, hms⟩ := hx; have hms' := FVs.closed hc hms; simp only [FV] at hy; obtain ⟨hD, A0, n0, c0, A, c, hH, rfl, hnc, hA, _⟩ := hy; obtain ⟨rfl, rfl⟩ := hA rfl; simp only [ObjOK] at hok
  rcases hok with ⟨hd, hr, hxs⟩ | ⟨b, cap, cur, hd, hg, hcap, hmax, hcs, htk⟩ | ⟨b, es, clk, hd, _⟩
  rotate_right
  · rw [hH] at hd; cases hd
  · rw [hH] at hd; simp only [Value.slice.injEq] at hd; obtain ⟨rfl, _, rfl⟩ := hd
    have hl : l = [] := by simpa using hr
    subst hl; refine (hnilr rfl E ms hms').mono ?_; rintro e w' ⟨rfl, rfl⟩; exact ⟨_, .tup [], _, E, X, 1, rfl, rfl, ⟨[], hnil rfl, rfl, rfl⟩, fun r hr => .inl ((hE.dom r).1 hr), hrel⟩
  · have hd' := hd; rw [hH] at hd; simp only [Value.slice.injEq] at hd; obtain ⟨rfl, _, rfl⟩ := hd; have hcells := he.cells hrow; have hblt : b < E.w.heap.size := (Array.getElem?_eq_some_iff.1 hg).1; simp only [List.length_map] at htk hcap hcs; refine (h E b _ ms hms' (he.holds h0 hg (by rw [htk, hcells])) hblt hE.glob (fun c hc => ⟨fun e => (hE.stay c hc).2 0 _ hf0 (by rw [hd', e]; rfl), (hE.stay c hc).1⟩)).mono ?_; rintro e w' ⟨rfl, l', n, os, hΦ', rfl⟩; have hll := hΦ l' hΦ'
    generalize hF : flatK enc k l'.toArray = F
    have hFs : F.size = l.length * k := by rw [← hF, size_flatK]; simp [hll]
    have hFl : F.toList = (l'.map enc).flatten := by rw [← hF]; exact flat_list _ k he.len h0 _ l' rfl
    have hFc : F.size ≤ cur.size := by rw [hFs, hcs]; exact Nat.mul_le_mul_right _ hcap
    obtain ⟨t1, t2⟩ := take_put F cur hFc
    have hw : putRowK enc k (Sort.ahead E.w n) b 0 l'.toArray = mapBlock (Sort.ahead E.w n) b (putCells id 0 F) := by rw [← hF]; rfl
    have hb : blockOf (E.H 0) = some b := by rw [hd']; rfl
    have hbl : ∀ k, (mapBlock (Sort.ahead E.w n) b (putCells id 0 F)).heap[k]? = if b = k then (E.w.heap[k]?).map (onCells (putCells id 0 F)) else E.w.heap[k]? := fun k => by
      simp only [mapBlock, Sort.ahead, Array.getElem?_modify]
    rw [hw]
    obtain ⟨g1, g2⟩ := hrel.update (r := 0) (o := ⟨true, el, k, l.map f, true⟩) (o' := ⟨true, el, k, l'.map f, true⟩) (b := b) (w' := mapBlock (Sort.ahead E.w n) b (putCells id 0 F)) (xs' := (l'.map enc).flatten) hf0 hb rfl ⟨rfl, Nat.le_add_right _ _⟩ rfl (by simp [mapBlock, Sort.ahead])
      (fun k hk => by rw [hbl, if_neg (fun e => hk e.symm)]) rfl
      (by
        simp only [ObjOK]; refine .inr (.inl ⟨b, _, putCells id 0 F cur, by rw [hd']; simp [hll], by rw [hbl, if_pos rfl, hg]; rfl, by simpa [hll] using hcap, hmax, by rw [t1, hcs], ?_⟩)
        rw [List.length_map, hll, ← hFs, t2, hFl])
      (he.rows _ _)
    have e1 : del [(0, (⟨true, el, k, l.map f, true⟩ : Obj))] 0 = [] := by simp [del_cons, del_nil]
    simp only [e1] at g1; exact ⟨_, .tup [], _, { E with w := Go.Sort.grow (mapBlock (Sort.ahead E.w n) b (putCells id 0 F)) os }, _, 1, rfl, rfl, ⟨l', hΦ', rfl, rfl⟩, fun r hr => .inl ((hE.dom r).1 hr), g1.grown os⟩
end
end Go.AM
namespace Go.AM
section rules
variable {P : Program} {s : List (Nat × AV)} {b : List (Nat × Obj)} {n t e : Nat} {ops : Array Oper} {rest : List Oper} {Q : St → Prop} {d ty : Nat} {pos' : String} {aft : Array Edge} {g : Option (Nat × Bool)} {x : Operand}
end rules
end Go.AM
namespace Go.AM
section
open Go.Proofs Go.Lib Go.Sort Go.Shelf Go.WideElems Go.WideShapes
section
variable {α : Type} [Inhabited α] {enc : α → Value}
theorem flat1 (enc : α → Value) (d : Array α) : flatK (fun x => [enc x]) 1 d = d.map enc := by
  apply Array.ext
  · simp
  · intro i h1 h2
    have h3 : i < d.size := by simpa using h2
    have h4 := get_flatK (fun x => [enc x]) 1 d i (by simpa using h1); rw [getElem!_pos _ i h1] at h4; rw [h4]
    simp [Nat.mod_one, h3]
theorem putRow1 (enc : α → Value) (w : World) (b off : Nat) (d : Array α) : putRow enc w b off d = putRowK (fun x => [enc x]) 1 w b off d := by
  unfold putRowK putRow
  rw [flat1]
  congr 1
  funext c
  unfold putCells
  apply Array.ext
  · simp
  · intro i h1 h2; simp only [Array.getElem_mapIdx, Array.size_map, id]
    split
    · rename_i h
      have h5 : i - off < d.size := by omega
      rw [getElem!_pos d (i - off) h5, getElem!_pos (d.map enc) (i - off) (by simpa using h5), Array.getElem_map]
    · rfl
theorem holds1 {w : World} {b off : Nat} {d : Array α} (h : HoldsK (fun x => [enc x]) 1 w b off d) : Holds enc w b off d := by
  unfold HoldsK at h
  rw [flat1] at h; intro j hj; have := h j (by simpa using hj); rw [getElem!_pos (d.map enc) j (by simpa using hj), Array.getElem_map] at this; rw [getElem!_pos d j hj]; exact this
end
end
end Go.AM
