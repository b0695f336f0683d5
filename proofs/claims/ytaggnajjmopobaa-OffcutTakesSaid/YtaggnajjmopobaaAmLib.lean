/-
  The abstract machine, continued: functions of the library that change a slice in place, by the kit's contracts.
  Conditions: none; generic over the program.
-/
import Derived.Test.YtaggnajjmopobaaAmRes
import Derived.Shelf.SlicesQ.Reverse
namespace Go.AM
open Go.Proofs Go.Lib Go.Sort
set_option linter.unusedVariables false
set_option linter.unusedSimpArgs false
set_option linter.unusedSectionVars false

/-- The cells of one element. -/
abbrev CV (k : Nat) : Type := {l : List Value // l.length = k ∧ ∀ v ∈ l, v.oneCell' = true}
instance (k : Nat) : Inhabited (CV k) := ⟨⟨List.replicate k (.bool false), by simp, fun v hv => by rw [List.eq_of_mem_replicate hv]; rfl⟩⟩
theorem flat_list {α : Type} [Inhabited α] (enc : α → List Value) (k : Nat) (hk : ∀ x, (enc x).length = k) (h0 : 0 < k) : ∀ (n : Nat) (cs : List α), cs.length = n → (flatK enc k cs.toArray).toList = (cs.map enc).flatten
  | 0, cs, h => by
    rw [List.eq_nil_of_length_eq_zero h]
    simp [flatK]
  | n + 1, cs, h => by
    have hne : cs ≠ [] := by intro e; subst e; simp at h
    obtain ⟨pre, c, rfl⟩ : ∃ pre c, cs = pre ++ [c] := ⟨_, _, (List.dropLast_concat_getLast hne).symm⟩
    have hl : pre.length = n := by simpa using h
    have ih := flat_list enc k hk h0 n pre hl
    simp only [flatK, Array.toList_map, Array.toList_range, List.size_toArray] at ih ⊢
    rw [List.length_append, List.length_singleton, Nat.add_mul, Nat.one_mul, List.range_add, List.map_append, List.map_append, List.flatten_append, ← ih]
    congr 1
    · apply List.map_congr_left
      intro t ht
      have ht' : t / k < pre.length := by
        rw [Nat.div_lt_iff_lt_mul h0]
        exact List.mem_range.1 ht
      congr 2
      rw [getElem!_pos _ _ (by simp; omega), getElem!_pos _ _ (by simpa using ht')]
      simp [List.getElem_append_left ht']
    · simp only [List.map_cons, List.map_nil, List.flatten_cons, List.flatten_nil, List.append_nil, List.map_map]
      apply List.ext_getElem
      · simp [hk]
      · intro i h1 h2
        simp only [List.length_map, List.length_range] at h1
        simp only [List.getElem_map, List.getElem_range, Function.comp_apply]
        have e1 : (pre.length * k + i) / k = pre.length := by rw [Nat.mul_comm, Nat.mul_add_div h0, Nat.div_eq_of_lt h1, Nat.add_zero]
        have e2 : (pre.length * k + i) % k = i := by rw [Nat.mul_comm, Nat.mul_add_mod, Nat.mod_eq_of_lt h1]
        rw [e1, e2, getElem!_pos _ pre.length (by simp)]
        simp only [List.getElem_toArray, List.getElem_concat_length]
        rw [getElem!_pos _ i (by rw [hk]; exact h1)]
/-- Rows and their cells, element by element. -/
def ZR (E : Env) (sz : Nat) : List (List AV) → List (CV sz) → Prop
  | [], [] => True
  | r :: rs, c :: cs => (r.length = sz ∧ FVc E r c.1) ∧ ZR E sz rs cs
  | _, _ => False
theorem ZR.length {E : Env} {sz : Nat} : ∀ {rows : List (List AV)} {cs : List (CV sz)}, ZR E sz rows cs → cs.length = rows.length
  | [], [], _ => rfl
  | _ :: rs, _ :: cs, h => by simp [ZR.length h.2]
theorem ZR.app {E : Env} {sz : Nat} : ∀ {r1 r2 : List (List AV)} {c1 c2 : List (CV sz)}, ZR E sz r1 c1 → ZR E sz r2 c2 → ZR E sz (r1 ++ r2) (c1 ++ c2)
  | [], _, [], _, _, h2 => h2
  | _ :: _, _, _ :: _, _, h1, h2 => ⟨h1.1, ZR.app h1.2 h2⟩
theorem ZR.rev {E : Env} {sz : Nat} : ∀ {rows : List (List AV)} {cs : List (CV sz)}, ZR E sz rows cs → ZR E sz rows.reverse cs.reverse
  | [], [], _ => trivial
  | _ :: _, _ :: _, h => by
    rw [List.reverse_cons, List.reverse_cons]
    exact ZR.app (ZR.rev h.2) ⟨h.1, trivial⟩
theorem FVr_chunks {E : Env} {sz : Nat} : ∀ {rows : List (List AV)} {xs : List Value}, FVr E sz rows xs → ∃ cs : List (CV sz), xs = (cs.map (·.1)).flatten ∧ ZR E sz rows cs
  | [], xs, h => by simp only [FVr] at h; exact ⟨[], by simp [h], trivial⟩
  | r :: rows, xs, h => by
    simp only [FVr] at h
    obtain ⟨ys, zs, rfl, h0, h1, h2⟩ := h
    obtain ⟨cs, rfl, h3⟩ := FVr_chunks h2
    exact ⟨⟨ys, by rw [h1.length, h0], h1.one⟩ :: cs, by simp, ⟨h0, h1⟩, h3⟩
theorem FVr_of {E : Env} {sz : Nat} : ∀ {rows : List (List AV)} {cs : List (CV sz)}, ZR E sz rows cs → FVr E sz rows (cs.map (·.1)).flatten
  | [], [], _ => rfl
  | r :: rows, c :: cs, h => by
    simp only [FVr, List.map_cons, List.flatten_cons]
    exact ⟨c.1, _, rfl, h.1.1, h.1.2, FVr_of h.2⟩
theorem take_put (F cur : Array Value) (h : F.size ≤ cur.size) : (putCells id 0 F cur).size = cur.size ∧ (putCells id 0 F cur).toList.take F.size = F.toList := by
  have hs : (putCells id 0 F cur).size = cur.size := by simp [putCells]
  refine ⟨hs, ?_⟩
  apply List.ext_getElem
  · simp [hs]; omega
  · intro i h1 h2
    have hi : i < F.size := by simpa using h2
    rw [List.getElem_take, Array.getElem_toList, Array.getElem_toList]
    simp only [putCells, Array.getElem_mapIdx]
    rw [if_pos ⟨Nat.zero_le _, by omega⟩, Nat.sub_zero, getElem!_pos F i hi]
    rfl
theorem rel0 {E : Env} {X : Nat → List Value} {objs : List (Nat × Obj)} {k : Nat} (hE : Entry E X objs k) : Rel (ctxOf E objs k) E X ⟨[(0, .tup [])], objs, k, 1, k⟩ { tmps := #[.tuple #[]], defers := [] } := by
  refine ⟨?_, rfl, rfl, ?_, hE.apart, hE.stay, ?_, Keep.refl _ _, ?_, ?_, ?_, fun b hb => hb, fun b hb => .inl hb, rfl, hE.glob⟩
  · intro s v hv
    rw [find_cons] at hv
    split at hv
    · rename_i e
      subst e
      simp only [Option.some.injEq] at hv
      subst hv
      simp [FV, FVs]
    · simp [find] at hv
  · intro r o hr
    obtain ⟨h1, h2⟩ := hE.objs r o hr
    exact ⟨(hE.dom r).2 h1, h2⟩
  · intro r hr; exact (hE.dom r).1 hr
  · intro r o b hr hb; exact .inl ⟨r, o, hr, hb⟩
  · intro r hr; exact ⟨rfl, rfl⟩
  · intro r hr; exact (hE.dom r).2 hr
/-- A function that is handed one slice, and puts other rows into its place. -/
theorem inplace_R {P : Program} {f : FuncId} {el sz : Nat} {rows rows' : List (List AV)} (hB : Bodied P f) (hl : rows'.length = rows.length) (h0 : 0 < sz)
    (hnil : rows = [] → ∀ w, Calls P f #[.slice none 0 0] w fun e w' => e = .returned (.tuple #[]) ∧ w' = w)
    (h : ∀ (E : Env) (b cap : Nat) (cur : Array Value) (cs : List (CV sz)), E.w.heap[b]? = some (.cells cur el (0, 0)) → cur.toList.take (rows.length * sz) = (cs.map (·.1)).flatten → cs.length = rows.length → rows.length ≤ cap → cur.size = cap * sz → ZR E.clear sz rows cs →
      Calls P f #[.slice (some ⟨b, 0, none⟩) rows.length cap] E.w fun e w' => e = .returned (.tuple #[]) ∧ ∃ (cs' : List (CV sz)) (n : Nat), ZR E.clear sz rows' cs' ∧ w' = putRowK (fun c : CV sz => c.1) sz (Sort.ahead E.w n) b 0 cs'.toArray) :
    FunR P f [.als 0 0 rows.length] [(0, ⟨true, el, sz, rows, true⟩)] 1 (Ret (.tup []) [(0, ⟨true, el, sz, rows', true⟩)]) := by
  refine ⟨hB, fun E X xs hE hx => ?_⟩
  have hf0 : find [(0, (⟨true, el, sz, rows, true⟩ : Obj))] 0 = some ⟨true, el, sz, rows, true⟩ := by simp [find_cons]
  obtain ⟨_, hZ, hok, hrow⟩ := hE.objs 0 _ hf0
  have hrel := rel0 hE
  simp only [FVs] at hx
  obtain ⟨y, ys, rfl, hy, rfl⟩ := hx
  simp only [FV] at hy
  obtain ⟨hD, A0, n0, c0, A, c, hH, rfl, hnc, hA, _⟩ := hy
  obtain ⟨rfl, rfl⟩ := hA rfl
  simp only [ObjOK] at hok
  rcases hok with ⟨hd, hr, hxs⟩ | ⟨b, cap, cur, hd, hg, hcap, hmax, hcs, htk⟩ | ⟨b, es, clk, hd, _⟩
  rotate_right
  · rw [hH] at hd; cases hd
  · rw [hH] at hd
    simp only [Value.slice.injEq] at hd
    obtain ⟨rfl, _, rfl⟩ := hd
    have hr : rows = [] := hr
    subst hr
    have hr' : rows' = [] := List.eq_nil_of_length_eq_zero hl
    subst hr'
    refine (hnil rfl E.w).mono ?_
    rintro e w' ⟨rfl, rfl⟩
    refine ⟨_, .tup [], _, E, X, 1, rfl, rfl, ⟨rfl, rfl⟩, fun r hr => .inl ((hE.dom r).1 hr), hrel⟩
  · have hd' := hd
    rw [hH] at hd
    simp only [Value.slice.injEq] at hd
    obtain ⟨rfl, _, rfl⟩ := hd
    obtain ⟨ch, hch, hzr⟩ := FVr_chunks hrow
    have hcl : ch.length = rows.length := hzr.length
    refine (h E b _ cur ch hg (by rw [← hch]; exact htk) hcl hcap hcs hzr).mono ?_
    rintro e w' ⟨rfl, cs', n, hz', rfl⟩
    have hcl' : cs'.length = rows.length := by rw [hz'.length, hl]
    generalize hF : flatK (fun c : CV sz => c.1) sz cs'.toArray = F
    have hFs : F.size = rows.length * sz := by rw [← hF, size_flatK]; simp [hcl']
    have hFl : F.toList = (cs'.map (·.1)).flatten := by rw [← hF]; exact flat_list _ sz (fun c => c.2.1) h0 _ cs' rfl
    have hFc : F.size ≤ cur.size := by rw [hFs, hcs]; exact Nat.mul_le_mul_right _ hcap
    obtain ⟨t1, t2⟩ := take_put F cur hFc
    have hw : putRowK (fun c : CV sz => c.1) sz (Sort.ahead E.w n) b 0 cs'.toArray = mapBlock (Sort.ahead E.w n) b (putCells id 0 F) := by rw [← hF]; rfl
    have hb : blockOf (E.H 0) = some b := by rw [hd']; rfl
    have hbl : ∀ k, (mapBlock (Sort.ahead E.w n) b (putCells id 0 F)).heap[k]? = if b = k then (E.w.heap[k]?).map (onCells (putCells id 0 F)) else E.w.heap[k]? := fun k => by
      simp only [mapBlock, Sort.ahead, Array.getElem?_modify]
    have hle : E.clear.le (Env.clear { E with w := mapBlock (Sort.ahead E.w n) b (putCells id 0 F) }) := ⟨fun k hk => ⟨hk, by
      show (mapBlock (Sort.ahead E.w n) b (putCells id 0 F)).heap[k]? = _
      rw [hbl, if_neg]
      · rfl
      · intro e
        subst e
        exact (hE.stay _ hk).2 0 _ hf0 hb⟩, fun r hr => hr.elim⟩
    rw [hw]
    obtain ⟨g1, g2⟩ := hrel.update (r := 0) (o := ⟨true, el, sz, rows, true⟩) (o' := ⟨true, el, sz, rows', true⟩) (b := b) (w' := mapBlock (Sort.ahead E.w n) b (putCells id 0 F)) (xs' := (cs'.map (·.1)).flatten) hf0 hb rfl ⟨rfl, Nat.le_add_right _ _⟩ rfl (by simp [mapBlock, Sort.ahead])
      (fun k hk => by rw [hbl, if_neg (fun e => hk e.symm)]) rfl
      (by
        simp only [ObjOK]
        refine .inr (.inl ⟨b, _, putCells id 0 F cur, by rw [hd']; simp only [hl], by rw [hbl, if_pos rfl, hg]; rfl, by rw [hl]; exact hcap, hmax, by rw [t1, hcs], ?_⟩)
        rw [hl, ← hFs, t2, hFl])
      (FVr.le sz rows' hle _ (FVr_of hz'))
    have e1 : del [(0, (⟨true, el, sz, rows, true⟩ : Obj))] 0 = [] := by simp [del_cons, del_nil]
    simp only [e1] at g1
    exact ⟨_, .tup [], _, { E with w := mapBlock (Sort.ahead E.w n) b (putCells id 0 F) }, _, 1, rfl, rfl, ⟨rfl, rfl⟩, fun r hr => .inl ((hE.dom r).1 hr), g1⟩
theorem holds_of {w : World} {b el sz : Nat} {cur : Array Value} {cs : List (CV sz)} (h0 : 0 < sz) (hg : w.heap[b]? = some (.cells cur el (0, 0))) (htk : cur.toList.take (cs.length * sz) = (cs.map (·.1)).flatten) : HoldsK (fun c : CV sz => c.1) sz w b 0 cs.toArray := by
  intro j hj
  have hF := flat_list (fun c : CV sz => c.1) sz (fun c => c.2.1) h0 _ cs rfl
  rw [size_flatK] at hj
  have hj' : j < (flatK (fun c : CV sz => c.1) sz cs.toArray).size := by rw [size_flatK]; exact hj
  rw [Nat.zero_add, getElem!_pos _ j hj']
  have e1 : (flatK (fun c : CV sz => c.1) sz cs.toArray)[j]? = some (flatK (fun c : CV sz => c.1) sz cs.toArray)[j] := Array.getElem?_eq_getElem hj'
  have e2 : cur[j]? = some (flatK (fun c : CV sz => c.1) sz cs.toArray)[j] := by
    rw [← e1, ← Array.getElem?_toList, ← Array.getElem?_toList, hF, ← htk, List.getElem?_take, if_pos (by simpa using hj)]
  refine ⟨?_, ?_⟩
  · simp [World.cell?, hg, e2]
  · simp [World.frozen?, hg]
theorem run_cells {P : Program} {t c : Nat} (hi : (P.info? t).isSome = true) (hc : P.cellsOf t = c) (w : World) : (sizeOf t).run P w = .ok c w := by
  obtain ⟨i, h⟩ := Option.isSome_iff_exists.1 hi
  rw [run_sizeOf' h, ← hc, cellsOf_info h]
/-- slices.Reverse at a struct. -/
theorem reverse_R {P : Program} {ρ : Go.Shelf.Ren} (L : SlLaysE0.n35 P ρ) {el sz : Nat} (hB : Bodied P (ρ.f 35)) (aE : ∀ w, (isAgg (ρ.t 23)).run P w = .ok true w) (zE : ∀ w, (Go.sizeOf (ρ.t 23)).run P w = .ok sz w) (h0 : 0 < sz) (rows : List (List AV)) (hn : rows.length ≤ 9223372036854775807) :
    FunR P (ρ.f 35) [.als 0 0 rows.length] [(0, ⟨true, el, sz, rows, true⟩)] 1 (Ret (.tup []) [(0, ⟨true, el, sz, rows.reverse, true⟩)]) :=
  inplace_R hB (by simp) h0 (fun _ w => AnyQ.slices_Reverse_empty L none 0 w) (fun E b cap cur cs hg htk hcl hcap hcs hz => by
    have hH := holds_of h0 hg (by rw [hcl]; exact htk)
    have h := AnyQ.slices_Reverse L sz aE zE (fun c : CV sz => c.1) (fun c => c.2.1) (fun c => c.2.2) b 0 cap cs.toArray E.w hH (by simpa [hcl] using hn)
    have e : cs.toArray.size = rows.length := by simp [hcl]
    rw [e] at h
    refine h.mono ?_
    rintro e w' ⟨rfl, n, rfl⟩
    exact ⟨rfl, cs.reverse, n, hz.rev, by simp⟩)
end Go.AM
