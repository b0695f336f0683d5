/-
  The abstract machine, continued: slices.Collect at maps.Keys of a map of ints, by the kit's contracts.
  Conditions: none; generic over the program.
-/
import Derived.Test.YtaggnajjmopobaaAmMono
import Derived.Test.YtaggnajjmopobaaAmRow1
import Derived.Shelf.SlIterI.Collect
import Derived.Shelf.SlIterI.Nil
namespace Go.AM
open Go.Proofs Go.Lib Go.Sort Go.Shelf Go.WideElems Go.WideShapes
set_option linter.unusedVariables false
set_option linter.unusedSimpArgs false
set_option linter.unusedSectionVars false

/-- A map of ints, whatever its values, owned as the kit says it. -/
theorem ownsMap_of {P : Program} {k : TypeId} (hk : P.underlying k = some (.int .i64)) {w : World} {mb clk : Nat} {es : Array MapEntry} {l : List Int} (hg : w.heap[mb]? = some (.map es clk)) (hst : Go.MapKept.Stamped es clk)
    (hkeys : es.toList.map (·.key) = l.map (Value.int .i64)) (hwf : ∀ a ∈ l, (Lit.int .i64 a).wf = true) (hn : l.length ≤ maxLen) :
    ∃ D : DataW Unit, w.ownsMap P k (fun _ => some (.nil, [])) mb l.length D ∧ (intKeys D).Perm l ∧ Maps.size D = l.length := by
  have hlen : es.size = l.length := by
    have := congrArg List.length hkeys
    simpa using this
  have hrd : ∀ x ∈ es.toList, ∃ a ∈ l, x.key = .int .i64 a := fun x hx => by
    have : x.key ∈ l.map (Value.int .i64) := hkeys ▸ List.mem_map_of_mem hx
    obtain ⟨a, ha, e⟩ := List.mem_map.1 this
    exact ⟨a, ha, e.symm⟩
  have hrd2 : ∀ x ∈ es.toList, ∀ a, x.key = .int .i64 a → a ∈ l → rd P k (fun _ => some (DataW.nil (H := Unit), [])) x = some (.int .i64 a, .nil) := fun x hx a e ha => by
    obtain ⟨key, val, born⟩ := x
    simp only at e
    subst e
    exact rd_mk (R := fun _ => some (DataW.nil (H := Unit), [])) (yv := (DataW.nil, [])) (Maps.keyOf_int_mk hk (hwf a ha)) rfl
  refine ⟨_, ⟨es, clk, hg, ⟨by omega, hst, fun x hx => ?_⟩, by omega, rfl⟩, ?_, ?_⟩
  · obtain ⟨a, ha, e⟩ := hrd x hx
    exact ⟨_, hrd2 x hx a e ha⟩
  · show (List.map _ _).Perm l
    refine ((sorted_perm _).map _).trans ?_
    rw [List.map_map]
    have : es.toList.map ((fun p : Lit × DataW Unit => intOf p.1) ∘ rg P k fun _ => some (.nil, [])) = l := by
      have h2 : (es.toList.map (·.key)).map (fun v => match v with | .int _ q => q | _ => 0) = l := by rw [hkeys, List.map_map]; exact List.map_id' l
      rw [← h2, List.map_map]
      refine List.map_congr_left fun x hx => ?_
      obtain ⟨a, ha, e⟩ := hrd x hx
      simp only [Function.comp_apply, rg_of (hrd2 x hx a e ha), e]
      rfl
    rw [this]
  · show List.length _ = _
    rw [(sorted_perm _).length_eq, List.length_map]
    simpa using hlen

theorem keys_of_rows {V : Type} {kv : Int → Value} {vv : V → Value} {E : Env} : ∀ {m : List (Int × V)} {es : List MapEntry}, (∀ x ∈ es, (rowM x).length = 3) → FVr E 3 (m.map (rowK kv vv)) (flatM es) → es.map (·.key) = (m.map Prod.fst).map kv
  | [], [], _, _ => rfl
  | [], x :: es, hl, h => by
    have h1 := hl x (by simp)
    simp only [List.map_nil, FVr] at h
    have h2 : flatM (x :: es) = rowM x ++ flatM es := by simp [flatM]
    rw [h2] at h
    have := congrArg List.length h
    simp [h1] at this
  | p :: m, [], hl, h => by
    simp only [List.map_cons, FVr] at h
    obtain ⟨ys, zs, h0, h1, h2, h3⟩ := h
    have h4 : ys = [] := by
      have := h0.symm
      simp [flatM] at this
      exact this.1
    subst h4
    simp [rowK, FVc] at h2
  | p :: m, x :: es, hl, h => by
    obtain ⟨h1, h2, h3⟩ := FVr_rowM h (hl x (by simp))
    rw [List.map_cons, List.map_cons, List.map_cons, keys_of_rows (fun y hy => hl y (by simp [hy])) h3, rowM_key h2]

theorem ints_rows {E : Env} : ∀ l : List Int, FVr E 1 (l.map fun x => [.lit (.int .i64 x)]) (l.map encZ)
  | [] => rfl
  | x :: l => by
    simp only [List.map_cons, FVr]
    exact ⟨[encZ x], l.map encZ, rfl, rfl, by simp only [FVc]; exact ⟨_, _, rfl, rfl, by simp [FV, encZ], rfl⟩, ints_rows l⟩

/-- slices.Collect(maps.Keys(m)): the keys, in whatever order; nothing else turns. -/
theorem collect_R {P : Program} {ρ ρ' : Ren} {V : Type} {vv : V → Value} (L8 : SlLaysZI.n8 P ρ) (L10 : SlLaysZI.n10 P ρ') (hB : Bodied P (ρ.f 8)) {el : Nat} {c : Bool} {m : List (Int × V)} (hn : m.length ≤ 1000000) (hk : ∀ a ∈ m.map Prod.fst, (Lit.int .i64 a).wf = true) :
    FunR P (ρ.f 8) [.fn (.func (ρ'.f 10)) [] [.adr 0 0 0]] [(0, ⟨false, el, 1, [[.shm 3 (m.map (rowK (Value.int .i64) vv))]], c⟩)] 1
      (fun v l => ∃ ks : List Int, ks.Perm (m.map Prod.fst) ∧ v = .als 1 0 ks.length ∧ l = [(0, ⟨false, el, 1, [[.shm 3 (m.map (rowK (Value.int .i64) vv))]], c⟩), (1, ⟨true, ρ.t 26, 1, ks.map fun x => [.lit (.int .i64 x)], true⟩)]) := by
  refine ⟨hB, fun E X0 xs hE hx => ?_⟩
  have hf0 : find [(0, (⟨false, el, 1, [[.shm 3 (m.map (rowK (Value.int .i64) vv))]], c⟩ : Obj))] 0 = some ⟨false, el, 1, [[.shm 3 (m.map (rowK (Value.int .i64) vv))]], c⟩ := by simp [find_cons]
  obtain ⟨_, hZ, hok, hrow⟩ := hE.objs 0 _ hf0
  have hrel := rel0 hE
  simp only [FVs, FV] at hx
  obtain ⟨y0, ys, rfl, ⟨xs', zs', rfl, hxs', hzs'⟩, rfl⟩ := hx
  obtain ⟨y1, ys1, hz1, ⟨hD, a0, hb0, hs0, rfl⟩, rfl⟩ := hzs'
  have ex : xs' = #[] := by cases xs'; simp at hxs'; simp [hxs']
  subst ex
  simp only [ObjOK] at hok
  rcases hok with ⟨b, hd, _, hheap⟩ | ⟨b, mm, hd, _⟩
  rotate_left
  · rw [hd] at hb0; cases hb0
  rw [hd] at hb0
  simp only [baseOf, Option.some.injEq] at hb0
  subst hb0
  have hadd : (⟨b, 0, none⟩ : Addr).add (0 * E.Z 0 + 0) = ⟨b, 0, none⟩ := by rw [Nat.zero_mul]; exact Addr.add_zero' _
  rw [hadd] at hz1
  have ez : zs' = #[.pointer (some ⟨b, 0, none⟩)] := by cases zs'; simp at hz1; simp [hz1]
  subst ez
  -- the box holds the map
  have hrow' : FVr (E.by c) 1 [[.shm 3 (m.map (rowK (Value.int .i64) vv))]] (X0 0) := hrow
  simp only [FVr, FVc, FV] at hrow'
  obtain ⟨z, z', hz, _, ⟨u, us, rfl, _, hu, rfl⟩, rfl⟩ := hrow'
  rw [hz] at hheap
  have hbk : E.w.heap[b]? = some (.cells #[u] el (0, 0)) := by simpa using hheap
  have hblt : b < E.w.heap.size := (Array.getElem?_eq_some_iff.1 hbk).1
  have hcell : E.w.cell? ⟨b, 0, none⟩ = some u := by simp [World.cell?, hbk]
  have hmx : m.length ≤ 1000000 := hn
  have hcol : CallsIn Fence.wide 3 P (ρ.f 8) #[.func (.func (ρ'.f 10)) #[] #[.pointer (some ⟨b, 0, none⟩)]] E.w fun e w' => ∃ (v : Value) (ss : List Int), e = .returned v ∧ ss.Perm (m.map Prod.fst) ∧ w'.ownsRow E.w.heap.size (ρ.t 26) 1 v ss.length (ss.map encZ) ∧ (v = .slice none 0 0 ↔ ss = []) ∧ Go.RowKit.Below E.w.heap.size E.w w' := by
    rcases hu with ⟨rfl, hm⟩ | ⟨mb, es, clk, rfl, hS, hmap, hwf, hfl⟩
    · have hm0 : m = [] := List.map_eq_nil_iff.1 hm
      subst hm0
      refine (AnyZI.collect_in L8 Fence.wide 3 trivial trivial rfl (Nat.le_refl _) (ρ'.f 10) #[.pointer (some ⟨b, 0, none⟩)] trivial (L10.f10.enters rfl) (fun ss => ss = []) 0 (by decide) (by decide) E.w (AnyZI.keys_gives_nil L10 Fence.wide 1 trivial rfl b E.w hblt hcell)).mono ?_
      rintro e w' ⟨v, ss, h1, rfl, h3⟩
      exact ⟨v, [], h1, .refl _, h3⟩
    · have hmap' : E.w.heap[mb]? = some (.map es clk) := by cases c <;> exact hmap
      have hkeys := keys_of_rows hwf.len hfl
      obtain ⟨D, hown, hperm, hsz⟩ := ownsMap_of L10.t26 hmap' hwf.st hkeys hk (by rw [List.length_map]; exact Nat.le_trans hn (by decide))
      have hseq := AnyZI.keys_gives L10 Fence.wide 1 trivial rfl (Nat.le_refl _) b mb _ D E.w hblt hcell hown
      refine (AnyZI.collect_in L8 Fence.wide 3 trivial trivial rfl (Nat.le_refl _) (ρ'.f 10) #[.pointer (some ⟨b, 0, none⟩)] trivial (L10.f10.enters rfl) (fun ss => ss.Perm (intKeys D)) (Maps.size D)
        (by rw [hsz, List.length_map]; exact Nat.le_trans hn (by decide)) (by rw [hsz, List.length_map]; omega) E.w hseq).mono ?_
      rintro e w' ⟨v, ss, h1, h2, h3⟩
      exact ⟨v, ss, h1, h2.trans hperm, h3⟩
  refine (Calls.drawn (callsIn_wide.1 hcol)).mono ?_
  rintro e w' ⟨⟨v, ss, rfl, hpm, hrw, hnil, hbel⟩, hdr⟩
  obtain ⟨i, hi, hi1⟩ : ∃ i : TypeInfo, P.info? (ρ.t 26) = some i ∧ i.size = 1 := by
    have h1 := L8.i26
    cases hq : P.info? (ρ.t 26) with
    | none => rw [hq] at h1; cases h1
    | some i => rw [hq] at h1; simp only [Option.map_some, Option.some.injEq, Prod.mk.injEq] at h1; exact ⟨i, rfl, h1.2.1⟩
  have hT : Tp E.w w' := ⟨hbel.tape, hdr _ rfl⟩
  obtain ⟨E1, X1, hw1, hr1, hval⟩ := hrel.appended (hr0 := none) (e := ρ.t 26) (i := i) (v := .slice none 0 0) (v' := v) (w' := w') (xs := []) (news := ss.map encZ) (o1 := ⟨true, ρ.t 26, i.size, [], true⟩) (rows2 := ss.map fun x => [.lit (.int .i64 x)]) (c1 := true) (c2 := true)
    (by simp [FVr]) (fun b hb => by simp [blockOf, baseOf] at hb) (by rw [hi1]; exact ints_rows ss)
    (by
      simp only [ObjOK, List.nil_append]
      rcases hrw.2 with ⟨rfl, h0⟩ | ⟨g, cap, cur, rfl, hge, hg, h1, h2, h3, h4⟩
      · have : ss = [] := List.eq_nil_of_length_eq_zero h0
        subst this
        exact .inl ⟨rfl, rfl, rfl⟩
      · exact .inr (.inl ⟨g, cap, cur, by simp, hg, by simpa using h1, h2, by rw [hi1]; exact h3, by rw [hi1]; simpa using h4⟩))
    hbel.os hT hbel.output hbel.size (fun k hk _ => hbel.block k hk) (fun k hk => by
      rcases hrw.2 with ⟨rfl, h0⟩ | ⟨g, cap, cur, rfl, hge, hg, _⟩
      · simp [blockOf, baseOf] at hk
      · simp [blockOf, baseOf] at hk
        subst hk
        exact ⟨.inr hge, (Array.getElem?_eq_some_iff.1 hg).1⟩)
    (by
      rcases hrw.2 with ⟨rfl, h0⟩ | ⟨g, cap, cur, rfl, hge, hg, _⟩
      · exact ⟨_, _, _, rfl⟩
      · exact ⟨_, _, _, rfl⟩)
  simp only [List.nil_append, Bool.and_self, hi1, List.length_nil, Nat.zero_add, List.length_map] at hr1 hval
  have hr2 : Rel (ctxOf E [(0, ⟨false, el, 1, [[.shm 3 (m.map (rowK (Value.int .i64) vv))]], c⟩)] 1) E1 X1 ⟨[(0, .als 1 0 ss.length)], [(1, ⟨true, ρ.t 26, 1, ss.map fun x => [.lit (.int .i64 x)], true⟩), (0, ⟨false, el, 1, [[.shm 3 (m.map (rowK (Value.int .i64) vv))]], c⟩)], 2, 1, 1⟩ { tmps := #[v], defers := [] } :=
    { hr1 with
      slots := fun s u hu => by
        rw [find_cons] at hu
        split at hu
        · rename_i e
          subst e
          simp only [Option.some.injEq] at hu
          subst hu
          exact hval
        · simp [find] at hu
      size := rfl
      defers := rfl }
  have hr3 : Rel (ctxOf E [(0, ⟨false, el, 1, [[.shm 3 (m.map (rowK (Value.int .i64) vv))]], c⟩)] 1) E1 X1 ⟨[(0, .als 1 0 ss.length)], [(0, ⟨false, el, 1, [[.shm 3 (m.map (rowK (Value.int .i64) vv))]], c⟩), (1, ⟨true, ρ.t 26, 1, ss.map fun x => [.lit (.int .i64 x)], true⟩)], 2, 1, 1⟩ { tmps := #[v], defers := [] } := by
    have hsw : ∀ r, find [(0, (⟨false, el, 1, [[.shm 3 (m.map (rowK (Value.int .i64) vv))]], c⟩ : Obj)), (1, ⟨true, ρ.t 26, 1, ss.map fun x => [.lit (.int .i64 x)], true⟩)] r = find [(1, (⟨true, ρ.t 26, 1, ss.map fun x => [.lit (.int .i64 x)], true⟩ : Obj)), (0, ⟨false, el, 1, [[.shm 3 (m.map (rowK (Value.int .i64) vv))]], c⟩)] r := fun r => by
      simp only [find_cons]
      by_cases h0 : (0 : Nat) = r
      · subst h0; simp
      · simp [h0]
    exact { hr2 with
      objs := fun r o h => hr2.objs r o (by rw [← hsw]; exact h)
      apart := fun r r' o o' b h h' => hr2.apart r r' o o' b (by rw [← hsw]; exact h) (by rw [← hsw]; exact h')
      stay := fun b hb => ⟨(hr2.stay b hb).1, fun r o h => (hr2.stay b hb).2 r o (by rw [← hsw]; exact h)⟩
      mine := fun r o b h => hr2.mine r o b (by rw [← hsw]; exact h) }
  refine ⟨v, .als 1 0 ss.length, _, E1, X1, 2, rfl, hw1, ⟨ss, hpm, rfl, rfl⟩, fun r hr => ?_, hr3⟩
  have := hr3.fresh r hr
  simp only at this
  by_cases h : r = 0
  · exact .inl (by omega)
  · exact .inr ⟨⟨true, ρ.t 26, 1, ss.map fun x => [.lit (.int .i64 x)], true⟩, by simp [find_cons, show (0 : Nat) ≠ r by omega, show (1 : Nat) = r by omega]⟩

/-! ## slices.SortFunc at one cell -/
section
variable {α : Type} [Inhabited α] {enc : α → Value}
theorem sortWorld1 (enc : α → Value) (w : World) (b off m : Nat) (d : Array α) (os : Array Go.Obj) : sortWorld enc w b off m d os = sortWorldK (fun x => [enc x]) 1 w b off m d os := by
  unfold sortWorld sortWorldK
  rw [putRow1]
theorem cmpLays1_of {P : Program} {cf : α → α → Int} {g : FuncId} (hF : ∀ x y, Fun P g [.lit (enc x), .lit (enc y)] (Ret (.lit (.int .i64 (cf x y))) [])) (blk off size : Nat) (w : World) {S : Nat → Prop} (hG : LaidOK w S) (hS : ∀ c, S c → c ≠ blk ∧ c < w.heap.size) : CmpLays1 P g #[] enc cf blk off size w := by
  intro m os dk hdk x y
  rw [sortWorld1]
  have hold : ∀ c, S c → (sortWorldK (fun x => [enc x]) 1 w blk off m dk os).heap[c]? = w.heap[c]? := fun c hc => sort_old (fun x => [enc x]) 1 w blk off m dk os (hS c hc).1 (hS c hc).2
  have h := (hF x y).2 ⟨sortWorldK (fun x => [enc x]) 1 w blk off m dk os, fun _ => undef, fun _ => 0, fun _ => False, S⟩ [enc x, enc y]
    (by simp [FVs, FV]) (fun b hb => by
      have h1 := hold b hb
      rw [Array.getElem?_eq_getElem (hS b hb).2] at h1
      exact (Array.getElem?_eq_some_iff.1 h1).1) (hG.heap hold)
  have e0 : (#[enc x, enc y] ++ #[] : Array Value) = [enc x, enc y].toArray := by simp
  rw [e0]
  refine h.mono ?_
  rintro e w' ⟨y', v, objs, E', X', rfl, rfl, ⟨rfl, rfl⟩, hLP⟩
  have hv := hLP.val
  simp only [FV] at hv
  refine ⟨by rw [hv], ?_⟩
  obtain ⟨q, os', hw⟩ := hLP.keep.grown
  exact ⟨q, os', hw⟩
/-- slices.SortFunc at elements of one cell. -/
theorem sortFunc1_R {P : Program} {ρ : Ren} (L : SlLaysF.n6 P ρ) {el : Nat} (h1 : OneCell enc) (hB : Bodied P (ρ.f 6))
    (cf : α → α → Int) (hO : SWO (ltOf cf)) {g : FuncId} (hF : ∀ x y, Fun P g [.lit (enc x), .lit (enc y)] (Ret (.lit (.int .i64 (cf x y))) [])) (l : List α) (hn : l.length < 4611686018427387904) :
    FunR P (ρ.f 6) [.als 0 0 l.length, .fn (.func g) [] []] [(0, ⟨true, el, 1, l.map fun x => [.lit (enc x)], true⟩)] 1 (fun v objs => ∃ l' : List α, (l'.Perm l ∧ l'.Pairwise fun x y => ltOf cf y x = false) ∧ v = .tup [] ∧ objs = [(0, ⟨true, el, 1, l'.map fun x => [.lit (enc x)], true⟩)]) := by
  have hfn : ∀ (E : Env) (ms : List Value), FVs E.clear [.fn (.func g) [] []] ms → ms = [.func (.func g) #[] #[]] := by
    intro E ms h
    simp only [FVs, FV] at h
    obtain ⟨y, ys, rfl, ⟨xs, zs, rfl, h1, h2⟩, rfl⟩ := h
    have e1 : xs = #[] := by cases xs; simp at h1; simp [h1]
    have e2 : zs = #[] := by cases zs; simp at h2; simp [h2]
    rw [e1, e2]
  have he : EncL (fun x => [.lit (enc x)]) (fun x => [enc x]) 1 := ⟨fun _ => rfl, fun _ => rfl, fun x v hv => by rw [List.mem_singleton] at hv; subst hv; exact h1 x⟩
  refine inplace_X (Φ := fun l' : List α => l'.Perm l ∧ l'.Pairwise fun x y => ltOf cf y x = false) hB he (by decide) (fun l' h => h.1.length_eq) rfl (fun e => ⟨by rw [e], List.Pairwise.nil⟩) ?_ ?_
  · intro hl E ms hms
    rw [hfn E ms hms]
    exact AnyF.slices_SortFunc_none { L with } none 0 _ E.w
  · intro E b cap ms hms hH hblt hG hS
    rw [hfn E ms hms]
    have eg : ∀ args w, (callFunc g args).run P w = .ok (.enter g args) w := run_enter (hF default default).1
    have h := Any.slices_SortFunc L enc h1 cf hO g #[] b 0 cap l.toArray E.w eg (cmpLays1_of hF _ _ _ _ hG hS) (holds1 hH) hblt (by simpa using hn)
    have e : l.toArray.size = l.length := by simp
    rw [e] at h
    refine h.mono ?_
    rintro e' w' ⟨rfl, d', n, os, hp, hs, rfl⟩
    refine ⟨rfl, d'.toList, n, os, ⟨perm_of_in (by rw [e]; exact hp), sorted_of_in (by rw [hp.1, e]) hs⟩, ?_⟩
    rw [sortWorld1]
    simp [sortWorldK]
end
end Go.AM
namespace Go.AM
set_option linter.unusedVariables false
set_option linter.unusedSimpArgs false
section rules
variable {P : Program} {s : List (Nat × AV)} {b : List (Nat × Obj)} {n t e : Nat} {ops : Array Oper} {rest : List Oper} {Q : St → Prop} {d ty : Nat} {pos' : String} {aft : Array Edge} {g : Option (Nat × Bool)} {x : Operand} {Post : AV → List (Nat × Obj) → Prop}
/-- A closure handed back that has captured a box of its own. -/
theorem Ev.ownf {q r f : Nat} {slc : Bool} {el sz : Nat} {rows : List (List AV)} (h : Post (.fn (.func f) [] [.adr 0 0 0]) [(0, ⟨slc, el, sz, rows, true⟩)]) (h1 : find s q = some (.fn (.func f) [] [.adr r 0 0]) := by exact rfl) (ho : find b r = some ⟨slc, el, sz, rows, true⟩ := by exact rfl) :
    endP P [.tmp q] Post .ret ⟨s, b, n, t, e⟩ := by
  refine ⟨[r], by simp, ?_⟩
  simp only [retP, resAV, St.get, h1, Option.getD_some, Option.map_some, packAV, renAV, renL, keepObjs, ho, Option.bind_some, renObj, pos, if_true, Nat.beq_refl, cond_true]
  exact h
/-- A call that hands back such a closure. -/
theorem S.c1f {as_ : Array Operand} {ts : Array TypeId} {f f0 : FuncId} {first caps : List AV} {vs : List AV} {o : Obj} (hc : calleeOf (St.ev ⟨s, b, n, t, e⟩ x) = some (f, first, caps) := by exact rfl) (hv : viewL ⟨s, b, n, t, e⟩ (first ++ (as_.toList.map (St.ev ⟨s, b, n, t, e⟩) ++ caps)) = some vs := by exact rfl) (hF : Fun P f vs (Ret (.fn (.func f0) [] [.adr 0 0 0]) [(0, o)]))
    (hm : closedL (first ++ (as_.toList.map (St.ev ⟨s, b, n, t, e⟩) ++ caps)) = true := by exact rfl) (ho : o.cl = true := by exact rfl)
    (hg : guardGo (dstsOf ops) ⟨s, b, n, t, e⟩ g = some true := by exact rfl) (hd : Nat.blt d t = true := by exact rfl) (h : SeqL P ops rest ⟨(d, .fn (.func f0) [] [.adr n 0 0]) :: s, (n, o) :: b, n + 1, t, e⟩ Q) :
    SeqL P ops (⟨some d, .call { callee := .value x, args := as_, argTypes := ts }, ty, pos', aft, g⟩ :: rest) ⟨s, b, n, t, e⟩ Q := by
  refine SeqL.call hg rfl hc hv hF (.inl hm) (fun d' h' => by cases h'; exact Nat.le_of_ble_eq_true hd) ?_
  rintro u l ⟨rfl, rfl⟩
  refine ⟨.fn (.func f0) [] [.adr n 0 0], [(n, o)], n + 1, by simp [liftAV, renAV, renL], ?_, fun r ob h => fresh1 h, Nat.le_succ _, h⟩
  simp only [liftObjs, renObj, ho, Nat.zero_add]
/-- A call that is handed the roots 'rs', whose value and outcome are told up to a choice. -/
theorem S.cRdv {ι : Type} {Φ : ι → Prop} {as_ : Array Operand} {ts : Array TypeId} {f : FuncId} {first caps : List AV} {vs : List AV} {objs : List (Nat × Obj)} {vf vf' : ι → AV} {lf newf bf : ι → List (Nat × Obj)} (rs : List Nat) (n' : Nat)
    (hc : calleeOf (St.ev ⟨s, b, n, t, e⟩ x) = some (f, first, caps) := by exact rfl) (hv : handL ⟨s, b, n, t, e⟩ rs (first ++ (as_.toList.map (St.ev ⟨s, b, n, t, e⟩) ++ caps)) = some vs := by exact rfl)
    (hob : keepObjs ⟨s, b, n, t, e⟩ (pos rs 0) 0 rs = some objs) (hF : FunR P f vs objs rs.length (fun v l => ∃ i, Φ i ∧ v = vf i ∧ l = lf i)) (hl : ∀ i, renAV (backN rs n) (vf i) = some (vf' i) := by intro _; exact rfl) (hn : ∀ i, backObjs rs n (lf i) = some (newf i) := by intro _; exact rfl)
    (hn' : ∀ i, (∀ r ob, find (newf i) r = some ob → r < n') ∧ n ≤ n') (hb : ∀ i, newf i ++ delAll rs b = bf i := by intro _; exact rfl)
    (hT : onlyL rs (first ++ (as_.toList.map (St.ev ⟨s, b, n, t, e⟩) ++ caps)) = true := by exact rfl) (hnd : rs.Nodup := by decide) (hg : guardGo (dstsOf ops) ⟨s, b, n, t, e⟩ g = some true := by exact rfl) (hd : Nat.blt d t = true := by exact rfl) (h : ∀ i, Φ i → SeqL P ops rest ⟨(d, vf' i) :: s, bf i, n', t, e⟩ Q) :
    SeqL P ops (⟨some d, .call { callee := .value x, args := as_, argTypes := ts }, ty, pos', aft, g⟩ :: rest) ⟨s, b, n, t, e⟩ Q := by
  refine SeqL.callR rs true hg rfl hc hnd hv hob (fun _ => hT) hF (.inl rfl) (fun d' h' => by cases h'; exact Nat.le_of_ble_eq_true hd) ?_
  rintro u l ⟨i, hi, rfl, rfl⟩
  have := h i hi
  rw [← hb i] at this
  exact ⟨vf' i, newf i, n', hl i, hn i, (hn' i).1, (hn' i).2, this⟩
end rules
end Go.AM
