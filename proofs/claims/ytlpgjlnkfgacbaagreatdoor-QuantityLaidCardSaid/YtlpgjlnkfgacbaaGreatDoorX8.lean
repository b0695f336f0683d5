/-
  Part 8 of the proof: the abstract machine, proved sound over the model.
  Conditions: none.
-/
import Derived.Shelf.Strconv.Itoa3
import Derived.Lib.LaidTab
import Derived.Stop.LaidErr
import Derived.LaidSub
import Derived.MakeChecks
import Derived.Test.YtlpgjlnkfgacbaaGreatDoorX7
set_option linter.unusedVariables false
set_option linter.unusedSimpArgs false
set_option linter.unusedSectionVars false
namespace Go.AM
section
open Go.Proofs Go.Lib Go.Sort
variable {P : Program} {W : World} {g : Nat} {k : IntKind} {zs : List Int}
theorem laid_tab {laid : List (String × DataW Unit)} {name : String} {t e : TypeId} {n : Nat} (h : laidMetH P laid W)
    (hf : laid.filter (fun x => x.1 == name) = [(name, Lib.tabData k zs)]) (hg : P.globalNamed name = some g) (hty : (P.globals[g]?).map (·.type) = some t) (ht : P.underlying t = some (.array n e)) (he : P.underlying e = some (.int k)) (hce : P.cellsOf e = 1) (hct : P.cellsOf t = n) :
    ∃ tt fz, W.heap[g]? = some (.cells (zs.map fun z => Value.int k z).toArray tt fz) := by
  have h1 := h.filter (fun x => x.1 == name); rw [hf, MakeChecks.laidMetH_plain _ _ _ rfl] at h1; have h2 := Lib.tabIs_of_head hg hty ht he hce hct h1; simp only [Lib.TabIs, World.var?, hg, Option.bind_some] at h2
  split at h2
  · rename_i cs tt fz e
    obtain rfl := Option.some.inj h2; exact ⟨tt, fz, e⟩
  cases h2
theorem laidOK_ones (hl : laidG = [(g, zs.map fun z => Value.int k z)]) (h : ∃ tt fz, W.heap[g]? = some (.cells (zs.map fun z => Value.int k z).toArray tt fz)) (h' : ∀ g ∈ laidE, ∃ tt fz te pe, W.heap[g]? = some (.cells #[.iface te pe] tt fz)) : LaidOK W (fun b => b < W.heap.size) := by
  refine ⟨fun p hp => ?_, fun g hg => ?_⟩
  · rw [hl] at hp; obtain rfl := List.mem_singleton.1 hp; obtain ⟨tt, fz, e⟩ := h; refine ⟨(Array.getElem?_eq_some_iff.1 e).1, ⟨tt, fz, e⟩, fun v hv => ?_⟩; obtain ⟨z, _, rfl⟩ := List.mem_map.1 hv; rfl
  obtain ⟨tt, fz, te, pe, e⟩ := h' g hg; exact ⟨(Array.getElem?_eq_some_iff.1 e).1, tt, fz, te, pe, e⟩
theorem laidOK_one (hl : laidG = [(g, zs.map fun z => Value.int k z)]) (h : ∃ tt fz, W.heap[g]? = some (.cells (zs.map fun z => Value.int k z).toArray tt fz)) (h' : laidE = [] := by rfl) : LaidOK W (fun b => b < W.heap.size) :=
  laidOK_ones hl h fun g hg => by rw [h'] at hg; cases hg
theorem tab_of_laid {w : World} {S : Nat → Prop} (h : LaidOK w S) {name : String} (hg : P.globalNamed name = some g) (hm : (g, zs.map fun z => Value.int k z) ∈ laidG) : Lib.TabIs P w name k zs := by
  obtain ⟨tt, fz, e⟩ := (h.1 _ hm).2.1; simp only [Lib.TabIs, World.var?, hg, Option.bind_some, e]
theorem itoa_fun {ρ : Go.Shelf.Ren} (L : LaysM.n171 P ρ) (hB : Bodied P (ρ.f 171)) (hg : P.globalNamed "internal/strconv.uint64pow10" = some g) (hm : (g, Lib.pow10Tab.map fun z => Value.int .u64 z) ∈ laidG)
    {n : Int} (h0 : -9223372036854775808 ≤ n) (h1 : n ≤ 9223372036854775807) : Fun P (ρ.f 171) [.lit (.int .i64 n)] (AK (.lit (.string ⟨(Lib.itoa n).toArray⟩)) []) := by
  refine ⟨hB, fun E xs hx hS hG => ?_⟩; simp only [FVs, FV] at hx; obtain ⟨y, ys, rfl, rfl, rfl⟩ := hx; refine (Any.strconv_Itoa L n h0 h1 E.w (tab_of_laid hG hg hm)).mono ?_; rintro e w' ⟨rfl, k, os, rfl⟩; refine ⟨_, _, _, { E.clear with w := grow (E.w.drewN k) os }, fun _ => [], rfl, rfl, ⟨rfl, rfl⟩, ?_⟩
  have hblk : ∀ b, b < E.w.heap.size → (grow (E.w.drewN k) os).heap[b]? = E.w.heap[b]? := fun b hb => by
    simp only [grow, World.heap_drewN]; rw [Array.getElem?_append_left hb]
  refine ⟨⟨by simp [grow, World.drewN, Env.clear], ⟨by simp [grow, World.drewN, Env.clear], by simp [grow, World.drewN, Env.clear]⟩, by simp [grow, World.drewN, Env.clear], by simp [grow, World.drewN, Env.clear], fun b hb _ => hblk b hb⟩, ⟨fun b hb => ⟨hb, hblk b (hS b hb)⟩, fun r hr => hr.elim⟩, fun r hr => .inl hr, fun b hb => .inl hb, ?_, ?_, by simp [FV]⟩
  · intro r o hr; simp [Aw] at hr
  intro r r' o o' b hr; simp [Aw] at hr
end
section
variable {P : Program} {s : List (Nat × AV)} {b : List (Nat × Obj)} {n t e : Nat} {rs : List ResultVar} {vs cs : List AV} {u v w x : AV} {r ri rj a q : Nat}
theorem BC : ET P ⟨s, b, n, t, e⟩ [] = some [] := rfl
theorem DI (h : ET P ⟨s, b, n, t, e⟩ rs = some vs) (h1 : Aw s q = some v := by exact rfl) : ET P ⟨s, b, n, t, e⟩ (.tmp q :: rs) = some (v :: vs) := by
  simp only [ET, h, Option.map_some, St.get, h1, Option.getD_some]
theorem B7 {lt c : Nat} {o : Obj} {row : List AV} (cs : List AV) (ha : B9 P lt = some true) (hcl : P.cellsOf lt = c) (h : ET P ⟨s, b, n, t, e⟩ rs = some vs) (h1 : Aw s a = some (.adr r ri rj) := by exact rfl) (ho : Aw b r = some o := by exact rfl) (hr : o.rows[ri]? = some row := by exact rfl) (hb : Nat.ble c (row.drop rj).length = true := by exact rfl) (hc : (row.drop rj).take c = cs := by exact rfl) : ET P ⟨s, b, n, t, e⟩ (.cell a lt :: rs) = some (.agg cs :: vs) := by
  have e1 : St.get ⟨s, b, n, t, e⟩ a = .adr r ri rj := by simp only [St.get, h1, Option.getD_some]
  have e2 : G3 P ⟨s, b, n, t, e⟩ lt (.adr r ri rj) = some (.agg cs) := by
    subst hc; simp only [G3, ha, cells_adr ho hr rfl, hcl, hb, cond_true]
  simp only [ET, e1, e2, h]
variable {Post : AV → List (Nat × Obj) → Prop}
theorem BD (hr : ET P ⟨s, b, n, t, e⟩ rs = some [v]) (h : Post v []) (hc : C2 v = true := by exact rfl) : endP P rs Post .ret ⟨s, b, n, t, e⟩ := endP_of hr hc h
theorem Cv (hr : ET P ⟨s, b, n, t, e⟩ rs = some [u, v]) (h : Post (.tup [u, v]) []) (hc : BQ [u, v] = true := by exact rfl) : endP P rs Post .ret ⟨s, b, n, t, e⟩ := endP_of hr (by simpa [packAV, C2] using hc) h
variable {ops : Array Oper} {rest : List Oper} {Q : St → Prop} {d ty : Nat} {pos : String} {aft : Array Edge} {g : Option (Nat × Bool)} {y z : Operand} {k k' : IntKind}
theorem S.mk {st el c by' m : Nat} {zs : List AV} (hel : AX P st = some el) (hz : Bt P el = some zs) (hcl : P.cellsOf el = c) (hby : P.bytesOf el = by') (h : SeqL P ops rest ⟨(d, .als n 0 m) :: s, (n, ⟨true, el, c, List.replicate m zs, true⟩) :: b, n + 1, t, e⟩ Q)
    (hx : Ba s y = some (.lit (.int k (m : Int))) := by exact rfl) (hy : Ba s z = some (.lit (.int k' (m : Int))) := by exact rfl) (hm : m ≤ 1000000 := by omega) (hmb : m * by' ≤ 100000000 := by omega) (hmc : m * c ≤ 2 ^ 24 := by omega) (hzc : (Nat.beq zs.length c && !Nat.beq c 0) = true := by exact rfl)
    (hg : B0 (B8 ops) ⟨s, b, n, t, e⟩ g = some true := by exact rfl) (hd : Nat.blt d t = true := by exact rfl) :
    SeqL P ops (⟨some d, .makeSlice st y z, ty, pos, aft, g⟩ :: rest) ⟨s, b, n, t, e⟩ Q := by
  subst hcl; simp only [Bool.and_eq_true, Nat.beq_eq, Bool.not_eq_true'] at hzc
  have hl : Local P ⟨s, b, n, t, e⟩ ⟨some d, .makeSlice st y z, ty, pos, aft, g⟩ (.als n 0 m) [(n, ⟨true, el, P.cellsOf el, List.replicate m zs, true⟩)] :=
    Local.makeSlice rfl hel hz hzc.1 (En hzc.2) hby (AS hx) (AS hy) hm hmb hmc
  have hw : Writer P ⟨s, b, n, t, e⟩ ⟨some d, .makeSlice st y z, ty, pos, aft, g⟩ ((⟨s, b, n, t, e⟩ : St).ext (some d) (.als n 0 m) [(n, ⟨true, el, P.cellsOf el, List.replicate m zs, true⟩)] (n + 1)) := by
    refine Writer.of_local hl (fun d' e => ?_) (fun r o h => ?_) (Nat.le_succ _)
    · simp only [Option.some.injEq] at e; subst e; exact Nat.le_of_ble_eq_true hd
    rw [AZ] at h
    split at h
    · show n ≤ r ∧ r < n + 1; omega
    simp [Aw] at h
  exact SeqL.write hg hw h
theorem S.mkf {T : Type} {f : T → List AV} (z0 : T) {st el c by' m : Nat} {zs : List AV} (hel : AX P st = some el) (hz : Bt P el = some zs) (hcl : P.cellsOf el = c) (hby : P.bytesOf el = by') (h : SeqL P ops rest ⟨(d, .als n 0 (List.replicate m z0).length) :: s, (n, ⟨true, el, c, (List.replicate m z0).map f, true⟩) :: b, n + 1, t, e⟩ Q)
    (hx : Ba s y = some (.lit (.int k (m : Int))) := by exact rfl) (hy : Ba s z = some (.lit (.int k' (m : Int))) := by exact rfl) (hf : f z0 = zs := by exact rfl) (hm : m ≤ 1000000 := by first | omega | decide) (hmb : m * by' ≤ 100000000 := by first | omega | decide) (hmc : m * c ≤ 2 ^ 24 := by first | omega | decide) (hzc : (Nat.beq zs.length c && !Nat.beq c 0) = true := by exact rfl)
    (hg : B0 (B8 ops) ⟨s, b, n, t, e⟩ g = some true := by exact rfl) (hd : Nat.blt d t = true := by exact rfl) :
    SeqL P ops (⟨some d, .makeSlice st y z, ty, pos, aft, g⟩ :: rest) ⟨s, b, n, t, e⟩ Q := by
  subst hf; refine S.mk hel hz hcl hby ?_ hx hy hm hmb hmc hzc hg hd
  rwa [List.map_replicate, List.length_replicate] at h
theorem Ev.own1 {q r m : Nat} {slc : Bool} {el sz : Nat} {rows : List (List AV)} (h : Post (.als 0 0 m) [(0, ⟨slc, el, sz, rows, true⟩)]) (h1 : Aw s q = some (.als r 0 m) := by exact rfl) (ho : Aw b r = some ⟨slc, el, sz, rows, true⟩ := by exact rfl) :
    endP P [.tmp q] Post .ret ⟨s, b, n, t, e⟩ := by
  refine ⟨[r], by simp, ?_⟩; simp only [retP, ET, St.get, h1, Option.getD_some, Option.map_some, packAV, Dn, CZ, ho, Option.bind_some, EL, pos, if_true, Nat.beq_refl, cond_true]; exact h
end
end Go.AM
