/-
  The abstract machine, continued: results that are kept in memory cells.
  Conditions: none; generic over the program.
-/
import Derived.Test.YtkbpignlggahaaaGreatDoorAmStr
import Derived.Test.YtkbpignlggahaaaGreatDoorAmDraw
import Derived.Test.YtkbpignlggahaaaGreatDoorAmEq
namespace Go.AM
set_option linter.unusedVariables false
set_option linter.unusedSimpArgs false
set_option linter.unusedSectionVars false
variable {P : Program} {s : List (Nat × AV)} {b : List (Nat × Obj)} {n t e : Nat} {rs : List ResultVar} {vs cs : List AV} {u v w x : AV} {r ri rj a q : Nat}
theorem res_n : resAV P ⟨s, b, n, t, e⟩ [] = some [] := rfl
theorem res_t (h : resAV P ⟨s, b, n, t, e⟩ rs = some vs) (h1 : find s q = some v := by exact rfl) : resAV P ⟨s, b, n, t, e⟩ (.tmp q :: rs) = some (v :: vs) := by
  simp only [resAV, h, Option.map_some, St.get, h1, Option.getD_some]
theorem res_c {lt c : Nat} {o : Obj} {row : List AV} (cs : List AV) (ha : isAggT P lt = some true) (hcl : P.cellsOf lt = c) (h : resAV P ⟨s, b, n, t, e⟩ rs = some vs) (h1 : find s a = some (.adr r ri rj) := by exact rfl) (ho : find b r = some o := by exact rfl) (hr : o.rows[ri]? = some row := by exact rfl) (hb : Nat.ble c (row.drop rj).length = true := by exact rfl) (hc : (row.drop rj).take c = cs := by exact rfl) : resAV P ⟨s, b, n, t, e⟩ (.cell a lt :: rs) = some (.agg cs :: vs) := by
  have e1 : St.get ⟨s, b, n, t, e⟩ a = .adr r ri rj := by simp only [St.get, h1, Option.getD_some]
  have e2 : loadAV P ⟨s, b, n, t, e⟩ lt (.adr r ri rj) = some (.agg cs) := by
    subst hc; simp only [loadAV, ha, cells_adr ho hr rfl, hcl, hb, cond_true]
  simp only [resAV, e1, e2, h]
variable {Post : AV → List (Nat × Obj) → Prop}
theorem Ev.retv1 (hr : resAV P ⟨s, b, n, t, e⟩ rs = some [v]) (h : Post v []) (hc : closedAV v = true := by exact rfl) : endP P rs Post .ret ⟨s, b, n, t, e⟩ := endP_of hr hc h
theorem Ev.retv2 (hr : resAV P ⟨s, b, n, t, e⟩ rs = some [u, v]) (h : Post (.tup [u, v]) []) (hc : closedL [u, v] = true := by exact rfl) : endP P rs Post .ret ⟨s, b, n, t, e⟩ := endP_of hr (by simpa [packAV, closedAV] using hc) h
variable {ops : Array Oper} {rest : List Oper} {Q : St → Prop} {d ty : Nat} {pos : String} {aft : Array Edge} {g : Option (Nat × Bool)} {y z : Operand} {k k' : IntKind}
theorem S.mk {st el c by' m : Nat} {zs : List AV} (hel : elemOfSlice P st = some el) (hz : zeroCellsAV P el = some zs) (hcl : P.cellsOf el = c) (hby : P.bytesOf el = by') (h : SeqL P ops rest ⟨(d, .als n 0 m) :: s, (n, ⟨true, el, c, List.replicate m zs, true⟩) :: b, n + 1, t, e⟩ Q)
    (hx : opv s y = some (.lit (.int k (m : Int))) := by exact rfl) (hy : opv s z = some (.lit (.int k' (m : Int))) := by exact rfl) (hm : m ≤ 1000000 := by omega) (hmb : m * by' ≤ 100000000 := by omega) (hmc : m * c ≤ 2 ^ 24 := by omega) (hzc : (Nat.beq zs.length c && !Nat.beq c 0) = true := by exact rfl)
    (hg : guardGo (dstsOf ops) ⟨s, b, n, t, e⟩ g = some true := by exact rfl) (hd : Nat.blt d t = true := by exact rfl) :
    SeqL P ops (⟨some d, .makeSlice st y z, ty, pos, aft, g⟩ :: rest) ⟨s, b, n, t, e⟩ Q := by
  subst hcl; simp only [Bool.and_eq_true, Nat.beq_eq, Bool.not_eq_true'] at hzc
  have hl : Local P ⟨s, b, n, t, e⟩ ⟨some d, .makeSlice st y z, ty, pos, aft, g⟩ (.als n 0 m) [(n, ⟨true, el, P.cellsOf el, List.replicate m zs, true⟩)] :=
    Local.makeSlice rfl hel hz hzc.1 (beq_false_ne hzc.2) hby (opv_ev hx) (opv_ev hy) hm hmb hmc
  have hw : Writer P ⟨s, b, n, t, e⟩ ⟨some d, .makeSlice st y z, ty, pos, aft, g⟩ ((⟨s, b, n, t, e⟩ : St).ext (some d) (.als n 0 m) [(n, ⟨true, el, P.cellsOf el, List.replicate m zs, true⟩)] (n + 1)) := by
    refine Writer.of_local hl (fun d' e => ?_) (fun r o h => ?_) (Nat.le_succ _)
    · simp only [Option.some.injEq] at e; subst e; exact Nat.le_of_ble_eq_true hd
    · rw [find_cons] at h
      split at h
      · show n ≤ r ∧ r < n + 1; omega
      · simp [find] at h
  exact SeqL.write hg hw h
theorem S.mkf {T : Type} {f : T → List AV} (z0 : T) {st el c by' m : Nat} {zs : List AV} (hel : elemOfSlice P st = some el) (hz : zeroCellsAV P el = some zs) (hcl : P.cellsOf el = c) (hby : P.bytesOf el = by') (h : SeqL P ops rest ⟨(d, .als n 0 (List.replicate m z0).length) :: s, (n, ⟨true, el, c, (List.replicate m z0).map f, true⟩) :: b, n + 1, t, e⟩ Q)
    (hx : opv s y = some (.lit (.int k (m : Int))) := by exact rfl) (hy : opv s z = some (.lit (.int k' (m : Int))) := by exact rfl) (hf : f z0 = zs := by exact rfl) (hm : m ≤ 1000000 := by first | omega | decide) (hmb : m * by' ≤ 100000000 := by first | omega | decide) (hmc : m * c ≤ 2 ^ 24 := by first | omega | decide) (hzc : (Nat.beq zs.length c && !Nat.beq c 0) = true := by exact rfl)
    (hg : guardGo (dstsOf ops) ⟨s, b, n, t, e⟩ g = some true := by exact rfl) (hd : Nat.blt d t = true := by exact rfl) :
    SeqL P ops (⟨some d, .makeSlice st y z, ty, pos, aft, g⟩ :: rest) ⟨s, b, n, t, e⟩ Q := by
  subst hf; refine S.mk hel hz hcl hby ?_ hx hy hm hmb hmc hzc hg hd
  rwa [List.map_replicate, List.length_replicate] at h
theorem q.mkf {T : Type} {f : T → List AV} (z0 : T) {st el c by' m id : Nat} {zs : List AV} (hel : elemOfSlice P st = some el) (hz : zeroCellsAV P el = some zs) (hcl : P.cellsOf el = c) (hby : P.bytesOf el = by')
    (hx : opv s y = some (.lit (.int k (m : Int))) := by exact rfl) (hy : opv s z = some (.lit (.int k' (m : Int))) := by exact rfl) (hf : f z0 = zs := by exact rfl) (hm : m ≤ 1000000 := by first | omega | decide) (hmb : m * by' ≤ 100000000 := by first | omega | decide) (hmc : m * c ≤ 16777216 := by first | omega | decide) (hzc : (Nat.beq zs.length c && !Nat.beq c 0) = true := by exact rfl) :
    stepQ P ⟨s, b, n, t, e⟩ id (.makeSlice st y z) = some (.als id 0 (List.replicate m z0).length, [(id, ⟨true, el, c, (List.replicate m z0).map f, true⟩)]) := by
  subst hf hcl hby
  simp only [Bool.and_eq_true, Nat.beq_eq, Bool.not_eq_true'] at hzc; have hok : mkOk (m : Int) (m : Int) (f z0).length (P.cellsOf el) (P.bytesOf el) = true := decide_eq_true ⟨rfl, Int.natCast_nonneg _, by omega, hzc.1, beq_false_ne hzc.2, by simpa using hmb, by simpa using hmc⟩; simp only [stepQ, opv_ev hx, opv_ev hy, hel, hz, Option.bind_some, hok, cond_true, Int.toNat_natCast, List.map_replicate, List.length_replicate]
end Go.AM
namespace Go.AM
set_option linter.unusedVariables false
set_option linter.unusedSimpArgs false
set_option linter.unusedSectionVars false
theorem pureOn_isAgg {P : Program} {t : TypeId} {b : Bool} (h : isAggT P t = some b) : pureOn P (isAgg t) = some b := by
  unfold isAggT at h
  cases hu : P.underlying t with
  | none => simp [hu] at h
  | some d =>
    simp only [hu, Option.map_some, Option.some.injEq] at h; subst h; simp only [isAgg, pureOn_bind, pureOn_underlying hu, Option.bind_some]
    cases d <;> rfl
theorem pureOn_sizeOf {P : Program} {t : TypeId} {c : Nat} (h : P.cellsOf t = c) (hc : c ≠ 0) : pureOn P (sizeOf t) = some c := by
  cases hi : P.info? t with
  | none => simp [Program.cellsOf, hi] at h; omega
  | some i =>
    have := cellsOf_info hi; have hp : pureOn P program = some P := rfl; simp only [sizeOf, typeInfo, pureOn_bind, hp, Option.bind_some, hi, pureOn_pure]; rw [← h, this]
section rules
variable {P : Program} {s : List (Nat × AV)} {b : List (Nat × Obj)} {n t e id : Nat} {x y : Operand} {k : IntKind} {i : Int}
theorem q.ixg {st el len : Nat} {cs : List AV} {xs : List Value} {v : Value} (har : arrOf P st = some (len, el)) (hag : isAggT P el = some false) (hcl : P.cellsOf el = 1) (hx : opv s x = some (.agg cs) := by exact rfl) (hy : opv s y = some (.lit (.int k i)) := by exact rfl) (hxs : toVals cs = some xs := by exact rfl)
    (h0 : 0 ≤ i ∧ i < (len : Int) := by first | decide | omega) (hv : xs[i.toNat]? = some v := by exact rfl) : stepQ P ⟨s, b, n, t, e⟩ id (.index st x y) = some (.lit v, []) := by
  have hu := arrOf_eq har; have ha : pureOn P (asIntOf (.int k i)) = some (k, i) := rfl
  have : idx P st (.agg xs.toArray) (.int k i) = some v := by
    simp only [idx, Instr.index, pureOn_bind, ha, Option.bind_some, pureOn_underlying hu, h0, and_self, if_true, pureOn_sizeOf hcl (by decide), part, pureOn_isAgg hag, Nat.mul_one, List.getElem?_toArray, hv, Bool.false_eq_true, if_false, pureOn_pure]
  simp only [stepQ, opv_ev hx, opv_ev hy, toVal, hxs, Option.map_some, this, lits]
theorem Wk.forget {b : List (Nat × Obj)} (ds : List Nat) : Wk ⟨s, b, n, t, e⟩ ⟨hide ds s, b, n, t, e⟩ :=
  Wk.sub (fun j v hv => by
    simp only [find_hide] at hv
    split at hv
    · cases hv
    · exact hv) (fun _ _ h => h) (Nat.le_refl _) rfl rfl
end rules
end Go.AM
namespace Go.AM
set_option linter.unusedVariables false
set_option linter.unusedSimpArgs false
section rules
variable {P : Program} {s : List (Nat × AV)} {b : List (Nat × Obj)} {n t e id ty d : Nat} {x y : Operand}
end rules
end Go.AM
