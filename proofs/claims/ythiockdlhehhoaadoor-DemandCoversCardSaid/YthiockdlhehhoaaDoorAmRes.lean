/-
  The abstract machine, continued: results that are kept in memory cells.
  Conditions: none; generic over the program.
-/
import Derived.Test.YthiockdlhehhoaaDoorAmStr
namespace Go.AM
set_option linter.unusedVariables false
set_option linter.unusedSimpArgs false
set_option linter.unusedSectionVars false
variable {P : Program} {s : List (Nat × AV)} {b : List (Nat × Obj)} {n t e : Nat} {rs : List ResultVar} {vs cs : List AV} {u v w x : AV} {r ri rj a q : Nat}
theorem res_n : resAV P ⟨s, b, n, t, e⟩ [] = some [] := rfl
theorem res_t (h : resAV P ⟨s, b, n, t, e⟩ rs = some vs) (h1 : find s q = some v := by exact rfl) : resAV P ⟨s, b, n, t, e⟩ (.tmp q :: rs) = some (v :: vs) := by
  simp only [resAV, h, Option.map_some, St.get, h1, Option.getD_some]
theorem res_c {lt c : Nat} {o : Obj} {row : List AV} (cs : List AV) (ha : isAggT P lt = some true) (hcl : P.cellsOf lt = c) (h : resAV P ⟨s, b, n, t, e⟩ rs = some vs) (h1 : find s a = some (.adr r ri rj) := by exact rfl) (ho : find b r = some o := by exact rfl) (hr : o.rows[ri]? = some row := by exact rfl) (hb : Nat.ble c (row.drop rj).length = true := by exact rfl) (hc : (row.drop rj).take c = cs := by exact rfl) : resAV P ⟨s, b, n, t, e⟩ (.cell a lt :: rs) = some (.agg cs :: vs) := by
  have e1 : St.get ⟨s, b, n, t, e⟩ a = .adr r ri rj := by simp only [St.get, h1, Option.getD_some]
  have e2 : loadAV P ⟨s, b, n, t, e⟩ lt (.adr r ri rj) = some (.agg cs) := by
    subst hc
    simp only [loadAV, ha, cells_adr ho hr rfl, hcl, hb, cond_true]
  simp only [resAV, e1, e2, h]
theorem res_1 {lt : Nat} {o : Obj} {row : List AV} (ha : isAggT P lt = some false) (h : resAV P ⟨s, b, n, t, e⟩ rs = some vs) (h1 : find s a = some (.adr r ri rj) := by exact rfl) (ho : find b r = some o := by exact rfl) (hr : o.rows[ri]? = some row := by exact rfl) (hc : row[rj]? = some v := by exact rfl) : resAV P ⟨s, b, n, t, e⟩ (.cell a lt :: rs) = some (v :: vs) := by
  have e1 : St.get ⟨s, b, n, t, e⟩ a = .adr r ri rj := by simp only [St.get, h1, Option.getD_some]
  have e2 : loadAV P ⟨s, b, n, t, e⟩ lt (.adr r ri rj) = some v := by
    simp only [loadAV, ha, cells_adr ho hr (drop_of_get hc)]
  simp only [resAV, e1, e2, h]
variable {Post : AV → List (Nat × Obj) → Prop}
theorem Ev.retv1 (hr : resAV P ⟨s, b, n, t, e⟩ rs = some [v]) (h : Post v []) (hc : closedAV v = true := by exact rfl) : endP P rs Post .ret ⟨s, b, n, t, e⟩ := endP_of hr hc h
theorem Ev.retv2 (hr : resAV P ⟨s, b, n, t, e⟩ rs = some [u, v]) (h : Post (.tup [u, v]) []) (hc : closedL [u, v] = true := by exact rfl) : endP P rs Post .ret ⟨s, b, n, t, e⟩ := endP_of hr (by simpa [packAV, closedAV] using hc) h
/-! ### Slices made by make -/
variable {ops : Array Oper} {rest : List Oper} {Q : St → Prop} {d ty : Nat} {pos : String} {aft : Array Edge} {g : Option (Nat × Bool)} {y z : Operand} {k k' : IntKind}
theorem S.mk {st el c by' m : Nat} {zs : List AV} (hel : elemOfSlice P st = some el) (hz : zeroCellsAV P el = some zs) (hcl : P.cellsOf el = c) (hby : P.bytesOf el = by') (h : SeqL P ops rest ⟨(d, .als n 0 m) :: s, (n, ⟨true, el, c, List.replicate m zs, true⟩) :: b, n + 1, t, e⟩ Q)
    (hx : opv s y = some (.lit (.int k (m : Int))) := by exact rfl) (hy : opv s z = some (.lit (.int k' (m : Int))) := by exact rfl) (hm : m ≤ 1000000 := by omega) (hmb : m * by' ≤ 100000000 := by omega) (hmc : m * c ≤ 2 ^ 24 := by omega) (hzc : (Nat.beq zs.length c && !Nat.beq c 0) = true := by exact rfl)
    (hg : guardGo (dstsOf ops) ⟨s, b, n, t, e⟩ g = some true := by exact rfl) (hd : Nat.blt d t = true := by exact rfl) :
    SeqL P ops (⟨some d, .makeSlice st y z, ty, pos, aft, g⟩ :: rest) ⟨s, b, n, t, e⟩ Q := by
  subst hcl
  simp only [Bool.and_eq_true, Nat.beq_eq, Bool.not_eq_true'] at hzc
  have hl : Local P ⟨s, b, n, t, e⟩ ⟨some d, .makeSlice st y z, ty, pos, aft, g⟩ (.als n 0 m) [(n, ⟨true, el, P.cellsOf el, List.replicate m zs, true⟩)] :=
    Local.makeSlice rfl hel hz hzc.1 (beq_false_ne hzc.2) hby (opv_ev hx) (opv_ev hy) hm hmb hmc
  have hw : Writer P ⟨s, b, n, t, e⟩ ⟨some d, .makeSlice st y z, ty, pos, aft, g⟩ ((⟨s, b, n, t, e⟩ : St).ext (some d) (.als n 0 m) [(n, ⟨true, el, P.cellsOf el, List.replicate m zs, true⟩)] (n + 1)) := by
    refine Writer.of_local hl (fun d' e => ?_) (fun r o h => ?_) (Nat.le_succ _)
    · simp only [Option.some.injEq] at e
      subst e
      exact Nat.le_of_ble_eq_true hd
    · rw [find_cons] at h
      split at h
      · show n ≤ r ∧ r < n + 1; omega
      · simp [find] at h
  exact SeqL.write hg hw h
/-! ### Is a slice nil? -/
theorem run_eqg {P : Program} {st : TypeId} (A : Option Addr) (m c : Nat) (w : World) (x y : Operand) : Sem.run P (eqGuard .eql st x y (.slice A m c) (.slice none 0 0)) w = .ok () w := by simp [eqGuard]
theorem run_eqn {P : Program} {st el : TypeId} (hu : P.underlying st = some (.slice el)) (A : Option Addr) (m c : Nat) (w : World) :
    Sem.run P (binOp .eql st (.slice A m c) (.slice none 0 0)) w = .ok (.bool A.isNone) w := by
  have h0 : ∀ q, (Op.equalIn (q + 1) st (.slice A m c) (.slice none 0 0)).run P w = .ok A.isNone w := by
    intro q
    cases A <;> simp [Op.equalIn, run_underlying hu]
  have h := h0 9999
  simp only [Nat.reduceAdd] at h
  simp only [Sem.run_bind, Result.andThen_ok, binOp, Op.equal, Op.maxDepth, h, Sem.run_pure]
theorem S.eqn {x : Operand} {st el sz bt : Nat} {rows : List (List AV)} (hel : elemOfSlice P st = some el) (h : ∀ c : Bool, (c = true → rows = []) → SeqL P ops rest ⟨(d, .lit (.bool c)) :: s, b, n, t, e⟩ Q)
    (hx : opv s x = some (.sh sz rows) := by exact rfl) (hg : guardGo (dstsOf ops) ⟨s, b, n, t, e⟩ g = some true := by exact rfl) (hd : Nat.blt d t = true := by exact rfl) :
    SeqL P ops (⟨some d, .binOp .eql st x (.const (.slice none 0 0)) bt, ty, pos, aft, g⟩ :: rest) ⟨s, b, n, t, e⟩ Q := by
  intro C E X a hr Q' hq
  have hg' : guardGo (dstsOf ops) ⟨s, b, n, t, e⟩ (⟨some d, .binOp .eql st x (.const (.slice none 0 0)) bt, ty, pos, aft, g⟩ : Oper).guard = some true := hg
  simp only [wpL_cons, hr.guard hg', if_true]
  have hv := hr.ev x
  rw [opv_ev hx] at hv
  simp only [FV] at hv
  obtain ⟨A, cc, xs, hA, hle, hfr, hne⟩ := hv
  have hrun : (execOp a.eval ⟨some d, .binOp .eql st x (.const (.slice none 0 0)) bt, ty, pos, aft, g⟩).run P E.w = .ok (.value (.bool A.isNone)) E.w := by
    unfold execOp
    have h1 := run_eqg (P := P) (st := st) A rows.length cc E.w x (.const (.slice none 0 0))
    have h2 := run_eqn (elemOfSlice_eq hel) A rows.length cc E.w
    have e2 : a.eval (.const (.slice none 0 0)) = .slice none 0 0 := rfl
    simp only [hA, e2, Sem.run_bind, h1, h2, Result.andThen_ok, Sem.run_pure]
  refine wp_value hrun ?_
  have hc : A.isNone = true → rows = [] := by
    intro h0
    rcases rows with _ | ⟨r, rows⟩
    · rfl
    · obtain ⟨a0, ha0, _⟩ := hne (by simp)
      rw [ha0] at h0; cases h0
  exact h A.isNone hc C E X _ (hr.put (some d) (v := .lit (.bool A.isNone)) (fun d' hd' => by simp only [Option.some.injEq] at hd'; subst hd'; exact Nat.le_of_ble_eq_true hd) (by simp [FV])) Q' hq
/-! ### A result of one's own -/
theorem Ev.own1 {q r m : Nat} {slc : Bool} {el sz : Nat} {rows : List (List AV)} (h : Post (.als 0 0 m) [(0, ⟨slc, el, sz, rows, true⟩)]) (h1 : find s q = some (.als r 0 m) := by exact rfl) (ho : find b r = some ⟨slc, el, sz, rows, true⟩ := by exact rfl) :
    endP P [.tmp q] Post .ret ⟨s, b, n, t, e⟩ := by
  refine ⟨[r], by simp, ?_⟩
  simp only [retP, resAV, St.get, h1, Option.getD_some, Option.map_some, packAV, renAV, keepObjs, ho, Option.bind_some, renObj, pos, if_true, Nat.beq_refl, cond_true]
  exact h
end Go.AM
