/-
  The abstract machine, continued: one rule for each kind of operation; a state is laid out as a list.
  Conditions: none; generic over the program.
-/
import Derived.Test.YtkbpignlggahaaaGreatDoorAmLine
import Derived.Test.YtkbpignlggahaaaGreatDoorAmStep
namespace Go.AM
set_option linter.unusedVariables false
set_option linter.unusedSimpArgs false
set_option linter.unusedSectionVars false
def opv (s : List (Nat × AV)) : Operand → Option AV
  | .tmp t => find s t
  | .const v => some (.lit v)
  | .global g => some (gAV g)
  | .func f => some (.fn (.func f) [] [])
section rules
variable {P : Program} {ops : Array Oper} {rest : List Oper} {s : List (Nat × AV)} {b : List (Nat × Obj)} {n t e id : Nat} {Q : St → Prop} {d ty : Nat} {pos : String} {aft : Array Edge} {g : Option (Nat × Bool)} {op : Op}
variable {x y z : Operand} {u v w : AV} {k k' : IntKind} {i j : Int}
theorem opv_ev (h : opv s x = some v) : St.ev ⟨s, b, n, t, e⟩ x = v := by
  cases x with
  | tmp r => simp only [opv] at h; simp [St.ev, St.get, h]
  | const z => simpa [opv, St.ev] using h
  | global z => simpa [opv, St.ev] using h
  | func z => simpa [opv, St.ev] using h
theorem S.q (hg : guardGo (dstsOf ops) ⟨s, b, n, t, e⟩ g = some true) (hd : Nat.blt d t = true) (hq : stepQ P ⟨s, b, n, t, e⟩ n op = some (v, [])) (h : SeqL P ops rest ⟨(d, v) :: s, b, n, t, e⟩ Q) :
    SeqL P ops (⟨some d, op, ty, pos, aft, g⟩ :: rest) ⟨s, b, n, t, e⟩ Q := by
  have hw : Writer P ⟨s, b, n, t, e⟩ ⟨some d, op, ty, pos, aft, g⟩ ((⟨s, b, n, t, e⟩ : St).ext (some d) v [] n) := by
    refine Writer.of_local (stepQ_sound hq) (fun d' e => ?_) (fun r o h => by simp [find] at h) (Nat.le_refl _); simp only [Option.some.injEq] at e; subst e; exact Nat.le_of_ble_eq_true hd
  exact SeqL.write hg hw h
theorem S.new {o : Obj} (hq : stepQ P ⟨s, b, n, t, e⟩ n op = some (v, [(n, o)])) (hg : guardGo (dstsOf ops) ⟨s, b, n, t, e⟩ g = some true) (hd : Nat.blt d t = true) (h : SeqL P ops rest ⟨(d, v) :: s, (n, o) :: b, n + 1, t, e⟩ Q) :
    SeqL P ops (⟨some d, op, ty, pos, aft, g⟩ :: rest) ⟨s, b, n, t, e⟩ Q := by
  have hw : Writer P ⟨s, b, n, t, e⟩ ⟨some d, op, ty, pos, aft, g⟩ ((⟨s, b, n, t, e⟩ : St).ext (some d) v [(n, o)] (n + 1)) := by
    refine Writer.of_local (stepQ_sound hq) (fun d' e => ?_) (fun r o h => ?_) (Nat.le_succ _)
    · simp only [Option.some.injEq] at e; subst e; exact Nat.le_of_ble_eq_true hd
    · rw [find_cons] at h
      split at h
      · show n ≤ r ∧ r < n + 1; omega
      · simp [find] at h
  exact SeqL.write hg hw h
theorem S.skip (hg : guardGo (dstsOf ops) ⟨s, b, n, t, e⟩ g = some false) (hd : Nat.blt d t = true) (h : SeqL P ops rest ⟨(d, (.lit undef)) :: s, b, n, t, e⟩ Q) : SeqL P ops (⟨some d, op, ty, pos, aft, g⟩ :: rest) ⟨s, b, n, t, e⟩ Q := by
  refine SeqL.skip hg (fun d' e => ?_) h; simp only [Option.some.injEq] at e; subst e; exact Nat.le_of_ble_eq_true hd
theorem S.end (h : Q ⟨s, b, n, t, e⟩) : SeqL P ops [] ⟨s, b, n, t, e⟩ Q := SeqL.nil h
theorem S.st {r ri rj c st : Nat} {slc : Bool} {el sz : Nat} {rows rows' : List (List AV)} {cl cl' : Bool} {row row' cs : List AV} {b' : List (Nat × Obj)} (hg : guardGo (dstsOf ops) ⟨s, b, n, t, e⟩ g = some true) (hin : (P.info? st).isSome = true)
    (hcl : P.cellsOf st = c) (hx : opv s x = some (.adr r ri rj)) (hy : opv s y = some u) (ho : find b r = some ⟨slc, el, sz, rows, cl⟩) (hrow : rows[ri]? = some row) (hc : cellsAV u = some cs)
    (hchk : (Nat.ble (rj + cs.length) row.length && Nat.beq cs.length c) = true) (hsp : splice row rj cs = row') (hset : rows.set ri row' = rows') (hcl' : (cl && closedL cs) = cl') (hdel : del b r = b')
    (h : SeqL P ops rest ⟨s, (r, ⟨slc, el, sz, rows', cl'⟩) :: b', n, t, e⟩ Q) : SeqL P ops (⟨none, .store st x y, ty, pos, aft, g⟩ :: rest) ⟨s, b, n, t, e⟩ Q := by
  subst hsp hset hcl' hdel; refine SeqL.write hg (stepO_sound rfl (σ' := ⟨s, (r, ⟨slc, el, sz, rows.set ri (splice row rj cs), cl && closedL cs⟩) :: del b r, n, t, e⟩) ?_) h; simp only [stepO, hin, cond_true, opv_ev hx, opv_ev hy, storeAV, ho, Option.bind_some, hrow, hc, hcl, hchk, Option.map_some]; rfl
theorem S.ap {st el c : Nat} {zs : List AV} {hr0 : Option Nat} {rows1 rows2 rows : List (List AV)} {c1 c2 cl' : Bool} {by' : Nat} {b' : List (Nat × Obj)} {m : Nat} (hg : guardGo (dstsOf ops) ⟨s, b, n, t, e⟩ g = some true) (hd : Nat.blt d t = true)
    (hel : elemOfSlice P st = some el) (hze : zeroCellsAV P el = some zs) (hcl : P.cellsOf el = c) (hby : P.bytesOf el = by') (hz : (Nat.beq zs.length c && !Nat.beq c 0) = true)
    (hx : opv s x = some u) (hy : opv s y = some v) (hh : headAV ⟨s, b, n, t, e⟩ el c u = some (hr0, rows1, c1)) (hr : rowsAV ⟨s, b, n, t, e⟩ v = some (c, rows2, c2)) (hw : withinB ⟨s, b, n, t, e⟩ v = true)
    (hlen : rows1.length + rows2.length = m) (hm1 : m * by' ≤ 140737488355328) (hm2 : m ≤ 140737488355328) (hrs : rows1 ++ rows2 = rows) (hcl' : (c1 && c2) = cl') (hb' : St.drop1 ⟨s, b, n, t, e⟩ hr0 = b')
    (h : SeqL P ops rest ⟨(d, .als n 0 m) :: s, (n, ⟨true, el, c, rows, cl'⟩) :: b', n + 1, t, e⟩ Q) :
    SeqL P ops (⟨some d, .call { callee := .builtin .append, args := #[x, y], argTypes := #[st, st] }, ty, pos, aft, g⟩ :: rest) ⟨s, b, n, t, e⟩ Q := by
  subst hrs hcl' hb' hlen; have hd' : dstOk ⟨s, b, n, t, e⟩ (some d) = true := hd; refine SeqL.write hg (stepO_sound hd' (σ' := ⟨(d, .als n 0 (rows1.length + rows2.length)) :: s, (n, ⟨true, el, c, rows1 ++ rows2, c1 && c2⟩) :: St.drop1 ⟨s, b, n, t, e⟩ hr0, n + 1, t, e⟩) ?_) h
  have e1 : Nat.ble ((rows1.length + rows2.length) * by') 140737488355328 = true := by rw [Nat.ble_eq]; exact hm1
  have e2 : Nat.ble (rows1.length + rows2.length) 140737488355328 = true := by rw [Nat.ble_eq]; exact hm2
  simp only [Bool.and_eq_true] at hz; simp only [stepO, stepAppend, Nat.beq_refl, Bool.true_and, opv_ev hx, opv_ev hy, hw, cond_true, appendAV, hel, Option.bind_some, hze, hcl, hby, hh, hr, hz.1, hz.2, e1, e2, Bool.and_self, Bool.and_true]; rfl
section draws
variable {l : List Oper} {gs : List (Option Nat)} {nx K c : Nat} {Fb : List Oper → Nat → St → Prop}
def DN (P : Program) (l : List Oper) (gs : List (Option Nat)) (nx : Nat) (Q : St → Prop) (c : Nat) (rest : List Oper) (K : Nat) (σ : St) : Prop := drawN P l gs nx Q c rest K σ
theorem D.q (hg : guardGo gs ⟨s, b, n, t, e⟩ g = some true) (hq : stepQ P ⟨s, b, n, t, e⟩ 0 op = some (v, [])) (h : DN P l gs nx Q c rest K ⟨(d, v) :: s, b, n, t, e⟩) :
    DN P l gs nx Q c (⟨some d, op, ty, pos, aft, g⟩ :: rest) (K + 1) ⟨s, b, n, t, e⟩ := by
  unfold DN at h ⊢
  cases c <;> (simp only [drawN, drawS_cons, hg, hq] at h ⊢; exact h)
theorem D.skip (hg : guardGo gs ⟨s, b, n, t, e⟩ g = some false) (h : DN P l gs nx Q c rest K ⟨(d, (.lit undef)) :: s, b, n, t, e⟩) :
    DN P l gs nx Q c (⟨some d, op, ty, pos, aft, g⟩ :: rest) (K + 1) ⟨s, b, n, t, e⟩ := by
  unfold DN at h ⊢
  cases c <;> (simp only [drawN, drawS_cons, hg] at h ⊢; exact h)
theorem D.call {as : Array Operand} {ts : Array TypeId} (hg : guardGo gs ⟨s, b, n, t, e⟩ g = some true) (hq : Quiet P ⟨s, b, n, t, e⟩ ⟨some d, .call { callee := .value x, args := as, argTypes := ts }, ty, pos, aft, g⟩ v) (h : DN P l gs nx Q c rest K ⟨(d, v) :: s, b, n, t, e⟩) :
    DN P l gs nx Q (c + 1) (⟨some d, .call { callee := .value x, args := as, argTypes := ts }, ty, pos, aft, g⟩ :: rest) (K + 1) ⟨s, b, n, t, e⟩ := by
  unfold DN at h ⊢
  simp only [drawN, drawS_cons, hg, stepQ]; exact ⟨v, hq, h⟩
theorem D.end (h : SeqL P ⟨l⟩ rest ⟨s, b, nx, t, e⟩ Q) : DN P l gs nx Q c rest 0 ⟨s, b, n, t, e⟩ := by
  unfold DN
  cases c <;> (simp only [drawN, drawS_zero]; exact h)
end draws
theorem q_move (hx : opv s x = some v) : stepQ P ⟨s, b, n, t, e⟩ id (.move x) = some (v, []) := by simp only [stepQ, opv_ev hx]
theorem q_assign (hx : opv s x = some v) : stepQ P ⟨s, b, n, t, e⟩ id (.assign x) = some (v, []) := by simp only [stepQ, opv_ev hx]
theorem q_pick_t (hz : opv s z = some (.lit (.bool true))) (hx : opv s x = some v) : stepQ P ⟨s, b, n, t, e⟩ id (.pick z x y) = some (v, []) := by simp only [stepQ, opv_ev hz, opv_ev hx, if_true]
theorem q_pick_f (hz : opv s z = some (.lit (.bool false))) (hy : opv s y = some v) : stepQ P ⟨s, b, n, t, e⟩ id (.pick z x y) = some (v, []) := by simp only [stepQ, opv_ev hz, opv_ev hy, Bool.false_eq_true, if_false]
variable {r ri rj rj' : Nat}
theorem q_lss (hx : opv s x = some (.lit (.int k i))) (hy : opv s y = some (.lit (.int k j))) : stepQ P ⟨s, b, n, t, e⟩ id (.binOp .lss ty x y d) = some (.lit (.bool (decide (i < j))), []) := by simp only [stepQ, opv_ev hx, opv_ev hy, toVal, bin_lss, lits, Option.map_some]
theorem q_leq (hx : opv s x = some (.lit (.int k i))) (hy : opv s y = some (.lit (.int k j))) : stepQ P ⟨s, b, n, t, e⟩ id (.binOp .leq ty x y d) = some (.lit (.bool (decide (i ≤ j))), []) := by simp only [stepQ, opv_ev hx, opv_ev hy, toVal, bin_leq, lits, Option.map_some]
theorem q_gtr (hx : opv s x = some (.lit (.int k i))) (hy : opv s y = some (.lit (.int k j))) : stepQ P ⟨s, b, n, t, e⟩ id (.binOp .gtr ty x y d) = some (.lit (.bool (decide (j < i))), []) := by simp only [stepQ, opv_ev hx, opv_ev hy, toVal, bin_gtr, lits, Option.map_some]
theorem q_geq (hx : opv s x = some (.lit (.int k i))) (hy : opv s y = some (.lit (.int k j))) : stepQ P ⟨s, b, n, t, e⟩ id (.binOp .geq ty x y d) = some (.lit (.bool (decide (j ≤ i))), []) := by simp only [stepQ, opv_ev hx, opv_ev hy, toVal, bin_geq, lits, Option.map_some]
theorem q_eql (hx : opv s x = some (.lit (.int k i))) (hy : opv s y = some (.lit (.int k j))) : stepQ P ⟨s, b, n, t, e⟩ id (.binOp .eql ty x y d) = some (.lit (.bool (decide (i = j))), []) := by simp only [stepQ, opv_ev hx, opv_ev hy, toVal, bin_eql, lits, Option.map_some]
theorem q_neq (hx : opv s x = some (.lit (.int k i))) (hy : opv s y = some (.lit (.int k j))) : stepQ P ⟨s, b, n, t, e⟩ id (.binOp .neq ty x y d) = some (.lit (.bool (!decide (i = j))), []) := by simp only [stepQ, opv_ev hx, opv_ev hy, toVal, bin_neq, lits, Option.map_some]
theorem q_add (hx : opv s x = some (.lit (.int .i64 i))) (hy : opv s y = some (.lit (.int .i64 j))) (h1 : -9223372036854775808 ≤ i + j) (h2 : i + j ≤ 9223372036854775807) : stepQ P ⟨s, b, n, t, e⟩ id (.binOp .add ty x y d) = some (.lit (.int .i64 (i + j)), []) := by simp only [stepQ, opv_ev hx, opv_ev hy, toVal, bin_add, lits, Option.map_some, wrap_i64 h1 h2]
theorem q_sub (hx : opv s x = some (.lit (.int .i64 i))) (hy : opv s y = some (.lit (.int .i64 j))) (h1 : -9223372036854775808 ≤ i - j) (h2 : i - j ≤ 9223372036854775807) : stepQ P ⟨s, b, n, t, e⟩ id (.binOp .sub ty x y d) = some (.lit (.int .i64 (i - j)), []) := by simp only [stepQ, opv_ev hx, opv_ev hy, toVal, bin_sub, lits, Option.map_some, wrap_i64 h1 h2]
theorem q_mul (hx : opv s x = some (.lit (.int .i64 i))) (hy : opv s y = some (.lit (.int .i64 j))) (h1 : -9223372036854775808 ≤ i * j) (h2 : i * j ≤ 9223372036854775807) : stepQ P ⟨s, b, n, t, e⟩ id (.binOp .mul ty x y d) = some (.lit (.int .i64 (i * j)), []) := by simp only [stepQ, opv_ev hx, opv_ev hy, toVal, bin_mul, lits, Option.map_some, wrap_i64 h1 h2]
theorem q_quo (hx : opv s x = some (.lit (.int .i64 i))) (hy : opv s y = some (.lit (.int .i64 j))) (h1 : 0 ≤ i) (h2 : i ≤ 9223372036854775807) (h3 : 0 < j) : stepQ P ⟨s, b, n, t, e⟩ id (.binOp .quo ty x y d) = some (.lit (.int .i64 (i / j)), []) := by
  have h4 : 0 ≤ i / j := Int.ediv_nonneg h1 (by omega); have h5 : i / j ≤ i := Int.ediv_le_self j h1; simp only [stepQ, opv_ev hx, opv_ev hy, toVal, bin_quo _ _ _ _ _ _ _ (show j ≠ 0 by omega), lits, Option.map_some, tdiv_nn h1, wrap_i64 (show -9223372036854775808 ≤ i / j by omega) (show i / j ≤ 9223372036854775807 by omega)]
theorem q_rem (hx : opv s x = some (.lit (.int .i64 i))) (hy : opv s y = some (.lit (.int .i64 j))) (h1 : 0 ≤ i) (h3 : j ≠ 0) : stepQ P ⟨s, b, n, t, e⟩ id (.binOp .rem ty x y d) = some (.lit (.int .i64 (i % j)), []) := by simp only [stepQ, opv_ev hx, opv_ev hy, toVal, bin_rem _ _ _ _ _ _ _ h3, lits, Option.map_some, tmod_nn h1]
theorem q_neg (hx : opv s x = some (.lit (.int .i64 i))) (h1 : -9223372036854775808 ≤ 0 - i) (h2 : 0 - i ≤ 9223372036854775807) : stepQ P ⟨s, b, n, t, e⟩ id (.unOp .neg ty x) = some (.lit (.int .i64 (0 - i)), []) := by simp only [stepQ, opv_ev hx, toVal, Option.bind_some, una_neg, lits, Option.map_some, wrap_i64 h1 h2]
theorem q_not {c : Bool} (hx : opv s x = some (.lit (.bool c))) : stepQ P ⟨s, b, n, t, e⟩ id (.unOp .not ty x) = some (.lit (.bool (!c)), []) := by simp only [stepQ, opv_ev hx, toVal, Option.bind_some, una_not, lits, Option.map_some]
theorem q_max {ts : Array TypeId} (hx : opv s x = some (.lit (.int k i))) (hy : opv s y = some (.lit (.int k j))) : stepQ P ⟨s, b, n, t, e⟩ id (.call { callee := .builtin .max, args := #[x, y], argTypes := ts }) = some (.lit (.int k (max i j)), []) := by
  simp only [stepQ, stepBuiltin, List.map_cons, List.map_nil, opv_ev hx, opv_ev hy, toVals, toVal, Option.bind_some, maxV_int, lits, Option.map_some]
theorem q_min {ts : Array TypeId} (hx : opv s x = some (.lit (.int k i))) (hy : opv s y = some (.lit (.int k j))) : stepQ P ⟨s, b, n, t, e⟩ id (.call { callee := .builtin .min, args := #[x, y], argTypes := ts }) = some (.lit (.int k (min i j)), []) := by
  simp only [stepQ, stepBuiltin, List.map_cons, List.map_nil, opv_ev hx, opv_ev hy, toVals, toVal, Option.bind_some, minV_int, lits, Option.map_some]
theorem q_len {st el m : Nat} (he : elemOfSlice P st = some el) (hx : opv s x = some u) (hl : lenAV u = some m) : stepQ P ⟨s, b, n, t, e⟩ id (.call { callee := .builtin .len, args := #[x], argTypes := #[st] }) = some (.lit (.int .i64 (m : Int)), []) := by
  simp only [stepQ, stepBuiltin, he, opv_ev hx, hl, Option.map_some]
theorem q_load1 {lt : Nat} {cs : List AV} (ha : isAggT P lt = some false) (hx : opv s x = some u) (hc : cellsFrom ⟨s, b, n, t, e⟩ u = some (v :: cs)) : stepQ P ⟨s, b, n, t, e⟩ id (.load lt x) = some (v, []) := by simp only [stepQ, opv_ev hx, loadAV, ha, hc, vals, Option.map_some]
theorem q_loadA {lt c : Nat} {cs cs' : List AV} (ha : isAggT P lt = some true) (hcl : P.cellsOf lt = c) (hx : opv s x = some u) (hc : cellsFrom ⟨s, b, n, t, e⟩ u = some cs) (hl : Nat.ble c cs.length = true) (ht : cs.take c = cs') : stepQ P ⟨s, b, n, t, e⟩ id (.load lt x) = some (.agg cs', []) := by
  subst ht; simp only [stepQ, opv_ev hx, loadAV, ha, hc, hcl, hl, cond_true, vals, Option.map_some]
theorem q_fa {st f off ft c : Nat} (hf : fieldOf P st f = some (off, ft)) (hcl : P.cellsOf ft = c) (hc : Nat.beq c 0 = false) (hx : opv s x = some (.adr r ri rj)) (hj : rj + off = rj') : stepQ P ⟨s, b, n, t, e⟩ id (.fieldAddr st x f) = some (.adr r ri rj', []) := by
  subst hj; simp only [stepQ, hf, Option.bind_some, hcl, hc, cond_false, opv_ev hx, shift, vals, Option.map_some]
theorem q_fas {st f off ft c : Nat} {row : List AV} (hf : fieldOf P st f = some (off, ft)) (hcl : P.cellsOf ft = c) (hc : Nat.beq c 0 = false) (hx : opv s x = some (.sadr row rj)) (hj : rj + off = rj') : stepQ P ⟨s, b, n, t, e⟩ id (.fieldAddr st x f) = some (.sadr row rj', []) := by
  subst hj; simp only [stepQ, hf, Option.bind_some, hcl, hc, cond_false, opv_ev hx, shift, vals, Option.map_some]
theorem q_field {st f off ft : Nat} {cs : List AV} (hf : fieldOf P st f = some (off, ft)) (hx : opv s x = some (.agg cs)) (hp : partAV P ft cs off = some v) : stepQ P ⟨s, b, n, t, e⟩ id (.field st x f) = some (v, []) := by simp only [stepQ, hf, Option.bind_some, opv_ev hx, hp, vals, Option.map_some]
theorem q_ia {st el c m lo m' : Nat} {o : Obj} (hel : elemOfSlice P st = some el) (hcl : P.cellsOf el = c) (hc : Nat.beq c 0 = false) (hx : opv s x = some (.als r lo m)) (hy : opv s y = some (.lit (.int k i))) (ho : find b r = some o) (hsz : o.sz = c) (h0 : 0 ≤ i) (h1 : i < m) (hm : lo + i.toNat = m') : stepQ P ⟨s, b, n, t, e⟩ id (.indexAddr st x y) = some (.adr r m' 0, []) := by
  subst hm hsz; simp only [stepQ, opv_ev hy, hel, hcl, hc, cond_false, opv_ev hx, indexAV, ho, Option.bind_some, Nat.beq_refl, cond_true, h0, h1, and_self, if_true, vals, Option.map_some]
theorem q_ias {st el c : Nat} {rows : List (List AV)} {row : List AV} (hel : elemOfSlice P st = some el) (hcl : P.cellsOf el = c) (hc : Nat.beq c 0 = false) (hx : opv s x = some (.sh c rows)) (hy : opv s y = some (.lit (.int k i))) (h0 : 0 ≤ i) (hr : rows[i.toNat]? = some row) : stepQ P ⟨s, b, n, t, e⟩ id (.indexAddr st x y) = some (.sadr row 0, []) := by
  simp only [stepQ, opv_ev hy, hel, Option.bind_some, hcl, hc, cond_false, opv_ev hx, indexAV, Nat.beq_refl, cond_true, h0, if_true, hr, vals, Option.map_some]
theorem q_alloc {at' : Nat} {cs : List AV} {c : Nat} (hz : zeroCellsAV P at' = some cs) (hc : cs.length = c) : stepQ P ⟨s, b, n, t, e⟩ id (.alloc at') = some (.adr id 0 0, [(id, ⟨false, at', c, [cs], true⟩)]) := by
  subst hc; simp only [stepQ, hz, Option.map_some]
theorem q_box {bt : Nat} {cs : List AV} {c : Nat} {cl : Bool} (hx : opv s x = some u) (hc : cellsAV u = some cs) (hl : cs.length = c) (hcl : closedL cs = cl) : stepQ P ⟨s, b, n, t, e⟩ id (.box bt x) = some (.adr id 0 0, [(id, ⟨false, bt, c, [cs], cl⟩)]) := by
  subst hl hcl; simp only [stepQ, opv_ev hx, hc, Option.map_some]
theorem q_extract {c : Nat} {vs : List AV} (hx : opv s x = some (.tup vs)) (hv : vs[c]? = some v) : stepQ P ⟨s, b, n, t, e⟩ id (.extract x c) = some (v, []) := by simp only [stepQ, opv_ev hx, hv, vals, Option.map_some]
def opvs (s : List (Nat × AV)) : List (Nat × Operand) → Option (List (Nat × AV))
  | [] => some []
  | p :: l => match opv s p.2, opvs s l with
    | some v, some vs => some ((p.1, v) :: vs)
    | _, _ => none
theorem opvs_ev : ∀ {l : List (Nat × Operand)} {vs : List (Nat × AV)}, opvs s l = some vs → (l.map fun p => (p.1, St.ev ⟨s, b, n, t, e⟩ p.2)) = vs
  | [], vs, h => by simp only [opvs, Option.some.injEq] at h; simp [h]
  | p :: l, vs, h => by
    simp only [opvs] at h
    split at h
    · rename_i v vs' h1 h2
      simp only [Option.some.injEq] at h; subst h; rw [List.map_cons, opv_ev h1, opvs_ev h2]
    · cases h
def opvl (s : List (Nat × AV)) : List Operand → Option (List AV)
  | [] => some []
  | x :: l => match opv s x, opvl s l with
    | some v, some vs => some (v :: vs)
    | _, _ => none
theorem opvl_ev : ∀ {l : List Operand} {vs : List AV}, opvl s l = some vs → l.map (St.ev ⟨s, b, n, t, e⟩) = vs
  | [], vs, h => by simp only [opvl, Option.some.injEq] at h; simp [h]
  | x :: l, vs, h => by
    simp only [opvl] at h
    split at h
    · rename_i v vs' h1 h2
      simp only [Option.some.injEq] at h; subst h; rw [List.map_cons, opv_ev h1, opvl_ev h2]
    · cases h
theorem q_build {bt : Nat} {parts : List (Nat × Operand)} {zs cs : List AV} {pl : List (Nat × Nat)} {vs : List (Nat × AV)} (hz : zeroCellsAV P bt = some zs) (hpl : placesL P bt = some pl) (hp : opvs s parts = some vs) (hf : fillAV (fun i => pl[i]?) zs vs = some cs) : stepQ P ⟨s, b, n, t, e⟩ id (.build bt ⟨parts⟩) = some (.agg cs, []) := by
  simp only [stepQ, placesG, hz, hpl, Option.bind_some, opvs_ev hp, hf, Option.map_some, vals]
theorem q_builda {bt el len c : Nat} {parts : List (Nat × Operand)} {zs cs : List AV} {vs : List (Nat × AV)} (hz : zeroCellsAV P bt = some zs) (hpl : placesL P bt = none) (har : arrOf P bt = some (len, el)) (hcl : P.cellsOf el = c) (hc : Nat.beq c 0 = false) (hp : opvs s parts = some vs) (hf : fillAV (fun k => some (k * c, c)) zs vs = some cs) : stepQ P ⟨s, b, n, t, e⟩ id (.build bt ⟨parts⟩) = some (.agg cs, []) := by
  simp only [stepQ, placesG, hz, hpl, har, hcl, hc, cond_false, Option.bind_some, opvs_ev hp, hf, Option.map_some, vals]
theorem q_iaa {st el len c : Nat} (hel : elemOfSlice P st = none) (har : arrOf P st = some (len, el)) (hcl : P.cellsOf el = c) (hc : Nat.beq c 0 = false) (hx : opv s x = some (.adr r ri rj)) (hy : opv s y = some (.lit (.int k i))) (h0 : 0 ≤ i) (h1 : i < len) (hj : rj + i.toNat * c = rj') : stepQ P ⟨s, b, n, t, e⟩ id (.indexAddr st x y) = some (.adr r ri rj', []) := by
  subst hj; simp only [stepQ, opv_ev hy, hel, arrAV, har, Option.bind_some, hcl, hc, cond_false, opv_ev hx, h0, h1, and_self, if_true, shift, vals, Option.map_some]
theorem q_buildSlice {bt el len c : Nat} {parts : List (Nat × Operand)} {zs : List AV} {rows : List (List AV)} {vs : List (Nat × AV)} {cl : Bool} (hel : elemOfSlice P bt = some el) (hz : zeroCellsAV P el = some zs) (hcl : P.cellsOf el = c) (hp : opvs s parts = some vs) (hr : rowsOf c 0 vs = some rows) (hc : (Nat.beq zs.length c && !Nat.beq c 0 && Nat.beq rows.length len && Nat.ble (len * c) 16777216) = true) (hcc : closedR rows = cl) : stepQ P ⟨s, b, n, t, e⟩ id (.buildSlice bt len ⟨parts⟩) = some (.als id 0 len, [(id, ⟨true, el, c, rows, cl⟩)]) := by
  subst hcc; simp only [stepQ, hel, Option.bind_some, hz, hcl, opvs_ev hp, hr, hc, cond_true]
theorem q_makeFunc {f : Fn} {first caps : List Operand} {vs ws : List AV} (h1 : opvl s first = some vs) (h2 : opvl s caps = some ws) : stepQ P ⟨s, b, n, t, e⟩ id (.makeFunc f ⟨first⟩ ⟨caps⟩) = some (.fn f vs ws, []) := by simp only [stepQ, opvl_ev h1, opvl_ev h2]
def bndv (s : List (Nat × AV)) (d : Nat) : Option Operand → Option Int
  | none => some d
  | some x => match opv s x with
    | some (.lit (.int _ n)) => some n
    | _ => none
theorem bndv_ev {dd m : Nat} {z : Int} {xo : Option Operand} (h : bndv s dd xo = some z) (h0 : 0 ≤ z) (hm : z.toNat = m) : boundAV ⟨s, b, n, t, e⟩ dd xo = some m := by
  subst hm
  cases xo with
  | none => simp only [bndv, Option.some.injEq] at h; subst h; simp [boundAV]
  | some x =>
    simp only [bndv] at h
    split at h
    · rename_i k' n' hx
      simp only [Option.some.injEq] at h; subst h; simp only [boundAV, opv_ev hx, h0, if_true]
    · cases h
theorem q_slice {st el c lo0 m l' h' : Nat} {zl zh : Int} {lo hi : Option Operand} {o : Obj} {lo1 m1 : Nat} (hel : elemOfSlice P st = some el) (hcl : P.cellsOf el = c) (hc : Nat.beq c 0 = false) (hx : opv s x = some (.als r lo0 m)) (hlo : bndv s 0 lo = some zl) (hhi : bndv s m hi = some zh) (h0 : 0 ≤ zl) (h1 : zl ≤ zh) (h2 : zh ≤ m) (ho : find b r = some o) (hsz : o.sz = c) (e1 : lo0 + zl.toNat = lo1) (e2 : zh.toNat - zl.toNat = m1) : stepQ P ⟨s, b, n, t, e⟩ id (.slice st x lo hi none) = some (.als r lo1 m1, []) := by
  subst e1 e2 hsz
  have hh : zl.toNat ≤ zh.toNat ∧ zh.toNat ≤ m := by omega
  simp only [stepQ, hel, hcl, hc, cond_false, opv_ev hx, lenAV, Option.bind_some, bndv_ev hlo h0 rfl, bndv_ev hhi (by omega) rfl, ho, Nat.beq_refl, cond_true, sliceAV, hh, and_self, if_true, vals, Option.map_some]
theorem q_slices {st el c l' h' : Nat} {zl zh : Int} {lo hi : Option Operand} {rows rows' : List (List AV)} (hel : elemOfSlice P st = some el) (hcl : P.cellsOf el = c) (hc : Nat.beq c 0 = false) (hx : opv s x = some (.sh c rows)) (hlo : bndv s 0 lo = some zl) (hhi : bndv s rows.length hi = some zh) (h0 : 0 ≤ zl) (h1 : zl ≤ zh) (h2 : zh ≤ rows.length) (e1 : (rows.drop zl.toNat).take (zh.toNat - zl.toNat) = rows') : stepQ P ⟨s, b, n, t, e⟩ id (.slice st x lo hi none) = some (.sh c rows', []) := by
  subst e1
  have hh : zl.toNat ≤ zh.toNat ∧ zh.toNat ≤ rows.length := by omega
  simp only [stepQ, hel, hcl, hc, cond_false, opv_ev hx, lenAV, Option.bind_some, bndv_ev hlo h0 rfl, bndv_ev hhi (by omega) rfl, Nat.beq_refl, cond_true, sliceAV, hh, and_self, if_true, vals, Option.map_some]
theorem q_field1 {st f off ft : Nat} {cs : List AV} (hf : fieldOf P st f = some (off, ft)) (ha : isAggT P ft = some false) (hx : opv s x = some (.agg cs)) (hv : cs[off]? = some v) : stepQ P ⟨s, b, n, t, e⟩ id (.field st x f) = some (v, []) :=
  q_field hf hx (by simp only [partAV, ha]; exact hv)
theorem cells_adr {o : Obj} {row row' : List AV} (ho : find b r = some o) (hr : o.rows[ri]? = some row) (hd : row.drop rj = row') : cellsFrom ⟨s, b, n, t, e⟩ (.adr r ri rj) = some row' := by simp [cellsFrom, ho, hr, hd]
theorem cells_sadr {row row' : List AV} (hd : row.drop rj = row') : cellsFrom ⟨s, b, n, t, e⟩ (.sadr row rj) = some row' := by simp [cellsFrom, hd]
theorem Ev.region_S {P : Program} {σ : St} {Q : Exit → St → Prop} {id : Nat} {l : List Oper} (h : ∀ K : St → Prop, (∀ σ', Q .normal σ' → K σ') → SeqL P ⟨l⟩ l σ K) : Ev P (.region id ⟨l⟩ false) σ Q := Ev.region_k h
theorem fresh1 {m r : Nat} {o ob : Obj} (h : find [(m, o)] r = some ob) : r < m + 1 := by
  rw [find_cons] at h
  split at h
  · omega
  · simp [find] at h
theorem head_own {el c m : Nat} {rows : List (List AV)} {cl : Bool} (ho : find b r = some ⟨true, el, c, rows, cl⟩) (hm : rows.length = m) : headAV ⟨s, b, n, t, e⟩ el c (.als r 0 m) = some (some r, rows, cl) := by
  subst hm
  simp [headAV, ho, Nat.beq_refl]
theorem rows_own {slc : Bool} {el c m : Nat} {rows : List (List AV)} {cl : Bool} (ho : find b r = some ⟨slc, el, c, rows, cl⟩) (hm : rows.length = m) : rowsAV ⟨s, b, n, t, e⟩ (.als r 0 m) = some (c, rows, cl) := by
  subst hm
  simp [rowsAV, ho]
theorem within_own {slc : Bool} {el c m : Nat} {rows : List (List AV)} {cl : Bool} (ho : find b r = some ⟨slc, el, c, rows, cl⟩) (hm : rows.length = m) : withinB ⟨s, b, n, t, e⟩ (.als r 0 m) = true := by
  subst hm
  simp [withinB, ho, ble_dec]
end rules
end Go.AM
