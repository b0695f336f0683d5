/-
  The abstract machine, continued: the compact rules for calls that are handed memory of the caller's own.
  Conditions: none; generic over the program.
-/
import Derived.Test.YtnbjmckhongidaaDoorAmAuto
namespace Go.AM
set_option linter.unusedVariables false
set_option linter.unusedSimpArgs false
set_option linter.unusedSectionVars false

theorem FunR.of {P : Program} {f : FuncId} {fn : Func} {c : Code} {args : List AV} {objs : List (Nat × Obj)} {k : Nat} {Post : AV → List (Nat × Obj) → Prop} {nt : Nat} {rs : List ResultVar} (hf : P.funcs[f]? = some fn) (hb : fn.body = some c) (ht : fn.ntmps = nt)
    (hr : fn.results.toList = rs) (hnm : (fn.name == "runtime.NumGoroutine") = false) (hn : Nat.ble args.length nt = true) (h : Ev P c ⟨argSlots 0 args, objs, k, nt, k⟩ (endR P rs k Post)) : FunR P f args objs k Post :=
  FunR.of_body hf hb hnm (by rw [ht]; exact ble_le hn) (by rw [ht, hr]; exact h)

section
variable {P : Program} {s : List (Nat × AV)} {b : List (Nat × Obj)} {n t e k : Nat} {Post : AV → List (Nat × Obj) → Prop} {u v w v' u' w' : AV} {r1 r2 r3 : Nat}

theorem keepR_n {σ : St} {ρ : Nat → Option Nat} {i : Nat} : keepR σ ρ k i [] = some [] := rfl
theorem keepR_c {σ : St} {ρ : Nat → Option Nat} {i j : Nat} {ks : List Nat} {slc : Bool} {el sz : Nat} {rows : List (List AV)} {l : List (Nat × Obj)} (ho : find σ.objs j = some ⟨slc, el, sz, rows, true⟩ := by exact rfl) (h : keepR σ ρ k (i + 1) ks = some l) :
    keepR σ ρ k i (j :: ks) = some ((i, ⟨slc, el, sz, rows, true⟩) :: l) := by
  simp only [keepR, ho, renObj, h]

theorem endR_of {rs : List ResultVar} {ks : List Nat} {σ : St} {vs : List AV} {v' : AV} {objs : List (Nat × Obj)} (hr : resAV P σ rs = some vs) (hv : renAV (pos ks 0) (packAV vs) = some v') (ho : keepR σ (pos ks 0) k 0 ks = some objs) (hnd : ks.Nodup) (hl : leads k ks) (h : Post v' objs) : endR P rs k Post .ret σ := by
  refine ⟨ks, hnd, hl, ?_⟩
  simp only [retR, hr, hv, ho]
  exact h

theorem leads1 : leads 1 [0] := by intro i hi; have : i = 0 := by omega
                                   subst this; rfl
theorem leads2 : leads 2 [0, 1] := by
  intro i hi
  rcases i with _ | _ | i
  · rfl
  · rfl
  · omega

theorem Ev.rr0 (ks : List Nat) {objs : List (Nat × Obj)} (ho : keepR ⟨s, b, n, t, e⟩ (pos ks 0) k 0 ks = some objs) (hl : leads k ks) (h : Post (.tup []) objs) (hnd : ks.Nodup := by decide) : endR P [] k Post .ret ⟨s, b, n, t, e⟩ :=
  endR_of (vs := []) rfl rfl ho hnd hl h
theorem Ev.rr1 (ks : List Nat) {objs : List (Nat × Obj)} (ho : keepR ⟨s, b, n, t, e⟩ (pos ks 0) k 0 ks = some objs) (hl : leads k ks) (h : Post v' objs) (h1 : find s r1 = some v := by exact rfl) (hv : renAV (pos ks 0) v = some v' := by exact rfl) (hnd : ks.Nodup := by decide) : endR P [.tmp r1] k Post .ret ⟨s, b, n, t, e⟩ :=
  endR_of (vs := [v]) (by simp [resAV, St.get, h1]) hv ho hnd hl h
theorem Ev.rr2 (ks : List Nat) {objs : List (Nat × Obj)} (ho : keepR ⟨s, b, n, t, e⟩ (pos ks 0) k 0 ks = some objs) (hl : leads k ks) (h : Post (.tup [u', v']) objs) (h1 : find s r1 = some u := by exact rfl) (h2 : find s r2 = some v := by exact rfl) (hu : renAV (pos ks 0) u = some u' := by exact rfl) (hv : renAV (pos ks 0) v = some v' := by exact rfl) (hnd : ks.Nodup := by decide) :
    endR P [.tmp r1, .tmp r2] k Post .ret ⟨s, b, n, t, e⟩ :=
  endR_of (vs := [u, v]) (by simp [resAV, St.get, h1, h2]) (by simp only [packAV, renAV, renL, hu, hv, Option.map_some]) ho hnd hl h
theorem Ev.rr3 (ks : List Nat) {objs : List (Nat × Obj)} (ho : keepR ⟨s, b, n, t, e⟩ (pos ks 0) k 0 ks = some objs) (hl : leads k ks) (h : Post (.tup [u', v', w']) objs) (h1 : find s r1 = some u := by exact rfl) (h2 : find s r2 = some v := by exact rfl) (h3 : find s r3 = some w := by exact rfl) (hu : renAV (pos ks 0) u = some u' := by exact rfl) (hv : renAV (pos ks 0) v = some v' := by exact rfl) (hw : renAV (pos ks 0) w = some w' := by exact rfl) (hnd : ks.Nodup := by decide) :
    endR P [.tmp r1, .tmp r2, .tmp r3] k Post .ret ⟨s, b, n, t, e⟩ :=
  endR_of (vs := [u, v, w]) (by simp [resAV, St.get, h1, h2, h3]) (by simp only [packAV, renAV, renL, hu, hv, hw, Option.map_some]) ho hnd hl h

variable {ops : Array Oper} {rest : List Oper} {Q : St → Prop} {d ty : Nat} {pos' : String} {aft : Array Edge} {g : Option (Nat × Bool)} {x : Operand}

/-- A call that is handed the roots 'rs'; nothing else of the caller's own is lent. -/
theorem S.cR {as : Array Operand} {ts : Array TypeId} {f : FuncId} {first caps : List AV} {vs : List AV} {objs l new : List (Nat × Obj)} {v v' : AV} (rs : List Nat) (n' : Nat) (b' : List (Nat × Obj))
    (hc : calleeOf (St.ev ⟨s, b, n, t, e⟩ x) = some (f, first, caps) := by exact rfl) (hv : handL ⟨s, b, n, t, e⟩ rs (first ++ (as.toList.map (St.ev ⟨s, b, n, t, e⟩) ++ caps)) = some vs := by exact rfl)
    (hob : keepObjs ⟨s, b, n, t, e⟩ (pos rs 0) 0 rs = some objs) (hF : FunR P f vs objs rs.length (Ret v l)) (hl : renAV (backN rs n) v = some v' := by exact rfl) (hn : backObjs rs n l = some new := by exact rfl)
    (hn' : (∀ r ob, find new r = some ob → r < n') ∧ n ≤ n') (hb : new ++ delAll rs b = b' := by exact rfl)
    (hT : onlyL rs (first ++ (as.toList.map (St.ev ⟨s, b, n, t, e⟩) ++ caps)) = true := by exact rfl) (hnd : rs.Nodup := by decide) (hg : guardGo (dstsOf ops) ⟨s, b, n, t, e⟩ g = some true := by exact rfl) (hd : Nat.blt d t = true := by exact rfl) (h : SeqL P ops rest ⟨(d, v') :: s, b', n', t, e⟩ Q) :
    SeqL P ops (⟨some d, .call { callee := .value x, args := as, argTypes := ts }, ty, pos', aft, g⟩ :: rest) ⟨s, b, n, t, e⟩ Q := by
  subst hb
  refine SeqL.callR rs true hg rfl hc hnd hv hob (fun _ => hT) hF (.inl rfl) (fun d' h' => by cases h'; exact Nat.le_of_ble_eq_true hd) ?_
  rintro u l ⟨rfl, rfl⟩
  exact ⟨v', new, n', hl, hn, hn'.1, hn'.2, h⟩
theorem S.cRn {as : Array Operand} {ts : Array TypeId} {f : FuncId} {first caps : List AV} {vs : List AV} {objs l new : List (Nat × Obj)} {v v' : AV} (rs : List Nat) (n' : Nat) (b' : List (Nat × Obj))
    (hc : calleeOf (St.ev ⟨s, b, n, t, e⟩ x) = some (f, first, caps) := by exact rfl) (hv : handL ⟨s, b, n, t, e⟩ rs (first ++ (as.toList.map (St.ev ⟨s, b, n, t, e⟩) ++ caps)) = some vs := by exact rfl)
    (hob : keepObjs ⟨s, b, n, t, e⟩ (pos rs 0) 0 rs = some objs) (hF : FunR P f vs objs rs.length (Ret v l)) (hl : renAV (backN rs n) v = some v' := by exact rfl) (hn : backObjs rs n l = some new := by exact rfl)
    (hn' : (∀ r ob, find new r = some ob → r < n') ∧ n ≤ n') (hb : new ++ delAll rs b = b' := by exact rfl)
    (hT : onlyL rs (first ++ (as.toList.map (St.ev ⟨s, b, n, t, e⟩) ++ caps)) = true := by exact rfl) (hnd : rs.Nodup := by decide) (hg : guardGo (dstsOf ops) ⟨s, b, n, t, e⟩ g = some true := by exact rfl) (h : SeqL P ops rest ⟨s, b', n', t, e⟩ Q) :
    SeqL P ops (⟨none, .call { callee := .value x, args := as, argTypes := ts }, ty, pos', aft, g⟩ :: rest) ⟨s, b, n, t, e⟩ Q := by
  subst hb
  refine SeqL.callR rs true hg rfl hc hnd hv hob (fun _ => hT) hF (.inl rfl) (fun d' h' => by cases h') ?_
  rintro u l ⟨rfl, rfl⟩
  exact ⟨v', new, n', hl, hn, hn'.1, hn'.2, h⟩

/-- The rows of a slice of the call's own that does not reach to its array's end. -/
theorem rows_part {T : Type} {f : T → List AV} {l l' : List T} {slc : Bool} {r el c m : Nat} (ho : find b r = some ⟨slc, el, c, (l ++ l').map f, true⟩ := by exact rfl) (hm : l.length = m := by first | exact rfl | simp) : RowsW ⟨s, b, n, t, e⟩ (.als r 0 m) c (l.map f) := by
  subst hm
  constructor
  · simp [rowsAV, ho]
  · simp [withinB, ho, ble_dec]
theorem below1 {o : Obj} {r0 n : Nat} (h : r0 < n) : (∀ r ob, find [(r0, o)] r = some ob → r < n) ∧ n ≤ n := by
  refine ⟨fun r ob hf => ?_, Nat.le_refl _⟩
  rw [find_cons] at hf
  split at hf
  · omega
  · simp [find] at hf

/-- A row that was laid out element by element, as a value. -/
theorem Wk.frzl {T : Type} {f : T → List AV} (l : List T) (d : Nat) (b' : List (Nat × Obj)) {slc : Bool} {r el c m : Nat} {rows : List (List AV)} (hs : find s d = some (.als r 0 m) := by exact rfl) (ho : find b r = some ⟨slc, el, c, rows, true⟩ := by exact rfl) (hr : rows = l.map f := by exact rfl) (hm : l.length = m := by first | exact rfl | simp) (hk : Nat.ble e r = true := by exact rfl) (hb : del b r = b' := by exact rfl) :
    Wk ⟨s, b, n, t, e⟩ ⟨(d, .sh c (l.map f)) :: s, b', n, t, e⟩ := by
  subst hr
  exact Wk.frz d b' hs ho hm hk hb
end
end Go.AM
