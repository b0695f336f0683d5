/-
  Part 4 of the proof: the abstract machine, proved sound over the model.
  Conditions: none.
-/
import Derived.Test.YtlpgjlnkfgacbaaGreatX3
set_option linter.unusedVariables false
set_option linter.unusedSimpArgs false
set_option linter.unusedSectionVars false
namespace Go.AM
structure Entry (E : Env) (X : Nat → List Value) (l : List (Nat × Obj)) (k : Nat) : Prop where
  dom : ∀ r, E.D r ↔ r < k
  objs : ∀ r o, find l r = some o → r < k ∧ E.Z r = o.sz ∧ ObjOK E.w (E.H r) (X r) o ∧ FVr (E.by o.cl) o.sz o.rows (X r)
  apart : ∀ r r' o o' b, find l r = some o → find l r' = some o' → blockOf (E.H r) = some b → blockOf (E.H r') = some b → r = r'
  stay : ∀ b, E.S b → b < E.w.heap.size ∧ ∀ r o, find l r = some o → blockOf (E.H r) ≠ some b
  glob : LaidOK E.w E.S
def ownOf (E : Env) (objs : List (Nat × Obj)) (b : Nat) : Prop := ∃ r o, find objs r = some o ∧ blockOf (E.H r) = some b
def ctxOf (E : Env) (objs : List (Nat × Obj)) (k : Nat) : Ctx := ⟨E.w, ownOf E objs, E.H, k, E.S, E.Z, []⟩
def FunR (P : Program) (f : FuncId) (args : List AV) (objs : List (Nat × Obj)) (k : Nat) (Post : AV → List (Nat × Obj) → Prop) : Prop :=
  Bodied P f ∧ ∀ (E : Env) (X : Nat → List Value) (xs : List Value), Entry E X objs k → FVs E args xs →
    Calls P f xs.toArray E.w (fun e w' => ∃ y v objs' E' X' n, e = .returned y ∧ E'.w = w' ∧ Post v objs' ∧ (∀ r, E'.D r → r < k ∨ ∃ o, find objs' r = some o) ∧
      Rel (ctxOf E objs k) E' X' ⟨[(0, v)], objs', n, 1, k⟩ { tmps := #[y], defers := [] })
theorem FunR.mono {P : Program} {f : FuncId} {args : List AV} {objs : List (Nat × Obj)} {k : Nat} {Post Post' : AV → List (Nat × Obj) → Prop} (h : FunR P f args objs k Post) (hp : ∀ v l, Post v l → Post' v l) : FunR P f args objs k Post' :=
  ⟨h.1, fun E X xs h1 h2 => (h.2 E X xs h1 h2).mono fun e w' ⟨y, v, l, E', X', n, g1, g2, g3, g4⟩ => ⟨y, v, l, E', X', n, g1, g2, hp v l g3, g4⟩⟩
def keepR (σ : St) (ρ : Nat → Option Nat) (k : Nat) : Nat → List Nat → Option (List (Nat × Obj))
  | _, [] => some []
  | i, j :: ks => match find σ.objs j with
    | some o => match renObj ρ o, keepR σ ρ k (i + 1) ks with
      | some o', some l => some ((i, o') :: l)
      | _, _ => none
    | none => bif Nat.blt i k then keepR σ ρ k (i + 1) ks else none
theorem keepR_spec {σ : St} {ρ : Nat → Option Nat} {k : Nat} : ∀ (ks : List Nat) (i : Nat) (l : List (Nat × Obj)), keepR σ ρ k i ks = some l → ∀ r o', find l r = some o' → ∃ j o, i ≤ r ∧ ks[r - i]? = some j ∧ find σ.objs j = some o ∧ renObj ρ o = some o'
  | [], i, l, h, r, o', hf => by simp only [keepR, Option.some.injEq] at h; subst h; simp [find] at hf
  | j :: ks, i, l, h, r, o', hf => by
    simp only [keepR] at h
    split at h
    · rename_i o ho
      split at h
      · rename_i o1 l1 h1 h2
        simp only [Option.some.injEq] at h; subst h; rw [find_cons] at hf
        split at hf
        · rename_i e
          simp only [Option.some.injEq] at hf; subst e hf; exact ⟨j, o, Nat.le_refl _, by simp, ho, h1⟩
        · obtain ⟨k', o, g1, g2, g3, g4⟩ := keepR_spec ks (i + 1) l1 h2 r o' hf; refine ⟨k', o, by omega, ?_, g3, g4⟩; rw [show r - i = (r - (i + 1)) + 1 by omega]
          simpa using g2
      · cases h
    · cases hb : Nat.blt i k with
      | false => simp [hb] at h
      | true =>
        simp only [hb, cond_true] at h; obtain ⟨k', o, g1, g2, g3, g4⟩ := keepR_spec ks (i + 1) l h r o' hf; refine ⟨k', o, by omega, ?_, g3, g4⟩; rw [show r - i = (r - (i + 1)) + 1 by omega]
        simpa using g2
theorem keepR_dom {σ : St} {ρ : Nat → Option Nat} {k : Nat} : ∀ (ks : List Nat) (i : Nat) (l : List (Nat × Obj)), keepR σ ρ k i ks = some l → ∀ r, i ≤ r → r < i + ks.length → r < k ∨ ∃ o', find l r = some o'
  | [], i, l, h, r, h1, h2 => by simp at h2; omega
  | j :: ks, i, l, h, r, h1, h2 => by
    simp only [keepR] at h
    split at h
    · split at h
      · rename_i o1 l1 g1 g2
        simp only [Option.some.injEq] at h; subst h; rw [find_cons]
        split
        · exact .inr ⟨_, rfl⟩
        · exact keepR_dom ks (i + 1) l1 g2 r (by omega) (by simp at h2; omega)
      · cases h
    · cases hb : Nat.blt i k with
      | false => simp [hb] at h
      | true =>
        simp only [hb, cond_true] at h; have hik : i < k := Nat.le_of_ble_eq_true hb
        by_cases e : r = i
        · exact .inl (by omega)
        · exact keepR_dom ks (i + 1) l h r (by omega) (by simp at h2; omega)
def retR (P : Program) (rs : List ResultVar) (ks : List Nat) (k : Nat) (Post : AV → List (Nat × Obj) → Prop) (σ : St) : Prop :=
  match resAV P σ rs with
  | none => False
  | some vs => match renAV (pos ks 0) (packAV vs), keepR σ (pos ks 0) k 0 ks with
    | some v, some objs => Post v objs
    | _, _ => False
def leads (k : Nat) (ks : List Nat) : Prop := ∀ i, i < k → ks[i]? = some i
def endR (P : Program) (rs : List ResultVar) (k : Nat) (Post : AV → List (Nat × Obj) → Prop) : Exit → St → Prop
  | .normal, σ | .ret, σ => ∃ ks, ks.Nodup ∧ leads k ks ∧ retR P rs ks k Post σ
  | _, _ => False
theorem FunR.of_body {P : Program} {f : FuncId} {fn : Func} {c : Code} {args : List AV} {objs0 : List (Nat × Obj)} {k : Nat} {Post : AV → List (Nat × Obj) → Prop} (hf : P.funcs[f]? = some fn) (hb : fn.body = some c) (hnm : (fn.name == "runtime.NumGoroutine") = false)
    (hn : args.length ≤ fn.ntmps) (h : Ev P c ⟨argSlots 0 args, objs0, k, fn.ntmps, k⟩ (endR P fn.results.toList k Post)) : FunR P f args objs0 k Post := by
  refine ⟨⟨fn, hf, by simp [hb], hnm⟩, fun E X xs hE hx => ?_⟩; refine calls_of_wp hf hb ?_; have hxl := hx.length
  have hrel : Rel (ctxOf E objs0 k) E X ⟨argSlots 0 args, objs0, k, fn.ntmps, k⟩ { tmps := xs.toArray ++ Array.replicate (fn.ntmps - xs.toArray.size) undef, defers := [] } := by
    refine ⟨?_, ?_, rfl, ?_, hE.apart, hE.stay, ?_, Keep.refl _ _, ?_, ?_, ?_, fun b hb => hb, fun b hb => .inl hb, rfl, hE.glob⟩
    · intro s v hv; obtain ⟨_, h2⟩ := find_argSlots args 0 s v hv; simp only [Nat.sub_zero] at h2; obtain ⟨y, hy, hfv⟩ := hx.get h2; have hlt : s < xs.length := (List.getElem?_eq_some_iff.1 hy).1
      have : (xs.toArray ++ Array.replicate (fn.ntmps - xs.toArray.size) undef).getD s undef = y := by
        have e : (xs.toArray ++ Array.replicate (fn.ntmps - xs.toArray.size) undef)[s]? = some y := by
          rw [Array.getElem?_append_left (by simpa using hlt)]
          simpa using hy
        rw [Array.getD_eq_getD_getElem?, e]; rfl
      rw [this]; exact hfv
    · simp [hxl]; omega
    · intro r o hr; obtain ⟨h1, h2⟩ := hE.objs r o hr; exact ⟨(hE.dom r).2 h1, h2⟩
    · intro r hr; exact (hE.dom r).1 hr
    · intro r o b hr hb; exact .inl ⟨r, o, hr, hb⟩
    · intro r hr; exact ⟨rfl, rfl⟩
    · intro r hr; exact (hE.dom r).2 hr
  have hend : ∀ (E' : Env) X' σ' a', Rel (ctxOf E objs0 k) E' X' σ' a' → ∀ ks : List Nat, ks.Nodup → leads k ks → retR P fn.results.toList ks k Post σ' →
      ∃ y, (results fn a'.tmps).run P E'.w = .ok y E'.w ∧ ∃ v objs E'' X'' n, E''.w = E'.w ∧ Post v objs ∧ (∀ r, E''.D r → r < k ∨ ∃ o, find objs r = some o) ∧
        Rel (ctxOf E objs0 k) E'' X'' ⟨[(0, v)], objs, n, 1, k⟩ { tmps := #[y], defers := [] } := by
    intro E' X' σ' a' hr ks hnd hld hret
    unfold retR at hret
    split at hret
    · exact hret.elim
    · rename_i vs hvs
      split at hret
      · rename_i v objs hv ho
        obtain ⟨y, hy1, hy2⟩ := hr.run_results hvs; refine ⟨y, hy1, v, objs, ?_⟩
        let E'' : Env := { w := E'.w, H := fun r' => match ks[r']? with | some k => E'.H k | none => undef, Z := fun r' => match ks[r']? with | some k => E'.Z k | none => 0, D := fun r' => ∃ k, ks[r']? = some k ∧ E'.D k, S := E'.S }
        have hren : E'.ren (pos ks 0) E'' := by
          refine ⟨fun b hb => ⟨hb, rfl⟩, fun r r' hD hp => ?_⟩; obtain ⟨_, h2⟩ := pos_spec ks 0 r r' hp; simp only [Nat.sub_zero] at h2; exact ⟨⟨r, h2, hD⟩, by simp [E'', h2], by simp [E'', h2]⟩
        refine ⟨E'', fun r' => match ks[r']? with | some k => X' k | none => [], ks.length, rfl, hret, ?_, ⟨?_, rfl, rfl, ?_, ?_, ?_, ?_, hr.kept, ?_, ?_, ?_, hr.base, hr.grow, rfl, hr.glob⟩⟩
        · rintro r ⟨j, hj, _⟩; have hlt := (List.getElem?_eq_some_iff.1 hj).1; exact keepR_dom ks 0 objs ho r (Nat.zero_le _) (by omega)
        · intro s u hu; rw [find_cons] at hu
          split at hu
          · rename_i e
            simp only [Option.some.injEq] at hu; subst e hu; exact FV.ren hren hv hy2
          · simp [find] at hu
        · intro r o hro; obtain ⟨j, o1, _, hk, hk2, hk3⟩ := keepR_spec ks 0 objs ho r o hro; simp only [Nat.sub_zero] at hk; obtain ⟨g1, g2, g3, g4⟩ := hr.objs j o1 hk2; have hsp := renObj_spec hk3; refine ⟨⟨j, hk, g1⟩, by simp [E'', hk, g2, hsp.2.2.1], ?_, ?_⟩
          · simp only [E'', hk]; exact g3.ren hk3
          · simp only [hk]; exact FVr.renObj hk3 hren g4
        · intro r r' o o' b hro hro' hb hb'; obtain ⟨j, o1, _, hk, hk2, hk3⟩ := keepR_spec ks 0 objs ho r o hro; obtain ⟨j', o1', _, hk', hk2', hk3'⟩ := keepR_spec ks 0 objs ho r' o' hro'; simp only [Nat.sub_zero] at hk hk'; simp only [E'', hk] at hb; simp only [E'', hk'] at hb'; have := hr.apart j j' o1 o1' b hk2 hk2' hb hb'; subst this; obtain ⟨hl, he⟩ := List.getElem?_eq_some_iff.1 hk; obtain ⟨hl', he'⟩ := List.getElem?_eq_some_iff.1 hk'; exact (List.getElem_inj hnd).1 (he.trans he'.symm)
        · intro b hb; obtain ⟨h1, h2⟩ := hr.stay b hb; refine ⟨h1, fun r o hro e => ?_⟩; obtain ⟨j, o1, _, hk, hk2, _⟩ := keepR_spec ks 0 objs ho r o hro; simp only [Nat.sub_zero] at hk; simp only [E'', hk] at e; exact h2 j o1 hk2 e
        · rintro r ⟨j, hj, _⟩; exact (List.getElem?_eq_some_iff.1 hj).1
        · intro r o b hro hb; obtain ⟨j, o1, _, hk, hk2, _⟩ := keepR_spec ks 0 objs ho r o hro; simp only [Nat.sub_zero] at hk; simp only [E'', hk] at hb; exact hr.mine j o1 b hk2 hb
        · intro r hrk; have := hld r hrk; simp only [E'', this]; exact hr.env r hrk
        · intro r hrk; exact ⟨r, hld r hrk, hr.envD r hrk⟩
      · exact hret.elim
  refine wp_mono (h _ E X _ hrel) ?_; rintro e a' w' ⟨E', X', σ', rfl, hr, hq⟩
  cases e <;> simp only [endR] at hq
  case normal =>
    obtain ⟨ks, hnd, hld, hq⟩ := hq; obtain ⟨y, hy, v, objs, E'', X'', n, h1, h2, h3, h4⟩ := hend E' X' σ' a' hr ks hnd hld hq; exact ⟨hr.defers, y, hy, y, v, objs, E'', X'', n, rfl, h1, h2, h3, h4⟩
  case ret =>
    obtain ⟨ks, hnd, hld, hq⟩ := hq; obtain ⟨y, hy, v, objs, E'', X'', n, h1, h2, h3, h4⟩ := hend E' X' σ' a' hr ks hnd hld hq; exact ⟨hr.defers, y, hy, y, v, objs, E'', X'', n, rfl, h1, h2, h3, h4⟩
def delAll {α : Type} : List Nat → List (Nat × α) → List (Nat × α)
  | [], l => l
  | r :: rs, l => delAll rs (del l r)
theorem find_delAll {α : Type} : ∀ (rs : List Nat) (l : List (Nat × α)) (n : Nat) (o : α), find (delAll rs l) n = some o ↔ find l n = some o ∧ n ∉ rs
  | [], l, n, o => by simp [delAll]
  | r :: rs, l, n, o => by
    simp only [delAll]; rw [find_delAll rs, find_del, List.mem_cons]
    by_cases h : r = n
    · simp [h]
    · have h' : ¬ n = r := fun e => h e.symm
      simp [h, h']
mutual
def handAV (σ : St) (rs : List Nat) : AV → Option AV
  | .als r lo n => match pos rs 0 r with
    | some r' => some (.als r' lo n)
    | none => viewAV σ (.als r lo n)
  | .hd r => match pos rs 0 r with
    | some r' => some (.hd r')
    | none => none
  | .shm s rows => some (.shm s rows)
  | .rem s la rows => some (.rem s la rows)
  | .adr r i j => match pos rs 0 r with
    | some r' => some (.adr r' i j)
    | none => viewAV σ (.adr r i j)
  | .agg cs => (handL σ rs cs).map .agg
  | .tup cs => (handL σ rs cs).map .tup
  | .fn f first caps => match handL σ rs first, handL σ rs caps with
    | some x, some y => some (.fn f x y)
    | _, _ => none
  | .top => some .top
  | .lit v => some (.lit v)
  | .sh s rows => some (.sh s rows)
  | .sadr row j => some (.sadr row j)
def handL (σ : St) (rs : List Nat) : List AV → Option (List AV)
  | [] => some []
  | c :: cs => match handAV σ rs c, handL σ rs cs with
    | some x, some xs => some (x :: xs)
    | _, _ => none
end
mutual
def onlyAV (rs : List Nat) : AV → Bool
  | .als r _ _ => (pos rs 0 r).isSome
  | .adr r _ _ => (pos rs 0 r).isSome
  | .hd r => (pos rs 0 r).isSome
  | .shm _ _ => true
  | .rem _ _ _ => true
  | .agg cs => onlyL rs cs
  | .tup cs => onlyL rs cs
  | .fn _ first caps => onlyL rs first && onlyL rs caps
  | .top => true
  | .lit _ => true
  | .sh _ _ => true
  | .sadr _ _ => true
def onlyL (rs : List Nat) : List AV → Bool
  | [] => true
  | c :: cs => onlyAV rs c && onlyL rs cs
end
def Env.hand (E : Env) (σ : St) (rs : List Nat) (T : Bool) : Env :=
  { w := E.w, H := fun r' => match rs[r']? with | some k => E.H k | none => undef, Z := fun r' => match rs[r']? with | some k => E.Z k | none => 0, D := fun r' => r' < rs.length,
    S := fun b => E.S b ∨ (T = false ∧ b < E.w.heap.size ∧ ∀ r o, r ∈ rs → find σ.objs r = some o → blockOf (E.H r) ≠ some b) }
section hand
variable {C : Ctx} {E : Env} {X : Nat → List Value} {σ : St} {a : Act}
theorem Rel.hand_clear (h : Rel C E X σ a) (rs : List Nat) (T : Bool) : E.clear.le (E.hand σ rs T) := ⟨fun b hb => ⟨.inl hb, rfl⟩, fun _ hr => hr.elim⟩
theorem pos_none : ∀ {ks : List Nat} {i r : Nat}, pos ks i r = none → r ∉ ks
  | [], _, _, _ => by simp
  | k :: ks, i, r, h => by
    simp only [pos] at h
    cases hb : Nat.beq k r with
    | true => simp [hb] at h
    | false =>
      simp only [hb, cond_false] at h
      have hne : ¬ r = k := by
        intro e; subst e; rw [Nat.beq_refl] at hb
        cases hb
      have := pos_none h
      simp [this, hne]
theorem FV.hand_root (h : Rel C E X σ a) {rs : List Nat} {T : Bool} : ∀ {v v' : AV} {x : Value}, (∃ r lo n r', v = .als r lo n ∧ v' = .als r' lo n ∧ pos rs 0 r = some r') ∨ (∃ r i j r', v = .adr r i j ∧ v' = .adr r' i j ∧ pos rs 0 r = some r') ∨ (∃ r r', v = .hd r ∧ v' = .hd r' ∧ pos rs 0 r = some r') →
    FV E v x → FV (E.hand σ rs T) v' x := by
  rintro v v' x (⟨r, lo, n, r', rfl, rfl, hp⟩ | ⟨r, i, j, r', rfl, rfl, hp⟩ | ⟨r, r', rfl, rfl, hp⟩) hx
  all_goals
    obtain ⟨_, h2⟩ := pos_spec rs 0 r r' hp; simp only [Nat.sub_zero] at h2; simp only [FV] at hx ⊢; refine ⟨(List.getElem?_eq_some_iff.1 h2).1, ?_⟩; simp only [Env.hand, h2]; exact hx.2
theorem FV.hand_view (h : Rel C E X σ a) {rs : List Nat} : ∀ {v v' : AV} {x : Value}, (∀ r o b, r ∈ rs → find σ.objs r = some o → blockOf (E.H r) = some b → ∀ r1 o1, (∃ lo n, v = .als r1 lo n) ∨ (∃ i j, v = .adr r1 i j) → find σ.objs r1 = some o1 → blockOf (E.H r1) ≠ some b) →
    ((∃ r lo n, v = .als r lo n) ∨ ∃ r i j, v = .adr r i j) → viewAV σ v = some v' → FV E v x → FV (E.hand σ rs false) v' x := by
  intro v v' x hap hv0 hv hx
  rcases hv0 with ⟨r, lo, n, rfl⟩ | ⟨r, i, j, rfl⟩
  · have hv1 := hv; simp only [viewAV, Option.bind_eq_some_iff] at hv; obtain ⟨o, ho, hv⟩ := hv; obtain ⟨_, hZ, hok, hr⟩ := h.objs r o ho
    cases hc : o.cl with
    | false => simp [hc] at hv
    | true =>
      simp only [hc, cond_true] at hv; rw [hc] at hr; simp only [FV] at hx; obtain ⟨_, A0, n0, c0, A, c, hH, rfl, hnc, _, hA⟩ := hx
      have key : lo + n ≤ o.rows.length → FV (E.hand σ rs false) (.sh o.sz ((o.rows.drop lo).take n)) (.slice A n c) := by
        intro hle
        have hlen : ((o.rows.drop lo).take n).length = n := by simp; omega
        simp only [FV]; refine ⟨A, c, ((X r).drop (lo * o.sz)).take (n * o.sz), by rw [hlen], by rw [hlen]; exact hnc, ?_, fun hne => ?_⟩
        · exact FVr.le _ _ (h.hand_clear rs false).clear _ ((hr.drop lo).take n)
        · have hpos : 0 < n := by
            rcases Nat.eq_zero_or_pos n with h0 | h0
            · rw [h0] at hne; simp at hne
            · exact h0
          obtain ⟨a0, rfl, hs, rfl⟩ := hA hpos; obtain ⟨_, hh⟩ := hok.holds (a0 := a0) (by rw [hH]; rfl); refine ⟨_, rfl, add_spot _ hs _, ?_, ?_⟩
          · rw [add_block]; refine .inr ⟨rfl, hok.lt (b := a0.block) (by rw [hH]; rfl), fun r2 o2 hm ho2 hb => ?_⟩; exact hap r2 o2 _ hm ho2 hb r o (.inl ⟨lo, n, rfl⟩) ho (by rw [hH]; rfl)
          · rw [hZ]; exact (hh.drop hs _).take _
      split at hv
      · rename_i hw
        simp only [Option.some.injEq] at hv; subst hv; have := key (by omega); rw [hw.1, hw.2, List.drop_zero, List.take_length] at this; rw [hw.2]; exact this
      · split at hv
        · rename_i hle
          simp only [Option.some.injEq] at hv; subst hv; exact key hle
        · cases hv
  · simp only [viewAV, Option.bind_eq_some_iff] at hv; obtain ⟨o, ho, hv⟩ := hv; obtain ⟨_, hZ, hok, hr⟩ := h.objs r o ho
    cases hc : o.cl with
    | false => simp [hc] at hv
    | true =>
      simp only [hc, cond_true, Option.map_eq_some_iff] at hv; obtain ⟨row, hrow, rfl⟩ := hv; rw [hc] at hr; simp only [FV] at hx ⊢; obtain ⟨_, a0, hb, hs, rfl⟩ := hx; obtain ⟨_, hh⟩ := hok.holds hb; refine ⟨a0.add (i * o.sz), ((X r).drop (i * o.sz)).take o.sz, by rw [add_add' a0 hs, hZ], add_spot _ hs _, ?_, ?_, (hh.drop hs _).take _⟩
      · rw [add_block]; refine .inr ⟨rfl, hok.lt (b := a0.block) (blockOf_base hb), fun r2 o2 hm ho2 hbk => ?_⟩; exact hap r2 o2 _ hm ho2 hbk r o (.inr ⟨i, j, rfl⟩) ho (blockOf_base hb)
      · exact FVc.le _ (h.hand_clear rs false).clear _ (hr.get hrow).2
theorem Rel.hand_apart (h : Rel C E X σ a) {rs : List Nat} {r1 : Nat} (hn : r1 ∉ rs) {r b : Nat} {o o1 : Obj} (hm : r ∈ rs) (ho : find σ.objs r = some o) (hb : blockOf (E.H r) = some b) (ho1 : find σ.objs r1 = some o1) : blockOf (E.H r1) ≠ some b := by
  intro e; have := h.apart r r1 o o1 b ho ho1 hb e; subst this; exact hn hm
mutual
theorem FV.hand (h : Rel C E X σ a) {rs : List Nat} {T : Bool} : ∀ {v v' : AV} {x : Value}, (T = true → onlyAV rs v = true) → handAV σ rs v = some v' → FV E v x → FV (E.hand σ rs T) v' x
  | .shm s rows, _, x, _, hv, hx => by
    simp only [handAV, Option.some.injEq] at hv; subst hv; exact FV.le _ (h.hand_clear rs T) _ (FV.closed (v := .shm s rows) rfl hx)
  | .rem s la rows, _, x, _, hv, hx => by
    simp only [handAV, Option.some.injEq] at hv; subst hv; exact FV.le _ (h.hand_clear rs T) _ (FV.closed (v := .rem s la rows) rfl hx)
  | .hd r, v', x, hT, hv, hx => by
    simp only [handAV] at hv
    split at hv
    · rename_i r' hp
      simp only [Option.some.injEq] at hv; subst hv; exact FV.hand_root h (.inr (.inr ⟨r, r', rfl, rfl, hp⟩)) hx
    · cases hv
  | .top, _, _, _, hv, _ => by simp only [handAV, Option.some.injEq] at hv; subst hv; simp [FV]
  | .lit v, _, x, _, hv, hx => by simp only [handAV, Option.some.injEq] at hv; subst hv; simpa [FV] using hx
  | .sh s rows, _, x, _, hv, hx => by
    simp only [handAV, Option.some.injEq] at hv; subst hv; exact FV.le _ (h.hand_clear rs T) _ (FV.closed (v := .sh s rows) rfl hx)
  | .sadr row j, _, x, _, hv, hx => by
    simp only [handAV, Option.some.injEq] at hv; subst hv; exact FV.le _ (h.hand_clear rs T) _ (FV.closed (v := .sadr row j) rfl hx)
  | .als r lo n, v', x, hT, hv, hx => by
    simp only [handAV] at hv
    split at hv
    · rename_i r' hp
      simp only [Option.some.injEq] at hv; subst hv; exact FV.hand_root h (.inl ⟨r, lo, n, r', rfl, rfl, hp⟩) hx
    · rename_i hp
      cases T with
      | true => have := hT rfl; simp [onlyAV, hp] at this
      | false =>
        refine FV.hand_view h (fun r2 o2 b hm ho hb r1 o1 hr1 ho1 => ?_) (.inl ⟨r, lo, n, rfl⟩) hv hx
        rcases hr1 with ⟨_, _, e⟩ | ⟨_, _, e⟩
        · simp only [AV.als.injEq] at e; obtain ⟨rfl, _⟩ := e; exact h.hand_apart (pos_none hp) hm ho hb ho1
        · cases e
  | .adr r i j, v', x, hT, hv, hx => by
    simp only [handAV] at hv
    split at hv
    · rename_i r' hp
      simp only [Option.some.injEq] at hv; subst hv; exact FV.hand_root h (.inr (.inl ⟨r, i, j, r', rfl, rfl, hp⟩)) hx
    · rename_i hp
      cases T with
      | true => have := hT rfl; simp [onlyAV, hp] at this
      | false =>
        refine FV.hand_view h (fun r2 o2 b hm ho hb r1 o1 hr1 ho1 => ?_) (.inr ⟨r, i, j, rfl⟩) hv hx
        rcases hr1 with ⟨_, _, e⟩ | ⟨_, _, e⟩
        · cases e
        · simp only [AV.adr.injEq] at e; obtain ⟨rfl, _⟩ := e; exact h.hand_apart (pos_none hp) hm ho hb ho1
  | .agg cs, _, x, hT, hv, hx => by
    simp only [handAV, Option.map_eq_some_iff] at hv; obtain ⟨cs', hr, rfl⟩ := hv; simp only [FV] at hx ⊢; obtain ⟨xs, e, hc⟩ := hx; exact ⟨xs, e, FVc.hand h (fun t => by simpa [onlyAV] using hT t) hr hc⟩
  | .tup cs, _, x, hT, hv, hx => by
    simp only [handAV, Option.map_eq_some_iff] at hv; obtain ⟨cs', hr, rfl⟩ := hv; simp only [FV] at hx ⊢; obtain ⟨xs, e, hc⟩ := hx; exact ⟨xs, e, FVs.hand h (fun t => by simpa [onlyAV] using hT t) hr hc⟩
  | .fn f first caps, v', x, hT, hv, hx => by
    simp only [handAV] at hv
    split at hv
    · rename_i y z h1 h2
      simp only [Option.some.injEq] at hv; subst hv; simp only [FV] at hx ⊢; obtain ⟨xs, ys, e, g1, g2⟩ := hx; exact ⟨xs, ys, e, FVs.hand h (fun t => by have := hT t; simp only [onlyAV, Bool.and_eq_true] at this; exact this.1) h1 g1, FVs.hand h (fun t => by have := hT t; simp only [onlyAV, Bool.and_eq_true] at this; exact this.2) h2 g2⟩
    · cases hv
theorem FVc.hand (h : Rel C E X σ a) {rs : List Nat} {T : Bool} : ∀ {cs cs' : List AV} {xs : List Value}, (T = true → onlyL rs cs = true) → handL σ rs cs = some cs' → FVc E cs xs → FVc (E.hand σ rs T) cs' xs
  | [], _, _, _, hv, hx => by simp only [handL, Option.some.injEq] at hv; subst hv; simpa [FVc] using hx
  | c :: cs, cs', xs, hT, hv, hx => by
    simp only [handL] at hv
    split at hv
    · rename_i y ys h1 h2
      simp only [Option.some.injEq] at hv; subst hv; simp only [FVc] at hx ⊢; obtain ⟨z, zs, e, h0, g1, g2⟩ := hx; exact ⟨z, zs, e, h0, FV.hand h (fun t => by have := hT t; simp only [onlyL, Bool.and_eq_true] at this; exact this.1) h1 g1, FVc.hand h (fun t => by have := hT t; simp only [onlyL, Bool.and_eq_true] at this; exact this.2) h2 g2⟩
    · cases hv
theorem FVs.hand (h : Rel C E X σ a) {rs : List Nat} {T : Bool} : ∀ {cs cs' : List AV} {xs : List Value}, (T = true → onlyL rs cs = true) → handL σ rs cs = some cs' → FVs E cs xs → FVs (E.hand σ rs T) cs' xs
  | [], _, _, _, hv, hx => by simp only [handL, Option.some.injEq] at hv; subst hv; simpa [FVs] using hx
  | c :: cs, cs', xs, hT, hv, hx => by
    simp only [handL] at hv
    split at hv
    · rename_i y ys h1 h2
      simp only [Option.some.injEq] at hv; subst hv; simp only [FVs] at hx ⊢; obtain ⟨z, zs, e, g1, g2⟩ := hx; exact ⟨z, zs, e, FV.hand h (fun t => by have := hT t; simp only [onlyL, Bool.and_eq_true] at this; exact this.1) h1 g1, FVs.hand h (fun t => by have := hT t; simp only [onlyL, Bool.and_eq_true] at this; exact this.2) h2 g2⟩
    · cases hv
end
theorem Rel.hand_ren (h : Rel C E X σ a) (rs : List Nat) (T : Bool) : E.ren (pos rs 0) (E.hand σ rs T) :=
  ⟨fun b hb => ⟨.inl hb, rfl⟩, fun r r' hD hp => by
    obtain ⟨_, h2⟩ := pos_spec rs 0 r r' hp; simp only [Nat.sub_zero] at h2
    exact ⟨(List.getElem?_eq_some_iff.1 h2).1, by simp [Env.hand, h2], by simp [Env.hand, h2]⟩⟩
theorem Rel.entry (h : Rel C E X σ a) {rs : List Nat} (hnd : rs.Nodup) {T : Bool} {objs : List (Nat × Obj)} (ho : keepObjs σ (pos rs 0) 0 rs = some objs) :
    Entry (E.hand σ rs T) (fun r' => match rs[r']? with | some k => X k | none => []) objs rs.length := by
  refine ⟨fun r => Iff.rfl, ?_, ?_, ?_, h.glob.sup fun b hb => .inl hb⟩
  · intro r o hro; obtain ⟨j, o1, _, hk, hk2, hk3⟩ := keepObjs_spec rs 0 objs ho r o hro; simp only [Nat.sub_zero] at hk; obtain ⟨g1, g2, g3, g4⟩ := h.objs j o1 hk2; have hsp := renObj_spec hk3; refine ⟨(List.getElem?_eq_some_iff.1 hk).1, by simp [Env.hand, hk, g2, hsp.2.2.1], ?_, ?_⟩
    · simp only [Env.hand, hk]; exact g3.ren hk3
    · simp only [hk]; exact FVr.renObj hk3 (h.hand_ren rs T) g4
  · intro r r' o o' b hro hro' hb hb'; obtain ⟨j, o1, _, hk, hk2, hk3⟩ := keepObjs_spec rs 0 objs ho r o hro; obtain ⟨j', o1', _, hk', hk2', hk3'⟩ := keepObjs_spec rs 0 objs ho r' o' hro'; simp only [Nat.sub_zero] at hk hk'; simp only [Env.hand, hk] at hb; simp only [Env.hand, hk'] at hb'; have := h.apart j j' o1 o1' b hk2 hk2' hb hb'; subst this; obtain ⟨hl, he⟩ := List.getElem?_eq_some_iff.1 hk; obtain ⟨hl', he'⟩ := List.getElem?_eq_some_iff.1 hk'; exact (List.getElem_inj hnd).1 (he.trans he'.symm)
  · intro b hb
    have hm : ∀ r o, find objs r = some o → ∃ j o1, rs[r]? = some j ∧ find σ.objs j = some o1 ∧ (E.hand σ rs T).H r = E.H j := by
      intro r o hro; obtain ⟨j, o1, _, hk, hk2, hk3⟩ := keepObjs_spec rs 0 objs ho r o hro; simp only [Nat.sub_zero] at hk; exact ⟨j, o1, hk, hk2, by simp [Env.hand, hk]⟩
    rcases hb with hb | ⟨_, hb1, hb2⟩
    · obtain ⟨h1, h2⟩ := h.stay b hb; refine ⟨h1, fun r o hro e => ?_⟩; obtain ⟨j, o1, hj, hj2, hj3⟩ := hm r o hro; rw [hj3] at e; exact h2 j o1 hj2 e
    · refine ⟨hb1, fun r o hro e => ?_⟩; obtain ⟨j, o1, hj, hj2, hj3⟩ := hm r o hro; rw [hj3] at e; exact hb2 j o1 (List.mem_of_getElem? hj) hj2 e
end hand
def backN (rs : List Nat) (N r : Nat) : Option Nat := match rs[r]? with
  | some j => some j
  | none => some (r - rs.length + N)
theorem backN_cases {rs : List Nat} {N r j : Nat} (h : backN rs N r = some j) : rs[r]? = some j ∨ (rs.length ≤ r ∧ j = r - rs.length + N) := by
  unfold backN at h
  split at h
  · rename_i g
    simp only [Option.some.injEq] at h; exact .inl (h ▸ g)
  · rename_i g
    simp only [Option.some.injEq] at h; exact .inr ⟨List.getElem?_eq_none_iff.1 g, h.symm⟩
def backObjs (rs : List Nat) (N : Nat) : List (Nat × Obj) → Option (List (Nat × Obj))
  | [] => some []
  | p :: l => match backN rs N p.1, renObj (backN rs N) p.2, backObjs rs N l with
    | some r, some o', some l' => some ((r, o') :: l')
    | _, _, _ => none
theorem backObjs_spec {rs : List Nat} {N : Nat} : ∀ {l l' : List (Nat × Obj)}, backObjs rs N l = some l' → (∀ r r' j, backN rs N r = some j → backN rs N r' = some j → r = r') → ∀ j o', find l' j = some o' → ∃ r o, backN rs N r = some j ∧ find l r = some o ∧ renObj (backN rs N) o = some o'
  | [], l', h, _, r, o', hf => by simp only [backObjs, Option.some.injEq] at h; subst h; simp [find] at hf
  | (k, o) :: l, l', h, hi, r, o', hf => by
    simp only [backObjs] at h
    split at h
    · rename_i r1 o1 l1 h0 h1 h2
      simp only [Option.some.injEq] at h; subst h; rw [find_cons] at hf
      split at hf
      · rename_i e
        simp only [Option.some.injEq] at hf; subst e hf; exact ⟨k, o, h0, by rw [find_cons, if_pos rfl], h1⟩
      · rename_i e
        obtain ⟨r2, o2, g1, g2, g3⟩ := backObjs_spec h2 hi r o' hf; refine ⟨r2, o2, g1, ?_, g3⟩; rw [find_cons, if_neg]
        · exact g2
        · intro e'; subst e'; rw [h0] at g1; simp only [Option.some.injEq] at g1; exact e g1
    · cases h
theorem backObjs_dom {rs : List Nat} {N : Nat} : ∀ {l l' : List (Nat × Obj)}, backObjs rs N l = some l' → ∀ r o, find l r = some o → ∃ j o', backN rs N r = some j ∧ find l' j = some o'
  | [], l', h, r, o, hf => by simp [find] at hf
  | (k, o1) :: l, l', h, r, o, hf => by
    simp only [backObjs] at h
    split at h
    · rename_i r1 o2 l1 h0 h1 h2
      simp only [Option.some.injEq] at h; subst h; rw [find_cons] at hf
      split at hf
      · rename_i e
        subst e; exact ⟨r1, o2, h0, by rw [find_cons, if_pos rfl]⟩
      · obtain ⟨j, o', g1, g2⟩ := backObjs_dom h2 r o hf
        by_cases e : r1 = j
        · exact ⟨j, o2, g1, by rw [find_cons, if_pos e]⟩
        · exact ⟨j, o', g1, by rw [find_cons, if_neg e]; exact g2⟩
    · cases h
open Classical in
theorem Rel.back {C : Ctx} {E : Env} {X : Nat → List Value} {σ : St} {a : Act} (h : Rel C E X σ a) {rs : List Nat} (hnd : rs.Nodup) {T : Bool} {objs : List (Nat × Obj)} (ho : keepObjs σ (pos rs 0) 0 rs = some objs)
    {E' : Env} {X' : Nat → List Value} {v v' : AV} {objs' new : List (Nat × Obj)} {y : Value} {n n' : Nat} (hr : Rel (ctxOf (E.hand σ rs T) objs rs.length) E' X' ⟨[(0, v)], objs', n, 1, rs.length⟩ { tmps := #[y], defers := [] })
    (hdm : ∀ r, E'.D r → r < rs.length ∨ ∃ o, find objs' r = some o) (hv : renAV (backN rs σ.next) v = some v') (hn : backObjs rs σ.next objs' = some new) (hn' : ∀ r o, find new r = some o → r < n') (hle : σ.next ≤ n')
    (hm : T = true ∨ (noShAV v = true ∧ ∀ r o, find objs' r = some o → noShR o.rows)) (dst : Option Nat) (hd : ∀ d, dst = some d → d < σ.nt) :
    ∃ E'' X'', E''.w = E'.w ∧ Rel C E'' X'' ({ σ with objs := new ++ delAll rs σ.objs, next := n' }.put dst v') (a.put dst y) := by
  have hrs : ∀ (i j : Nat), rs[i]? = some j → ∃ o o', find σ.objs j = some o ∧ find objs i = some o' := by
    intro i j hij; obtain ⟨o', ho'⟩ := keepObjs_dom rs 0 objs ho i (Nat.zero_le _) (by have := (List.getElem?_eq_some_iff.1 hij).1; omega); obtain ⟨k, o, _, hk, hk2, _⟩ := keepObjs_spec rs 0 objs ho i o' ho'; simp only [Nat.sub_zero] at hk; rw [hij] at hk; simp only [Option.some.injEq] at hk; subst hk; exact ⟨o, o', hk2, ho'⟩
  have hrD : ∀ (i j : Nat), rs[i]? = some j → E.D j := by
    intro i j hij; obtain ⟨o, _, h1, _⟩ := hrs i j hij; exact (h.objs j o h1).1
  have hown : ∀ b, ownOf (E.hand σ rs T) objs b → ∃ j o, j ∈ rs ∧ find σ.objs j = some o ∧ blockOf (E.H j) = some b := by
    rintro b ⟨r, o, hro, hb⟩; obtain ⟨j, o1, _, hk, hk2, hk3⟩ := keepObjs_spec rs 0 objs ho r o hro; simp only [Nat.sub_zero] at hk; simp only [Env.hand, hk] at hb; exact ⟨j, o1, List.mem_of_getElem? hk, hk2, hb⟩
  have hkeep : ∀ b, b < E.w.heap.size → ¬ ownOf (E.hand σ rs T) objs b → E'.w.heap[b]? = E.w.heap[b]? := fun b hb hno => hr.kept.block b hb hno; have hsize : E.w.heap.size ≤ E'.w.heap.size := hr.kept.size
  let N := σ.next
  have hNd : ∀ r, N ≤ r → ¬ E.D r := fun r hN hD => by have := h.fresh r hD; omega
  have hinj : ∀ r r' j, backN rs N r = some j → backN rs N r' = some j → r = r' := by
    intro r r' j h1 h2
    rcases backN_cases h1 with g1 | ⟨g1, e1⟩ <;> rcases backN_cases h2 with g2 | ⟨g2, e2⟩
    · obtain ⟨hl, he⟩ := List.getElem?_eq_some_iff.1 g1; obtain ⟨hl', he'⟩ := List.getElem?_eq_some_iff.1 g2; exact (List.getElem_inj hnd).1 (he.trans he'.symm)
    · exact absurd (hrD r j g1) (hNd j (by omega))
    · exact absurd (hrD r' j g2) (hNd j (by omega))
    · omega
  let E'' : Env := ⟨E'.w, fun r => if E.D r then E.H r else E'.H (r - N + rs.length), fun r => if E.D r then E.Z r else E'.Z (r - N + rs.length), fun r => E.D r ∨ (N ≤ r ∧ E'.D (r - N + rs.length)), fun b => E'.S b ∧ (E.S b ∨ T = true)⟩
  have hback : ∀ r j, E'.D r → backN rs N r = some j → E''.D j ∧ E''.H j = E'.H r ∧ E''.Z j = E'.Z r := by
    intro r j hD hb
    unfold backN at hb
    split at hb
    · rename_i j1 g1
      simp only [Option.some.injEq] at hb; subst hb; have hD' := hrD r j1 g1; have hlt := (List.getElem?_eq_some_iff.1 g1).1; obtain ⟨e1, e2⟩ := hr.env r hlt; simp only [ctxOf, Env.hand, g1] at e1 e2; exact ⟨.inl hD', by simp [E'', hD', e1], by simp [E'', hD', e2]⟩
    · rename_i g1
      simp only [Option.some.injEq] at hb; subst hb; rw [List.getElem?_eq_none_iff] at g1
      have e : r - rs.length + N - N + rs.length = r := by omega
      have hnd' := hNd (r - rs.length + N) (by omega)
      refine ⟨.inr ⟨by omega, by rw [e]; exact hD⟩, ?_, ?_⟩ <;> simp only [E'', hnd', if_false, e]
  have hESc : ∀ b, E.S b → ¬ ownOf (E.hand σ rs T) objs b := by
    intro b hb hw; obtain ⟨j, o, _, hj, hbk⟩ := hown b hw; exact (h.stay b hb).2 j o hj hbk
  have hleE : E.le E'' := by
    refine ⟨fun b hb => ⟨⟨hr.base b (.inl hb), .inl hb⟩, hkeep b (h.stay b hb).1 (hESc b hb)⟩, fun r hD => ⟨.inl hD, by simp [E'', hD], by simp [E'', hD]⟩⟩
  have hval : ∀ (u u' : AV) (x : Value), (T = true ∨ noShAV u = true) → renAV (backN rs N) u = some u' → FV E' u x → FV E'' u' x := by
    intro u u' x hor hru hx
    rcases hor with hor | hor
    · exact FV.ren (E := E') (E' := E'') ⟨fun b hb => ⟨⟨hb, .inr hor⟩, rfl⟩, hback⟩ hru hx
    · exact FV.ren (E := E'.noS) (E' := E'') ⟨fun b hb => hb.elim, hback⟩ hru (FV.noSh hor hx)
  have hobj : ∀ (o o' : Obj) (xs : List Value), (T = true ∨ noShR o.rows) → renObj (backN rs N) o = some o' → FVr (E'.by o.cl) o.sz o.rows xs → FVr (E''.by o'.cl) o'.sz o'.rows xs := by
    intro o o' xs hor hro hx
    rcases hor with hor | hor
    · exact FVr.renObj (E := E') (E' := E'') hro ⟨fun b hb => ⟨⟨hb, .inr hor⟩, rfl⟩, hback⟩ hx
    · have h1 := FVr.noSh hor hx; rw [noS_by] at h1; exact FVr.renObj (E := E'.noS) (E' := E'') hro ⟨fun b hb => hb.elim, hback⟩ h1
  have hcase : ∀ r o, find (new ++ delAll rs σ.objs) r = some o → (∃ r0 o0, backN rs N r0 = some r ∧ find objs' r0 = some o0 ∧ renObj (backN rs N) o0 = some o) ∨ (find σ.objs r = some o ∧ r ∉ rs) := by
    intro r o hf; rw [find_append] at hf
    cases hf' : find new r with
    | none => rw [hf'] at hf; exact .inr ((find_delAll rs _ _ _).1 (by simpa using hf))
    | some o1 =>
      rw [hf'] at hf; simp only [Option.some_or, Option.some.injEq] at hf; subst hf; exact .inl (backObjs_spec hn hinj r o1 hf')
  have hHb : ∀ r0 o0 j, backN rs N r0 = some j → find objs' r0 = some o0 → E''.H j = E'.H r0 ∧ E''.D j ∧ E''.Z j = E'.Z r0 := by
    intro r0 o0 j hb hf; have hD := (hr.objs r0 o0 hf).1; obtain ⟨g1, g2, g3⟩ := hback r0 j hD hb; exact ⟨g2, g1, g3⟩
  have hoD : ∀ r o, find σ.objs r = some o → E''.H r = E.H r := fun r o hf => by simp [E'', (h.objs r o hf).1]
  have hsep : ∀ r0 o0 r o b, find objs' r0 = some o0 → blockOf (E'.H r0) = some b → find σ.objs r = some o → r ∉ rs → blockOf (E.H r) ≠ some b := by
    intro r0 o0 r o b hf hb hfo hnr e
    rcases hr.mine r0 o0 b hf hb with hw | hge
    · obtain ⟨j, o1, hj, hjo, hjb⟩ := hown b hw; exact h.hand_apart hnr hj hjo hjb hfo e
    · have := (h.objs r o hfo).2.2.1.lt e; simp only [ctxOf, Env.hand] at hge; omega
  have hrel : Rel C E'' (fun r => if (find new r).isSome then (if E.D r then X' ((pos rs 0 r).getD 0) else X' (r - N + rs.length)) else X r) { σ with objs := new ++ delAll rs σ.objs, next := n' } a := by
    have hX : ∀ r o, find new r = some o → ∀ r0, backN rs N r0 = some r → (if E.D r then X' ((pos rs 0 r).getD 0) else X' (r - N + rs.length)) = X' r0 := by
      intro r o hf r0 hb; have hb0 := hb
      unfold backN at hb
      split at hb
      · rename_i j1 g1
        simp only [Option.some.injEq] at hb; subst hb; rw [if_pos (hrD r0 j1 g1)]
        cases hp : pos rs 0 j1 with
        | none => exact absurd (List.mem_of_getElem? g1) (pos_none hp)
        | some i =>
          obtain ⟨_, h2⟩ := pos_spec rs 0 j1 i hp; simp only [Nat.sub_zero] at h2
          have hb1 : backN rs N i = some j1 := by simp [backN, h2]
          rw [Option.getD_some, hinj i r0 j1 hb1 hb0]
      · rename_i g1
        simp only [Option.some.injEq] at hb; subst hb; rw [List.getElem?_eq_none_iff] at g1; rw [if_neg (hNd _ (by omega)), show r0 - rs.length + N - N + rs.length = r0 by omega]
    refine ⟨fun s u hu => FV.le _ hleE _ (h.slots s u hu), h.size, h.defers, ?_, ?_, ?_, ?_, ?_, ?_, ?_, fun r hk => .inl (h.envD r hk), fun b hb => (hleE.stay b (h.base b hb)).1, ?_, h.envk, h.glob.le hleE⟩
    · intro r o hf; have hf0 := hf
      rcases hcase r o hf with ⟨r0, o0, g1, g2, g3⟩ | ⟨g1, g2⟩
      · obtain ⟨k1, k2, k3, k4⟩ := hr.objs r0 o0 g2; obtain ⟨e1, e2, e3⟩ := hHb r0 o0 r g1 g2; have hsp := renObj_spec g3
        have hfn : ∃ o1, find new r = some o1 := by
          obtain ⟨j, o1, q1, q2⟩ := backObjs_dom hn r0 o0 g2; rw [g1] at q1; simp only [Option.some.injEq] at q1; subst q1; exact ⟨o1, q2⟩
        obtain ⟨o1, hfn⟩ := hfn; simp only [hfn, Option.isSome_some, if_true]; rw [hX r o1 hfn r0 g1, e1, e3]
        exact ⟨e2, k2.trans hsp.2.2.1.symm, k3.ren g3, hobj o0 o _ (by
          rcases hm with hm | hm
          · exact .inl hm
          · exact .inr (hm.2 r0 o0 g2)) g3 k4⟩
      · have hfn : find new r = none := by
          cases hf' : find new r with
          | none => rfl
          | some o1 =>
            obtain ⟨r0, o0, q1, q2, q3⟩ := backObjs_spec hn hinj r o1 hf'
            exfalso
            unfold backN at q1
            split at q1
            · rename_i j1 q4
              simp only [Option.some.injEq] at q1; subst q1; exact g2 (List.mem_of_getElem? q4)
            · simp only [Option.some.injEq] at q1; exact hNd r (by omega) (h.objs r o g1).1
        simp only [hfn, Option.isSome_none, Bool.false_eq_true, if_false]; obtain ⟨k1, k2, k3, k4⟩ := h.objs r o g1; obtain ⟨q1, q2, q3⟩ := hleE.root r k1; rw [q2, q3]; refine ⟨q1, k2, k3.kept (fun b hb => hkeep b (k3.lt hb) (fun hw => ?_)), FVr.le _ _ (hleE.by _) _ k4⟩; obtain ⟨j, o1, hj, hjo, hjb⟩ := hown b hw; exact h.hand_apart g2 hj hjo hjb g1 hb
    · intro r r' o o' b hf hf' hb hb'
      rcases hcase r o hf with ⟨r0, o0, g1, g2, g3⟩ | ⟨g1, g2⟩ <;> rcases hcase r' o' hf' with ⟨r0', o0', g1', g2', g3'⟩ | ⟨g1', g2'⟩
      · rw [(hHb r0 o0 r g1 g2).1] at hb; rw [(hHb r0' o0' r' g1' g2').1] at hb'; have := hr.apart r0 r0' o0 o0' b g2 g2' hb hb'; subst this; rw [g1] at g1'
        simpa using g1'
      · rw [(hHb r0 o0 r g1 g2).1] at hb; rw [hoD r' o' g1'] at hb'; exact absurd hb' (hsep r0 o0 r' o' b g2 hb g1' g2')
      · rw [(hHb r0' o0' r' g1' g2').1] at hb'; rw [hoD r o g1] at hb; exact absurd hb (hsep r0' o0' r o b g2' hb' g1 g2)
      · rw [hoD r o g1] at hb; rw [hoD r' o' g1'] at hb'; exact h.apart r r' o o' b g1 g1' hb hb'
    · rintro b ⟨hb1, hb2⟩; refine ⟨(hr.stay b hb1).1, fun r o hf e => ?_⟩
      rcases hcase r o hf with ⟨r0, o0, g1, g2, g3⟩ | ⟨g1, g2⟩
      · rw [(hHb r0 o0 r g1 g2).1] at e; exact (hr.stay b hb1).2 r0 o0 g2 e
      · rw [hoD r o g1] at e
        rcases hb2 with hb2 | rfl
        · exact (h.stay b hb2).2 r o g1 e
        · rcases hr.grow b hb1 with hg | hg | hg
          · rcases hg with hg | ⟨hg, _⟩
            · exact (h.stay b hg).2 r o g1 e
            · cases hg
          · have := (h.objs r o g1).2.2.1.lt e; simp only [ctxOf, Env.hand] at hg; omega
          · obtain ⟨j, o1, hj, hjo, hjb⟩ := hown b hg; exact h.hand_apart g2 hj hjo hjb g1 e
    · rintro r (hD | ⟨h1, h2⟩)
      · exact Nat.lt_of_lt_of_le (h.fresh r hD) hle
      · rcases hdm _ h2 with h3 | ⟨o, h3⟩
        · exact absurd h3 (by omega)
        · obtain ⟨j, o', g1, g2⟩ := backObjs_dom hn _ o h3
          have : j = r := by
            unfold backN at g1
            rw [List.getElem?_eq_none_iff.2 (by omega)] at g1; simp only [Option.some.injEq] at g1; omega
          subst this; exact hn' j o' g2
    · refine ⟨hr.kept.os.trans h.kept.os, h.kept.tape.trans hr.kept.tape, hr.kept.output.trans h.kept.output, Nat.le_trans h.kept.size hsize, fun b hb hno => ?_⟩; rw [show E''.w = E'.w from rfl, hkeep b (Nat.lt_of_lt_of_le hb h.kept.size)]
      · exact h.kept.block b hb hno
      · intro hw; obtain ⟨j, o1, hj, hjo, hjb⟩ := hown b hw
        rcases h.mine j o1 b hjo hjb with hq | hq
        · exact hno hq
        · omega
    · intro r o b hf hb
      rcases hcase r o hf with ⟨r0, o0, g1, g2, g3⟩ | ⟨g1, g2⟩
      · rw [(hHb r0 o0 r g1 g2).1] at hb
        rcases hr.mine r0 o0 b g2 hb with hw | hge
        · obtain ⟨j, o1, hj, hjo, hjb⟩ := hown b hw; exact h.mine j o1 b hjo hjb
        · exact .inr (Nat.le_trans h.kept.size hge)
      · rw [hoD r o g1] at hb; exact h.mine r o b g1 hb
    · intro r hk; obtain ⟨_, q2, q3⟩ := hleE.root r (h.envD r hk); rw [q2, q3]; exact h.env r hk
    · rintro b ⟨hb1, hb2⟩
      rcases hb2 with hb2 | rfl
      · exact h.grow b hb2
      · rcases hr.grow b hb1 with hg | hg | hg
        · rcases hg with hg | ⟨hg, _⟩
          · exact h.grow b hg
          · cases hg
        · exact .inr (.inl (Nat.le_trans h.kept.size hg))
        · obtain ⟨j, o1, hj, hjo, hjb⟩ := hown b hg
          rcases h.mine j o1 b hjo hjb with hq | hq
          · exact .inr (.inr hq)
          · exact .inr (.inl hq)
  refine ⟨E'', _, rfl, hrel.put dst hd (hval v v' y ?_ hv (hr.slots 0 v rfl))⟩
  rcases hm with hm | hm
  · exact .inl hm
  · exact .inr hm.1
theorem SeqL.callR {P : Program} {ops : Array Oper} {o : Oper} {rest : List Oper} {σ : St} {Q : St → Prop} {x : Operand} {as : Array Operand} {ts : Array TypeId} {g : FuncId} {first caps : List AV} {vs : List AV} {objs : List (Nat × Obj)} {Post : AV → List (Nat × Obj) → Prop}
    (rs : List Nat) (T : Bool) (hg : guardGo (dstsOf ops) σ o.guard = some true) (ho : o.op = .call { callee := .value x, args := as, argTypes := ts }) (hc : calleeOf (σ.ev x) = some (g, first, caps)) (hnd : rs.Nodup)
    (hv : handL σ rs (first ++ (as.toList.map σ.ev ++ caps)) = some vs) (hob : keepObjs σ (pos rs 0) 0 rs = some objs) (hT : T = true → onlyL rs (first ++ (as.toList.map σ.ev ++ caps)) = true) (hF : FunR P g vs objs rs.length Post)
    (hm : T = true ∨ ∀ v l, Post v l → noShAV v = true ∧ ∀ r ob, find l r = some ob → noShR ob.rows) (hd : ∀ d, o.dst = some d → d < σ.nt)
    (h : ∀ v l, Post v l → ∃ v' new n', renAV (backN rs σ.next) v = some v' ∧ backObjs rs σ.next l = some new ∧ (∀ r ob, find new r = some ob → r < n') ∧ σ.next ≤ n' ∧
      SeqL P ops rest ({ σ with objs := new ++ delAll rs σ.objs, next := n' }.put o.dst v') Q) : SeqL P ops (o :: rest) σ Q := by
  intro C E X a hr Q' hq; simp only [wpL_cons, hr.guard hg, if_true]; obtain ⟨xs, ys, hx, h1, h2⟩ := calleeOf_spec hc (hr.ev x); have hargs : FVs E (first ++ (as.toList.map σ.ev ++ caps)) (xs.toList ++ (as.toList.map a.eval ++ ys.toList)) := h1.append ((hr.evs _).append h2)
  have hrun : (execOp a.eval o).run P E.w = .ok (.enter g (xs.toList ++ (as.toList.map a.eval ++ ys.toList)).toArray) E.w := by
    unfold execOp
    simp only [ho, resolve, Deferred.ofValue, hx, Sem.run_bind, Sem.run_pure, Result.andThen_ok, invoke]; rw [run_enter hF.1]
    congr 2
    apply Array.ext'
    simp
  unfold Oper.wp
  rw [hrun]; simp only [Oper.upon]; refine (hF.2 (E.hand σ rs T) _ _ (hr.entry hnd hob) (FVs.hand hr hT hv hargs)).mono ?_; rintro e w' ⟨y, v, l, E', X', n, rfl, rfl, hP, hdm, hrel⟩; obtain ⟨v', new, n', g1, g2, g3, g4, g5⟩ := h v l hP
  obtain ⟨E'', X'', he, hr'⟩ := hr.back hnd hob hrel hdm g1 g2 g3 g4 (by
    rcases hm with hm | hm
    · exact .inl hm
    · exact .inr (hm v l hP)) o.dst hd
  rw [← he]; exact g5 C E'' X'' _ hr' Q' hq
end Go.AM
