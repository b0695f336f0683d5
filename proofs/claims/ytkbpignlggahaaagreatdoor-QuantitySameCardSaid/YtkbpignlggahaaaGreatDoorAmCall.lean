/-
  The abstract machine, continued: calls.
  Conditions: none; generic over the program.
-/
import Derived.Test.YtkbpignlggahaaaGreatDoorAmEv
namespace Go.AM
set_option linter.unusedVariables false
set_option linter.unusedSimpArgs false
set_option linter.unusedSectionVars false
mutual
def noShAV : AV → Bool
  | .sh _ _ => false
  | .sadr _ _ => false
  | .shm _ _ => false
  | .rem _ _ _ => false
  | .hd _ => true
  | .agg cs => noShL cs
  | .tup cs => noShL cs
  | .fn _ first caps => noShL first && noShL caps
  | .top => true
  | .lit _ => true
  | .als _ _ _ => true
  | .adr _ _ _ => true
def noShL : List AV → Bool
  | [] => true
  | c :: cs => noShAV c && noShL cs
end
def Env.noS (E : Env) : Env := { E with S := fun _ => False }
mutual
theorem FV.noSh {E : Env} : ∀ {v : AV} {x : Value}, noShAV v = true → FV E v x → FV E.noS v x
  | .sh _ _, _, h, _ => by simp [noShAV] at h
  | .sadr _ _, _, h, _ => by simp [noShAV] at h
  | .shm _ _, _, h, _ => by simp [noShAV] at h
  | .rem _ _ _, _, h, _ => by simp [noShAV] at h
  | .hd _, _, _, hx => by simpa [FV, Env.noS] using hx
  | .top, _, _, _ => by simp [FV]
  | .lit _, _, _, hx => by simpa [FV] using hx
  | .als _ _ _, _, _, hx => by simpa [FV, Env.noS] using hx
  | .adr _ _ _, _, _, hx => by simpa [FV, Env.noS] using hx
  | .agg cs, x, h, hx => by
    simp only [noShAV] at h; simp only [FV] at hx ⊢; obtain ⟨xs, e, hc⟩ := hx; exact ⟨xs, e, FVc.noSh h hc⟩
  | .tup cs, x, h, hx => by
    simp only [noShAV] at h; simp only [FV] at hx ⊢; obtain ⟨xs, e, hc⟩ := hx; exact ⟨xs, e, FVs.noSh h hc⟩
  | .fn f first caps, x, h, hx => by
    simp only [noShAV, Bool.and_eq_true] at h; simp only [FV] at hx ⊢; obtain ⟨xs, ys, e, h1, h2⟩ := hx; exact ⟨xs, ys, e, FVs.noSh h.1 h1, FVs.noSh h.2 h2⟩
theorem FVc.noSh {E : Env} : ∀ {cs : List AV} {xs : List Value}, noShL cs = true → FVc E cs xs → FVc E.noS cs xs
  | [], _, _, hx => by simpa [FVc] using hx
  | c :: cs, xs, h, hx => by
    simp only [noShL, Bool.and_eq_true] at h; simp only [FVc] at hx ⊢; obtain ⟨y, ys, e, h0, h1, h2⟩ := hx; exact ⟨y, ys, e, h0, FV.noSh h.1 h1, FVc.noSh h.2 h2⟩
theorem FVs.noSh {E : Env} : ∀ {cs : List AV} {xs : List Value}, noShL cs = true → FVs E cs xs → FVs E.noS cs xs
  | [], _, _, hx => by simpa [FVs] using hx
  | c :: cs, xs, h, hx => by
    simp only [noShL, Bool.and_eq_true] at h; simp only [FVs] at hx ⊢; obtain ⟨y, ys, e, h1, h2⟩ := hx; exact ⟨y, ys, e, FV.noSh h.1 h1, FVs.noSh h.2 h2⟩
end
def noShR (rows : List (List AV)) : Prop := ∀ r ∈ rows, noShL r = true
theorem FVr.noSh {E : Env} {sz : Nat} : ∀ {rows : List (List AV)} {xs : List Value}, noShR rows → FVr E sz rows xs → FVr E.noS sz rows xs
  | [], _, _, hx => by simpa [FVr] using hx
  | r :: rs, xs, h, hx => by
    simp only [FVr] at hx ⊢; obtain ⟨ys, zs, e, h0, h1, h2⟩ := hx; exact ⟨ys, zs, e, h0, FVc.noSh (h r (by simp)) h1, FVr.noSh (fun r' hr' => h r' (by simp [hr'])) h2⟩
theorem noS_by (E : Env) (c : Bool) : (E.by c).noS = E.noS.by c := by cases c <;> rfl
mutual
def viewAV (σ : St) : AV → Option AV
  | .als r lo n => (find σ.objs r).bind fun o => bif o.cl then (if lo = 0 ∧ n = o.rows.length then some (.sh o.sz o.rows) else if lo + n ≤ o.rows.length then some (.sh o.sz ((o.rows.drop lo).take n)) else none) else none
  | .adr r i j => (find σ.objs r).bind fun o => bif o.cl then (o.rows[i]?).map fun row => .sadr row j else none
  | .agg cs => (viewL σ cs).map .agg
  | .tup cs => (viewL σ cs).map .tup
  | .fn f first caps => match viewL σ first, viewL σ caps with
    | some x, some y => some (.fn f x y)
    | _, _ => none
  | .top => some .top
  | .lit v => some (.lit v)
  | .sh s rows => some (.sh s rows)
  | .sadr row j => some (.sadr row j)
  | .hd r => (find σ.objs r).bind fun o => bif o.slc && o.cl then some (.shm o.sz o.rows) else none
  | .shm s rows => some (.shm s rows)
  | .rem s la rows => some (.rem s la rows)
def viewL (σ : St) : List AV → Option (List AV)
  | [] => some []
  | c :: cs => match viewAV σ c, viewL σ cs with
    | some x, some xs => some (x :: xs)
    | _, _ => none
end
def Env.lent (E : Env) : Env := { E with D := fun _ => False, S := fun b => b < E.w.heap.size }
theorem Rel.lent_le {C : Ctx} {E : Env} {X : Nat → List Value} {σ : St} {a : Act} (h : Rel C E X σ a) : E.clear.le E.lent := ⟨fun b hb => ⟨(h.stay b hb).1, rfl⟩, fun _ hr => hr.elim⟩
mutual
theorem FV.view {C : Ctx} {E : Env} {X : Nat → List Value} {σ : St} {a : Act} (h : Rel C E X σ a) : ∀ {v v' : AV} {x : Value}, viewAV σ v = some v' → FV E v x → FV E.lent v' x
  | .top, _, _, hv, _ => by simp only [viewAV, Option.some.injEq] at hv; subst hv; simp [FV]
  | .lit v, _, x, hv, hx => by simp only [viewAV, Option.some.injEq] at hv; subst hv; simpa [FV] using hx
  | .sh s rows, _, x, hv, hx => by
    simp only [viewAV, Option.some.injEq] at hv; subst hv; exact FV.le _ h.lent_le _ (FV.closed (v := .sh s rows) rfl hx)
  | .sadr row j, _, x, hv, hx => by
    simp only [viewAV, Option.some.injEq] at hv; subst hv; exact FV.le _ h.lent_le _ (FV.closed (v := .sadr row j) rfl hx)
  | .shm s rows, _, x, hv, hx => by
    simp only [viewAV, Option.some.injEq] at hv; subst hv; exact FV.le _ h.lent_le _ (FV.closed (v := .shm s rows) rfl hx)
  | .rem s la rows, _, x, hv, hx => by
    simp only [viewAV, Option.some.injEq] at hv; subst hv; exact FV.le _ h.lent_le _ (FV.closed (v := .rem s la rows) rfl hx)
  | .hd r, v', x, hv, hx => by
    simp only [viewAV, Option.bind_eq_some_iff] at hv; obtain ⟨o, ho, hv⟩ := hv; obtain ⟨_, hZ, hok, hr⟩ := h.objs r o ho
    cases hc : (o.slc && o.cl) with
    | false => simp [hc] at hv
    | true =>
      simp only [hc, cond_true, Option.some.injEq] at hv; subst hv; simp only [Bool.and_eq_true] at hc; rw [hc.2] at hr; obtain ⟨b, es, clk, hH, hg, hwf, hfl, rfl⟩ := hok.asMap hc.1 hx; simp only [FV]; refine .inr ⟨b, es, clk, rfl, hok.lt (b := b) (by rw [hH]; rfl), hg, hwf, ?_⟩; rw [hfl]; exact FVr.le _ _ h.lent_le.clear _ hr
  | .als r lo n, v', x, hv, hx => by
    simp only [viewAV, Option.bind_eq_some_iff] at hv; obtain ⟨o, ho, hv⟩ := hv; obtain ⟨_, hZ, hok, hr⟩ := h.objs r o ho
    cases hc : o.cl with
    | false => simp [hc] at hv
    | true =>
      simp only [hc, cond_true] at hv; rw [hc] at hr; simp only [FV] at hx; obtain ⟨_, A0, n0, c0, A, c, hH, rfl, hnc, _, hA⟩ := hx
      have key : lo + n ≤ o.rows.length → FV E.lent (.sh o.sz ((o.rows.drop lo).take n)) (.slice A n c) := by
        intro hle
        have hlen : ((o.rows.drop lo).take n).length = n := by simp; omega
        simp only [FV]; refine ⟨A, c, ((X r).drop (lo * o.sz)).take (n * o.sz), by rw [hlen], by rw [hlen]; exact hnc, ?_, fun hne => ?_⟩
        · exact FVr.le _ _ h.lent_le.clear _ ((hr.drop lo).take n)
        · have hpos : 0 < n := by
            rcases Nat.eq_zero_or_pos n with h0 | h0
            · rw [h0] at hne; simp at hne
            · exact h0
          obtain ⟨a0, rfl, hs, rfl⟩ := hA hpos; obtain ⟨_, hh⟩ := hok.holds (a0 := a0) (by rw [hH]; rfl); refine ⟨_, rfl, add_spot _ hs _, ?_, ?_⟩
          · rw [add_block]; exact hok.lt (b := a0.block) (by rw [hH]; rfl)
          · rw [hZ]; exact (hh.drop hs _).take _
      split at hv
      · rename_i hw
        simp only [Option.some.injEq] at hv; subst hv; have := key (by omega); rw [hw.1, hw.2, List.drop_zero, List.take_length] at this; rw [hw.2]; exact this
      · split at hv
        · rename_i hle
          simp only [Option.some.injEq] at hv; subst hv; exact key hle
        · cases hv
  | .adr r i j, v', x, hv, hx => by
    simp only [viewAV, Option.bind_eq_some_iff] at hv; obtain ⟨o, ho, hv⟩ := hv; obtain ⟨_, hZ, hok, hr⟩ := h.objs r o ho
    cases hc : o.cl with
    | false => simp [hc] at hv
    | true =>
      simp only [hc, cond_true, Option.map_eq_some_iff] at hv; obtain ⟨row, hrow, rfl⟩ := hv; rw [hc] at hr; simp only [FV] at hx ⊢; obtain ⟨_, a0, hb, hs, rfl⟩ := hx; obtain ⟨_, hh⟩ := hok.holds hb; refine ⟨a0.add (i * o.sz), ((X r).drop (i * o.sz)).take o.sz, by rw [add_add' a0 hs, hZ], add_spot _ hs _, ?_, ?_, (hh.drop hs _).take _⟩
      · rw [add_block]; exact hok.lt (b := a0.block) (blockOf_base hb)
      · exact FVc.le _ h.lent_le.clear _ (hr.get hrow).2
  | .agg cs, _, x, hv, hx => by
    simp only [viewAV, Option.map_eq_some_iff] at hv; obtain ⟨cs', hr, rfl⟩ := hv; simp only [FV] at hx ⊢; obtain ⟨xs, e, hc⟩ := hx; exact ⟨xs, e, FVc.view h hr hc⟩
  | .tup cs, _, x, hv, hx => by
    simp only [viewAV, Option.map_eq_some_iff] at hv; obtain ⟨cs', hr, rfl⟩ := hv; simp only [FV] at hx ⊢; obtain ⟨xs, e, hc⟩ := hx; exact ⟨xs, e, FVs.view h hr hc⟩
  | .fn f first caps, v', x, hv, hx => by
    simp only [viewAV] at hv
    split at hv
    · rename_i y z h1 h2
      simp only [Option.some.injEq] at hv; subst hv; simp only [FV] at hx ⊢; obtain ⟨xs, ys, e, g1, g2⟩ := hx; exact ⟨xs, ys, e, FVs.view h h1 g1, FVs.view h h2 g2⟩
    · cases hv
theorem FVc.view {C : Ctx} {E : Env} {X : Nat → List Value} {σ : St} {a : Act} (h : Rel C E X σ a) : ∀ {cs cs' : List AV} {xs : List Value}, viewL σ cs = some cs' → FVc E cs xs → FVc E.lent cs' xs
  | [], _, _, hv, hx => by simp only [viewL, Option.some.injEq] at hv; subst hv; simpa [FVc] using hx
  | c :: cs, cs', xs, hv, hx => by
    simp only [viewL] at hv
    split at hv
    · rename_i y ys h1 h2
      simp only [Option.some.injEq] at hv; subst hv; simp only [FVc] at hx ⊢; obtain ⟨z, zs, e, h0, g1, g2⟩ := hx; exact ⟨z, zs, e, h0, FV.view h h1 g1, FVc.view h h2 g2⟩
    · cases hv
theorem FVs.view {C : Ctx} {E : Env} {X : Nat → List Value} {σ : St} {a : Act} (h : Rel C E X σ a) : ∀ {cs cs' : List AV} {xs : List Value}, viewL σ cs = some cs' → FVs E cs xs → FVs E.lent cs' xs
  | [], _, _, hv, hx => by simp only [viewL, Option.some.injEq] at hv; subst hv; simpa [FVs] using hx
  | c :: cs, cs', xs, hv, hx => by
    simp only [viewL] at hv
    split at hv
    · rename_i y ys h1 h2
      simp only [Option.some.injEq] at hv; subst hv; simp only [FVs] at hx ⊢; obtain ⟨z, zs, e, g1, g2⟩ := hx; exact ⟨z, zs, e, FV.view h h1 g1, FVs.view h h2 g2⟩
    · cases hv
end
def liftObjs (N : Nat) : List (Nat × Obj) → Option (List (Nat × Obj))
  | [] => some []
  | p :: l => match renObj (fun r => some (r + N)) p.2, liftObjs N l with
    | some o', some l' => some ((p.1 + N, o') :: l')
    | _, _ => none
def liftAV (N : Nat) (v : AV) : Option AV := renAV (fun r => some (r + N)) v
theorem liftObjs_spec {N : Nat} : ∀ {l l' : List (Nat × Obj)}, liftObjs N l = some l' → ∀ r o', find l' r = some o' → ∃ o, N ≤ r ∧ find l (r - N) = some o ∧ renObj (fun r => some (r + N)) o = some o'
  | [], l', h, r, o', hf => by simp only [liftObjs, Option.some.injEq] at h; subst h; simp [find] at hf
  | (k, o) :: l, l', h, r, o', hf => by
    simp only [liftObjs] at h
    split at h
    · rename_i o1 l1 h1 h2
      simp only [Option.some.injEq] at h; subst h; rw [find_cons] at hf
      split at hf
      · rename_i e
        simp only [Option.some.injEq] at hf; subst hf; exact ⟨o, by omega, by rw [find_cons, if_pos (by omega)], h1⟩
      · rename_i e
        obtain ⟨o2, g1, g2, g3⟩ := liftObjs_spec h2 r o' hf; exact ⟨o2, g1, by rw [find_cons, if_neg (by omega)]; exact g2, g3⟩
    · cases h
theorem liftObjs_dom {N : Nat} : ∀ {l l' : List (Nat × Obj)}, liftObjs N l = some l' → ∀ r o, find l r = some o → ∃ o', find l' (r + N) = some o'
  | [], l', h, r, o, hf => by simp [find] at hf
  | (k, o1) :: l, l', h, r, o, hf => by
    simp only [liftObjs] at h
    split at h
    · rename_i o2 l1 h1 h2
      simp only [Option.some.injEq] at h; subst h; rw [find_cons] at hf; rw [find_cons]
      split at hf
      · rename_i e
        rw [if_pos (by omega)]; exact ⟨_, rfl⟩
      · rename_i e
        rw [if_neg (by omega)]; exact liftObjs_dom h2 r o hf
    · cases h
open Classical in
theorem LocalPost.lift {E Ec : Env} {v v' : AV} {objs new : List (Nat × Obj)} {y : Value} {E' : Env} {X' : Nat → List Value} {N : Nat} (hw : Ec.w = E.w) (hSz : ∀ b, E.S b → b < E.w.heap.size) (h : LocalPost Ec.clear v objs y E' X')
    (hv : liftAV N v = some v') (hn : liftObjs N objs = some new) (hf : ∀ r o, find new r = some o → ¬ E.D r) (hEc : ∀ b, E.S b → Ec.S b)
    (hSz' : ∀ {b}, Ec.S b → b < E.w.heap.size)
    (hm : (∀ b, Ec.S b → E.S b) ∨ (noShAV v = true ∧ ∀ r o, find objs r = some o → noShR o.rows)) :
    ∃ E'' X'', E''.w = E'.w ∧ LocalPost E v' new y E'' X'' := by
  have hdom : ∀ r, E'.D r → ∃ o, find objs r = some o := fun r hr => (h.dom r hr).resolve_left (fun h => h)
  have hnewD : ∀ r, E'.D r → ¬ E.D (r + N) := by
    intro r hr; obtain ⟨o, ho⟩ := hdom r hr; obtain ⟨o', ho'⟩ := liftObjs_dom hn r o ho; exact hf _ o' ho'
  have hk : ∀ b, b < E.w.heap.size → E'.w.heap[b]? = E.w.heap[b]? := by
    intro b hb; have := h.keep.block b (by simpa [Env.clear, hw] using hb) (fun h => h)
    simpa [Env.clear, hw] using this
  let E'' : Env := ⟨E'.w, fun r => if E.D r then E.H r else E'.H (r - N), fun r => if E.D r then E.Z r else E'.Z (r - N), fun r => E.D r ∨ (N ≤ r ∧ E'.D (r - N) ∧ ¬ E.D r), fun b => E'.S b ∧ (E.S b ∨ E.w.heap.size ≤ b)⟩
  have hroot : ∀ r, E'.D r → E''.D (r + N) ∧ E''.H (r + N) = E'.H r ∧ E''.Z (r + N) = E'.Z r := by
    intro r hr; have hnd := hnewD r hr
    refine ⟨.inr ⟨by omega, by rw [Nat.add_sub_cancel]; exact hr, hnd⟩, ?_, ?_⟩ <;> simp [E'', hnd]
  have hval : ∀ (u u' : AV) (x : Value), (noShAV u = true ∨ ∀ b, Ec.S b → E.S b) → renAV (fun r => some (r + N)) u = some u' → FV E' u x → FV E'' u' x := by
    intro u u' x hor hr hx
    rcases hor with hor | hor
    · refine FV.ren (ρ := fun r => some (r + N)) (E := E'.noS) (E' := E'') ⟨fun b hb => hb.elim, fun r r' hD e => ?_⟩ hr (FV.noSh hor hx); simp only [Option.some.injEq] at e; subst e; exact hroot r hD
    · refine FV.ren (ρ := fun r => some (r + N)) (E := E') (E' := E'') ⟨fun b hb => ⟨⟨hb, ?_⟩, rfl⟩, fun r r' hD e => ?_⟩ hr hx
      · rcases h.stay b hb with h1 | ⟨h1, _⟩
        · exact .inl (hor b h1)
        · exact .inr (by simpa [Env.clear, hw] using h1)
      · simp only [Option.some.injEq] at e; subst e; exact hroot r hD
  have hobj : ∀ (o o' : Obj) (xs : List Value), (noShR o.rows ∨ ∀ b, Ec.S b → E.S b) → renObj (fun r => some (r + N)) o = some o' → FVr (E'.by o.cl) o.sz o.rows xs → FVr (E''.by o'.cl) o'.sz o'.rows xs := by
    intro o o' xs hor hr hx
    rcases hor with hor | hor
    · have h1 := FVr.noSh hor hx; rw [noS_by] at h1; refine FVr.renObj (E := E'.noS) (E' := E'') hr ⟨fun b hb => hb.elim, fun r r' hD e => ?_⟩ h1; simp only [Option.some.injEq] at e; subst e; exact hroot r hD
    · refine FVr.renObj (E := E') (E' := E'') hr ⟨fun b hb => ⟨⟨hb, ?_⟩, rfl⟩, fun r r' hD e => ?_⟩ hx
      · rcases h.stay b hb with h1 | ⟨h1, _⟩
        · exact .inl (hor b h1)
        · exact .inr (by simpa [Env.clear, hw] using h1)
      · simp only [Option.some.injEq] at e; subst e; exact hroot r hD
  have hHn : ∀ r o', find new r = some o' → ∃ o, N ≤ r ∧ find objs (r - N) = some o ∧ renObj (fun r => some (r + N)) o = some o' ∧ E''.H r = E'.H (r - N) ∧ E''.Z r = E'.Z (r - N) := by
    intro r o' hr; obtain ⟨o, h1, h2, h3⟩ := liftObjs_spec hn r o' hr; have := hf r o' hr; exact ⟨o, h1, h2, h3, by simp [E'', this], by simp [E'', this]⟩
  refine ⟨E'', fun r => X' (r - N), rfl, ⟨?_, ?_, ?_, ?_, ?_, ?_, ?_⟩⟩
  · exact ⟨by have := h.keep.os; simpa [Env.clear, hw] using this, by have := h.keep.tape; simpa [Env.clear, hw] using this, by have := h.keep.output; simpa [Env.clear, hw] using this,
      by have := h.keep.size; simpa [Env.clear, hw] using this, fun b hb _ => hk b hb⟩
  · refine ⟨fun b hb => ⟨⟨(h.le.stay b (hEc b hb)).1, .inl hb⟩, hk b (hSz b hb)⟩, fun r hD => ⟨.inl hD, by simp [E'', hD], by simp [E'', hD]⟩⟩
  · rintro r (hD | ⟨h1, h2, h3⟩)
    · exact .inl hD
    · obtain ⟨o, ho⟩ := hdom _ h2; obtain ⟨o', ho'⟩ := liftObjs_dom hn _ o ho; rw [Nat.sub_add_cancel h1] at ho'; exact .inr ⟨o', ho'⟩
  · rintro b ⟨h1, h2⟩
    rcases h2 with h2 | h2
    · exact .inl h2
    · refine .inr ⟨h2, ?_, fun r o' hr e => ?_⟩
      · rcases h.stay b h1 with g | ⟨_, g, _⟩
        · have := (h.le.stay b g)
          rcases Nat.lt_or_ge b E'.w.heap.size with hlt | hge
          · exact hlt
          · exfalso
            have hs := h.keep.size; simp only [Env.clear, hw] at hs; have := hSz' g; omega
        · exact g
      · obtain ⟨o, g1, g2, _, g4, _⟩ := hHn r o' hr; rw [g4] at e
        rcases h.stay b h1 with g | ⟨_, _, g⟩
        · have := hSz' g; omega
        · exact g _ o g2 e
  · intro r o' hr; obtain ⟨o, g1, g2, g3, g4, g5⟩ := hHn r o' hr; obtain ⟨k1, _, k3, k4, k5, k6⟩ := h.objs _ o g2; have hsp := renObj_spec g3; refine ⟨.inr ⟨g1, k1, hf r o' hr⟩, hf r o' hr, by rw [g5, k3, hsp.2.2.1], by rw [g4]; exact k4.ren g3, ?_, ?_⟩
    · refine hobj o o' _ ?_ g3 k5
      rcases hm with hm | hm
      · exact .inr hm
      · exact .inl (hm.2 _ o g2)
    · intro b hb; rw [g4] at hb; have := k6 b hb
      simpa [Env.clear, hw] using this
  · intro r r' o1 o2 b hr hr' hb hb'; obtain ⟨o, g1, g2, g3, g4, g5⟩ := hHn r o1 hr; obtain ⟨o', g1', g2', g3', g4', g5'⟩ := hHn r' o2 hr'; rw [g4] at hb; rw [g4'] at hb'; have := h.apart _ _ o o' b g2 g2' hb hb'; omega
  · refine hval v v' y ?_ hv h.val
    rcases hm with hm | hm
    · exact .inr hm
    · exact .inl hm.1
mutual
theorem viewAV_closed (σ : St) : ∀ (u u' : AV), closedAV u = true → viewAV σ u = some u' → u' = u
  | .als _ _ _, _, h, _ => by simp [closedAV] at h
  | .adr _ _ _, _, h, _ => by simp [closedAV] at h
  | .top, _, _, h => by simp only [viewAV, Option.some.injEq] at h; exact h.symm
  | .lit _, _, _, h => by simp only [viewAV, Option.some.injEq] at h; exact h.symm
  | .sh _ _, _, _, h => by simp only [viewAV, Option.some.injEq] at h; exact h.symm
  | .sadr _ _, _, _, h => by simp only [viewAV, Option.some.injEq] at h; exact h.symm
  | .shm _ _, _, _, h => by simp only [viewAV, Option.some.injEq] at h; exact h.symm
  | .rem _ _ _, _, _, h => by simp only [viewAV, Option.some.injEq] at h; exact h.symm
  | .hd _, _, h, _ => by simp [closedAV] at h
  | .agg cs, u', hc, h => by
    simp only [closedAV] at hc; simp only [viewAV, Option.map_eq_some_iff] at h; obtain ⟨cs', h1, rfl⟩ := h; rw [viewL_closed σ cs cs' hc h1]
  | .tup cs, u', hc, h => by
    simp only [closedAV] at hc; simp only [viewAV, Option.map_eq_some_iff] at h; obtain ⟨cs', h1, rfl⟩ := h; rw [viewL_closed σ cs cs' hc h1]
  | .fn f first caps, u', hc, h => by
    simp only [closedAV, Bool.and_eq_true] at hc; simp only [viewAV] at h
    split at h
    · rename_i y z h1 h2
      simp only [Option.some.injEq] at h; subst h; rw [viewL_closed σ first y hc.1 h1, viewL_closed σ caps z hc.2 h2]
    · cases h
theorem viewL_closed (σ : St) : ∀ (l l' : List AV), closedL l = true → viewL σ l = some l' → l' = l
  | [], _, _, h => by simp only [viewL, Option.some.injEq] at h; exact h.symm
  | c :: cs, l', hc, h => by
    simp only [closedL, Bool.and_eq_true] at hc; simp only [viewL] at h
    split at h
    · rename_i u us g1 g2
      simp only [Option.some.injEq] at h; subst h; rw [viewAV_closed σ c u hc.1 g1, viewL_closed σ cs us hc.2 g2]
    · cases h
end
def calleeOf : AV → Option (FuncId × List AV × List AV)
  | .fn (.func g) first caps => some (g, first, caps)
  | _ => none
theorem calleeOf_spec {E : Env} {v : AV} {x : Value} {g : FuncId} {first caps : List AV} (h : calleeOf v = some (g, first, caps)) (hx : FV E v x) : ∃ xs ys, x = .func (.func g) xs ys ∧ FVs E first xs.toList ∧ FVs E caps ys.toList := by
  unfold calleeOf at h
  split at h
  · simp only [Option.some.injEq, Prod.mk.injEq] at h; obtain ⟨rfl, rfl, rfl⟩ := h
    simpa [FV] using hx
  · cases h
theorem run_enter {P : Program} {g : FuncId} (hb : Bodied P g) (xs : Array Value) (w : World) : (callFunc g xs).run P w = .ok (.enter g xs) w := by
  obtain ⟨fn, hf, h1, h2⟩ := hb
  have h1' : fn.body ≠ none := by intro e; simp [e] at h1
  have h2' : fn.name ≠ "runtime.NumGoroutine" := by simpa using h2
  simp [callFunc, hf, h1', h2']
theorem call_any {P : Program} {σ : St} {o : Oper} {x : Operand} {as : Array Operand} {ts : Array TypeId} {g : FuncId} {first caps : List AV} {vs : List AV} {Post : AV → List (Nat × Obj) → Prop} {N : Nat}
    (ho : o.op = .call { callee := .value x, args := as, argTypes := ts }) (hc : calleeOf (σ.ev x) = some (g, first, caps)) (hv : viewL σ (first ++ (as.toList.map σ.ev ++ caps)) = some vs) (hF : Fun P g vs Post)
    (hm : closedL (first ++ (as.toList.map σ.ev ++ caps)) = true ∨ ∀ v objs, Post v objs → noShAV v = true ∧ ∀ r ob, find objs r = some ob → noShR ob.rows)
    (hl : ∀ v objs, Post v objs → ∃ v' new, liftAV N v = some v' ∧ liftObjs N objs = some new)
    {C : Ctx} {E : Env} {X : Nat → List Value} {a : Act} (hr : Rel C E X σ a) (hN : ∀ v objs new, Post v objs → liftObjs N objs = some new → ∀ r ob, find new r = some ob → ¬ E.D r) {K : Act → World → Prop} {Q : Exit → Act → World → Prop}
    (hk : ∀ v objs v' new y E' X', Post v objs → liftAV N v = some v' → liftObjs N objs = some new → LocalPost E v' new y E' X' → K (a.put o.dst y) E'.w) : o.wp P a E.w K Q := by
  obtain ⟨xs, ys, hx, h1, h2⟩ := calleeOf_spec hc (hr.ev x); have hargs : FVs E (first ++ (as.toList.map σ.ev ++ caps)) (xs.toList ++ (as.toList.map a.eval ++ ys.toList)) := h1.append ((hr.evs _).append h2)
  have hrun : (execOp a.eval o).run P E.w = .ok (.enter g (xs.toList ++ (as.toList.map a.eval ++ ys.toList)).toArray) E.w := by
    unfold execOp
    simp only [ho, resolve, Deferred.ofValue, hx, Sem.run_bind, Sem.run_pure, Result.andThen_ok, invoke]; rw [run_enter hF.1]
    congr 2
    apply Array.ext'
    simp
  unfold Oper.wp
  rw [hrun]; simp only [Oper.upon]; have hSz : ∀ b, E.S b → b < E.w.heap.size := fun b hb => (hr.stay b hb).1
  by_cases hcl : closedL (first ++ (as.toList.map σ.ev ++ caps)) = true
  · have hvs := viewL_closed σ _ _ hcl hv; refine (hF.2 E _ (by rw [hvs]; exact FVs.closed hcl hargs) hSz hr.glob).mono ?_; rintro e w' ⟨y, v, objs, E', X', rfl, rfl, hP, hLP⟩; obtain ⟨v', new, hv', hn'⟩ := hl v objs hP; obtain ⟨E'', X'', he, hLP'⟩ := hLP.lift (E := E) rfl hSz hv' hn' (hN v objs new hP hn') (fun b hb => hb) (fun {b} hb => hSz b hb) (.inl fun b hb => hb); rw [← he]; exact hk v objs v' new y E'' X'' hP hv' hn' hLP'
  · have hm' := hm.resolve_left hcl; refine (hF.2 E.lent _ (FVs.view hr hv hargs) (fun b hb => hb) (hr.glob.sup hSz)).mono ?_; rintro e w' ⟨y, v, objs, E', X', rfl, rfl, hP, hLP⟩; obtain ⟨v', new, hv', hn'⟩ := hl v objs hP; obtain ⟨E'', X'', he, hLP'⟩ := hLP.lift (E := E) (Ec := E.lent) rfl hSz hv' hn' (hN v objs new hP hn') (fun b hb => hSz b hb) (fun {b} hb => hb) (.inr (hm' v objs hP)); rw [← he]; exact hk v objs v' new y E'' X'' hP hv' hn' hLP'
theorem SeqL.call {P : Program} {ops : Array Oper} {o : Oper} {rest : List Oper} {σ : St} {Q : St → Prop} {x : Operand} {as : Array Operand} {ts : Array TypeId} {g : FuncId} {first caps : List AV} {vs : List AV} {Post : AV → List (Nat × Obj) → Prop}
    (hg : guardGo (dstsOf ops) σ o.guard = some true) (ho : o.op = .call { callee := .value x, args := as, argTypes := ts }) (hc : calleeOf (σ.ev x) = some (g, first, caps)) (hv : viewL σ (first ++ (as.toList.map σ.ev ++ caps)) = some vs) (hF : Fun P g vs Post)
    (hm : closedL (first ++ (as.toList.map σ.ev ++ caps)) = true ∨ ∀ v objs, Post v objs → noShAV v = true ∧ ∀ r ob, find objs r = some ob → noShR ob.rows)
    (hd : ∀ d, o.dst = some d → d < σ.nt)
    (h : ∀ v objs, Post v objs → ∃ v' new n', liftAV σ.next v = some v' ∧ liftObjs σ.next objs = some new ∧ (∀ r ob, find new r = some ob → r < n') ∧ σ.next ≤ n' ∧ SeqL P ops rest (σ.ext o.dst v' new n') Q) : SeqL P ops (o :: rest) σ Q := by
  intro C E X a hr Q' hq; simp only [wpL_cons, hr.guard hg, if_true]; refine call_any (N := σ.next) ho hc hv hF hm (fun v objs hP => ?_) hr (fun v objs new hP hn r ob hf hD => ?_) (fun v objs v' new y E' X' hP hv' hn' hLP => ?_)
  · obtain ⟨v', new, n', h1, h2, _⟩ := h v objs hP; exact ⟨v', new, h1, h2⟩
  · obtain ⟨_, h1, _⟩ := liftObjs_spec hn r ob hf; have := hr.fresh r hD; omega
  · obtain ⟨v1, new1, n', h1, h2, h3, h4, h5⟩ := h v objs hP; rw [hv'] at h1; rw [hn'] at h2; simp only [Option.some.injEq] at h1 h2; subst h1 h2; obtain ⟨X'', hr'⟩ := hr.ext hLP o.dst n' hd h3 h4; exact h5 C E' X'' _ hr' Q' hq
theorem Local.call {P : Program} {σ : St} {o : Oper} {x : Operand} {as : Array Operand} {ts : Array TypeId} {g : FuncId} {first caps : List AV} {vs : List AV} {N : Nat} {v v' : AV} {objs new : List (Nat × Obj)}
    (ho : o.op = .call { callee := .value x, args := as, argTypes := ts }) (hc : calleeOf (σ.ev x) = some (g, first, caps)) (hv : viewL σ (first ++ (as.toList.map σ.ev ++ caps)) = some vs) (hF : Fun P g vs (Ret v objs))
    (hm : closedL (first ++ (as.toList.map σ.ev ++ caps)) = true ∨ (noShAV v = true ∧ ∀ r ob, find objs r = some ob → noShR ob.rows))
    (hl1 : liftAV N v = some v') (hl2 : liftObjs N objs = some new) : Local P σ o v' new := by
  intro C E X a hr hf K Q hk; refine call_any (N := N) ho hc hv hF ?_ (fun u l hP => ?_) hr (fun u l new' hP hn => ?_) (fun u l u' l' y E' X' hP h1 h2 hLP => ?_)
  · rcases hm with hm | hm
    · exact .inl hm
    · refine .inr fun u l hP => ?_; obtain ⟨rfl, rfl⟩ := hP; exact hm
  · obtain ⟨rfl, rfl⟩ := hP; exact ⟨v', new, hl1, hl2⟩
  · obtain ⟨rfl, rfl⟩ := hP; rw [hl2] at hn; simp only [Option.some.injEq] at hn; subst hn; exact hf
  · obtain ⟨rfl, rfl⟩ := hP; rw [hl1] at h1; rw [hl2] at h2; simp only [Option.some.injEq] at h1 h2; subst h1 h2; exact hk y E' X' hLP
theorem Wk.sub {σ σ' : St} (hs : ∀ s v, find σ'.slots s = some v → find σ.slots s = some v) (ho : ∀ r o, find σ'.objs r = some o → find σ.objs r = some o) (hn : σ.next ≤ σ'.next) (ht : σ'.nt = σ.nt) (he : σ'.env = σ.env) : Wk σ σ' :=
  fun C E X a h => ⟨E, X, rfl, ⟨fun s v hv => h.slots s v (hs s v hv), h.size.trans ht.symm, h.defers, fun r o hr => h.objs r o (ho r o hr), fun r r' o o' b hr hr' => h.apart r r' o o' b (ho r o hr) (ho r' o' hr'),
    fun b hb => ⟨(h.stay b hb).1, fun r o hr => (h.stay b hb).2 r o (ho r o hr)⟩, fun r hr => Nat.lt_of_lt_of_le (h.fresh r hr) hn, h.kept, fun r o b hr => h.mine r o b (ho r o hr), h.env, h.envD, h.base, h.grow, h.envk.trans he.symm, h.glob⟩⟩
def slotsRen (ρ : Nat → Option Nat) (σ : St) : List (Nat × AV) → Prop
  | [] => True
  | p :: l => renAV ρ (σ.get p.1) = some p.2 ∧ slotsRen ρ σ l
theorem slotsRen_spec {ρ : Nat → Option Nat} {σ : St} : ∀ {l : List (Nat × AV)}, slotsRen ρ σ l → ∀ s v, find l s = some v → renAV ρ (σ.get s) = some v
  | [], _, s, v, hf => by simp [find] at hf
  | (k, u) :: l, h, s, v, hf => by
    rw [find_cons] at hf
    split at hf
    · rename_i e
      simp only [Option.some.injEq] at hf; subst e hf; exact h.1
    · exact slotsRen_spec h.2 s v hf
theorem Wk.ren (ks : List Nat) {σ σ' : St} (hnd : ks.Nodup) (hs : slotsRen (pos ks 0) σ σ'.slots) (ho : keepObjs σ (pos ks 0) 0 ks = some σ'.objs) (hn : σ'.next = ks.length) (ht : σ'.nt = σ.nt) (he : σ'.env = σ.env)
    (hk : ∀ i, i < σ.env → ks[i]? = some i) : Wk σ σ' := by
  intro C E X a hr
  let E'' : Env := { w := E.w, H := fun r' => match ks[r']? with | some k => E.H k | none => undef, Z := fun r' => match ks[r']? with | some k => E.Z k | none => 0, D := fun r' => ∃ k, ks[r']? = some k ∧ E.D k, S := E.S }
  have hren : E.ren (pos ks 0) E'' := by
    refine ⟨fun b hb => ⟨hb, rfl⟩, fun r r' hD hp => ?_⟩; obtain ⟨_, h2⟩ := pos_spec ks 0 r r' hp; simp only [Nat.sub_zero] at h2; exact ⟨⟨r, h2, hD⟩, by simp [E'', h2], by simp [E'', h2]⟩
  refine ⟨E'', fun r' => match ks[r']? with | some k => X k | none => [], rfl, ⟨?_, hr.size.trans ht.symm, hr.defers, ?_, ?_, ?_, ?_, hr.kept, ?_, ?_, ?_, hr.base, hr.grow, hr.envk.trans he.symm, hr.glob⟩⟩
  · intro s v hv; exact FV.ren hren (slotsRen_spec hs s v hv) (hr.ev (.tmp s))
  · intro r o hro; obtain ⟨k, o1, _, hkk, hk2, hk3⟩ := keepObjs_spec ks 0 _ ho r o hro; simp only [Nat.sub_zero] at hkk; obtain ⟨g1, g2, g3, g4⟩ := hr.objs k o1 hk2; have hsp := renObj_spec hk3; refine ⟨⟨k, hkk, g1⟩, by simp [E'', hkk, g2, hsp.2.2.1], ?_, ?_⟩
    · simp only [E'', hkk]; exact g3.ren hk3
    · simp only [hkk]; exact FVr.renObj hk3 hren g4
  · intro r r' o o' b hro hro' hb hb'; obtain ⟨k, o1, _, hkk, hk2, hk3⟩ := keepObjs_spec ks 0 _ ho r o hro; obtain ⟨k', o1', _, hkk', hk2', hk3'⟩ := keepObjs_spec ks 0 _ ho r' o' hro'; simp only [Nat.sub_zero] at hkk hkk'; simp only [E'', hkk] at hb; simp only [E'', hkk'] at hb'; have := hr.apart k k' o1 o1' b hk2 hk2' hb hb'; subst this; obtain ⟨hl, he⟩ := List.getElem?_eq_some_iff.1 hkk; obtain ⟨hl', he'⟩ := List.getElem?_eq_some_iff.1 hkk'; exact (List.getElem_inj hnd).1 (he.trans he'.symm)
  · intro b hb; obtain ⟨h1, h2⟩ := hr.stay b hb; refine ⟨h1, fun r o hro e => ?_⟩; obtain ⟨k, o1, _, hkk, hk2, hk3⟩ := keepObjs_spec ks 0 _ ho r o hro; simp only [Nat.sub_zero] at hkk; simp only [E'', hkk] at e; exact h2 k o1 hk2 e
  · rintro r ⟨k, hkk, _⟩; rw [hn]; exact (List.getElem?_eq_some_iff.1 hkk).1
  · intro r o b hro hb; obtain ⟨k, o1, _, hkk, hk2, hk3⟩ := keepObjs_spec ks 0 _ ho r o hro; simp only [Nat.sub_zero] at hkk; simp only [E'', hkk] at hb; exact hr.mine k o1 b hk2 hb
  · intro r hkr; have := hk r (by rw [← hr.envk]; exact hkr); simp only [E'', this]; exact hr.env r hkr
  · intro r hkr; exact ⟨r, hk r (by rw [← hr.envk]; exact hkr), hr.envD r hkr⟩
theorem Wk.nil (s : Nat) (e : TypeId) (sz : Nat) {σ : St} (h : σ.get s = .lit (.slice none 0 0)) :
    Wk σ { σ with slots := (s, .als σ.next 0 0) :: σ.slots, objs := (σ.next, ⟨true, e, sz, [], true⟩) :: σ.objs, next := σ.next + 1 } := by
  intro C E X a hr
  let N := σ.next
  have hN : ¬ E.D N := fun hD => Nat.lt_irrefl _ (hr.fresh N hD); have hne : ∀ r, E.D r → r ≠ N := fun r hD e => hN (e ▸ hD)
  let E' : Env := { w := E.w, H := updN E.H N (.slice none 0 0), Z := updN E.Z N sz, D := fun r => E.D r ∨ r = N, S := E.S }
  have hle : E.le E' := ⟨fun b hb => ⟨hb, rfl⟩, fun r hD => ⟨.inl hD, by simp [E', updN, hne r hD], by simp [E', updN, hne r hD]⟩⟩
  have hcase : ∀ r ob, find ((σ.next, (⟨true, e, sz, [], true⟩ : Obj)) :: σ.objs) r = some ob → (r = N ∧ ob = ⟨true, e, sz, [], true⟩) ∨ (find σ.objs r = some ob ∧ r ≠ N) := by
    intro r ob hf; rw [find_cons] at hf
    split at hf
    · rename_i e
      simp only [Option.some.injEq] at hf; exact .inl ⟨e.symm, hf.symm⟩
    · rename_i e
      exact .inr ⟨hf, fun e' => e e'.symm⟩
  have hH : ∀ r, r ≠ N → E'.H r = E.H r := fun r h => by simp [E', updN, h]
  have hHN : E'.H N = .slice none 0 0 := by simp [E', updN]
  have hblk : ∀ r ob b, find ((σ.next, (⟨true, e, sz, [], true⟩ : Obj)) :: σ.objs) r = some ob → blockOf (E'.H r) = some b → find σ.objs r = some ob ∧ blockOf (E.H r) = some b := by
    intro r ob b hf hb
    rcases hcase r ob hf with ⟨rfl, _⟩ | ⟨hf, hne⟩
    · rw [hHN] at hb; simp [blockOf, baseOf] at hb
    · rw [hH r hne] at hb; exact ⟨hf, hb⟩
  refine ⟨E', updN X N [], rfl, ⟨?_, hr.size, hr.defers, ?_, ?_, ?_, ?_, hr.kept, ?_, ?_, ?_, hr.base, hr.grow, hr.envk, hr.glob⟩⟩
  · intro s' v hv; rw [find_cons] at hv
    split at hv
    · rename_i e'
      simp only [Option.some.injEq] at hv; subst e' hv; have hx := hr.ev (.tmp s); simp only [St.ev, h, FV, Act.eval] at hx; simp only [FV]; refine ⟨.inr rfl, ?_⟩; rw [hHN, hx]; exact ⟨none, 0, 0, none, 0, rfl, rfl, Nat.le_refl _, fun _ => ⟨rfl, rfl⟩, fun h => absurd h (by omega)⟩
    · exact FV.le _ hle _ (hr.slots s' v hv)
  · intro r ob hf
    rcases hcase r ob hf with ⟨rfl, rfl⟩ | ⟨hf, hne⟩
    · refine ⟨.inr rfl, by simp [E', updN], ?_, by simp [updN, FVr]⟩; rw [hHN]; simp only [updN, if_true]; exact .inl ⟨rfl, rfl, rfl⟩
    · obtain ⟨g1, g2, g3, g4⟩ := hr.objs r ob hf; rw [hH r hne]; simp only [updN, hne, if_false]; exact ⟨.inl g1, by simp [E', updN, hne, g2], g3, FVr.le _ _ (hle.by _) _ g4⟩
  · intro r1 r2 o1 o2 b h1 h2 hb1 hb2; obtain ⟨g1, g2⟩ := hblk r1 o1 b h1 hb1; obtain ⟨g3, g4⟩ := hblk r2 o2 b h2 hb2; exact hr.apart r1 r2 o1 o2 b g1 g3 g2 g4
  · intro b hb; refine ⟨(hr.stay b hb).1, fun r ob hf hbk => ?_⟩; obtain ⟨g1, g2⟩ := hblk r ob b hf hbk; exact (hr.stay b hb).2 r ob g1 g2
  · rintro r (hD | rfl)
    · have := hr.fresh r hD; simp only; omega
    · exact Nat.lt_succ_self _
  · intro r ob b hf hbk; obtain ⟨g1, g2⟩ := hblk r ob b hf hbk; exact hr.mine r ob b g1 g2
  · intro r hk; have hner := hne r (hr.envD r hk); have := hr.env r hk
    simpa [E', updN, hner] using this
  · intro r hk; exact .inl (hr.envD r hk)
theorem Wk.freeze (s : Nat) {σ : St} {r lo n : Nat} {o : Obj} (hs : σ.get s = .als r lo n) (ho : find σ.objs r = some o) (hc : o.cl = true) (hle : lo + n ≤ o.rows.length) (hk : σ.env ≤ r) :
    Wk σ { σ with slots := (s, .sh o.sz ((o.rows.drop lo).take n)) :: σ.slots, objs := del σ.objs r } := by
  intro C E X a hr; obtain ⟨g1, g2, g3, g4⟩ := hr.objs r o ho
  let E' : Env := { E with S := fun b => E.S b ∨ blockOf (E.H r) = some b }
  have hle' : E.le E' := ⟨fun b hb => ⟨.inl hb, rfl⟩, fun r hD => ⟨hD, rfl, rfl⟩⟩
  have hd : ∀ r' o', find (del σ.objs r) r' = some o' → find σ.objs r' = some o' ∧ r' ≠ r := by
    intro r' o' hf; rw [find_del] at hf
    split at hf
    · cases hf
    · rename_i e; exact ⟨hf, fun e' => e e'.symm⟩
  refine ⟨E', X, rfl, ⟨?_, hr.size, hr.defers, ?_, ?_, ?_, hr.fresh, hr.kept, ?_, ?_, hr.envD, ?_, ?_, hr.envk, hr.glob.le hle'⟩⟩
  · intro s' v hv; rw [find_cons] at hv
    split at hv
    · rename_i e
      simp only [Option.some.injEq] at hv; subst e hv; have hx := hr.ev (.tmp s); simp only [St.ev, hs, FV, Act.eval] at hx; obtain ⟨_, A0, n0, c0, A, c, hH, hxe, hnc, _, hA⟩ := hx
      have hlen : ((o.rows.drop lo).take n).length = n := by simp; omega
      rw [hc] at g4; simp only [FV]; refine ⟨A, c, ((X r).drop (lo * o.sz)).take (n * o.sz), by rw [hlen]; exact hxe, by rw [hlen]; exact hnc, FVr.le _ _ hle'.clear _ ((g4.drop lo).take n), fun hne => ?_⟩
      have hpos : 0 < n := by
        rcases Nat.eq_zero_or_pos n with h0 | h0
        · rw [h0] at hne; simp at hne
        · exact h0
      obtain ⟨a0, rfl, hsp, rfl⟩ := hA hpos; obtain ⟨_, hh⟩ := g3.holds (a0 := a0) (by rw [hH]; rfl); refine ⟨_, rfl, add_spot _ hsp _, ?_, ?_⟩
      · rw [add_block]; exact .inr (by rw [hH]; rfl)
      · rw [g2]; exact (hh.drop hsp _).take _
    · exact FV.le _ hle' _ (hr.slots s' v hv)
  · intro r' o' hf; obtain ⟨hf, hne⟩ := hd r' o' hf; obtain ⟨k1, k2, k3, k4⟩ := hr.objs r' o' hf; exact ⟨k1, k2, k3, FVr.le _ _ (hle'.by _) _ k4⟩
  · intro r1 r2 o1 o2 b h1 h2 hb1 hb2; exact hr.apart r1 r2 o1 o2 b (hd r1 o1 h1).1 (hd r2 o2 h2).1 hb1 hb2
  · rintro b (hb | hb)
    · exact ⟨(hr.stay b hb).1, fun r' o' hf => (hr.stay b hb).2 r' o' (hd r' o' hf).1⟩
    · refine ⟨g3.lt hb, fun r' o' hf hbk => ?_⟩; obtain ⟨hf, hne⟩ := hd r' o' hf; exact hne (hr.apart r' r o' o b hf ho hbk hb)
  · intro r' o' b hf hbk; exact hr.mine r' o' b (hd r' o' hf).1 hbk
  · exact hr.env
  · intro b hb; exact .inl (hr.base b hb)
  · rintro b (hb | hb)
    · exact hr.grow b hb
    · rcases hr.mine r o b ho hb with h | h
      · exact .inr (.inr h)
      · exact .inr (.inl h)
end Go.AM
