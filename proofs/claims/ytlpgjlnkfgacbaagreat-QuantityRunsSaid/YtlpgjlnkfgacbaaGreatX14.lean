/-
  Part 14 of the proof: the abstract machine, proved sound over the model.
  Conditions: none.
-/
import Derived.Lib.AppendStr
import Derived.Test.YtlpgjlnkfgacbaaGreatX13
set_option linter.unusedVariables false
set_option linter.unusedSimpArgs false
set_option linter.unusedSectionVars false
namespace Go.AM
theorem keep_d {σ : St} {ρ : Nat → Option Nat} {i k : Nat} {ks : List Nat} {slc : Bool} {el sz : Nat} {rows rows1 rows' : List (List AV)} {l : List (Nat × Obj)} (ho : find σ.objs k = some ⟨slc, el, sz, rows, false⟩ := by exact rfl) (hr : renR ρ rows = some rows1 := by exact rfl) (he : rows1 = rows' := by exact rfl) (h : keepObjs σ ρ (i + 1) ks = some l := by exact keep_n) :
    keepObjs σ ρ i (k :: ks) = some ((i, ⟨slc, el, sz, rows', false⟩) :: l) := by
  subst he; simp only [keepObjs, ho, Option.bind_some, renObj, hr, Option.map_some, h]
theorem belowL {l : List (Nat × Obj)} {n n' : Nat} (h : (l.all fun p => Nat.blt p.1 n') = true) (h2 : Nat.ble n n' = true) : (∀ r ob, find l r = some ob → r < n') ∧ n ≤ n' := by
  refine ⟨?_, Nat.le_of_ble_eq_true h2⟩
  induction l with
  | nil => intro r ob hf; simp [find] at hf
  | cons p l ih =>
    simp only [List.all_cons, Bool.and_eq_true] at h; intro r ob hf; obtain ⟨k, v⟩ := p; rw [find_cons] at hf
    split at hf
    · rename_i e
      subst e; exact Nat.le_of_ble_eq_true h.1
    · exact ih h.2 r ob hf
theorem leadsB {k : Nat} {ks : List Nat} (h : ((List.range k).all fun i => match ks[i]? with | some j => Nat.beq j i | none => false) = true) : leads k ks := by
  intro i hi; have h1 := List.all_eq_true.1 h i (List.mem_range.2 hi)
  revert h1
  cases ks[i]? with
  | none => intro h1; simp at h1
  | some j => intro h1; rw [Nat.beq_eq] at h1; rw [h1]
section
variable {P : Program} {s : List (Nat × AV)} {b : List (Nat × Obj)} {n t e k : Nat}
theorem FVc.setCell {E : Env} : ∀ {row : List AV} {xs : List Value} {j : Nat} {u v : AV}, FVc E row xs → row[j]? = some u → (∀ x, FV E u x → FV E v x) → FVc E (row.set j v) xs
  | [], _, _, _, _, _, h, _ => by simp at h
  | c :: cs, xs, 0, u, v, h, hj, hv => by
    simp only [List.getElem?_cons_zero, Option.some.injEq] at hj; subst hj; simp only [FVc] at h; obtain ⟨y, ys, rfl, h0, h1, h2⟩ := h; simp only [List.set_cons_zero, FVc]; exact ⟨y, ys, rfl, h0, hv y h1, h2⟩
  | c :: cs, xs, j + 1, u, v, h, hj, hv => by
    simp only [List.getElem?_cons_succ] at hj; simp only [FVc] at h; obtain ⟨y, ys, rfl, h0, h1, h2⟩ := h; simp only [List.set_cons_succ, FVc]; exact ⟨y, ys, rfl, h0, h1, FVc.setCell h2 hj hv⟩
theorem Wk.frzA {T : Type} {f : T → List AV} (l : List T) (d j : Nat) (b' : List (Nat × Obj)) {slc : Bool} {r el c m : Nat} {cs cs' : List AV} (hs : find s d = some (.agg cs) := by exact rfl) (hj : cs[j]? = some (.als r 0 m) := by exact rfl) (ho : find b r = some ⟨slc, el, c, l.map f, true⟩ := by exact rfl) (hm : l.length = m := by first | exact rfl | simp) (hk : Nat.ble e r = true := by exact rfl) (hset : cs.set j (.sh c (l.map f)) = cs' := by exact rfl) (hb : del b r = b' := by exact rfl) :
    Wk ⟨s, b, n, t, e⟩ ⟨(d, .agg cs') :: s, b', n, t, e⟩ := by
  subst hset hb hm; intro C E X a hr; obtain ⟨g1, g2, g3, g4⟩ := hr.objs r _ ho
  let E' : Env := { E with S := fun b => E.S b ∨ blockOf (E.H r) = some b }
  have hle' : E.le E' := ⟨fun b hb => ⟨.inl hb, rfl⟩, fun r hD => ⟨hD, rfl, rfl⟩⟩
  have hd : ∀ r' o', find (del b r) r' = some o' → find b r' = some o' ∧ r' ≠ r := by
    intro r' o' hf; rw [find_del] at hf
    split at hf
    · cases hf
    · rename_i e; exact ⟨hf, fun e' => e e'.symm⟩
  refine ⟨E', X, rfl, ⟨?_, hr.size, hr.defers, ?_, ?_, ?_, hr.fresh, hr.kept, ?_, ?_, hr.envD, ?_, ?_, hr.envk, hr.glob.le hle'⟩⟩
  · intro s' v hv; rw [find_cons] at hv
    split at hv
    · rename_i e
      simp only [Option.some.injEq] at hv; subst e hv; have hx := FV.le _ hle' _ (hr.slots d _ hs); simp only [FV] at hx ⊢; obtain ⟨xs, hxs, hc⟩ := hx; refine ⟨xs, hxs, FVc.setCell hc hj fun y hy => ?_⟩; simp only [FV] at hy; obtain ⟨_, A0, n0, c0, A, c1, hH, hxe, hnc, hz, hA⟩ := hy; have g4' : FVr E.clear c (l.map f) (X r) := g4; simp only [FV]; refine ⟨A, c1, X r, by rw [List.length_map]; exact hxe, by rw [List.length_map]; exact hnc, FVr.le _ _ hle'.clear _ g4', fun hne => ?_⟩
      have hpos : 0 < l.length := by
        rcases Nat.eq_zero_or_pos l.length with h0 | h0
        · rw [List.eq_nil_of_length_eq_zero h0] at hne; simp at hne
        · exact h0
      obtain ⟨a0, rfl, hsp, rfl⟩ := hA hpos; obtain ⟨_, hh⟩ := g3.holds (a0 := a0) (by show baseOf (E'.H r) = _; rw [hH]; rfl); refine ⟨_, rfl, add_spot _ hsp _, ?_, ?_⟩
      · rw [add_block]; exact .inr (by show blockOf (E'.H r) = _; rw [hH]; rfl)
      · rw [Nat.zero_mul, Addr.add_zero']; exact hh
    · exact FV.le _ hle' _ (hr.slots s' v hv)
  · intro r' o' hf; obtain ⟨hf, hne⟩ := hd r' o' hf; obtain ⟨k1, k2, k3, k4⟩ := hr.objs r' o' hf; exact ⟨k1, k2, k3, FVr.le _ _ (hle'.by _) _ k4⟩
  · intro r1 r2 o1 o2 b h1 h2 hb1 hb2; exact hr.apart r1 r2 o1 o2 b (hd r1 o1 h1).1 (hd r2 o2 h2).1 hb1 hb2
  · rintro b1 (hb | hb)
    · exact ⟨(hr.stay b1 hb).1, fun r' o' hf => (hr.stay b1 hb).2 r' o' (hd r' o' hf).1⟩
    · refine ⟨g3.lt hb, fun r' o' hf hbk => ?_⟩; obtain ⟨hf, hne⟩ := hd r' o' hf; exact hne (hr.apart r' r o' _ b1 hf ho hbk hb)
  · intro r' o' b1 hf hbk; exact hr.mine r' o' b1 (hd r' o' hf).1 hbk
  · exact hr.env
  · intro b1 hb; exact .inl (hr.base b1 hb)
  · rintro b1 (hb | hb)
    · exact hr.grow b1 hb
    · rcases hr.mine r _ b1 ho hb with h | h
      · exact .inr (.inr h)
      · exact .inr (.inl h)
theorem Wk.nilv {T : Type} (f : T → List AV) (r j el c : Nat) {row row' : List AV} {cl : Bool} {el0 sz0 : Nat} (b' : List (Nat × Obj)) (ho : find b r = some ⟨false, el0, sz0, [row], cl⟩ := by exact rfl) (hj : row[j]? = some (.lit (.slice none 0 0)) := by exact rfl) (hset : row.set j (.als n 0 0) = row' := by exact rfl) (hb : del b r = b' := by exact rfl) :
    Wk ⟨s, b, n, t, e⟩ ⟨s, (r, ⟨false, el0, sz0, [row'], false⟩) :: (n, ⟨true, el, c, ([] : List T).map f, true⟩) :: b', n + 1, t, e⟩ := by
  subst hset hb; intro C E X a hr; have hN : ¬ E.D n := fun hD => Nat.lt_irrefl _ (hr.fresh n hD); have hne : ∀ r, E.D r → r ≠ n := fun r hD e => hN (e ▸ hD)
  let E' : Env := { w := E.w, H := updN E.H n (.slice none 0 0), Z := updN E.Z n c, D := fun r => E.D r ∨ r = n, S := E.S }
  have hle : E.le E' := ⟨fun b hb => ⟨hb, rfl⟩, fun r hD => ⟨.inl hD, by simp [E', updN, hne r hD], by simp [E', updN, hne r hD]⟩⟩; obtain ⟨k1, k2, k3, k4⟩ := hr.objs r _ ho; have hrn : r ≠ n := hne r k1
  have hcase : ∀ r1 ob, find ((r, (⟨false, el0, sz0, [row.set j (.als n 0 0)], false⟩ : Obj)) :: (n, (⟨true, el, c, ([] : List T).map f, true⟩ : Obj)) :: del b r) r1 = some ob →
      (r1 = r ∧ ob = ⟨false, el0, sz0, [row.set j (.als n 0 0)], false⟩) ∨ (r1 = n ∧ ob = ⟨true, el, c, [], true⟩) ∨ (find b r1 = some ob ∧ r1 ≠ n ∧ r1 ≠ r) := by
    intro r1 ob hf; rw [find_cons] at hf
    split at hf
    · rename_i e
      simp only [Option.some.injEq] at hf; exact .inl ⟨e.symm, hf.symm⟩
    · rename_i e
      rw [find_cons] at hf
      split at hf
      · rename_i e'
        simp only [Option.some.injEq] at hf; exact .inr (.inl ⟨e'.symm, hf.symm⟩)
      · rename_i e'
        rw [find_del, if_neg e] at hf; exact .inr (.inr ⟨hf, fun h => e' h.symm, fun h => e h.symm⟩)
  have hH : ∀ r, r ≠ n → E'.H r = E.H r := fun r h => by simp [E', updN, h]
  have hHN : E'.H n = .slice none 0 0 := by simp [E', updN]
  have hblk : ∀ r1 ob k, find ((r, (⟨false, el0, sz0, [row.set j (.als n 0 0)], false⟩ : Obj)) :: (n, (⟨true, el, c, ([] : List T).map f, true⟩ : Obj)) :: del b r) r1 = some ob → blockOf (E'.H r1) = some k → (∃ ob', find b r1 = some ob') ∧ blockOf (E.H r1) = some k := by
    intro r1 ob k hf hb
    rcases hcase r1 ob hf with ⟨rfl, _⟩ | ⟨rfl, _⟩ | ⟨hf, hn1, _⟩
    · rw [hH _ hrn] at hb; exact ⟨⟨_, ho⟩, hb⟩
    · rw [hHN] at hb; simp [blockOf] at hb
    · rw [hH _ hn1] at hb; exact ⟨⟨_, hf⟩, hb⟩
  have hnil : ∀ x, FV E' (.lit (.slice none 0 0)) x → FV E' (.als n 0 0) x := by
    intro x hx; simp only [FV] at hx ⊢; subst hx; refine ⟨.inr rfl, ?_⟩; rw [hHN]; exact ⟨none, 0, 0, none, 0, rfl, rfl, Nat.le_refl _, fun _ => ⟨rfl, rfl⟩, fun h => absurd h (by omega)⟩
  refine ⟨E', updN X n [], rfl, ⟨fun s' v hv => FV.le _ hle _ (hr.slots s' v hv), hr.size, hr.defers, ?_, ?_, ?_, ?_, hr.kept, ?_, ?_, ?_, hr.base, hr.grow, hr.envk, hr.glob⟩⟩
  · intro r1 ob hf
    rcases hcase r1 ob hf with ⟨rfl, rfl⟩ | ⟨rfl, rfl⟩ | ⟨hf, hn1, hr1⟩
    · refine ⟨.inl k1, by simp [E', updN, hrn, k2], ?_, ?_⟩
      · rw [hH _ hrn]; simp only [updN, hrn, if_false]
        unfold ObjOK at k3 ⊢
        exact k3
      · simp only [updN, hrn, if_false]; have h4 := FVr.le _ _ (E.by_le cl) _ k4; simp only [FVr] at h4 ⊢; obtain ⟨ys, zs, h5, h6, h7, h8⟩ := h4; exact ⟨ys, zs, h5, by simpa using h6, FVc.setCell (FVc.le _ hle _ h7) hj hnil, h8⟩
    · refine ⟨.inr rfl, by simp [E', updN], ?_, by simp [updN, FVr]⟩; rw [hHN]; simp only [updN, if_true]; exact .inl ⟨rfl, rfl, rfl⟩
    · obtain ⟨g1, g2, g3, g4⟩ := hr.objs r1 ob hf; rw [hH _ hn1]; simp only [updN, hn1, if_false]; exact ⟨.inl g1, by simp [E', updN, hn1, g2], g3, FVr.le _ _ (hle.by _) _ g4⟩
  · intro r1 r2 o1 o2 k h1 h2 hb1 hb2; obtain ⟨⟨o1', g1⟩, g2⟩ := hblk r1 o1 k h1 hb1; obtain ⟨⟨o2', g3⟩, g4⟩ := hblk r2 o2 k h2 hb2; exact hr.apart r1 r2 o1' o2' k g1 g3 g2 g4
  · intro k hk; refine ⟨(hr.stay k hk).1, fun r1 ob hf e => ?_⟩; obtain ⟨⟨o', g1⟩, g2⟩ := hblk r1 ob k hf e; exact (hr.stay k hk).2 r1 o' g1 g2
  · rintro r1 (hD | rfl)
    · exact Nat.lt_succ_of_lt (hr.fresh r1 hD)
    · exact Nat.lt_succ_self _
  · intro r1 ob k hf hb; obtain ⟨⟨o', g1⟩, g2⟩ := hblk r1 ob k hf hb; exact hr.mine r1 o' k g1 g2
  · intro r1 hk; have := hne r1 (hr.envD r1 hk); obtain ⟨h1, h2⟩ := hr.env r1 hk; exact ⟨by rw [hH _ this]; exact h1, by simp only [E', updN, this, if_false]; exact h2⟩
  · intro r1 hk; exact .inl (hr.envD r1 hk)
variable {ops : Array Oper} {rest : List Oper} {Q : St → Prop} {d ty : Nat} {pos : String} {aft : Array Edge} {g : Option (Nat × Bool)} {x y : Operand} {u : AV}
end
end Go.AM
