/-
  The abstract machine, continued: the roots that are handed over keep their names (loops in functions that are handed rows).
  Conditions: none; generic over the program.
-/
import Derived.Test.YthiockdlhehhoaaDoorAmAuto
namespace Go.AM
set_option linter.unusedVariables false
set_option linter.unusedSimpArgs false
/-- The roots 'ks' under the names 0, 1, ..; all else forgotten; of those handed over some may be gone. -/
theorem Wk.renR (ks : List Nat) {σ σ' : St} (hnd : ks.Nodup) (hs : slotsRen (pos ks 0) σ σ'.slots) (ho : keepR σ (pos ks 0) σ.env 0 ks = some σ'.objs) (hn : σ'.next = ks.length) (ht : σ'.nt = σ.nt) (he : σ'.env = σ.env)
    (hk : ∀ i, i < σ.env → ks[i]? = some i) : Wk σ σ' := by
  intro C E X a hr
  let E'' : Env := { w := E.w, H := fun r' => match ks[r']? with | some k => E.H k | none => undef, Z := fun r' => match ks[r']? with | some k => E.Z k | none => 0, D := fun r' => ∃ k, ks[r']? = some k ∧ E.D k, S := E.S }
  have hren : E.ren (pos ks 0) E'' := by
    refine ⟨fun b hb => ⟨hb, rfl⟩, fun r r' hD hp => ?_⟩
    obtain ⟨_, h2⟩ := pos_spec ks 0 r r' hp
    simp only [Nat.sub_zero] at h2
    exact ⟨⟨r, h2, hD⟩, by simp [E'', h2], by simp [E'', h2]⟩
  refine ⟨E'', fun r' => match ks[r']? with | some k => X k | none => [], rfl, ⟨?_, hr.size.trans ht.symm, hr.defers, ?_, ?_, ?_, ?_, hr.kept, ?_, ?_, ?_, hr.base, hr.grow, hr.envk.trans he.symm, hr.glob⟩⟩
  · intro s v hv
    exact FV.ren hren (slotsRen_spec hs s v hv) (hr.ev (.tmp s))
  · intro r o hro
    obtain ⟨k, o1, _, hkk, hk2, hk3⟩ := keepR_spec ks 0 _ ho r o hro
    simp only [Nat.sub_zero] at hkk
    obtain ⟨g1, g2, g3, g4⟩ := hr.objs k o1 hk2
    have hsp := renObj_spec hk3
    refine ⟨⟨k, hkk, g1⟩, by simp [E'', hkk, g2, hsp.2.2.1], ?_, ?_⟩
    · simp only [E'', hkk]
      exact g3.ren hk3
    · simp only [hkk]
      exact FVr.renObj hk3 hren g4
  · intro r r' o o' b hro hro' hb hb'
    obtain ⟨k, o1, _, hkk, hk2, hk3⟩ := keepR_spec ks 0 _ ho r o hro
    obtain ⟨k', o1', _, hkk', hk2', hk3'⟩ := keepR_spec ks 0 _ ho r' o' hro'
    simp only [Nat.sub_zero] at hkk hkk'
    simp only [E'', hkk] at hb
    simp only [E'', hkk'] at hb'
    have := hr.apart k k' o1 o1' b hk2 hk2' hb hb'
    subst this
    obtain ⟨hl, he⟩ := List.getElem?_eq_some_iff.1 hkk
    obtain ⟨hl', he'⟩ := List.getElem?_eq_some_iff.1 hkk'
    exact (List.getElem_inj hnd).1 (he.trans he'.symm)
  · intro b hb
    obtain ⟨h1, h2⟩ := hr.stay b hb
    refine ⟨h1, fun r o hro e => ?_⟩
    obtain ⟨k, o1, _, hkk, hk2, hk3⟩ := keepR_spec ks 0 _ ho r o hro
    simp only [Nat.sub_zero] at hkk
    simp only [E'', hkk] at e
    exact h2 k o1 hk2 e
  · rintro r ⟨k, hkk, _⟩
    rw [hn]
    exact (List.getElem?_eq_some_iff.1 hkk).1
  · intro r o b hro hb
    obtain ⟨k, o1, _, hkk, hk2, hk3⟩ := keepR_spec ks 0 _ ho r o hro
    simp only [Nat.sub_zero] at hkk
    simp only [E'', hkk] at hb
    exact hr.mine k o1 b hk2 hb
  · intro r hkr
    have := hk r (by rw [← hr.envk]; exact hkr)
    simp only [E'', this]
    exact hr.env r hkr
  · intro r hkr
    exact ⟨r, hk r (by rw [← hr.envk]; exact hkr), hr.envD r hkr⟩


section control
variable {P : Program} {s : List (Nat × AV)} {b : List (Nat × Obj)} {n t e : Nat} {Q : Exit → St → Prop}
theorem Ev.loopR {c : Code} {ι : Type} (rs : List Nat) (ks : List Nat) {kept : List (Nat × AV)} (U : ι → List (Nat × AV)) (O : ι → List (Nat × Obj)) (μ : ι → Nat) (x0 : ι) (hk : Kept (pos rs 0) s ks kept) (hO : keepR ⟨s, b, n, t, e⟩ (pos rs 0) e 0 rs = some (O x0)) (hU : slotsRen (pos rs 0) ⟨s, b, n, t, e⟩ (U x0))
    (round : ∀ x (R : Exit → St → Prop), (∀ e' σ', roundP (fun x => ⟨U x ++ kept, O x, rs.length, t, e⟩) μ x Q e' σ' → R e' σ') → Ev P c ⟨U x ++ kept, O x, rs.length, t, e⟩ R) (hnd : rs.Nodup := by decide) (hl : ∀ i, i < e → rs[i]? = some i := by decide) : Ev P (.loop c) ⟨s, b, n, t, e⟩ Q :=
  Ev.loop (fun x => ⟨U x ++ kept, O x, rs.length, t, e⟩) μ x0 (Wk.renR rs hnd (slotsRen_append hU hk.ren) hO rfl rfl rfl hl) fun x => round x _ fun _ _ h => h
theorem roundR {ι : Type} {U : ι → List (Nat × AV)} {kept : List (Nat × AV)} {O : ι → List (Nat × Obj)} {μ : ι → Nat} {x : ι} (rs ks : List Nat) {m : Nat} (y : ι) (hμ : μ y < μ x) (hO : keepR ⟨s, b, n, t, e⟩ (pos rs 0) e 0 rs = some (O y)) (hU : slotsRen (pos rs 0) ⟨s, b, n, t, e⟩ (U y)) (hk : Kept (pos rs 0) s ks kept) (hm : rs.length = m := by exact rfl)
    (hnd : rs.Nodup := by decide) (hl : ∀ i, i < e → rs[i]? = some i := by decide) : roundP (fun x => ⟨U x ++ kept, O x, m, t, e⟩) μ x Q .normal ⟨s, b, n, t, e⟩ :=
  ⟨y, hμ, Wk.renR rs hnd (slotsRen_append hU hk.ren) hO hm.symm rfl rfl hl⟩
theorem kR_n {σ : St} {ρ : Nat → Option Nat} {k i : Nat} : keepR σ ρ k i [] = some [] := rfl
theorem kR_c {σ : St} {ρ : Nat → Option Nat} {k i j : Nat} {ks : List Nat} {slc : Bool} {el sz : Nat} {rows rows' : List (List AV)} {l : List (Nat × Obj)} (ho : find σ.objs j = some ⟨slc, el, sz, rows, true⟩ := by exact rfl) (he : rows = rows') (h : keepR σ ρ k (i + 1) ks = some l) :
    keepR σ ρ k i (j :: ks) = some ((i, ⟨slc, el, sz, rows', true⟩) :: l) := by
  subst he
  simp only [keepR, ho, renObj, h]
theorem kR_d {σ : St} {ρ : Nat → Option Nat} {k i j : Nat} {ks : List Nat} {slc : Bool} {el sz : Nat} {rows rows1 rows' : List (List AV)} {l : List (Nat × Obj)} (ho : find σ.objs j = some ⟨slc, el, sz, rows, false⟩ := by exact rfl) (hr : renR ρ rows = some rows1 := by exact rfl) (he : rows1 = rows' := by exact rfl) (h : keepR σ ρ k (i + 1) ks = some l) :
    keepR σ ρ k i (j :: ks) = some ((i, ⟨slc, el, sz, rows', false⟩) :: l) := by
  subst he
  simp only [keepR, ho, renObj, hr, Option.map_some, h]
theorem kR_g {σ : St} {ρ : Nat → Option Nat} {k i j : Nat} {ks : List Nat} {l : List (Nat × Obj)} (ho : find σ.objs j = none := by exact rfl) (hi : Nat.blt i k = true := by exact rfl) (h : keepR σ ρ k (i + 1) ks = some l) :
    keepR σ ρ k i (j :: ks) = some l := by
  simp only [keepR, ho, hi, cond_true, h]
end control
end Go.AM
