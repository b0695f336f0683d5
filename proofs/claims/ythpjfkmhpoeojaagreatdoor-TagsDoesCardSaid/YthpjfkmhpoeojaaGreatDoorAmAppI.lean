/-
  The abstract machine, continued: strconv.AppendInt at base 10, onto a row of the call's own, with all other memory kept.
  Conditions: none; generic over the program.
-/
import Derived.Test.YthpjfkmhpoeojaaGreatDoorAmItoa
import Derived.Test.YthpjfkmhpoeojaaGreatDoorAmOwn
import Derived.Test.YthpjfkmhpoeojaaGreatDoorAmLib
import Derived.Shelf.Strconv.Itoa1
import Derived.Shelf.Strconv.Itoa2
import Derived.Lib.ItoaMem
import Derived.Lib.ItoaLen
import Derived.Lib.AppendIntMem
import Derived.Lib.Hide
import Derived.Lib.OwnKind
import Derived.Lib.Slices
import Derived.OwnWalk
namespace Go.AM
open Go.Proofs Go.Lib Go.Sort Go.Shelf Go.RowKit
set_option linter.unusedVariables false
set_option linter.unusedSimpArgs false
set_option linter.unusedSectionVars false
def bytesV (l : List UInt8) : List Value := l.map fun x => .int .u8 (x.toNat : Int)
def OwnB (w : World) (el : TypeId) (v : Value) (l : List UInt8) : Prop := ObjOK w v (bytesV l) ⟨true, el, 1, l.map byteC, true⟩ ∧ ∃ A0 n0 c0, v = .slice A0 n0 c0
structure Mov (v v' : Value) (w w' : World) : Prop where
  os : w'.os = w.os
  tape : Tp w w'
  output : w'.output = w.output
  size : w.heap.size ≤ w'.heap.size
  block : ∀ k, k < w.heap.size → blockOf v ≠ some k → w'.heap[k]? = w.heap[k]?
  lies : ∀ k, blockOf v' = some k → (blockOf v = some k ∨ w.heap.size ≤ k) ∧ k < w'.heap.size
theorem Mov.trans {v v' v'' : Value} {w w' w'' : World} (h : Mov v v' w w') (k : Mov v' v'' w' w'') : Mov v v'' w w'' where
  os := k.os.trans h.os
  tape := h.tape.trans k.tape
  output := k.output.trans h.output
  size := Nat.le_trans h.size k.size
  block := fun j hj hne => (k.block j (Nat.lt_of_lt_of_le hj h.size) (fun e => by
    rcases (h.lies j e).1 with h1 | h1
    · exact hne h1
    · omega)).trans (h.block j hj hne)
  lies := fun j e => by
    obtain ⟨h1, h2⟩ := k.lies j e; refine ⟨?_, h2⟩
    rcases h1 with h1 | h1
    · exact (h.lies j h1).1
    · exact .inr (Nat.le_trans h.size h1)
theorem OwnB.grow {w : World} {el : TypeId} {v : Value} {l : List UInt8} (h : OwnB w el v l) (k : Nat) (os : Array Go.Obj) : OwnB (Go.Sort.grow (w.drewN k) os) el v l := by
  obtain ⟨h1, h2⟩ := h; refine ⟨?_, h2⟩; simp only [ObjOK] at h1 ⊢
  rcases h1 with h1 | ⟨b, cap, cur, e, hg, h1⟩ | ⟨b, es, clk, e, _⟩
  · exact .inl h1
  · refine .inr (.inl ⟨b, cap, cur, e, ?_, h1⟩); rw [Lib.heap_grow_old w k os b (Array.getElem?_eq_some_iff.1 hg).1]; exact hg
  · obtain ⟨_, _, _, e2⟩ := h2; rw [e2] at e; cases e
theorem Mov.grow {w : World} {v : Value} (hb : ∀ k, blockOf v = some k → k < w.heap.size) (k : Nat) (os : Array Go.Obj) : Mov v v w (Go.Sort.grow (w.drewN k) os) where
  os := rfl
  tape := ⟨rfl, by simp [Go.Sort.grow, World.drewN]⟩
  output := rfl
  size := Lib.size_grow w k os
  block := fun j hj _ => Lib.heap_grow_old w k os j hj
  lies := fun j e => ⟨.inl e, Nat.lt_of_lt_of_le (hb j e) (Lib.size_grow w k os)⟩
theorem OwnB.lt {w : World} {el : TypeId} {v : Value} {l : List UInt8} (h : OwnB w el v l) : ∀ k, blockOf v = some k → k < w.heap.size := fun k hk => h.1.lt hk
theorem OwnB.alloc {w : World} {el : TypeId} {v : Value} {l : List UInt8} (h : OwnB w el v l) (o : Go.Obj) : OwnB (w.alloc o) el v l := by
  rw [alloc_eq_grow]; exact h.grow 0 #[o]
section
variable {P : Program} {ρ : Ren}
end
end Go.AM
namespace Go.AM
set_option linter.unusedVariables false
section
variable {P : Program} {s : List (Nat × AV)} {b : List (Nat × Obj)} {n t e : Nat}
theorem Wk.mv {T : Type} {f : T → List AV} {l : List T} {r ty el c m : Nat} (q : Nat) (b' : List (Nat × Obj)) (hq : find b q = some ⟨false, ty, 1, [[.als r 0 m]], false⟩ := by exact rfl) (ho : find b r = some ⟨true, el, c, l.map f, true⟩ := by exact rfl) (hqr : q ≠ r := by decide) (hb' : del (del b r) q = b' := by exact rfl) :
    Wk ⟨s, b, n, t, e⟩ ⟨s, (q, ⟨false, ty, 1, [[.als n 0 m]], false⟩) :: (n, ⟨true, el, c, l.map f, true⟩) :: b', n + 1, t, e⟩ := by
  subst hb'; intro C E X a hr; obtain ⟨hD, hZ, hok, hrow⟩ := hr.objs r _ ho; obtain ⟨hDq, hZq, hokq, hrowq⟩ := hr.objs q _ hq; have hN : ¬ E.D n := fun h => Nat.lt_irrefl _ (hr.fresh n h); have hne : ∀ j, E.D j → j ≠ n := fun j h e' => hN (e' ▸ h)
  let E' : Env := { w := E.w, H := updN E.H n (E.H r), Z := updN E.Z n (E.Z r), D := fun j => E.D j ∨ j = n, S := E.S }
  have hle : E.le E' := ⟨fun k hk => ⟨hk, rfl⟩, fun j hj => ⟨.inl hj, by simp [E', updN, hne j hj], by simp [E', updN, hne j hj]⟩⟩
  have hHn : E'.H n = E.H r := by simp [E', updN]
  have hZn : E'.Z n = E.Z r := by simp [E', updN]
  have hH : ∀ j, j ≠ n → E'.H j = E.H j := fun j h => by simp [E', updN, h]
  have hcase : ∀ j ob, find ((q, (⟨false, ty, 1, [[.als n 0 m]], false⟩ : Obj)) :: (n, (⟨true, el, c, l.map f, true⟩ : Obj)) :: del (del b r) q) j = some ob →
      (j = q ∧ ob = ⟨false, ty, 1, [[.als n 0 m]], false⟩) ∨ (j = n ∧ ob = ⟨true, el, c, l.map f, true⟩) ∨ (find b j = some ob ∧ j ≠ q ∧ j ≠ r ∧ j ≠ n) := by
    intro j ob hf; rw [find_cons] at hf
    by_cases e1 : q = j
    · simp only [e1, if_true, Option.some.injEq] at hf; exact .inl ⟨e1.symm, hf.symm⟩
    · simp only [e1, if_false] at hf; rw [find_cons] at hf
      by_cases e2 : n = j
      · simp only [e2, if_true, Option.some.injEq] at hf; exact .inr (.inl ⟨e2.symm, hf.symm⟩)
      · simp only [e2, if_false, find_del] at hf
        by_cases e3 : r = j
        · simp [e1, e3] at hf
        · simp only [e1, e3, if_false] at hf; exact .inr (.inr ⟨hf, fun h => e1 h.symm, fun h => e3 h.symm, fun h => e2 h.symm⟩)
  have hphi : ∀ j ob, find ((q, (⟨false, ty, 1, [[.als n 0 m]], false⟩ : Obj)) :: (n, (⟨true, el, c, l.map f, true⟩ : Obj)) :: del (del b r) q) j = some ob → ∃ o', find b (if j = n then r else j) = some o' ∧ E'.H j = E.H (if j = n then r else j) ∧ (j = n ∨ j ≠ r) := by
    intro j ob hf
    rcases hcase j ob hf with ⟨rfl, rfl⟩ | ⟨rfl, rfl⟩ | ⟨h1, h2, h3, h4⟩
    · rw [if_neg (hne _ hDq)]; exact ⟨_, hq, hH _ (hne _ hDq), .inr hqr⟩
    · rw [if_pos rfl]; exact ⟨_, ho, hHn, .inl rfl⟩
    · rw [if_neg h4]; exact ⟨_, h1, hH _ h4, .inr h3⟩
  refine ⟨E', updN X n (X r), rfl, ?_⟩; refine ⟨fun j v hv => FV.le _ hle _ (hr.slots j v hv), hr.size, hr.defers, ?_, ?_, ?_, ?_, hr.kept, ?_, ?_, fun j hj => .inl (hr.envD j hj), hr.base, hr.grow, hr.envk, hr.glob⟩
  · intro j ob hf
    rcases hcase j ob hf with ⟨rfl, rfl⟩ | ⟨rfl, rfl⟩ | ⟨h1, h2, h3, h4⟩
    · have hqn := hne _ hDq; refine ⟨.inl hDq, by simp only [E', updN, if_neg hqn]; exact hZq, by rw [hH _ hqn]; simp only [updN, if_neg hqn]; exact hokq, ?_⟩; simp only [updN, if_neg hqn]; have hrq : FVr E 1 [[.als r 0 m]] (X j) := hrowq
      show FVr E' 1 [[.als n 0 m]] (X j)
      simp only [FVr, FVc, FV] at hrq ⊢; rw [hHn, hZn]; obtain ⟨ys, zs, hX, hys, ⟨y, ys', hyy, hone, ⟨_, hrest⟩, hnil⟩, hzs⟩ := hrq; exact ⟨ys, zs, hX, hys, ⟨y, ys', hyy, hone, ⟨.inr rfl, hrest⟩, hnil⟩, hzs⟩
    · refine ⟨.inr rfl, by rw [hZn]; exact hZ, by rw [hHn]; simp only [updN, if_true]; exact hok, ?_⟩; simp only [updN, if_true]; exact FVr.le _ _ (hle.by _) _ hrow
    · obtain ⟨g1, g2, g3, g4⟩ := hr.objs j ob h1; refine ⟨.inl g1, by simp only [E', updN, if_neg h4]; exact g2, by rw [hH _ h4]; simp only [updN, if_neg h4]; exact g3, ?_⟩; simp only [updN, if_neg h4]; exact FVr.le _ _ (hle.by _) _ g4
  · intro r1 r2 o1 o2 bk hf1 hf2 hb1 hb2; obtain ⟨p1, k1, k2, k3⟩ := hphi r1 o1 hf1; obtain ⟨p2, j1, j2, j3⟩ := hphi r2 o2 hf2; rw [k2] at hb1; rw [j2] at hb2; have := hr.apart _ _ _ _ bk k1 j1 hb1 hb2
    by_cases e1 : r1 = n <;> by_cases e2 : r2 = n
    · rw [e1, e2]
    · rw [if_pos e1, if_neg e2] at this
      rcases j3 with h | h
      · exact absurd h e2
      · exact absurd this.symm h
    · rw [if_neg e1, if_pos e2] at this
      rcases k3 with h | h
      · exact absurd h e1
      · exact absurd this h
    · rw [if_neg e1, if_neg e2] at this; exact this
  · intro bk hbk; refine ⟨(hr.stay bk hbk).1, fun j ob hf => ?_⟩; obtain ⟨p1, k1, k2, _⟩ := hphi j ob hf; rw [k2]; exact (hr.stay bk hbk).2 _ _ k1
  · rintro j (hj | rfl)
    · exact Nat.lt_succ_of_lt (hr.fresh j hj)
    · exact Nat.lt_succ_self _
  · intro j ob bk hf hbk; obtain ⟨p1, k1, k2, _⟩ := hphi j ob hf; rw [k2] at hbk; exact hr.mine _ _ bk k1 hbk
  · intro j hj; have hjn := hne j (hr.envD j hj); have := hr.env j hj
    simpa [E', updN, hjn] using this
end
end Go.AM
namespace Go.AM
set_option linter.unusedVariables false
set_option linter.unusedSimpArgs false
theorem Wk.renR (ks : List Nat) {σ σ' : St} (hnd : ks.Nodup) (hs : slotsRen (pos ks 0) σ σ'.slots) (ho : keepR σ (pos ks 0) σ.env 0 ks = some σ'.objs) (hn : σ'.next = ks.length) (ht : σ'.nt = σ.nt) (he : σ'.env = σ.env)
    (hk : ∀ i, i < σ.env → ks[i]? = some i) : Wk σ σ' := by
  intro C E X a hr
  let E'' : Env := { w := E.w, H := fun r' => match ks[r']? with | some k => E.H k | none => undef, Z := fun r' => match ks[r']? with | some k => E.Z k | none => 0, D := fun r' => ∃ k, ks[r']? = some k ∧ E.D k, S := E.S }
  have hren : E.ren (pos ks 0) E'' := by
    refine ⟨fun b hb => ⟨hb, rfl⟩, fun r r' hD hp => ?_⟩; obtain ⟨_, h2⟩ := pos_spec ks 0 r r' hp; simp only [Nat.sub_zero] at h2; exact ⟨⟨r, h2, hD⟩, by simp [E'', h2], by simp [E'', h2]⟩
  refine ⟨E'', fun r' => match ks[r']? with | some k => X k | none => [], rfl, ⟨?_, hr.size.trans ht.symm, hr.defers, ?_, ?_, ?_, ?_, hr.kept, ?_, ?_, ?_, hr.base, hr.grow, hr.envk.trans he.symm, hr.glob⟩⟩
  · intro s v hv; exact FV.ren hren (slotsRen_spec hs s v hv) (hr.ev (.tmp s))
  · intro r o hro; obtain ⟨k, o1, _, hkk, hk2, hk3⟩ := keepR_spec ks 0 _ ho r o hro; simp only [Nat.sub_zero] at hkk; obtain ⟨g1, g2, g3, g4⟩ := hr.objs k o1 hk2; have hsp := renObj_spec hk3; refine ⟨⟨k, hkk, g1⟩, by simp [E'', hkk, g2, hsp.2.2.1], ?_, ?_⟩
    · simp only [E'', hkk]; exact g3.ren hk3
    · simp only [hkk]; exact FVr.renObj hk3 hren g4
  · intro r r' o o' b hro hro' hb hb'; obtain ⟨k, o1, _, hkk, hk2, hk3⟩ := keepR_spec ks 0 _ ho r o hro; obtain ⟨k', o1', _, hkk', hk2', hk3'⟩ := keepR_spec ks 0 _ ho r' o' hro'; simp only [Nat.sub_zero] at hkk hkk'; simp only [E'', hkk] at hb; simp only [E'', hkk'] at hb'; have := hr.apart k k' o1 o1' b hk2 hk2' hb hb'; subst this; obtain ⟨hl, he⟩ := List.getElem?_eq_some_iff.1 hkk; obtain ⟨hl', he'⟩ := List.getElem?_eq_some_iff.1 hkk'; exact (List.getElem_inj hnd).1 (he.trans he'.symm)
  · intro b hb; obtain ⟨h1, h2⟩ := hr.stay b hb; refine ⟨h1, fun r o hro e => ?_⟩; obtain ⟨k, o1, _, hkk, hk2, hk3⟩ := keepR_spec ks 0 _ ho r o hro; simp only [Nat.sub_zero] at hkk; simp only [E'', hkk] at e; exact h2 k o1 hk2 e
  · rintro r ⟨k, hkk, _⟩; rw [hn]; exact (List.getElem?_eq_some_iff.1 hkk).1
  · intro r o b hro hb; obtain ⟨k, o1, _, hkk, hk2, hk3⟩ := keepR_spec ks 0 _ ho r o hro; simp only [Nat.sub_zero] at hkk; simp only [E'', hkk] at hb; exact hr.mine k o1 b hk2 hb
  · intro r hkr; have := hk r (by rw [← hr.envk]; exact hkr); simp only [E'', this]; exact hr.env r hkr
  · intro r hkr; exact ⟨r, hk r (by rw [← hr.envk]; exact hkr), hr.envD r hkr⟩
section control
variable {P : Program} {s : List (Nat × AV)} {b : List (Nat × Obj)} {n t e : Nat} {Q : Exit → St → Prop}
theorem Ev.loopR {c : Code} {ι : Type} (rs : List Nat) (ks : List Nat) {kept : List (Nat × AV)} (U : ι → List (Nat × AV)) (O : ι → List (Nat × Obj)) (μ : ι → Nat) (x0 : ι) (hk : Kept (pos rs 0) s ks kept) (hO : keepR ⟨s, b, n, t, e⟩ (pos rs 0) e 0 rs = some (O x0)) (hU : slotsRen (pos rs 0) ⟨s, b, n, t, e⟩ (U x0))
    (round : ∀ x (R : Exit → St → Prop), (∀ e' σ', roundP (fun x => ⟨U x ++ kept, O x, rs.length, t, e⟩) μ x Q e' σ' → R e' σ') → Ev P c ⟨U x ++ kept, O x, rs.length, t, e⟩ R) (hnd : rs.Nodup := by decide) (hl : ∀ i, i < e → rs[i]? = some i := by decide) : Ev P (.loop c) ⟨s, b, n, t, e⟩ Q :=
  Ev.loop (fun x => ⟨U x ++ kept, O x, rs.length, t, e⟩) μ x0 (Wk.renR rs hnd (slotsRen_append hU hk.ren) hO rfl rfl rfl hl) fun x => round x _ fun _ _ h => h
theorem roundR {ι : Type} {U : ι → List (Nat × AV)} {kept : List (Nat × AV)} {O : ι → List (Nat × Obj)} {μ : ι → Nat} {x : ι} (rs ks : List Nat) {m : Nat} (y : ι) (hμ : μ y < μ x) (hO : keepR ⟨s, b, n, t, e⟩ (pos rs 0) e 0 rs = some (O y)) (hU : slotsRen (pos rs 0) ⟨s, b, n, t, e⟩ (U y)) (hk : Kept (pos rs 0) s ks kept) (hm : rs.length = m := by exact rfl)
    (hnd : rs.Nodup := by decide) (hl : ∀ i, i < e → rs[i]? = some i := by decide) : roundP (fun x => ⟨U x ++ kept, O x, m, t, e⟩) μ x Q .normal ⟨s, b, n, t, e⟩ :=
  ⟨y, hμ, Wk.renR rs hnd (slotsRen_append hU hk.ren) hO hm.symm rfl rfl hl⟩
theorem kR_n {σ : St} {ρ : Nat → Option Nat} {k i : Nat} : keepR σ ρ k i [] = some [] := rfl
theorem kR_c {σ : St} {ρ : Nat → Option Nat} {k i j : Nat} {ks : List Nat} {slc : Bool} {el sz : Nat} {rows rows' : List (List AV)} {l : List (Nat × Obj)} (ho : find σ.objs j = some ⟨slc, el, sz, rows, true⟩ := by exact rfl) (he : rows = rows') (h : keepR σ ρ k (i + 1) ks = some l) :
    keepR σ ρ k i (j :: ks) = some ((i, ⟨slc, el, sz, rows', true⟩) :: l) := by
  subst he; simp only [keepR, ho, renObj, h]
theorem kR_d {σ : St} {ρ : Nat → Option Nat} {k i j : Nat} {ks : List Nat} {slc : Bool} {el sz : Nat} {rows rows1 rows' : List (List AV)} {l : List (Nat × Obj)} (ho : find σ.objs j = some ⟨slc, el, sz, rows, false⟩ := by exact rfl) (hr : renR ρ rows = some rows1 := by exact rfl) (he : rows1 = rows' := by exact rfl) (h : keepR σ ρ k (i + 1) ks = some l) :
    keepR σ ρ k i (j :: ks) = some ((i, ⟨slc, el, sz, rows', false⟩) :: l) := by
  subst he; simp only [keepR, ho, renObj, hr, Option.map_some, h]
theorem kR_g {σ : St} {ρ : Nat → Option Nat} {k i j : Nat} {ks : List Nat} {l : List (Nat × Obj)} (ho : find σ.objs j = none := by exact rfl) (hi : Nat.blt i k = true := by exact rfl) (h : keepR σ ρ k (i + 1) ks = some l) :
    keepR σ ρ k i (j :: ks) = some l := by
  simp only [keepR, ho, hi, cond_true, h]
end control
end Go.AM
