/-
  Part 20 of the proof: the abstract machine, proved sound over the model.
  Conditions: none.
-/
import Derived.Shelf.Slices.CompactI
import Derived.Test.YtlpgjlnkfgacbaaGreatX19
set_option linter.unusedVariables false
set_option linter.unusedSimpArgs false
set_option linter.unusedSectionVars false
namespace Go.AM
open Go.Proofs Go.Lib Go.Sort Go.Shelf
def cmpR (l : List Int) : List Int := Lib.compact l ++ List.replicate (l.length - (Lib.compact l).length) 0
theorem compact_len (l : List Int) : (Lib.compact l).length ≤ l.length := by
  have key : ∀ m, (Lib.compactUpTo l.toArray m).length ≤ m := by
    intro m
    induction m with
    | zero => simp [Lib.compactUpTo]
    | succ m ih =>
      rw [Lib.compactUpTo_succ, List.length_append]
      split <;> simp <;> omega
  exact key l.length
theorem compactI_R {P : Program} {ρ : Ren} (L : Lays2.n20 P ρ) (hB : Bodied P (ρ.f 20)) {el : Nat} (l : List Int) (hn : l.length ≤ 1000000) :
    FunR P (ρ.f 20) [.als 0 0 l.length] [(0, ⟨true, el, 1, l.map fun x => [.lit (.int .i64 x)], true⟩)] 1 (fun v objs => ∃ l' : List Int, l' = cmpR l ∧ v = .als 0 0 (Lib.compact l).length ∧ objs = [(0, ⟨true, el, 1, l'.map fun x => [.lit (.int .i64 x)], true⟩)]) := by
  have hcl := compact_len l; refine inplaceS_X (more := []) (Φ := fun l' : List Int => l' = cmpR l) (K := fun _ => (Lib.compact l).length) hB encI_L (by decide) (fun l' h => by rw [h, cmpR]; simp; omega) (fun _ _ => hcl) rfl (fun e => by rw [e]; rfl) ?_ ?_
  · intro hl E ms hms; simp only [FVs] at hms; subst hms; exact Any.slices_Compact_int_empty L none 0 E.w
  · intro E b cap ms hms hH hb hcap; simp only [FVs] at hms; subst hms; refine (Any.slices_Compact_int L b 0 cap l E.w (holds1 hH) (by omega) hcap).mono ?_; rintro e w' ⟨rfl, n, rfl⟩; refine ⟨_, n, #[], rfl, rfl, ?_⟩; rw [grow_empty, cmpR, putRow1]
section
variable {P : Program} {s : List (Nat × AV)} {b : List (Nat × Obj)} {n t e : Nat}
theorem Wk.frzp {T : Type} {f : T → List AV} (l : List T) (d : Nat) (b' : List (Nat × Obj)) {slc : Bool} {r el c m : Nat} (hs : find s d = some (.als r 0 m) := by exact rfl) (ho : find b r = some ⟨slc, el, c, l.map f, true⟩ := by exact rfl) (hm : m ≤ l.length := by omega) (hk : Nat.ble e r = true := by exact rfl) (hb : del b r = b' := by exact rfl) :
    Wk ⟨s, b, n, t, e⟩ ⟨(d, .sh c ((l.take m).map f)) :: s, b', n, t, e⟩ := by
  subst hb; have := Wk.freeze (σ := ⟨s, b, n, t, e⟩) d (r := r) (lo := 0) (n := m) (by simp [St.get, hs]) ho rfl (by simp only [List.length_map]; omega) (Nat.le_of_ble_eq_true hk); rw [List.drop_zero, ← List.map_take] at this; exact this
end
end Go.AM
namespace Go.AM
section
variable {P : Program} {s : List (Nat × AV)} {b : List (Nat × Obj)} {n t e : Nat}
end
end Go.AM
namespace Go.AM
section
variable {P : Program} {s : List (Nat × AV)} {b : List (Nat × Obj)} {n t e : Nat}
end
end Go.AM
namespace Go.AM
def SeqA {α : Type} (P : Program) (gf : Nat) (args : List AV) (encs : α → Array Value) (S Sp : List α → Prop) (N : List α → α → Prop) : Prop :=
  Bodied P gf ∧ ∀ (E : Env) (xs : List Value) (l : Nat) (S0 Z0 : Nat → Prop) (J : Bool × List α → (Nat → Prop) → World → Prop), FVs E.clear args xs → (∀ b, E.S b → b < E.w.heap.size) → LaidOK E.w E.S → Rnd P l encs N S0 J → (∀ b, E.S b → Z0 b ∨ S0 b) → J (true, []) Z0 E.w →
    Calls P gf (xs ++ [Value.func (Fn.yield l) #[] #[]]).toArray E.w fun e B => (∃ v, e = .returned v) ∧ ∃ g Z, (g.1 = true → S g.2) ∧ (g.1 = false → Sp g.2) ∧ J g Z B
theorem FVs.app {E : Env} : ∀ {a b : List AV} {xs ys : List Value}, FVs E a xs → FVs E b ys → FVs E (a ++ b) (xs ++ ys)
  | [], b, xs, ys, h, h2 => by
    simp only [FVs] at h; subst h; exact h2
  | c :: a, b, xs, ys, h, h2 => by
    simp only [FVs] at h; obtain ⟨y, zs, rfl, h3, h4⟩ := h; exact ⟨y, zs ++ ys, rfl, h3, FVs.app h4 h2⟩
theorem SeqA.of_body {α : Type} {P : Program} {gf : FuncId} {fn : Func} {c : Code} {args : List AV} {N : List α → α → Prop} {encs : α → Array Value} {S Sp : List α → Prop}
    (hf : P.funcs[gf]? = some fn) (hb : fn.body = some c) (hnm : (fn.name == "runtime.NumGoroutine") = false) (hrs : fn.results = #[]) (hn : args.length + 1 ≤ fn.ntmps)
    (h : ∀ l S0 (J : Bool × List α → (Nat → Prop) → World → Prop), Rnd P l encs N S0 J → EvY P S0 J c ⟨argSlots 0 (args ++ [.lit (.func (.yield l) #[] #[])]), [], 0, fn.ntmps, 0⟩ (true, []) (fun e σ' g' => (e = .normal ∨ e = .ret) ∧ (g'.1 = true → S g'.2) ∧ (g'.1 = false → Sp g'.2))) :
    SeqA P gf args encs S Sp N := by
  refine ⟨⟨fn, hf, by simp [hb], hnm⟩, fun E xs0 l S0 Z0 J hx0 hS hG hR hSZ hJ => ?_⟩; have hx : FVs E.clear (args ++ [.lit (.func (.yield l) #[] #[])]) (xs0 ++ [Value.func (Fn.yield l) #[] #[]]) := FVs.app hx0 ⟨_, _, rfl, by simp [FV], by simp [FVs]⟩
  generalize xs0 ++ [Value.func (Fn.yield l) #[] #[]] = xs at hx ⊢
  have hn2 : (args ++ [AV.lit (.func (.yield l) #[] #[])]).length ≤ fn.ntmps := by simpa using hn
  have h' := h l S0 J hR
  generalize args ++ [AV.lit (.func (.yield l) #[] #[])] = args at hx hn2 h'
  have hxl := hx.length
  let C : Ctx := ⟨E.w, fun _ => False, fun _ => undef, 0, E.S, fun _ => 0, []⟩
  have hrel : Rel C E.clear (fun _ => []) ⟨argSlots 0 args, [], 0, fn.ntmps, 0⟩ { tmps := xs.toArray ++ Array.replicate (fn.ntmps - xs.toArray.size) undef, defers := [] } := by
    refine ⟨?_, ?_, rfl, ?_, ?_, ?_, ?_, Keep.refl _ _, ?_, ?_, ?_, fun b hb => hb, fun b hb => .inl hb, rfl, hG⟩
    · intro s v hv; obtain ⟨_, h2⟩ := find_argSlots args 0 s v hv; simp only [Nat.sub_zero] at h2; obtain ⟨y, hy, hfv⟩ := hx.get h2; have hlt : s < xs.length := (List.getElem?_eq_some_iff.1 hy).1
      have : (xs.toArray ++ Array.replicate (fn.ntmps - xs.toArray.size) undef).getD s undef = y := by
        have e : (xs.toArray ++ Array.replicate (fn.ntmps - xs.toArray.size) undef)[s]? = some y := by
          rw [Array.getElem?_append_left (by simpa using hlt)]
          simpa using hy
        rw [Array.getD_eq_getD_getElem?, e]; rfl
      rw [this]; exact hfv
    · simp [hxl]; omega
    · intro r o hr; simp [find] at hr
    · intro r r' o o' b hr; simp [find] at hr
    · intro b hb; exact ⟨hS b hb, fun r o hr => by simp [find] at hr⟩
    · intro r hr; exact hr.elim
    · intro r o b hr; simp [find] at hr
    · intro r hr; exact absurd hr (Nat.not_lt_zero _)
    · intro r hr; exact absurd hr (Nat.not_lt_zero _)
  have hin : InY S0 J C (true, []) Z0 := ⟨rfl, fun b hb => hb.elim, hSZ, hJ⟩; refine calls_of_wp hf hb (wp_mono (h' C E.clear _ _ _ hin hrel) ?_); rintro e a' w' ⟨C', E', X', σ', g', Z', rfl, h2, h3, h4, h5, h6⟩; have hd : a'.defers = [] := h3.defers.trans h2.dfr
  have hr2 : (results fn a'.tmps).run P E'.w = .ok (.tuple #[]) E'.w := by
    unfold results
    simp [hrs]
  have hj := hR.step _ _ _ _ h2.j (h3.kept.mono h2.own); have fin : (∃ v, Ending.returned (.tuple #[]) = .returned v) ∧ ∃ g Z, (g.1 = true → S g.2) ∧ (g.1 = false → Sp g.2) ∧ J g Z E'.w := ⟨⟨_, rfl⟩, g', _, h5, h6, hj⟩
  rcases h4 with rfl | rfl
  · exact ⟨hd, _, hr2, fin⟩
  · exact ⟨hd, _, hr2, fin⟩
theorem SeqA.of {α : Type} {P : Program} {gf : FuncId} {fn : Func} {c : Code} {args : List AV} {nt : Nat} {N : List α → α → Prop} {encs : α → Array Value} {S Sp : List α → Prop}
    (hf : P.funcs[gf]? = some fn) (hb : fn.body = some c) (ht : fn.ntmps = nt) (hrs : fn.results = #[]) (hnm : (fn.name == "runtime.NumGoroutine") = false) (hn : Nat.ble (args.length + 1) nt = true)
    (h : ∀ l S0 (J : Bool × List α → (Nat → Prop) → World → Prop), Rnd P l encs N S0 J → EvY P S0 J c ⟨argSlots 0 (args ++ [.lit (.func (.yield l) #[] #[])]), [], 0, nt, 0⟩ (true, []) (fun e σ' g' => (e = .normal ∨ e = .ret) ∧ (g'.1 = true → S g'.2) ∧ (g'.1 = false → Sp g'.2))) :
    SeqA P gf args encs S Sp N := SeqA.of_body hf hb hnm hrs (by rw [ht]; exact ble_le hn) (by rw [ht]; exact h)
theorem wp_rangeA {α : Type} {P : Program} {g : Operand} {ps : Array Tmp} {assign body : Code} {Q : Exit → Act → World → Prop} {a : Act} {w : World} {gf : Nat} {lb : Array Value}
    (hg : a.eval g = .func (.func gf) #[] lb) (eg : ∀ args w, (callFunc gf args).run P w = .ok (.enter gf args) w)
    {encs : α → Array Value} {S Sp : List α → Prop} {N : List α → α → Prop} {Z0 S0 : Nat → Prop} (hseq : SeqZ P gf lb encs S Sp N Z0 S0 w) (hps : ∀ x, (encs x).size = ps.size) (hZ0 : ∀ b, Z0 b → b < w.heap.size) (hS0 : ∀ b, S0 b → b < w.heap.size)
    (I : List α → (Nat → Prop) → World → Prop) (Ix : Code → List α → (Nat → Prop) → World → Prop)
    (hI : ∀ pre Z A B, I pre Z A → Keep Z A B → I pre (addZ Z A B) B) (hIx : ∀ c pre Z A B, Ix c pre Z A → Keep Z A B → Ix c pre (addZ Z A B) B)
    (hIm : ∀ pre (Z Z' : Nat → Prop) A, I pre Z A → (∀ b, Z' b → Z b) → I pre Z' A) (hIxm : ∀ c pre (Z Z' : Nat → Prop) A, Ix c pre Z A → (∀ b, Z' b → Z b) → Ix c pre Z' A) (h0 : I [] Z0 w)
    (hround : ∀ (l n : Nat) (pre : List α) (x : α) (Z : Nat → Prop) (A : World), I pre Z A → N pre x → Z l →
      assign.wpIn (rnd l) n P (Exit.then (fun a₁ A₁ => Keep (fun b => ¬ (Z b ∨ S0 b)) A A₁ ∧ ∀ A₂, Keep (fun b => b = l) A₁ A₂ → A₂.heap.size = A₁.heap.size → body.wpIn (rnd l) n P (zPost S0 I Ix (pre ++ [x]) Z A₂) a₁ A₂) (fun _ _ _ => False))
        { tmps := (ps.zip (encs x)).foldl (fun t (p, v) => t.setIfInBounds p v) a.tmps, defers := [] } A)
    (hdone : ∀ (D : Nat) (xs : List α) (Z : Nat → Prop) (W : World), w.heap.size ≤ D → Z D → S xs → I xs Z W → W.heap[D]? = some (.deferred (some [])) → Q .normal { a with defers := { target := .collected D, args := #[] } :: a.defers } W)
    (hstop : ∀ (D : Nat) (c : Code) (pre : List α) (Z : Nat → Prop) (W : World), w.heap.size ≤ D → Z D → Sp pre → Ix c pre Z W → W.heap[D]? = some (.deferred (some [])) → c.wp P Q { a with defers := { target := .collected D, args := #[] } :: a.defers } W) :
    (Code.rangeFunc g ps assign body).wp P Q a w := by
  refine (wpIn_wide (n := 1)).1 (wpIn_rangeFunc ?_); intro fn hfn; obtain ⟨rec, hrec⟩ : ∃ rec : LoopState → Option Code → Loop, rec = fun st pe => { state := st, pending := pe, fn, tmps := a.tmps, params := ps, assign, body, defers := w.heap.size } := ⟨_, rfl⟩; obtain ⟨W1, hW1⟩ : ∃ W1, (w.alloc (.deferred (some []))).alloc (.loop (rec .ready none)) = W1 := ⟨_, rfl⟩; obtain ⟨l, hl⟩ : ∃ l, l = w.heap.size + 1 := ⟨_, rfl⟩; obtain ⟨D, hD⟩ : ∃ D, D = w.heap.size := ⟨_, rfl⟩
  have hsz1 : W1.heap.size = w.heap.size + 2 := by rw [← hW1]; simp
  have hL1 : W1.heap[l]? = some (.loop (rec .ready none)) := by
    rw [← hW1, hl]; have := World.alloc_heap_new (w.alloc (.deferred (some []))) (.loop (rec .ready none)); rwa [World.size_alloc] at this
  have hK1 : W1.heap[D]? = some (.deferred (some [])) := by
    rw [← hW1, hD]; exact (Go.RowKit.Below.heap_alloc _ _ _ (by simp)).trans (World.alloc_heap_new w _)
  have hkp1 : ∀ own, Keep own w W1 := fun own => by rw [← hW1]; exact (Keep.alloc own w _).trans (Keep.alloc own _ _)
  have hlD : l ≠ D := by omega
  have hlS : ¬ S0 l := fun h => by have := hS0 l h; omega
  have hI1 : I [] (fun b => Z0 b ∨ b = l ∨ b = D) W1 := hIm _ _ _ _ (hI _ _ _ _ h0 (hkp1 Z0)) fun b hb => by
    rcases hb with h | h | h
    · exact .inl h
    · exact .inr ⟨by omega, by omega⟩
    · exact .inr ⟨by omega, by omega⟩
  refine ⟨l, [{ target := .collected D, args := #[] }], W1, { target := .fn (.func gf) lb, args := #[.func (.yield l) #[] #[]] }, W1, gf, #[.func (.yield l) #[] #[]] ++ lb, W1, ?_, ?_, fun _ _ => trivial, ?_, fun h => by simp [Fence.wide] at h, ?_⟩
  · rw [← hW1, hrec, hl, hD]; exact run_enterLoop_outer _ _ _ _ _
  · simp only [resolve, hg]
    simp [go_sem]
  · simp [invoke, go_sem, eg]
  · refine callsIn_wide.2 ((hseq l
      (fun pre Z A => I pre (fun b => Z b ∨ b = l ∨ b = D) A ∧ A.heap[l]? = some (.loop (rec .ready none)) ∧ A.heap[D]? = some (.deferred (some [])) ∧ ¬ Z l ∧ ¬ Z D)
      (fun pre Z A => ∃ c, Ix c pre (fun b => Z b ∨ b = l ∨ b = D) A ∧ A.heap[l]? = some (.loop (rec .done (some c))) ∧ A.heap[D]? = some (.deferred (some [])) ∧ ¬ Z l ∧ ¬ Z D) W1 (hkp1 _) ?_ ?_ ?_ ⟨hI1, hL1, hK1, fun h => by have := hZ0 l h; omega, fun h => by have := hZ0 D h; omega⟩).mono ?_)
    · rintro pre Z A B ⟨h1, h2, h3, h4, h5⟩ hk; have a1 := (Array.getElem?_eq_some_iff.1 h2).1; have a2 := (Array.getElem?_eq_some_iff.1 h3).1; refine ⟨hIm _ _ _ _ (hI _ _ _ _ h1 (hk.mono fun b hb => .inl hb)) fun b hb => ?_, (hk.block l a1 h4).trans h2, (hk.block D a2 h5).trans h3, ?_, ?_⟩
      · rcases hb with (h | h) | h
        · exact .inl (.inl h)
        · exact .inr h
        · exact .inl (.inr h)
      · rintro (h | h)
        · exact h4 h
        · omega
      · rintro (h | h)
        · exact h5 h
        · omega
    · rintro pre Z A B ⟨c, h1, h2, h3, h4, h5⟩ hk; have a1 := (Array.getElem?_eq_some_iff.1 h2).1; have a2 := (Array.getElem?_eq_some_iff.1 h3).1; refine ⟨c, hIxm _ _ _ _ _ (hIx _ _ _ _ _ h1 (hk.mono fun b hb => .inl hb)) fun b hb => ?_, (hk.block l a1 h4).trans h2, (hk.block D a2 h5).trans h3, ?_, ?_⟩
      · rcases hb with (h | h) | h
        · exact .inl (.inl h)
        · exact .inr h
        · exact .inl (.inr h)
      · rintro (h | h)
        · exact h4 h
        · omega
      · rintro (h | h)
        · exact h5 h
        · omega
    · rintro pre Z x A ⟨h1, h2, h3, h4, h5⟩ hlen; have a1 := (Array.getElem?_eq_some_iff.1 h2).1; have hy := run_yield (P := P) (args := encs x) h2 (by rw [hrec]; exact hps x); rw [hrec] at hy; refine ⟨fn, _, assign, body, hy, roundIn_of_wpIn hfn (wpIn_mono (hround l 0 pre x _ A h1 hlen (.inr (.inl rfl))) ?_)⟩; rintro e a1' A1 hp
      cases e <;> simp only [Exit.then] at hp ⊢
      obtain ⟨hkA, hb⟩ := hp; have a0 := a1; have h2' : A1.heap[l]? = some (.loop (rec .ready none)) := (hkA.block l a1 fun h => h (.inl (.inr (.inl rfl)))).trans h2; have h3' : A1.heap[D]? = some (.deferred (some [])) := (hkA.block D (Array.getElem?_eq_some_iff.1 h3).1 fun h => h (.inl (.inr (.inr rfl)))).trans h3; have a1 := (Array.getElem?_eq_some_iff.1 h2').1; refine ⟨_, run_beginRound h2' (by rw [hrec]), ?_⟩; obtain ⟨A2, hA2⟩ : ∃ A2, A1.putObj l (.loop { rec .ready none with state := .busy }) = A2 := ⟨_, rfl⟩
      have hk2 : Keep (fun b => b = l) A1 A2 := by rw [← hA2]; exact Keep.putObj _ _ rfl
      have hl2 : A2.heap[l]? = some (.loop { rec .ready none with state := .busy }) := by rw [← hA2]; exact World.putObj_heap_same a1
      have hD2 : A2.heap[D]? = some (.deferred (some [])) := by rw [← hA2]; exact (World.putObj_heap_other (Ne.symm hlD)).trans h3'
      rw [hA2]; refine wpIn_mono (hb A2 hk2 (by rw [← hA2]; simp)) ?_
      have fin : ∀ (jump : Option Code) (W3 : World), Keep (fun b => ¬ ((Z b ∨ b = l ∨ b = D) ∨ S0 b)) A2 W3 →
          ∃ W4, (Instr.endRound l jump).run P W3 = .ok (.bool jump.isNone) W4 ∧ W4.heap[l]? = some (.loop (rec (if jump.isNone then .ready else .done) jump)) ∧ W4.heap[D]? = some (.deferred (some [])) ∧ Keep (fun b => b = l) W3 W4 ∧ W4.heap.size = W3.heap.size ∧ Keep (fun b => ¬ (Z b ∨ S0 b)) A W4 := fun jump W3 hk3 => by
        have b1 := (Array.getElem?_eq_some_iff.1 hl2).1; have b2 := (Array.getElem?_eq_some_iff.1 hD2).1; have hl3 : W3.heap[l]? = some (.loop { rec .ready none with state := .busy }) := (hk3.block l b1 fun h => h (.inl (.inr (.inl rfl)))).trans hl2; have hD3 : W3.heap[D]? = some (.deferred (some [])) := (hk3.block D b2 fun h => h (.inl (.inr (.inr rfl)))).trans hD2; have hr := run_endRound (P := P) jump hl3; rw [hrec] at hr ⊢; refine ⟨_, hr, World.putObj_heap_same (Array.getElem?_eq_some_iff.1 hl3).1, (World.putObj_heap_other (Ne.symm hlD)).trans hD3, Keep.putObj _ _ rfl, by simp, ?_⟩
        have hnl : ∀ b, b = l → ¬ (Z b ∨ S0 b) := fun b e h => by subst e; exact h.elim h4 hlS
        exact (((hkA.mono (own' := fun b => ¬ (Z b ∨ S0 b)) fun b h h' => h (h'.elim (fun h => .inl (.inl h)) .inr)).trans (hk2.mono hnl)).trans (hk3.mono fun b h h' => h (h'.elim (fun h => .inl (.inl h)) .inr))).trans (Keep.putObj _ _ (hnl l rfl))
      have stay : ∀ {W3 W4 : World}, Keep (fun b => b = l) W3 W4 → Keep (fun b => Z b ∨ b = l ∨ b = D) W3 W4 := fun h => h.mono fun b hb => .inr (.inl hb); rintro e a3 W3 hp
      cases e with
      | normal =>
        obtain ⟨hk3, hi3⟩ := hp; obtain ⟨W4, hr, g1, g2, g3, g4, g5⟩ := fin none W3 hk3; exact ⟨_, W4, hr, g5, .inl ⟨rfl, hIm _ _ _ _ (hI _ _ _ _ hi3 (stay g3)) (fun b hb => .inl hb), g1, g2, h4, h5⟩⟩
      | ret =>
        obtain ⟨hk3, hi3⟩ := hp; obtain ⟨W4, hr, g1, g2, g3, g4, g5⟩ := fin (some .ret) W3 hk3; exact ⟨_, W4, hr, g5, .inr ⟨rfl, .ret, hIxm _ _ _ _ _ (hIx _ _ _ _ _ hi3 (stay g3)) (fun b hb => .inl hb), g1, g2, h4, h5⟩⟩
      | exit id =>
        obtain ⟨hk3, hi3⟩ := hp; obtain ⟨W4, hr, g1, g2, g3, g4, g5⟩ := fin (some (.exit id)) W3 hk3; exact ⟨_, W4, hr, g5, .inr ⟨rfl, .exit id, hIxm _ _ _ _ _ (hIx _ _ _ _ _ hi3 (stay g3)) (fun b hb => .inl hb), g1, g2, h4, h5⟩⟩
      | goto t =>
        obtain ⟨hk3, hi3⟩ := hp; obtain ⟨W4, hr, g1, g2, g3, g4, g5⟩ := fin (some (.goto t)) W3 hk3; exact ⟨_, W4, hr, g5, .inr ⟨rfl, .goto t, hIxm _ _ _ _ _ (hIx _ _ _ _ _ hi3 (stay g3)) (fun b hb => .inl hb), g1, g2, h4, h5⟩⟩
      | panic ch => exact hp.elim
      | outgrown => exact hp.elim
    · rintro e W2 ⟨⟨v, rfl⟩, (⟨xs, Z, hS, h1, h2, h3, h4, h5⟩ | ⟨pre, Z, hSp, c, h1, h2, h3, h4, h5⟩)⟩
      · refine ⟨none, _, by have := run_endLoop (P := P) h2 (by rw [hrec]; simp); rw [hrec] at this; exact this, ?_⟩; exact hdone D xs _ _ (by omega) (.inl (.inr (.inr rfl))) hS (hI _ _ _ _ h1 (Keep.putObj _ _ (.inr (.inl rfl)))) ((World.putObj_heap_other (Ne.symm hlD)).trans h3)
      · refine ⟨some c, _, by have := run_endLoop (P := P) h2 (by rw [hrec]; simp); rw [hrec] at this; exact this, ?_⟩; exact wpIn_wide.2 (hstop D c pre _ _ (by omega) (.inl (.inr (.inr rfl))) hSp (hIx _ _ _ _ _ h1 (Keep.putObj _ _ (.inr (.inl rfl)))) ((World.putObj_heap_other (Ne.symm hlD)).trans h3))
theorem RI.next {C : Ctx} {s0 : List (Nat × AV)} {o : List (Nat × Obj)} {n nt : Nat} {S0 : Nat → Prop} {a : Act} {Z : Nat → Prop} {E : Env} {X : Nat → List Value} (h : RI C s0 o n nt S0 a Z E X) {m : Nat} (hm : n ≤ m) : RI C s0 o m nt S0 a Z E X :=
  ⟨⟨h.rel.slots, h.rel.size, h.rel.defers, h.rel.objs, h.rel.apart, h.rel.stay, fun r hr => Nat.lt_of_lt_of_le (h.rel.fresh r hr) hm, h.rel.kept, h.rel.mine, h.rel.env, h.rel.envD, h.rel.base, h.rel.grow, h.rel.envk, h.rel.glob⟩, h.S0, h.lt, h.new, h.fr, h.ob⟩
theorem RI.lower {C : Ctx} {s0 : List (Nat × AV)} {o : List (Nat × Obj)} {n nt : Nat} {S0 : Nat → Prop} {a : Act} {Z : Nat → Prop} {E : Env} {X : Nat → List Value} (h : RI C s0 o n nt S0 a Z E X) {m : Nat} (hm : ∀ r, E.D r → r < m) : RI C s0 o m nt S0 a Z E X :=
  ⟨⟨h.rel.slots, h.rel.size, h.rel.defers, h.rel.objs, h.rel.apart, h.rel.stay, hm, h.rel.kept, h.rel.mine, h.rel.env, h.rel.envD, h.rel.base, h.rel.grow, h.rel.envk, h.rel.glob⟩, h.S0, h.lt, h.new, h.fr, h.ob⟩
theorem RI.enter1 {C : Ctx} {s0 : List (Nat × AV)} {o : List (Nat × Obj)} {n nt : Nat} {S0 : Nat → Prop} {a : Act} {Z : Nat → Prop} {E : Env} {X : Nat → List Value} (h : RI C s0 o n nt S0 a Z E X) {K p : Nat} (hK : ∀ r, r < K → ∃ q, find o r = some q) (v : Value) (hp : p < nt) :
    Rel (ctxR E o K) E X ⟨(p, .lit v) :: s0, o, n, nt, K⟩ { tmps := a.tmps.setIfInBounds p v, defers := [] } := by
  have hr := h.rel
  have h0 : Rel (ctxR E o K) E X ⟨s0, o, n, nt, K⟩ { tmps := a.tmps, defers := [] } :=
    ⟨hr.slots, hr.size, rfl, hr.objs, hr.apart, hr.stay, hr.fresh, Keep.refl _ _, fun r q b h1 h2 => .inl ⟨r, q, h1, h2⟩, fun r _ => ⟨rfl, rfl⟩, fun r hk => by
      obtain ⟨q, hq⟩ := hK r hk
      exact (hr.objs r q hq).1, fun b hb => hb, fun b hb => .inl hb, rfl, hr.glob⟩
  exact h0.put (some p) (fun d' e => by cases e; exact hp) (v := .lit v) (y := v) (by simp [FV])
def asgP (P : Program) (l m : Nat) (body : Code) (nt K : Nat) (Q : Exit → St → Prop) : Exit → St → Prop
  | .normal, σ1 => σ1.nt = nt ∧ σ1.env = K ∧ EvI P l m body σ1 Q
  | _, _ => False
theorem EvB.rangeA {α : Type} {P : Program} {s0 : List (Nat × AV)} {b objs0 : List (Nat × Obj)} {n nt K gs p bid : Nat} {N : List α → α → Prop} {gf : FuncId} {asg body c2 : Code} {caps caps' : List AV} {enc : α → Value} {S Sp : List α → Prop} {Q : Exit → St → Prop}
    (rs : List Nat) (O : List α → List (Nat × Obj)) (QX : List α → List (Nat × Obj) → Prop) (hc : SeqR P gf caps' objs0 rs.length (fun x => #[enc x]) S Sp N) (hg : find s0 gs = none)
    (hh : handL ⟨(gs, .fn (.func gf) [] caps) :: s0, b, n, nt, 0⟩ rs caps = some caps') (ho : onlyL rs caps = true) (hnd : rs.Nodup) (hk : keepObjs ⟨(gs, .fn (.func gf) [] caps) :: s0, b, n, nt, 0⟩ (pos rs 0) 0 rs = some objs0)
    (h0 : ∀ r q, find (O []) r = some q → find b r = some q ∧ r ∉ rs) (hK : ∀ pre r, r < K → ∃ q, find (O pre) r = some q) (hs : stays K s0) (hp : p < nt)
    (hround : ∀ l m pre x, N pre x → EvI P l m asg ⟨(p, .lit (enc x)) :: s0, O pre, n, nt, K⟩ (asgP P l m body nt K (roundQ O QX n nt K (pre ++ [x]))))
    (hdone : ∀ xs, S xs → Ev P c2 ⟨s0, O xs, n, nt, 0⟩ Q) (hstop : ∀ pre o', Sp pre → QX pre o' → Q .ret ⟨s0, o', n, nt, 0⟩) :
    EvB P (.block bid (.rangeFunc (.tmp gs) #[p] asg body)) c2 ⟨(gs, .fn (.func gf) [] caps) :: s0, b, n, nt, 0⟩ Q := by
  intro C E X a hC hr; have had : a.defers = [] := hr.defers.trans hC.dfr; have hfn := hr.slots gs (.fn (.func gf) [] caps) (by simp only [find_cons, if_true])
  have hsl : ∀ k v, find s0 k = some v → FV E v (a.tmps.getD k undef) := fun k v hv => hr.slots k v (by
    simp only [find_cons]
    split
    · rename_i e
      subst e; rw [hg] at hv
      cases hv
    · exact hv)
  simp only [FV] at hfn; obtain ⟨x0, ys, hgv, hx0, hys⟩ := hfn; have hx0' : x0 = #[] := Array.ext' (by simpa [FVs] using hx0); subst hx0'; have hent := hr.entry hnd (T := true) hk; have hxh := FVs.hand hr (T := true) (fun _ => ho) hh hys; have hseq := hc.2 _ _ _ hent hxh; have eg : ∀ args w, (callFunc gf args).run P w = .ok (.enter gf args) w := run_enter hc.1
  have hZ : ∀ c, ownOf (E.hand ⟨(gs, .fn (.func gf) [] caps) :: s0, b, n, nt, 0⟩ rs true) objs0 c → ∃ r q, r ∈ rs ∧ find b r = some q ∧ blockOf (E.H r) = some c := by
    rintro c ⟨r, q, h1, h2⟩; obtain ⟨j, q1, _, hj, hj2, _⟩ := keepObjs_spec rs 0 objs0 hk r q h1; simp only [Nat.sub_zero] at hj; simp only [Env.hand, hj] at h2; exact ⟨j, q1, List.mem_of_getElem? hj, hj2, h2⟩
  have hS0 : ∀ c, (E.hand ⟨(gs, .fn (.func gf) [] caps) :: s0, b, n, nt, 0⟩ rs true).S c → E.S c := fun c h => by
    rcases h with h | ⟨h, _⟩
    · exact h
    · cases h
  have hri0 : RI C s0 (O []) n nt (E.hand ⟨(gs, .fn (.func gf) [] caps) :: s0, b, n, nt, 0⟩ rs true).S a (ownOf (E.hand ⟨(gs, .fn (.func gf) [] caps) :: s0, b, n, nt, 0⟩ rs true) objs0) E X := by
    refine ⟨⟨hsl, hr.size, hr.defers, fun r q h1 => hr.objs r q (h0 r q h1).1, fun r r' q q' c h1 h2 => hr.apart r r' q q' c (h0 r q h1).1 (h0 r' q' h2).1, fun c hc => ⟨(hr.stay c hc).1, fun r q h1 => (hr.stay c hc).2 r q (h0 r q h1).1⟩, hr.fresh, hr.kept,
      fun r q c h1 => hr.mine r q c (h0 r q h1).1, hr.env, hr.envD, hr.base, hr.grow, hr.envk, hr.glob⟩, hS0, fun c hz => ?_, fun c hz => ?_, fun c hz hS => ?_, fun c hz r q h1 h2 => ?_⟩
    · obtain ⟨r, q, _, h1, h2⟩ := hZ c hz; exact (hr.objs r q h1).2.2.1.lt h2
    · obtain ⟨r, q, _, h1, h2⟩ := hZ c hz
      rcases hr.mine r q c h1 h2 with h3 | h3
      · exact absurd h3 (hC.own c)
      · exact h3
    · obtain ⟨r, q, _, h1, h2⟩ := hZ c hz; exact (hr.stay c hS).2 r q h1 h2
    · obtain ⟨r', q', hm, h3, h4⟩ := hZ c hz; have := hr.apart r r' q q' c (h0 r q h1).1 h3 h2 h4; subst this; exact (h0 r q h1).2 hm
  generalize hZe : ownOf (E.hand ⟨(gs, .fn (.func gf) [] caps) :: s0, b, n, nt, 0⟩ rs true) objs0 = Z0 at *
  generalize hSe : (E.hand ⟨(gs, .fn (.func gf) [] caps) :: s0, b, n, nt, 0⟩ rs true).S = S0 at *
  have hge : a.eval (.tmp gs) = .func (.func gf) #[] ys.toList.toArray := by
    have e : a.eval (.tmp gs) = a.tmps.getD gs undef := rfl; rw [e, hgv]
  refine (wp_block (wp_rangeA (gf := gf) (lb := ys.toList.toArray) (encs := fun x => #[enc x]) hge eg hseq (fun x => rfl) (fun c hc => hri0.lt c hc) (fun c hc => (hr.stay c (hS0 c hc)).1)
    (fun pre Z W => ∃ E' X', E'.w = W ∧ RI C s0 (O pre) n nt S0 a Z E' X') (fun c pre Z W => c = .ret ∧ ∃ o' E' X', E'.w = W ∧ RI C s0 o' n nt S0 a Z E' X' ∧ QX pre o') ?_ ?_ ?_ ?_ ⟨E, X, rfl, hri0⟩ ?_ ?_ ?_))
  · rintro pre Z A B ⟨E', X', rfl, h1⟩ hkp; exact ⟨_, X', rfl, h1.step hkp⟩
  · rintro c pre Z A B ⟨rfl, o', E', X', rfl, h1, h2⟩ hkp; exact ⟨rfl, o', _, X', rfl, h1.step hkp, h2⟩
  · rintro pre Z Z' A ⟨E', X', rfl, h1⟩ hz; exact ⟨E', X', rfl, h1.mono hz⟩
  · rintro c pre Z Z' A ⟨rfl, o', E', X', rfl, h1, h2⟩ hz; exact ⟨rfl, o', E', X', rfl, h1.mono hz, h2⟩
  · rintro l m pre x Z A ⟨E', X', rfl, h1⟩ hlen hl; have hZS : ∀ b, Z b → ¬ S0 b := fun b hb hs => h1.fr b hb (h1.S0 b hs); have hen := h1.enter1 (K := K) (p := p) (hK pre) (enc x) hp; have key := hround l m pre x hlen _ _ _ _ hen; refine wpIn_mono (n := m) (Q := fun e a' w' => ∃ E1 X1 σ1, E1.w = w' ∧ Rel (ctxR E' (O pre) K) E1 X1 σ1 a' ∧ asgP P l m body nt K (roundQ O QX n nt K (pre ++ [x])) e σ1) (by simpa using key) ?_; rintro e a1 W1 ⟨E1, X1, σ1, rfl, g1, g2⟩
    cases e <;> simp only [asgP] at g2
    obtain ⟨gnt, genv, gb⟩ := g2; obtain ⟨sl1, o1, n1, nt1, K1⟩ := σ1
    dsimp only at gnt genv
    subst gnt genv; have g0 : Rel (ctxR E' (O pre) K1) E1 X1 ⟨[], o1, n1, nt1, K1⟩ a1 := ⟨fun k v hv => by simp [find] at hv, g1.size, g1.defers, g1.objs, g1.apart, g1.stay, g1.fresh, g1.kept, g1.mine, g1.env, g1.envD, g1.base, g1.grow, g1.envk, g1.glob⟩; have hle := (h1.next (Nat.le_max_left n n1)).leave hs (Nat.le_max_right n n1) g0; simp only [Exit.then]; refine ⟨hle.2, fun A2 hA2 hsz => ?_⟩; have h2 := (hle.1.step (hA2.mono fun b e => by subst e; exact hl)).mono (Z' := Z) fun b hb => .inl hb; have hlb : ∀ b, E1.S b → A2.heap[b]? = E1.w.heap[b]? := fun b hb => hA2.block b (hle.1.rel.stay b hb).1 fun e => hle.1.fr b (e ▸ hl) hb; have hlo : ∀ r q, find o1 r = some q → ∀ b, blockOf (E1.H r) = some b → A2.heap[b]? = E1.w.heap[b]? := fun r q h3 b h4 => hA2.block b ((g1.objs r q h3).2.2.1.lt h4) fun e => hle.1.ob b (e ▸ hl) r q h3 h4; have hel : E1.le { E1 with w := A2 } := ⟨fun b hb => ⟨hb, hlb b hb⟩, fun r hr => ⟨hr, rfl, rfl⟩⟩
    have h3 : Rel (ctxR { E1 with w := A2 } o1 K1) { E1 with w := A2 } X1 ⟨sl1, o1, n1, nt1, K1⟩ a1 :=
      ⟨fun s v hv => FV.le _ hel _ (g1.slots s v hv), g1.size, g1.defers, fun r o h => ⟨(g1.objs r o h).1, (g1.objs r o h).2.1, (g1.objs r o h).2.2.1.kept (hlo r o h), FVr.le _ _ (hel.by _) _ (g1.objs r o h).2.2.2⟩, g1.apart,
        fun b hb => ⟨Nat.lt_of_lt_of_le (g1.stay b hb).1 hA2.size, (g1.stay b hb).2⟩, g1.fresh, Keep.refl _ _, fun r o b h1 h2 => .inl ⟨r, o, h1, h2⟩, fun r _ => ⟨rfl, rfl⟩, g1.envD, fun b hb => hb, fun b hb => .inl hb, rfl, g1.glob.le hel⟩
    refine wpIn_mono (n := m) (Q := fun e a' w' => ∃ E3 X3 σ3, E3.w = w' ∧ Rel (ctxR { E1 with w := A2 } o1 K1) E3 X3 σ3 a' ∧ roundQ O QX n nt1 K1 (pre ++ [x]) e σ3) (gb _ _ _ _ h3) ?_
    · rintro e a' w' ⟨E3, X3, σ3, rfl, h5, h6⟩
      cases e <;> simp only [roundQ] at h6
      case normal =>
        obtain ⟨n', hn', hwk⟩ := h6; obtain ⟨E4, X4, e4, h7⟩ := hwk _ _ _ _ h5; have h8 := h2.leave hs (Nat.le_trans hn' (Nat.le_max_left n n1)) h7; rw [← e4]; exact ⟨h8.2, E4, X4, rfl, h8.1.lower fun r hr => Nat.lt_of_lt_of_le (h7.fresh r hr) hn'⟩
      case ret =>
        obtain ⟨n', o', hn', hwk, hqx⟩ := h6; obtain ⟨E4, X4, e4, h7⟩ := hwk _ _ _ _ h5; have h8 := h2.leave hs (Nat.le_trans hn' (Nat.le_max_left n n1)) h7; rw [← e4]; exact ⟨h8.2, rfl, o', E4, X4, rfl, h8.1.lower fun r hr => Nat.lt_of_lt_of_le (h7.fresh r hr) hn', hqx⟩
  · rintro D xs Z W hD hZD hS ⟨E', X', rfl, h1⟩ hat; exact h1.after hC hZD hat (hdone xs hS)
  · rintro D c pre Z W hD hZD hS ⟨rfl, o', E', X', rfl, h1, h2⟩ hat; refine wp_ret ?_; refine ⟨E', X', _, rfl, ?_, .inr ⟨D, by simp [had], h1.new D hZD, h1.fr D hZD, h1.ob D hZD, hat⟩, hstop pre o' hS h2⟩; have := h1.rel; exact ⟨this.slots, this.size, hC.dfr.symm, this.objs, this.apart, this.stay, this.fresh, this.kept, this.mine, this.env, this.envD, this.base, this.grow, this.envk, this.glob⟩
def HandP (f l : Nat) (x : Operand) (zs : Array Operand) (args : List AV) (σ : St) : Prop :=
  calleeOf (σ.ev x) = some (f, [], []) ∧ zs.toList.map σ.ev = args ++ [.lit (.func (.yield l) #[] #[])] ∧ closedL args = true
theorem FVs.split {E : Env} : ∀ {a b : List AV} {zs : List Value}, FVs E (a ++ b) zs → ∃ xs ys, zs = xs ++ ys ∧ FVs E a xs ∧ FVs E b ys
  | [], b, zs, h => ⟨[], zs, rfl, by simp [FVs], h⟩
  | c :: a, b, zs, h => by
    simp only [List.cons_append, FVs] at h; obtain ⟨y, ys, rfl, h1, h2⟩ := h; obtain ⟨us, vs, rfl, h3, h4⟩ := FVs.split h2; exact ⟨y :: us, vs, rfl, ⟨y, us, rfl, h1, h3⟩, h4⟩
theorem SeqR.of_hand {α : Type} {P : Program} {gf f : FuncId} {fn : Func} {caps args : List AV} {objs : List (Nat × Obj)} {k nt : Nat} {N : List α → α → Prop} {encs : α → Array Value} {S Sp : List α → Prop} {id ty : Nat} {l1 : List Oper} {x : Operand} {zs : Array Operand} {ts : Array TypeId} {d : Option Nat} {ps : String} {aft : Array Edge}
    (hf : P.funcs[gf]? = some fn) (hb : fn.body = some (.region id ⟨l1 ++ [⟨d, .call { callee := .value x, args := zs, argTypes := ts }, ty, ps, aft, none⟩]⟩ false)) (ht : fn.ntmps = nt) (hrs : fn.results = #[]) (hnm : (fn.name == "runtime.NumGoroutine") = false) (hn : Nat.ble (caps.length + 1) nt = true) (hA : SeqA P f args encs S Sp N)
    (h : ∀ l (K : St → Prop), (∀ σ, HandP f l x zs args σ → K σ) → SeqL P ⟨l1 ++ [⟨d, .call { callee := .value x, args := zs, argTypes := ts }, ty, ps, aft, none⟩]⟩ l1 ⟨argSlots 0 (.lit (.func (.yield l) #[] #[]) :: caps), objs, k, nt, k⟩ K) :
    SeqR P gf caps objs k encs S Sp N := by
  subst ht; have hn := ble_le hn; refine ⟨⟨fn, hf, by simp [hb], hnm⟩, fun E X lb hE hx => ?_⟩; intro l J Jx W hW hJ hJx hround hJ0
  obtain ⟨J', hJ'⟩ : ∃ J' : Bool × List α → (Nat → Prop) → World → Prop, J' = fun g => match g.1 with | true => J g.2 | false => Jx g.2 := ⟨_, rfl⟩
  have hR : Rnd P l encs N E.S J' := by
    subst hJ'; refine ⟨fun g Z A B h1 h2 => ?_, fun pre Z x A h1 h2 => ?_⟩
    · rcases g with ⟨b, pre⟩
      cases b
      · exact hJx pre Z A B h1 h2
      · exact hJ pre Z A B h1 h2
    · exact hround pre Z x A h1 h2
  have hxl := hx.length; have hle : E.le { E with w := W } := ⟨fun b hb => ⟨hb, hW.block b (hE.stay b hb).1 fun h => h (.inr hb)⟩, fun r hr => ⟨hr, rfl, rfl⟩⟩; have hown : ∀ r o b, find objs r = some o → blockOf (E.H r) = some b → W.heap[b]? = E.w.heap[b]? := fun r o b h1 h2 => hW.block b ((hE.objs r o h1).2.2.1.lt h2) fun h => h (.inl ⟨r, o, h1, h2⟩)
  have hrel : Rel (ctxOf { E with w := W } objs k) { E with w := W } X ⟨argSlots 0 (.lit (.func (.yield l) #[] #[]) :: caps), objs, k, fn.ntmps, k⟩ { tmps := (#[Value.func (Fn.yield l) #[] #[]] ++ lb.toArray) ++ Array.replicate (fn.ntmps - (#[Value.func (Fn.yield l) #[] #[]] ++ lb.toArray).size) undef, defers := [] } := by
    have hxx : FVs { E with w := W } (.lit (.func (.yield l) #[] #[]) :: caps) (Value.func (Fn.yield l) #[] #[] :: lb) := ⟨_, _, rfl, by simp [FV], FVs.le _ hle _ hx⟩; refine ⟨?_, ?_, rfl, ?_, hE.apart, ?_, ?_, Keep.refl _ _, ?_, ?_, ?_, fun b hb => hb, fun b hb => .inl hb, rfl, hE.glob.le hle⟩
    · intro s v hv; obtain ⟨_, h2⟩ := find_argSlots _ 0 s v hv; simp only [Nat.sub_zero] at h2; obtain ⟨y, hy, hfv⟩ := hxx.get h2
      have e0 : (#[Value.func (Fn.yield l) #[] #[]] ++ lb.toArray : Array Value) = (Value.func (Fn.yield l) #[] #[] :: lb).toArray := by simp
      rw [e0]
      generalize (Value.func (Fn.yield l) #[] #[] :: lb) = xs at hy ⊢
      have hlt : s < xs.length := (List.getElem?_eq_some_iff.1 hy).1
      have : (xs.toArray ++ Array.replicate (fn.ntmps - xs.toArray.size) undef).getD s undef = y := by
        have e : (xs.toArray ++ Array.replicate (fn.ntmps - xs.toArray.size) undef)[s]? = some y := by
          rw [Array.getElem?_append_left (by simpa using hlt)]
          simpa using hy
        rw [Array.getD_eq_getD_getElem?, e]; rfl
      rw [this]; exact hfv
    · simp [hxl]; omega
    · intro r o hr; obtain ⟨h1, h2, h3, h4⟩ := hE.objs r o hr; exact ⟨(hE.dom r).2 h1, h2, h3.kept fun b hb => hown r o b hr hb, FVr.le _ _ (hle.by _) _ h4⟩
    · intro b hb; exact ⟨Nat.lt_of_lt_of_le (hE.stay b hb).1 hW.size, (hE.stay b hb).2⟩
    · intro r hr; exact (hE.dom r).1 hr
    · intro r o b hr hb; exact .inl ⟨r, o, hr, hb⟩
    · intro r hr; exact ⟨rfl, rfl⟩
    · intro r hr; exact (hE.dom r).2 hr
  have hin : InY E.S J' (ctxOf { E with w := W } objs k) (true, []) (ownOf E objs) := ⟨rfl, fun b hb => hb, fun b hb => .inr hb, by subst hJ'; exact hJ0⟩; refine calls_of_wp hf hb ((wpIn_wide (n := 1)).1 (wpIn_region_list (wpL_to l1 _ _ (h l _ (fun _ h => h) _ _ X _ hrel _ ?_)))); rintro E1 X1 σ a hr ⟨hcal, hzs, hcl⟩; refine ⟨rfl, ?_⟩; have hk : Keep (ownOf E objs) W E1.w := hr.kept; have hj := hR.step _ _ _ _ hin.j hk
  generalize hZ1 : addZ (ownOf E objs) (ctxOf { E with w := W } objs k).w0 E1.w = Z1 at hj
  have hown : ∀ b, ownOf E objs b ∨ W.heap.size ≤ b → b < E1.w.heap.size → Z1 b := fun b hb hlt => by
    rw [← hZ1]
    rcases hb with hb | hb
    · exact .inl hb
    · exact .inr ⟨hb, hlt⟩
  have hSZ : ∀ b, E1.S b → Z1 b ∨ E.S b := fun b hb => by
    rcases hr.grow b hb with h | h | h
    · exact .inr h
    · exact .inl (hown b (.inr h) (hr.stay b hb).1)
    · exact .inl (hown b (.inl h) (hr.stay b hb).1)
  have hoZ : ∀ r o b, find σ.objs r = some o → blockOf (E1.H r) = some b → Z1 b := fun r o b h1 h2 => hown b (hr.mine r o b h1 h2) ((hr.objs r o h1).2.2.1.lt h2); obtain ⟨us, vs, hx1, hu, hv⟩ := calleeOf_spec hcal (hr.ev x); have hu' : us = #[] := Array.ext' (by simpa [FVs] using hu); have hv' : vs = #[] := Array.ext' (by simpa [FVs] using hv); subst hu' hv'; have hargs := hr.evs zs.toList; rw [hzs] at hargs; obtain ⟨xs, ys, hzz, ha, hy⟩ := FVs.split hargs
  have hy' : ys = [Value.func (Fn.yield l) #[] #[]] := by
    simp only [FVs, FV] at hy; obtain ⟨y, ys', rfl, rfl, rfl⟩ := hy; rfl
  subst hy'; have hcalls := hA.2 E1 xs l E.S Z1 J' (FVs.closed hcl ha) (fun b hb => (hr.stay b hb).1) hr.glob hR hSZ hj; simp only [wpListIn]; rw [if_pos (by simp [Region.wanted])]; refine ⟨fun _ _ => trivial, ?_⟩; have he : (⟨d, .call { callee := .value x, args := zs, argTypes := ts }, ty, ps, aft, none⟩ : Oper).semAt Fence.wide.round a.eval = execOp a.eval ⟨d, .call { callee := .value x, args := zs, argTypes := ts }, ty, ps, aft, none⟩ := rfl; rw [he]
  have hrun : (execOp a.eval ⟨d, .call { callee := .value x, args := zs, argTypes := ts }, ty, ps, aft, none⟩).run P E1.w = .ok (.enter f (xs ++ [Value.func (Fn.yield l) #[] #[]]).toArray) E1.w := by
    unfold execOp
    simp only [resolve, Deferred.ofValue, hx1, Sem.run_bind, Sem.run_pure, Result.andThen_ok, invoke]; rw [run_enter hA.1]
    congr 2
    apply Array.ext'
    simp [hzz]
  rw [hrun]; refine ⟨fun h => by simp [Fence.wide] at h, ?_⟩; refine callsIn_wide.2 (hcalls.mono ?_); rintro e B ⟨⟨v, rfl⟩, g, Z, h4, h5, h6⟩; have hd : a.defers = [] := hr.defers
  have hr2 : (results fn (a.put d v).tmps).run P B = .ok (.tuple #[]) B := by
    unfold results
    simp [hrs]
  have hd2 : (a.put d v).defers = [] := by cases d <;> exact hd
  refine ⟨hd2, _, hr2, ⟨_, rfl⟩, ?_⟩; subst hJ'
  rcases g with ⟨b, pre⟩
  cases b
  · exact .inr ⟨pre, _, h5 rfl, h6⟩
  · exact .inl ⟨pre, _, h4 rfl, h6⟩
theorem SeqR.of_handS {α : Type} {P : Program} {gf f : FuncId} {fn : Func} {caps args : List AV} {objs : List (Nat × Obj)} {k nt : Nat} {N : List α → α → Prop} {encs : α → Array Value} {S Sp : List α → Prop} {id ty : Nat} {l1 : List Oper} {x : Operand} {zs : Array Operand} {ts : Array TypeId} {d : Option Nat} {ps : String} {aft : Array Edge}
    (i : Nat) (hf : P.funcs[gf]? = some fn) (hb : fn.body = some (.region id ⟨l1⟩ false)) (ho : l1[i]? = some ⟨d, .call { callee := .value x, args := zs, argTypes := ts }, ty, ps, aft, none⟩) (hl : l1.length = i + 1) (ht : fn.ntmps = nt) (hrs : fn.results = #[]) (hnm : (fn.name == "runtime.NumGoroutine") = false) (hn : Nat.ble (caps.length + 1) nt = true) (hA : SeqA P f args encs S Sp N)
    (h : ∀ l (K : St → Prop), (∀ σ, HandP f l x zs args σ → K σ) → SeqL P ⟨l1⟩ (l1.take i) ⟨argSlots 0 (.lit (.func (.yield l) #[] #[]) :: caps), objs, k, nt, k⟩ K) :
    SeqR P gf caps objs k encs S Sp N := by
  obtain ⟨hlt, he⟩ := List.getElem?_eq_some_iff.1 ho
  have e : l1 = l1.take i ++ [⟨d, .call { callee := .value x, args := zs, argTypes := ts }, ty, ps, aft, none⟩] := by
    have h1 : l1.drop (i + 1) = [] := List.drop_of_length_le (by omega); rw [← he, ← h1, List.getElem_cons_drop, List.take_append_drop]
  refine SeqR.of_hand (l1 := l1.take i) hf (by rw [← e]; exact hb) ht hrs hnm hn hA ?_; rw [← e]; exact h
theorem FVc.lits2 {E : Env} : ∀ {vs : List Value}, vs.all (fun v => v.oneCell') = true → FVc E (vs.map .lit) vs
  | [], _ => by simp [FVc]
  | v :: vs, h => by
    simp only [List.all_cons, Bool.and_eq_true] at h; simp only [List.map_cons, FVc]; exact ⟨v, vs, rfl, h.1, by simp [FV], FVc.lits2 h.2⟩
theorem Wk.unlit {s : List (Nat × AV)} {b : List (Nat × Obj)} {n t e : Nat} (p : Nat) (vs : List Value) (h : vs.all (fun v => v.oneCell') = true) : Wk ⟨(p, .lit (.agg ⟨vs⟩)) :: s, b, n, t, e⟩ ⟨(p, .agg (vs.map .lit)) :: s, b, n, t, e⟩ := by
  intro C E X a hr; refine ⟨E, X, rfl, ⟨?_, hr.size, hr.defers, hr.objs, hr.apart, hr.stay, hr.fresh, hr.kept, hr.mine, hr.env, hr.envD, hr.base, hr.grow, hr.envk, hr.glob⟩⟩; intro k v hv
  by_cases hk : k = p
  · subst hk; have h1 := hr.slots k (.lit (.agg ⟨vs⟩)) (by simp [find_cons]); simp only [find_cons, if_true, Option.some.injEq] at hv; subst hv; simp only [FV] at h1 ⊢; exact ⟨⟨vs⟩, h1, FVc.lits2 h⟩
  · refine hr.slots k v ?_; simp only [find_cons] at hv ⊢; rw [if_neg (by omega)] at hv ⊢; exact hv
end Go.AM
