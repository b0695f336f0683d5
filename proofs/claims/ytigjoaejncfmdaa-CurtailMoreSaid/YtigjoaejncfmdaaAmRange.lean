/-
  The abstract machine, continued: a range over a function: the law for an iterator with memory of its own.
  Conditions: none; generic over the program.
-/
import Derived.Test.YtigjoaejncfmdaaAmRound
import Derived.RangeFuncFrom
namespace Go.AM
set_option linter.unusedVariables false
set_option linter.unusedSimpArgs false
set_option linter.unusedSectionVars false
theorem Keep.trans {own : Nat → Prop} {A B C : World} (h : Keep own A B) (k : Keep own B C) : Keep own A C :=
  ⟨k.os.trans h.os, h.tape.trans k.tape, k.output.trans h.output, Nat.le_trans h.size k.size, fun b hb hn => (k.block b (Nat.lt_of_lt_of_le hb h.size) hn).trans (h.block b hb hn)⟩
theorem Keep.mono {own own' : Nat → Prop} {A B : World} (h : Keep own A B) (ho : ∀ b, own b → own' b) : Keep own' A B :=
  ⟨h.os, h.tape, h.output, h.size, fun b hb hn => h.block b hb fun h' => hn (ho b h')⟩
theorem Keep.alloc (own : Nat → Prop) (A : World) (o : Go.Obj) : Keep own A (A.alloc o) :=
  ⟨rfl, Tp.refl _, rfl, by simp, fun b hb _ => Go.RowKit.Below.heap_alloc A o b hb⟩
theorem Keep.putObj {own : Nat → Prop} (A : World) {l : Nat} (o : Go.Obj) (hl : own l) : Keep own A (A.putObj l o) :=
  ⟨rfl, Tp.refl _, rfl, by simp, fun b hb hn => World.putObj_heap_other fun e => hn (e ▸ hl)⟩
/-- The iterator's blocks, the new ones with them. -/
def addZ (Z : Nat → Prop) (A B : World) : Nat → Prop := fun b => Z b ∨ (A.heap.size ≤ b ∧ b < B.heap.size)
/-- The contract of an iterator that may write the blocks Z0 and what it lays itself; what the rounds keep: its blocks and the frozen ones S0. -/
def SeqZ {α : Type} (P : Program) (gf : Nat) (lb : Array Value) (encs : α → Array Value) (S Sp : List α → Prop) (N : Nat) (Z0 S0 : Nat → Prop) (w0 : World) : Prop :=
  ∀ (l : Nat) (J Jx : List α → (Nat → Prop) → World → Prop) (W : World), Keep (fun b => ¬ (Z0 b ∨ S0 b)) w0 W →
    (∀ pre Z A B, J pre Z A → Keep Z A B → J pre (addZ Z A B) B) → (∀ pre Z A B, Jx pre Z A → Keep Z A B → Jx pre (addZ Z A B) B) →
    (∀ pre Z x A, J pre Z A → pre.length < N → YieldAt Fence.wide 0 P l (encs x) A fun e B => Keep (fun b => ¬ (Z b ∨ S0 b)) A B ∧ ((e = .returned (.bool true) ∧ J (pre ++ [x]) Z B) ∨ (e = .returned (.bool false) ∧ Jx (pre ++ [x]) Z B))) →
    J [] Z0 W →
    Calls P gf (#[.func (.yield l) #[] #[]] ++ lb) W fun e B => (∃ v, e = .returned v) ∧ ((∃ xs Z, S xs ∧ J xs Z B) ∨ (∃ pre Z, Sp pre ∧ Jx pre Z B))
/-- How a round may be left. -/
def zPost {α : Type} (S0 : Nat → Prop) (I : List α → (Nat → Prop) → World → Prop) (Ix : Code → List α → (Nat → Prop) → World → Prop) (xs : List α) (Z : Nat → Prop) (W : World) : Exit → Act → World → Prop
  | .normal, _, W' => Keep (fun b => ¬ (Z b ∨ S0 b)) W W' ∧ I xs Z W'
  | .ret, _, W' => Keep (fun b => ¬ (Z b ∨ S0 b)) W W' ∧ Ix .ret xs Z W'
  | .exit id, _, W' => Keep (fun b => ¬ (Z b ∨ S0 b)) W W' ∧ Ix (.exit id) xs Z W'
  | .goto t, _, W' => Keep (fun b => ¬ (Z b ∨ S0 b)) W W' ∧ Ix (.goto t) xs Z W'
  | .panic _, _, _ => False
  | .outgrown, _, _ => False
theorem wp_rangeZ {α : Type} {P : Program} {g : Operand} {ps : Array Tmp} {assign body : Code} {Q : Exit → Act → World → Prop} {a : Act} {w : World} {gf : Nat} {lb : Array Value}
    (hg : a.eval g = .func (.func gf) #[] lb) (eg : ∀ args w, (callFunc gf args).run P w = .ok (.enter gf args) w)
    {encs : α → Array Value} {S Sp : List α → Prop} {N : Nat} {Z0 S0 : Nat → Prop} (hseq : SeqZ P gf lb encs S Sp N Z0 S0 w) (hps : ∀ x, (encs x).size = ps.size) (hZ0 : ∀ b, Z0 b → b < w.heap.size) (hS0 : ∀ b, S0 b → b < w.heap.size)
    (I : List α → (Nat → Prop) → World → Prop) (Ix : Code → List α → (Nat → Prop) → World → Prop)
    (hI : ∀ pre Z A B, I pre Z A → Keep Z A B → I pre (addZ Z A B) B) (hIx : ∀ c pre Z A B, Ix c pre Z A → Keep Z A B → Ix c pre (addZ Z A B) B)
    (hIm : ∀ pre (Z Z' : Nat → Prop) A, I pre Z A → (∀ b, Z' b → Z b) → I pre Z' A) (hIxm : ∀ c pre (Z Z' : Nat → Prop) A, Ix c pre Z A → (∀ b, Z' b → Z b) → Ix c pre Z' A) (h0 : I [] Z0 w)
    (hround : ∀ (l n : Nat) (pre : List α) (x : α) (Z : Nat → Prop) (A : World), I pre Z A → pre.length < N → Z l →
      assign.wpIn (rnd l) n P (Exit.then (fun a₁ A₁ => A₁ = A ∧ ∀ A₂, Keep (fun b => b = l) A A₂ → A₂.heap.size = A.heap.size → body.wpIn (rnd l) n P (zPost S0 I Ix (pre ++ [x]) Z A₂) a₁ A₂) (fun _ _ _ => False))
        { tmps := (ps.zip (encs x)).foldl (fun t (p, v) => t.setIfInBounds p v) a.tmps, defers := [] } A)
    (hdone : ∀ (D : Nat) (xs : List α) (Z : Nat → Prop) (W : World), w.heap.size ≤ D → Z D → S xs → I xs Z W → W.heap[D]? = some (.deferred (some [])) → Q .normal { a with defers := { target := .collected D, args := #[] } :: a.defers } W)
    (hstop : ∀ (D : Nat) (c : Code) (pre : List α) (Z : Nat → Prop) (W : World), w.heap.size ≤ D → Z D → Sp pre → Ix c pre Z W → W.heap[D]? = some (.deferred (some [])) → c.wp P Q { a with defers := { target := .collected D, args := #[] } :: a.defers } W) :
    (Code.rangeFunc g ps assign body).wp P Q a w := by
  refine (wpIn_wide (n := 1)).1 (wpIn_rangeFunc ?_)
  intro fn hfn
  obtain ⟨rec, hrec⟩ : ∃ rec : LoopState → Option Code → Loop, rec = fun st pe => { state := st, pending := pe, fn, tmps := a.tmps, params := ps, assign, body, defers := w.heap.size } := ⟨_, rfl⟩
  obtain ⟨W1, hW1⟩ : ∃ W1, (w.alloc (.deferred (some []))).alloc (.loop (rec .ready none)) = W1 := ⟨_, rfl⟩
  obtain ⟨l, hl⟩ : ∃ l, l = w.heap.size + 1 := ⟨_, rfl⟩
  obtain ⟨D, hD⟩ : ∃ D, D = w.heap.size := ⟨_, rfl⟩
  have hsz1 : W1.heap.size = w.heap.size + 2 := by rw [← hW1]; simp
  have hL1 : W1.heap[l]? = some (.loop (rec .ready none)) := by
    rw [← hW1, hl]; have := World.alloc_heap_new (w.alloc (.deferred (some []))) (.loop (rec .ready none)); rwa [World.size_alloc] at this
  have hK1 : W1.heap[D]? = some (.deferred (some [])) := by
    rw [← hW1, hD]; exact (Go.RowKit.Below.heap_alloc _ _ _ (by simp)).trans (World.alloc_heap_new w _)
  have hkp1 : ∀ own, Keep own w W1 := fun own => by rw [← hW1]; exact (Keep.alloc own w _).trans (Keep.alloc own _ _)
  have hlD : l ≠ D := by omega
  have hlS : ¬ S0 l := fun h => by have := hS0 l h; omega
  have hI1 : I [] (fun b => Z0 b ∨ b = l ∨ b = D) W1 := hIm _ _ _ _ (hI _ _ _ _ h0 (hkp1 Z0)) fun b hb => by
    rcases hb with h | h | h
    · exact .inl h
    · exact .inr ⟨by omega, by omega⟩
    · exact .inr ⟨by omega, by omega⟩
  refine ⟨l, [{ target := .collected D, args := #[] }], W1, { target := .fn (.func gf) lb, args := #[.func (.yield l) #[] #[]] }, W1, gf, #[.func (.yield l) #[] #[]] ++ lb, W1, ?_, ?_, fun _ _ => trivial, ?_, fun h => by simp [Fence.wide] at h, ?_⟩
  · rw [← hW1, hrec, hl, hD]; exact run_enterLoop_outer _ _ _ _ _
  · simp only [resolve, hg]
    simp [go_sem]
  · simp [invoke, go_sem, eg]
  · refine callsIn_wide.2 ((hseq l
      (fun pre Z A => I pre (fun b => Z b ∨ b = l ∨ b = D) A ∧ A.heap[l]? = some (.loop (rec .ready none)) ∧ A.heap[D]? = some (.deferred (some [])) ∧ ¬ Z l ∧ ¬ Z D)
      (fun pre Z A => ∃ c, Ix c pre (fun b => Z b ∨ b = l ∨ b = D) A ∧ A.heap[l]? = some (.loop (rec .done (some c))) ∧ A.heap[D]? = some (.deferred (some [])) ∧ ¬ Z l ∧ ¬ Z D) W1 (hkp1 _) ?_ ?_ ?_ ⟨hI1, hL1, hK1, fun h => by have := hZ0 l h; omega, fun h => by have := hZ0 D h; omega⟩).mono ?_)
    · rintro pre Z A B ⟨h1, h2, h3, h4, h5⟩ hk
      have a1 := (Array.getElem?_eq_some_iff.1 h2).1
      have a2 := (Array.getElem?_eq_some_iff.1 h3).1
      refine ⟨hIm _ _ _ _ (hI _ _ _ _ h1 (hk.mono fun b hb => .inl hb)) fun b hb => ?_, (hk.block l a1 h4).trans h2, (hk.block D a2 h5).trans h3, ?_, ?_⟩
      · rcases hb with (h | h) | h
        · exact .inl (.inl h)
        · exact .inr h
        · exact .inl (.inr h)
      · rintro (h | h)
        · exact h4 h
        · omega
      · rintro (h | h)
        · exact h5 h
        · omega
    · rintro pre Z A B ⟨c, h1, h2, h3, h4, h5⟩ hk
      have a1 := (Array.getElem?_eq_some_iff.1 h2).1
      have a2 := (Array.getElem?_eq_some_iff.1 h3).1
      refine ⟨c, hIxm _ _ _ _ _ (hIx _ _ _ _ _ h1 (hk.mono fun b hb => .inl hb)) fun b hb => ?_, (hk.block l a1 h4).trans h2, (hk.block D a2 h5).trans h3, ?_, ?_⟩
      · rcases hb with (h | h) | h
        · exact .inl (.inl h)
        · exact .inr h
        · exact .inl (.inr h)
      · rintro (h | h)
        · exact h4 h
        · omega
      · rintro (h | h)
        · exact h5 h
        · omega
    · rintro pre Z x A ⟨h1, h2, h3, h4, h5⟩ hlen
      have a1 := (Array.getElem?_eq_some_iff.1 h2).1
      have hy := run_yield (P := P) (args := encs x) h2 (by rw [hrec]; exact hps x)
      rw [hrec] at hy
      refine ⟨fn, _, assign, body, hy, roundIn_of_wpIn hfn (wpIn_mono (hround l 0 pre x _ A h1 hlen (.inr (.inl rfl))) ?_)⟩
      rintro e a1' A1 hp
      cases e <;> simp only [Exit.then] at hp ⊢
      obtain ⟨rfl, hb⟩ := hp
      refine ⟨_, run_beginRound h2 (by rw [hrec]), ?_⟩
      obtain ⟨A2, hA2⟩ : ∃ A2, A1.putObj l (.loop { rec .ready none with state := .busy }) = A2 := ⟨_, rfl⟩
      have hk2 : Keep (fun b => b = l) A1 A2 := by rw [← hA2]; exact Keep.putObj _ _ rfl
      have hl2 : A2.heap[l]? = some (.loop { rec .ready none with state := .busy }) := by rw [← hA2]; exact World.putObj_heap_same a1
      have hD2 : A2.heap[D]? = some (.deferred (some [])) := by rw [← hA2]; exact (World.putObj_heap_other (Ne.symm hlD)).trans h3
      rw [hA2]
      refine wpIn_mono (hb A2 hk2 (by rw [← hA2]; simp)) ?_
      have fin : ∀ (jump : Option Code) (W3 : World), Keep (fun b => ¬ ((Z b ∨ b = l ∨ b = D) ∨ S0 b)) A2 W3 →
          ∃ W4, (Instr.endRound l jump).run P W3 = .ok (.bool jump.isNone) W4 ∧ W4.heap[l]? = some (.loop (rec (if jump.isNone then .ready else .done) jump)) ∧ W4.heap[D]? = some (.deferred (some [])) ∧ Keep (fun b => b = l) W3 W4 ∧ W4.heap.size = W3.heap.size ∧ Keep (fun b => ¬ (Z b ∨ S0 b)) A1 W4 := fun jump W3 hk3 => by
        have b1 := (Array.getElem?_eq_some_iff.1 hl2).1
        have b2 := (Array.getElem?_eq_some_iff.1 hD2).1
        have hl3 : W3.heap[l]? = some (.loop { rec .ready none with state := .busy }) := (hk3.block l b1 fun h => h (.inl (.inr (.inl rfl)))).trans hl2
        have hD3 : W3.heap[D]? = some (.deferred (some [])) := (hk3.block D b2 fun h => h (.inl (.inr (.inr rfl)))).trans hD2
        have hr := run_endRound (P := P) jump hl3
        rw [hrec] at hr ⊢
        refine ⟨_, hr, World.putObj_heap_same (Array.getElem?_eq_some_iff.1 hl3).1, (World.putObj_heap_other (Ne.symm hlD)).trans hD3, Keep.putObj _ _ rfl, by simp, ?_⟩
        have hnl : ∀ b, b = l → ¬ (Z b ∨ S0 b) := fun b e h => by subst e; exact h.elim h4 hlS
        exact ((hk2.mono hnl).trans (hk3.mono fun b h h' => h (h'.elim (fun h => .inl (.inl h)) .inr))).trans (Keep.putObj _ _ (hnl l rfl))
      have stay : ∀ {W3 W4 : World}, Keep (fun b => b = l) W3 W4 → Keep (fun b => Z b ∨ b = l ∨ b = D) W3 W4 := fun h => h.mono fun b hb => .inr (.inl hb)
      rintro e a3 W3 hp
      cases e with
      | normal =>
        obtain ⟨hk3, hi3⟩ := hp
        obtain ⟨W4, hr, g1, g2, g3, g4, g5⟩ := fin none W3 hk3
        exact ⟨_, W4, hr, g5, .inl ⟨rfl, hIm _ _ _ _ (hI _ _ _ _ hi3 (stay g3)) (fun b hb => .inl hb), g1, g2, h4, h5⟩⟩
      | ret =>
        obtain ⟨hk3, hi3⟩ := hp
        obtain ⟨W4, hr, g1, g2, g3, g4, g5⟩ := fin (some .ret) W3 hk3
        exact ⟨_, W4, hr, g5, .inr ⟨rfl, .ret, hIxm _ _ _ _ _ (hIx _ _ _ _ _ hi3 (stay g3)) (fun b hb => .inl hb), g1, g2, h4, h5⟩⟩
      | exit id =>
        obtain ⟨hk3, hi3⟩ := hp
        obtain ⟨W4, hr, g1, g2, g3, g4, g5⟩ := fin (some (.exit id)) W3 hk3
        exact ⟨_, W4, hr, g5, .inr ⟨rfl, .exit id, hIxm _ _ _ _ _ (hIx _ _ _ _ _ hi3 (stay g3)) (fun b hb => .inl hb), g1, g2, h4, h5⟩⟩
      | goto t =>
        obtain ⟨hk3, hi3⟩ := hp
        obtain ⟨W4, hr, g1, g2, g3, g4, g5⟩ := fin (some (.goto t)) W3 hk3
        exact ⟨_, W4, hr, g5, .inr ⟨rfl, .goto t, hIxm _ _ _ _ _ (hIx _ _ _ _ _ hi3 (stay g3)) (fun b hb => .inl hb), g1, g2, h4, h5⟩⟩
      | panic ch => exact hp.elim
      | outgrown => exact hp.elim
    · rintro e W2 ⟨⟨v, rfl⟩, (⟨xs, Z, hS, h1, h2, h3, h4, h5⟩ | ⟨pre, Z, hSp, c, h1, h2, h3, h4, h5⟩)⟩
      · refine ⟨none, _, by have := run_endLoop (P := P) h2 (by rw [hrec]; simp); rw [hrec] at this; exact this, ?_⟩
        exact hdone D xs _ _ (by omega) (.inl (.inr (.inr rfl))) hS (hI _ _ _ _ h1 (Keep.putObj _ _ (.inr (.inl rfl)))) ((World.putObj_heap_other (Ne.symm hlD)).trans h3)
      · refine ⟨some c, _, by have := run_endLoop (P := P) h2 (by rw [hrec]; simp); rw [hrec] at this; exact this, ?_⟩
        exact wpIn_wide.2 (hstop D c pre _ _ (by omega) (.inl (.inr (.inr rfl))) hSp (hIx _ _ _ _ _ h1 (Keep.putObj _ _ (.inr (.inl rfl)))) ((World.putObj_heap_other (Ne.symm hlD)).trans h3))
/-! ### The caller -/
/-- Another world, in which nothing that is told of has changed. -/
theorem Rel.other {C : Ctx} {E : Env} {X : Nat → List Value} {σ : St} {a : Act} (h : Rel C E X σ a) {B : World} {Z : Nat → Prop} (hk : Keep Z E.w B)
    (hZ : ∀ b, Z b → C.w0.heap.size ≤ b ∧ ¬ E.S b ∧ ∀ r o, find σ.objs r = some o → blockOf (E.H r) ≠ some b) : Rel C { E with w := B } X σ a := by
  have hS : ∀ b, E.S b → B.heap[b]? = E.w.heap[b]? := fun b hb => hk.block b (h.stay b hb).1 fun hz => (hZ b hz).2.1 hb
  have hle : E.le { E with w := B } := ⟨fun b hbS => ⟨hbS, hS b hbS⟩, fun r hr => ⟨hr, rfl, rfl⟩⟩
  exact ⟨fun s v hv => FV.le _ hle _ (h.slots s v hv), h.size, h.defers, fun r o hr => ⟨(h.objs r o hr).1, (h.objs r o hr).2.1, (h.objs r o hr).2.2.1.kept (fun b hbk => hk.block b ((h.objs r o hr).2.2.1.lt hbk) fun hz => (hZ b hz).2.2 r o hr hbk), FVr.le _ _ (hle.by _) _ (h.objs r o hr).2.2.2⟩, h.apart,
    fun b hbS => ⟨Nat.lt_of_lt_of_le (h.stay b hbS).1 hk.size, (h.stay b hbS).2⟩, h.fresh,
    ⟨hk.os.trans h.kept.os, h.kept.tape.trans hk.tape, hk.output.trans h.kept.output, Nat.le_trans h.kept.size hk.size, fun b hbl hno => (hk.block b (Nat.lt_of_lt_of_le hbl h.kept.size) fun hz => by have := (hZ b hz).1; omega).trans (h.kept.block b hbl hno)⟩, h.mine, h.env, h.envD, h.base, h.grow, h.envk, h.glob.le hle⟩
/-- The block of a range's deferred calls is nobody's. -/
structure Mark (C : Ctx) (E : Env) (σ : St) (D : Nat) : Prop where
  new : C.w0.heap.size ≤ D
  fr : ¬ E.S D
  ob : ∀ r o, find σ.objs r = some o → blockOf (E.H r) ≠ some D
  at_ : E.w.heap[D]? = some (.deferred (some []))
/-- The context of a function that is handed nothing. -/
structure TopC (C : Ctx) : Prop where
  dfr : C.dfr = []
  own : ∀ b, ¬ C.own b
/-- The rest of a function: deferred calls may stand, of a range over a function, whose rounds have deferred nothing. -/
def EvT (P : Program) (c : Code) (σ : St) (Q : Exit → St → Prop) : Prop :=
  ∀ C E X a, TopC C → Rel C E X σ a → c.wp P (fun e a' w' => ∃ E' X' σ', E'.w = w' ∧ Rel C E' X' σ' { a' with defers := [] } ∧ (a'.defers = [] ∨ ∃ D, a'.defers = [{ target := .collected D, args := #[] }] ∧ Mark C E' σ' D) ∧ Q e σ') a E.w
theorem act_nil {a : Act} (h : a.defers = []) : { a with defers := [] } = a := by
  cases a
  simp only at h
  rw [h]
theorem EvT.of {P : Program} {c : Code} {σ : St} {Q : Exit → St → Prop} (h : Ev P c σ Q) : EvT P c σ Q := by
  intro C E X a hC hr
  refine wp_mono (h C E X a hr) ?_
  rintro e a' w' ⟨E', X', σ', h1, h2, h3⟩
  have hd : a'.defers = [] := h2.defers.trans hC.dfr
  exact ⟨E', X', σ', h1, by rw [act_nil hd]; exact h2, .inl hd, h3⟩
theorem EvT.split {P : Program} {x y : Code} {σ : St} {Q : Exit → St → Prop} (h : Ev P x σ (thenP (fun σ' => EvT P y σ' Q) Q)) : EvT P (.seq x y) σ Q := by
  intro C E X a hC hr
  refine wp_seq (wp_mono (h C E X a hr) ?_)
  rintro e a' w' ⟨E', X', σ', rfl, h2, h3⟩
  have hd : a'.defers = [] := h2.defers.trans hC.dfr
  cases e <;> simp only [Exit.then, thenP] at h3 ⊢
  case normal => exact h3 C E' X' a' hC h2
  all_goals exact ⟨E', X', σ', rfl, by rw [act_nil hd]; exact h2, .inl hd, h3⟩
theorem Fun.of_bodyT {P : Program} {f : FuncId} {fn : Func} {c : Code} {args : List AV} {Post : AV → List (Nat × Obj) → Prop} (hf : P.funcs[f]? = some fn) (hb : fn.body = some c) (hnm : (fn.name == "runtime.NumGoroutine") = false)
    (hn : args.length ≤ fn.ntmps) (h : EvT P c ⟨argSlots 0 args, [], 0, fn.ntmps, 0⟩ (endP P fn.results.toList Post)) : Fun P f args Post := by
  refine ⟨⟨fn, hf, by simp [hb], hnm⟩, fun E xs hx hS hG => ?_⟩
  refine (callsIn_wide (n := 1)).1 (callsIn_of_wp_marks (F := Fence.wide) hf hb trivial (wpIn_wide.2 ?_) rfl)
  have hxl := hx.length
  let C : Ctx := ⟨E.w, fun _ => False, fun _ => undef, 0, E.S, fun _ => 0, []⟩
  have hrel : Rel C E.clear (fun _ => []) ⟨argSlots 0 args, [], 0, fn.ntmps, 0⟩ { tmps := xs.toArray ++ Array.replicate (fn.ntmps - xs.toArray.size) undef, defers := [] } := by
    refine ⟨?_, ?_, rfl, ?_, ?_, ?_, ?_, Keep.refl _ _, ?_, ?_, ?_, fun b hb => hb, fun b hb => .inl hb, rfl, hG⟩
    · intro s v hv
      obtain ⟨_, h2⟩ := find_argSlots args 0 s v hv
      simp only [Nat.sub_zero] at h2
      obtain ⟨y, hy, hfv⟩ := hx.get h2
      have hlt : s < xs.length := (List.getElem?_eq_some_iff.1 hy).1
      have : (xs.toArray ++ Array.replicate (fn.ntmps - xs.toArray.size) undef).getD s undef = y := by
        have e : (xs.toArray ++ Array.replicate (fn.ntmps - xs.toArray.size) undef)[s]? = some y := by
          rw [Array.getElem?_append_left (by simpa using hlt)]
          simpa using hy
        rw [Array.getD_eq_getD_getElem?, e]
        rfl
      rw [this]
      exact hfv
    · simp [hxl]; omega
    · intro r o hr; simp [find] at hr
    · intro r r' o o' b hr; simp [find] at hr
    · intro b hb
      exact ⟨hS b hb, fun r o hr => by simp [find] at hr⟩
    · intro r hr; exact hr.elim
    · intro r o b hr; simp [find] at hr
    · intro r hr; exact absurd hr (Nat.not_lt_zero _)
    · intro r hr; exact absurd hr (Nat.not_lt_zero _)
  have hend : ∀ (E' : Env) X' σ' a', Rel C E' X' σ' a' → ∀ ks : List Nat, ks.Nodup → retP P fn.results.toList ks Post σ' →
      ∃ y, (results fn a'.tmps).run P E'.w = .ok y E'.w ∧ ∃ v objs E'' X'', E''.w = E'.w ∧ Post v objs ∧ LocalPost E.clear v objs y E'' X'' := by
    intro E' X' σ' a' hr ks hnd hret
    unfold retP at hret
    split at hret
    · exact hret.elim
    · rename_i vs hvs
      split at hret
      · rename_i v objs hv ho
        obtain ⟨y, hy1, hy2⟩ := hr.run_results hvs
        refine ⟨y, hy1, v, objs, ?_⟩
        -- the setting under the new names
        let E'' : Env := { w := E'.w, H := fun r' => match ks[r']? with | some k => E'.H k | none => undef, Z := fun r' => match ks[r']? with | some k => E'.Z k | none => 0, D := fun r' => r' < ks.length, S := E'.S }
        have hren : E'.ren (pos ks 0) E'' := by
          refine ⟨fun b hb => ⟨hb, rfl⟩, fun r r' hD hp => ?_⟩
          obtain ⟨_, h2⟩ := pos_spec ks 0 r r' hp
          simp only [Nat.sub_zero] at h2
          exact ⟨(List.getElem?_eq_some_iff.1 h2).1, by simp [E'', h2], by simp [E'', h2]⟩
        refine ⟨E'', fun r' => match ks[r']? with | some k => X' k | none => [], rfl, hret, ⟨?_, ?_, ?_, ?_, ?_, ?_, ?_⟩⟩
        · exact ⟨hr.kept.os, hr.kept.tape, hr.kept.output, hr.kept.size, fun b hb _ => hr.kept.block b hb (fun h => h)⟩
        · exact ⟨fun b hb => ⟨hr.base b hb, hr.kept.block b (hS b hb) (fun h => h)⟩, fun r hD => hD.elim⟩
        · intro r hD
          exact .inr (keepObjs_dom ks 0 objs ho r (Nat.zero_le _) (by simpa [E''] using hD))
        · intro b hb
          obtain ⟨h1, h2⟩ := hr.stay b hb
          rcases hr.grow b hb with h | h | h
          · exact .inl h
          · refine .inr ⟨h, h1, fun r o hro e => ?_⟩
            obtain ⟨k, o1, _, hk, hk2, _⟩ := keepObjs_spec ks 0 objs ho r o hro
            simp only [Nat.sub_zero] at hk
            simp only [E'', hk] at e
            exact h2 k o1 hk2 e
          · exact h.elim
        · intro r o hro
          obtain ⟨k, o1, _, hk, hk2, hk3⟩ := keepObjs_spec ks 0 objs ho r o hro
          simp only [Nat.sub_zero] at hk
          obtain ⟨g1, g2, g3, g4⟩ := hr.objs k o1 hk2
          have hsp := renObj_spec hk3
          refine ⟨(List.getElem?_eq_some_iff.1 hk).1, fun h => h, by simp [E'', hk, g2, hsp.2.2.1], ?_, ?_, ?_⟩
          · simp only [E'', hk]
            exact g3.ren hk3
          · simp only [hk]
            exact FVr.renObj hk3 hren g4
          · intro b hb
            simp only [E'', hk] at hb
            rcases hr.mine k o1 b hk2 hb with h | h
            · exact h.elim
            · exact h
        · intro r r' o o' b hro hro' hb hb'
          obtain ⟨k, o1, _, hk, hk2, hk3⟩ := keepObjs_spec ks 0 objs ho r o hro
          obtain ⟨k', o1', _, hk', hk2', hk3'⟩ := keepObjs_spec ks 0 objs ho r' o' hro'
          simp only [Nat.sub_zero] at hk hk'
          simp only [E'', hk] at hb
          simp only [E'', hk'] at hb'
          have := hr.apart k k' o1 o1' b hk2 hk2' hb hb'
          subst this
          obtain ⟨hl, he⟩ := List.getElem?_eq_some_iff.1 hk
          obtain ⟨hl', he'⟩ := List.getElem?_eq_some_iff.1 hk'
          exact (List.getElem_inj hnd).1 (he.trans he'.symm)
        · exact FV.ren hren hv hy2
      · exact hret.elim
  refine wp_mono (h C E.clear _ _ ⟨rfl, fun _ h => h⟩ hrel) ?_
  rintro e a' w' ⟨E', X', σ', rfl, hr, hdf, hq⟩
  have fin : ∀ ks : List Nat, ks.Nodup → retP P fn.results.toList ks Post σ' → LeavesInM Fence.wide 1 P fn a'.tmps (fun e w' => ∃ y v objs E' X', e = .returned y ∧ E'.w = w' ∧ Post v objs ∧ LocalPost E.clear v objs y E' X') a'.defers .returning E'.w := by
    intro ks hnd hq
    rcases hdf with hd | ⟨D, hd, hM⟩
    · obtain ⟨y, hy, v, objs, E'', X'', h1, h2, h3⟩ := hend E' X' σ' _ hr ks hnd hq
      rw [hd]
      exact ⟨y, hy, y, v, objs, E'', X'', rfl, h1, h2, h3⟩
    · have hr' := hr.other (Z := fun b => b = D) (Keep.putObj E'.w (.deferred none) rfl) (fun b e => by subst e; exact ⟨hM.new, hM.fr, hM.ob⟩)
      obtain ⟨y, hy, v, objs, E'', X'', h1, h2, h3⟩ := hend _ X' σ' _ hr' ks hnd hq
      rw [hd]
      exact ⟨by simp, .inl ⟨D, _, rfl, run_takeDeferred hM.at_, y, hy, y, v, objs, E'', X'', rfl, h1, h2, h3⟩⟩
  cases e <;> simp only [endP] at hq
  case normal => obtain ⟨ks, hnd, hq⟩ := hq; exact fin ks hnd hq
  case ret => obtain ⟨ks, hnd, hq⟩ := hq; exact fin ks hnd hq
end Go.AM
