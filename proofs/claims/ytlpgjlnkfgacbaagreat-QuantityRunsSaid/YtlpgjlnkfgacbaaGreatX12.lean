/-
  Part 12 of the proof: the abstract machine, proved sound over the model.
  Conditions: none.
-/
import Derived.RangeFuncFrom
import Derived.Test.YtlpgjlnkfgacbaaGreatX11
set_option linter.unusedVariables false
set_option linter.unusedSimpArgs false
set_option linter.unusedSectionVars false
namespace Go.AM
theorem Keep.trans {own : Nat → Prop} {A B C : World} (h : Keep own A B) (k : Keep own B C) : Keep own A C :=
  ⟨k.os.trans h.os, h.tape.trans k.tape, k.output.trans h.output, Nat.le_trans h.size k.size, fun b hb hn => (k.block b (Nat.lt_of_lt_of_le hb h.size) hn).trans (h.block b hb hn)⟩
theorem Keep.mono {own own' : Nat → Prop} {A B : World} (h : Keep own A B) (ho : ∀ b, own b → own' b) : Keep own' A B :=
  ⟨h.os, h.tape, h.output, h.size, fun b hb hn => h.block b hb fun h' => hn (ho b h')⟩
theorem Keep.alloc (own : Nat → Prop) (A : World) (o : Go.Obj) : Keep own A (A.alloc o) :=
  ⟨rfl, Tp.refl _, rfl, by simp, fun b hb _ => Go.RowKit.Below.heap_alloc A o b hb⟩
theorem Keep.putObj {own : Nat → Prop} (A : World) {l : Nat} (o : Go.Obj) (hl : own l) : Keep own A (A.putObj l o) :=
  ⟨rfl, Tp.refl _, rfl, by simp, fun b hb hn => World.putObj_heap_other fun e => hn (e ▸ hl)⟩
def addZ (Z : Nat → Prop) (A B : World) : Nat → Prop := fun b => Z b ∨ (A.heap.size ≤ b ∧ b < B.heap.size)
def SeqZ {α : Type} (P : Program) (gf : Nat) (lb : Array Value) (encs : α → Array Value) (S Sp : List α → Prop) (N : List α → α → Prop) (Z0 S0 : Nat → Prop) (w0 : World) : Prop :=
  ∀ (l : Nat) (J Jx : List α → (Nat → Prop) → World → Prop) (W : World), Keep (fun b => ¬ (Z0 b ∨ S0 b)) w0 W →
    (∀ pre Z A B, J pre Z A → Keep Z A B → J pre (addZ Z A B) B) → (∀ pre Z A B, Jx pre Z A → Keep Z A B → Jx pre (addZ Z A B) B) →
    (∀ pre Z x A, J pre Z A → N pre x → YieldAt Fence.wide 0 P l (encs x) A fun e B => Keep (fun b => ¬ (Z b ∨ S0 b)) A B ∧ ((e = .returned (.bool true) ∧ J (pre ++ [x]) Z B) ∨ (e = .returned (.bool false) ∧ Jx (pre ++ [x]) Z B))) →
    J [] Z0 W →
    Calls P gf (#[.func (.yield l) #[] #[]] ++ lb) W fun e B => (∃ v, e = .returned v) ∧ ((∃ xs Z, S xs ∧ J xs Z B) ∨ (∃ pre Z, Sp pre ∧ Jx pre Z B))
def zPost {α : Type} (S0 : Nat → Prop) (I : List α → (Nat → Prop) → World → Prop) (Ix : Code → List α → (Nat → Prop) → World → Prop) (xs : List α) (Z : Nat → Prop) (W : World) : Exit → Act → World → Prop
  | .normal, _, W' => Keep (fun b => ¬ (Z b ∨ S0 b)) W W' ∧ I xs Z W'
  | .ret, _, W' => Keep (fun b => ¬ (Z b ∨ S0 b)) W W' ∧ Ix .ret xs Z W'
  | .exit id, _, W' => Keep (fun b => ¬ (Z b ∨ S0 b)) W W' ∧ Ix (.exit id) xs Z W'
  | .goto t, _, W' => Keep (fun b => ¬ (Z b ∨ S0 b)) W W' ∧ Ix (.goto t) xs Z W'
  | .panic _, _, _ => False
  | .outgrown, _, _ => False
theorem Rel.other {C : Ctx} {E : Env} {X : Nat → List Value} {σ : St} {a : Act} (h : Rel C E X σ a) {B : World} {Z : Nat → Prop} (hk : Keep Z E.w B)
    (hZ : ∀ b, Z b → C.w0.heap.size ≤ b ∧ ¬ E.S b ∧ ∀ r o, find σ.objs r = some o → blockOf (E.H r) ≠ some b) : Rel C { E with w := B } X σ a := by
  have hS : ∀ b, E.S b → B.heap[b]? = E.w.heap[b]? := fun b hb => hk.block b (h.stay b hb).1 fun hz => (hZ b hz).2.1 hb; have hle : E.le { E with w := B } := ⟨fun b hbS => ⟨hbS, hS b hbS⟩, fun r hr => ⟨hr, rfl, rfl⟩⟩
  exact ⟨fun s v hv => FV.le _ hle _ (h.slots s v hv), h.size, h.defers, fun r o hr => ⟨(h.objs r o hr).1, (h.objs r o hr).2.1, (h.objs r o hr).2.2.1.kept (fun b hbk => hk.block b ((h.objs r o hr).2.2.1.lt hbk) fun hz => (hZ b hz).2.2 r o hr hbk), FVr.le _ _ (hle.by _) _ (h.objs r o hr).2.2.2⟩, h.apart,
    fun b hbS => ⟨Nat.lt_of_lt_of_le (h.stay b hbS).1 hk.size, (h.stay b hbS).2⟩, h.fresh,
    ⟨hk.os.trans h.kept.os, h.kept.tape.trans hk.tape, hk.output.trans h.kept.output, Nat.le_trans h.kept.size hk.size, fun b hbl hno => (hk.block b (Nat.lt_of_lt_of_le hbl h.kept.size) fun hz => by have := (hZ b hz).1; omega).trans (h.kept.block b hbl hno)⟩, h.mine, h.env, h.envD, h.base, h.grow, h.envk, h.glob.le hle⟩
structure Mark (C : Ctx) (E : Env) (σ : St) (D : Nat) : Prop where
  new : C.w0.heap.size ≤ D
  fr : ¬ E.S D
  ob : ∀ r o, find σ.objs r = some o → blockOf (E.H r) ≠ some D
  at_ : E.w.heap[D]? = some (.deferred (some []))
structure TopC (C : Ctx) : Prop where
  dfr : C.dfr = []
  own : ∀ b, ¬ C.own b
def EvT (P : Program) (c : Code) (σ : St) (Q : Exit → St → Prop) : Prop :=
  ∀ C E X a, TopC C → Rel C E X σ a → c.wp P (fun e a' w' => ∃ E' X' σ', E'.w = w' ∧ Rel C E' X' σ' { a' with defers := [] } ∧ (a'.defers = [] ∨ ∃ D, a'.defers = [{ target := .collected D, args := #[] }] ∧ Mark C E' σ' D) ∧ Q e σ') a E.w
theorem act_nil {a : Act} (h : a.defers = []) : { a with defers := [] } = a := by
  cases a
  simp only at h
  rw [h]
theorem EvT.split {P : Program} {x y : Code} {σ : St} {Q : Exit → St → Prop} (h : Ev P x σ (thenP (fun σ' => EvT P y σ' Q) Q)) : EvT P (.seq x y) σ Q := by
  intro C E X a hC hr; refine wp_seq (wp_mono (h C E X a hr) ?_); rintro e a' w' ⟨E', X', σ', rfl, h2, h3⟩; have hd : a'.defers = [] := h2.defers.trans hC.dfr
  cases e <;> simp only [Exit.then, thenP] at h3 ⊢
  case normal => exact h3 C E' X' a' hC h2
  all_goals exact ⟨E', X', σ', rfl, by rw [act_nil hd]; exact h2, .inl hd, h3⟩
theorem Fun.of_bodyT {P : Program} {f : FuncId} {fn : Func} {c : Code} {args : List AV} {Post : AV → List (Nat × Obj) → Prop} (hf : P.funcs[f]? = some fn) (hb : fn.body = some c) (hnm : (fn.name == "runtime.NumGoroutine") = false)
    (hn : args.length ≤ fn.ntmps) (h : EvT P c ⟨argSlots 0 args, [], 0, fn.ntmps, 0⟩ (endP P fn.results.toList Post)) : Fun P f args Post := by
  refine ⟨⟨fn, hf, by simp [hb], hnm⟩, fun E xs hx hS hG => ?_⟩; refine (callsIn_wide (n := 1)).1 (callsIn_of_wp_marks (F := Fence.wide) hf hb trivial (wpIn_wide.2 ?_) rfl); have hxl := hx.length
  let C : Ctx := ⟨E.w, fun _ => False, fun _ => undef, 0, E.S, fun _ => 0, []⟩
  have hrel : Rel C E.clear (fun _ => []) ⟨argSlots 0 args, [], 0, fn.ntmps, 0⟩ { tmps := xs.toArray ++ Array.replicate (fn.ntmps - xs.toArray.size) undef, defers := [] } := by
    refine ⟨?_, ?_, rfl, ?_, ?_, ?_, ?_, Keep.refl _ _, ?_, ?_, ?_, fun b hb => hb, fun b hb => .inl hb, rfl, hG⟩
    · intro s v hv; obtain ⟨_, h2⟩ := find_argSlots args 0 s v hv; simp only [Nat.sub_zero] at h2; obtain ⟨y, hy, hfv⟩ := hx.get h2; have hlt : s < xs.length := (List.getElem?_eq_some_iff.1 hy).1
      have : (xs.toArray ++ Array.replicate (fn.ntmps - xs.toArray.size) undef).getD s undef = y := by
        have e : (xs.toArray ++ Array.replicate (fn.ntmps - xs.toArray.size) undef)[s]? = some y := by
          rw [Array.getElem?_append_left (by simpa using hlt)]
          simpa using hy
        rw [Array.getD_eq_getD_getElem?, e]; rfl
      rw [this]; exact hfv
    · simp [hxl]; omega
    · intro r o hr; simp [find] at hr
    · intro r r' o o' b hr; simp [find] at hr
    · intro b hb; exact ⟨hS b hb, fun r o hr => by simp [find] at hr⟩
    · intro r hr; exact hr.elim
    · intro r o b hr; simp [find] at hr
    · intro r hr; exact absurd hr (Nat.not_lt_zero _)
    · intro r hr; exact absurd hr (Nat.not_lt_zero _)
  have hend : ∀ (E' : Env) X' σ' a', Rel C E' X' σ' a' → ∀ ks : List Nat, ks.Nodup → retP P fn.results.toList ks Post σ' →
      ∃ y, (results fn a'.tmps).run P E'.w = .ok y E'.w ∧ ∃ v objs E'' X'', E''.w = E'.w ∧ Post v objs ∧ LocalPost E.clear v objs y E'' X'' := by
    intro E' X' σ' a' hr ks hnd hret
    unfold retP at hret
    split at hret
    · exact hret.elim
    · rename_i vs hvs
      split at hret
      · rename_i v objs hv ho
        obtain ⟨y, hy1, hy2⟩ := hr.run_results hvs; refine ⟨y, hy1, v, objs, ?_⟩
        let E'' : Env := { w := E'.w, H := fun r' => match ks[r']? with | some k => E'.H k | none => undef, Z := fun r' => match ks[r']? with | some k => E'.Z k | none => 0, D := fun r' => r' < ks.length, S := E'.S }
        have hren : E'.ren (pos ks 0) E'' := by
          refine ⟨fun b hb => ⟨hb, rfl⟩, fun r r' hD hp => ?_⟩; obtain ⟨_, h2⟩ := pos_spec ks 0 r r' hp; simp only [Nat.sub_zero] at h2; exact ⟨(List.getElem?_eq_some_iff.1 h2).1, by simp [E'', h2], by simp [E'', h2]⟩
        refine ⟨E'', fun r' => match ks[r']? with | some k => X' k | none => [], rfl, hret, ⟨?_, ?_, ?_, ?_, ?_, ?_, ?_⟩⟩
        · exact ⟨hr.kept.os, hr.kept.tape, hr.kept.output, hr.kept.size, fun b hb _ => hr.kept.block b hb (fun h => h)⟩
        · exact ⟨fun b hb => ⟨hr.base b hb, hr.kept.block b (hS b hb) (fun h => h)⟩, fun r hD => hD.elim⟩
        · intro r hD; exact .inr (keepObjs_dom ks 0 objs ho r (Nat.zero_le _) (by simpa [E''] using hD))
        · intro b hb; obtain ⟨h1, h2⟩ := hr.stay b hb
          rcases hr.grow b hb with h | h | h
          · exact .inl h
          · refine .inr ⟨h, h1, fun r o hro e => ?_⟩; obtain ⟨k, o1, _, hk, hk2, _⟩ := keepObjs_spec ks 0 objs ho r o hro; simp only [Nat.sub_zero] at hk; simp only [E'', hk] at e; exact h2 k o1 hk2 e
          · exact h.elim
        · intro r o hro; obtain ⟨k, o1, _, hk, hk2, hk3⟩ := keepObjs_spec ks 0 objs ho r o hro; simp only [Nat.sub_zero] at hk; obtain ⟨g1, g2, g3, g4⟩ := hr.objs k o1 hk2; have hsp := renObj_spec hk3; refine ⟨(List.getElem?_eq_some_iff.1 hk).1, fun h => h, by simp [E'', hk, g2, hsp.2.2.1], ?_, ?_, ?_⟩
          · simp only [E'', hk]; exact g3.ren hk3
          · simp only [hk]; exact FVr.renObj hk3 hren g4
          · intro b hb; simp only [E'', hk] at hb
            rcases hr.mine k o1 b hk2 hb with h | h
            · exact h.elim
            · exact h
        · intro r r' o o' b hro hro' hb hb'; obtain ⟨k, o1, _, hk, hk2, hk3⟩ := keepObjs_spec ks 0 objs ho r o hro; obtain ⟨k', o1', _, hk', hk2', hk3'⟩ := keepObjs_spec ks 0 objs ho r' o' hro'; simp only [Nat.sub_zero] at hk hk'; simp only [E'', hk] at hb; simp only [E'', hk'] at hb'; have := hr.apart k k' o1 o1' b hk2 hk2' hb hb'; subst this; obtain ⟨hl, he⟩ := List.getElem?_eq_some_iff.1 hk; obtain ⟨hl', he'⟩ := List.getElem?_eq_some_iff.1 hk'; exact (List.getElem_inj hnd).1 (he.trans he'.symm)
        · exact FV.ren hren hv hy2
      · exact hret.elim
  refine wp_mono (h C E.clear _ _ ⟨rfl, fun _ h => h⟩ hrel) ?_; rintro e a' w' ⟨E', X', σ', rfl, hr, hdf, hq⟩
  have fin : ∀ ks : List Nat, ks.Nodup → retP P fn.results.toList ks Post σ' → LeavesInM Fence.wide 1 P fn a'.tmps (fun e w' => ∃ y v objs E' X', e = .returned y ∧ E'.w = w' ∧ Post v objs ∧ LocalPost E.clear v objs y E' X') a'.defers .returning E'.w := by
    intro ks hnd hq
    rcases hdf with hd | ⟨D, hd, hM⟩
    · obtain ⟨y, hy, v, objs, E'', X'', h1, h2, h3⟩ := hend E' X' σ' _ hr ks hnd hq; rw [hd]; exact ⟨y, hy, y, v, objs, E'', X'', rfl, h1, h2, h3⟩
    · have hr' := hr.other (Z := fun b => b = D) (Keep.putObj E'.w (.deferred none) rfl) (fun b e => by subst e; exact ⟨hM.new, hM.fr, hM.ob⟩); obtain ⟨y, hy, v, objs, E'', X'', h1, h2, h3⟩ := hend _ X' σ' _ hr' ks hnd hq; rw [hd]; exact ⟨by simp, .inl ⟨D, _, rfl, run_takeDeferred hM.at_, y, hy, y, v, objs, E'', X'', rfl, h1, h2, h3⟩⟩
  cases e <;> simp only [endP] at hq
  case normal => obtain ⟨ks, hnd, hq⟩ := hq; exact fin ks hnd hq
  case ret => obtain ⟨ks, hnd, hq⟩ := hq; exact fin ks hnd hq
structure Rnd {α : Type} (P : Program) (l : Nat) (encs : α → Array Value) (N : List α → α → Prop) (S0 : Nat → Prop) (J : Bool × List α → (Nat → Prop) → World → Prop) : Prop where
  step : ∀ g Z A B, J g Z A → Keep Z A B → J g (addZ Z A B) B
  round : ∀ pre Z x A, J (true, pre) Z A → N pre x → YieldAt Fence.wide 0 P l (encs x) A fun e B => Keep (fun b => ¬ (Z b ∨ S0 b)) A B ∧ ((e = .returned (.bool true) ∧ J (true, pre ++ [x]) Z B) ∨ (e = .returned (.bool false) ∧ J (false, pre ++ [x]) Z B))
structure InY {ι : Type} (S0 : Nat → Prop) (J : ι → (Nat → Prop) → World → Prop) (C : Ctx) (g : ι) (Z : Nat → Prop) : Prop where
  dfr : C.dfr = []
  own : ∀ b, C.own b → Z b
  S0 : ∀ b, C.S0 b → Z b ∨ S0 b
  j : J g Z C.w0
def EvY {ι : Type} (P : Program) (S0 : Nat → Prop) (J : ι → (Nat → Prop) → World → Prop) (c : Code) (σ : St) (g : ι) (Q : Exit → St → ι → Prop) : Prop :=
  ∀ C E X a Z, InY S0 J C g Z → Rel C E X σ a → c.wp P (fun e a' w' => ∃ C' E' X' σ' g' Z', E'.w = w' ∧ InY S0 J C' g' Z' ∧ Rel C' E' X' σ' a' ∧ Q e σ' g') a E.w
def thenY {ι : Type} (K : St → ι → Prop) (Q : Exit → St → ι → Prop) : Exit → St → ι → Prop
  | .normal, σ, g => K σ g
  | e, σ, g => Q e σ g
section
variable {ι : Type} {P : Program} {S0 : Nat → Prop} {J : ι → (Nat → Prop) → World → Prop} {σ : St} {g : ι} {Q : Exit → St → ι → Prop}
theorem EvY.plain {c : Code} (h : Ev P c σ fun e σ' => Q e σ' g) : EvY P S0 J c σ g Q := by
  intro C E X a Z hi hr; refine wp_mono (h C E X a hr) ?_; rintro e a' w' ⟨E', X', σ', h1, h2, h3⟩; exact ⟨C, E', X', σ', g, Z, h1, hi, h2, h3⟩
theorem EvY.seq {x y : Code} (h : EvY P S0 J x σ g (thenY (fun σ' g' => EvY P S0 J y σ' g' Q) Q)) : EvY P S0 J (.seq x y) σ g Q := by
  intro C E X a Z hi hr; refine wp_seq (wp_mono (h C E X a Z hi hr) ?_); rintro e a' w' ⟨C', E', X', σ', g', Z', rfl, h2, h3, h4⟩
  cases e <;> simp only [Exit.then, thenY] at h4 ⊢
  case normal => exact h4 C' E' X' a' Z' h2 h3
  all_goals exact ⟨C', E', X', σ', g', Z', rfl, h2, h3, h4⟩
theorem EvY.seqE {x y : Code} (h : Ev P x σ (thenP (fun σ' => EvY P S0 J y σ' g Q) fun e σ' => Q e σ' g)) : EvY P S0 J (.seq x y) σ g Q :=
  EvY.seq (EvY.plain (h.mono fun e σ' hq => by cases e <;> exact hq))
theorem EvY.cond {c : Operand} {x y : Code} {b : Bool} (hc : σ.ev c = .lit (.bool b)) (ht : b = true → EvY P S0 J x σ g Q) (hf : b = false → EvY P S0 J y σ g Q) : EvY P S0 J (.cond c x y) σ g Q := by
  intro C E X a Z hi hr; have hv := hr.ev c; rw [hc] at hv; simp only [FV] at hv; exact wp_cond_split hv (fun e => ht e C E X a Z hi hr) (fun e => hf e C E X a Z hi hr)
def inBlockY (id : Nat) (Q : Exit → St → ι → Prop) : Exit → St → ι → Prop
  | .exit id', σ, g => if id' = id then Q .normal σ g else Q (.exit id') σ g
  | e, σ, g => Q e σ g
theorem EvY.block {id : Nat} {c : Code} (h : EvY P S0 J c σ g (inBlockY id Q)) : EvY P S0 J (.block id c) σ g Q := by
  intro C E X a Z hi hr; refine wp_block (wp_mono (h C E X a Z hi hr) ?_); rintro e a' w' ⟨C', E', X', σ', g', Z', rfl, h2, h3, h4⟩
  cases e <;> simp only [Exit.inBlock, inBlockY] at h4 ⊢
  case exit id' =>
    split
    · rename_i e
      simp only [e, if_true] at h4; exact ⟨C', E', X', σ', g', Z', rfl, h2, h3, h4⟩
    · rename_i e
      simp only [e, if_false] at h4; exact ⟨C', E', X', σ', g', Z', rfl, h2, h3, h4⟩
  all_goals exact ⟨C', E', X', σ', g', Z', rfl, h2, h3, h4⟩
def roundY {κ : Type} (I : κ → St) (G : κ → ι) (μ : κ → Nat) (x : κ) (Q : Exit → St → ι → Prop) : Exit → St → ι → Prop
  | .normal, σ', g' => ∃ y, μ y < μ x ∧ Wk σ' (I y) ∧ g' = G y
  | e, σ', g' => Q e σ' g'
theorem EvY.loop {c : Code} {κ : Type} (I : κ → St) (G : κ → ι) (μ : κ → Nat) (x0 : κ) (hg : g = G x0) (h0 : Wk σ (I x0)) (round : ∀ x, EvY P S0 J c (I x) (G x) (roundY I G μ x Q)) : EvY P S0 J (.loop c) σ g Q := by
  intro C E X a Z hi hr
  have key : ∀ n x C E X a Z, μ x < n → InY S0 J C (G x) Z → Rel C E X (I x) a →
      Code.rounds P c (fun e a' w' => ∃ C' E' X' σ' g' Z', E'.w = w' ∧ InY S0 J C' g' Z' ∧ Rel C' E' X' σ' a' ∧ Q e σ' g') n a E.w := by
    intro n
    induction n with
    | zero => intro x C E X a Z h; omega
    | succ n ih =>
      intro x C E X a Z h hi hr; rw [rounds_succ]; refine wp_mono (round x C E X a Z hi hr) ?_; rintro e a' w' ⟨C', E', X', σ', g', Z', rfl, h2, h3, h4⟩
      cases e <;> simp only [Exit.then, roundY] at h4 ⊢
      case normal =>
        obtain ⟨y, hy, hw, rfl⟩ := h4; obtain ⟨E'', X'', e, hr'⟩ := hw C' E' X' a' h3; rw [← e]; exact ih y C' E'' X'' a' Z' (by omega) h2 hr'
      all_goals exact ⟨C', E', X', σ', g', Z', rfl, h2, h3, h4⟩
  obtain ⟨E', X', e, hr'⟩ := h0 C E X a hr; have := key (μ x0 + 1) x0 C E' X' a Z (by omega) (hg ▸ hi) hr'; rw [← e]; exact wp_loop_rounds _ this
end
def SeqR {α : Type} (P : Program) (gf : Nat) (caps : List AV) (objs : List (Nat × Obj)) (k : Nat) (encs : α → Array Value) (S Sp : List α → Prop) (N : List α → α → Prop) : Prop :=
  Bodied P gf ∧ ∀ (E : Env) (X : Nat → List Value) (lb : List Value), Entry E X objs k → FVs E caps lb → SeqZ P gf lb.toArray encs S Sp N (ownOf E objs) E.S E.w
theorem SeqR.of_body {α : Type} {P : Program} {gf : FuncId} {fn : Func} {c : Code} {caps : List AV} {objs : List (Nat × Obj)} {k : Nat} {N : List α → α → Prop} {encs : α → Array Value} {S Sp : List α → Prop}
    (hf : P.funcs[gf]? = some fn) (hb : fn.body = some c) (hnm : (fn.name == "runtime.NumGoroutine") = false) (hrs : fn.results = #[]) (hn : caps.length + 1 ≤ fn.ntmps)
    (h : ∀ l S0 (J : Bool × List α → (Nat → Prop) → World → Prop), Rnd P l encs N S0 J → EvY P S0 J c ⟨argSlots 0 (.lit (.func (.yield l) #[] #[]) :: caps), objs, k, fn.ntmps, k⟩ (true, []) (fun e σ' g' => (e = .normal ∨ e = .ret) ∧ (g'.1 = true → S g'.2) ∧ (g'.1 = false → Sp g'.2))) :
    SeqR P gf caps objs k encs S Sp N := by
  refine ⟨⟨fn, hf, by simp [hb], hnm⟩, fun E X lb hE hx => ?_⟩; intro l J Jx W hW hJ hJx hround hJ0
  obtain ⟨J', hJ'⟩ : ∃ J' : Bool × List α → (Nat → Prop) → World → Prop, J' = fun g => match g.1 with | true => J g.2 | false => Jx g.2 := ⟨_, rfl⟩
  have hR : Rnd P l encs N E.S J' := by
    subst hJ'; refine ⟨fun g Z A B h1 h2 => ?_, fun pre Z x A h1 h2 => ?_⟩
    · rcases g with ⟨b, pre⟩
      cases b
      · exact hJx pre Z A B h1 h2
      · exact hJ pre Z A B h1 h2
    · exact hround pre Z x A h1 h2
  have hxl := hx.length; have hle : E.le { E with w := W } := ⟨fun b hb => ⟨hb, hW.block b (hE.stay b hb).1 fun h => h (.inr hb)⟩, fun r hr => ⟨hr, rfl, rfl⟩⟩; have hown : ∀ r o b, find objs r = some o → blockOf (E.H r) = some b → W.heap[b]? = E.w.heap[b]? := fun r o b h1 h2 => hW.block b ((hE.objs r o h1).2.2.1.lt h2) fun h => h (.inl ⟨r, o, h1, h2⟩)
  have hrel : Rel (ctxOf { E with w := W } objs k) { E with w := W } X ⟨argSlots 0 (.lit (.func (.yield l) #[] #[]) :: caps), objs, k, fn.ntmps, k⟩ { tmps := (#[Value.func (Fn.yield l) #[] #[]] ++ lb.toArray) ++ Array.replicate (fn.ntmps - (#[Value.func (Fn.yield l) #[] #[]] ++ lb.toArray).size) undef, defers := [] } := by
    have hxx : FVs { E with w := W } (.lit (.func (.yield l) #[] #[]) :: caps) (Value.func (Fn.yield l) #[] #[] :: lb) := ⟨_, _, rfl, by simp [FV], FVs.le _ hle _ hx⟩; refine ⟨?_, ?_, rfl, ?_, hE.apart, ?_, ?_, Keep.refl _ _, ?_, ?_, ?_, fun b hb => hb, fun b hb => .inl hb, rfl, hE.glob.le hle⟩
    · intro s v hv; obtain ⟨_, h2⟩ := find_argSlots _ 0 s v hv; simp only [Nat.sub_zero] at h2; obtain ⟨y, hy, hfv⟩ := hxx.get h2
      have e0 : (#[Value.func (Fn.yield l) #[] #[]] ++ lb.toArray : Array Value) = (Value.func (Fn.yield l) #[] #[] :: lb).toArray := by simp
      rw [e0]
      generalize (Value.func (Fn.yield l) #[] #[] :: lb) = xs at hy ⊢
      have hlt : s < xs.length := (List.getElem?_eq_some_iff.1 hy).1
      have : (xs.toArray ++ Array.replicate (fn.ntmps - xs.toArray.size) undef).getD s undef = y := by
        have e : (xs.toArray ++ Array.replicate (fn.ntmps - xs.toArray.size) undef)[s]? = some y := by
          rw [Array.getElem?_append_left (by simpa using hlt)]
          simpa using hy
        rw [Array.getD_eq_getD_getElem?, e]; rfl
      rw [this]; exact hfv
    · simp [hxl]; omega
    · intro r o hr; obtain ⟨h1, h2, h3, h4⟩ := hE.objs r o hr; exact ⟨(hE.dom r).2 h1, h2, h3.kept fun b hb => hown r o b hr hb, FVr.le _ _ (hle.by _) _ h4⟩
    · intro b hb; exact ⟨Nat.lt_of_lt_of_le (hE.stay b hb).1 hW.size, (hE.stay b hb).2⟩
    · intro r hr; exact (hE.dom r).1 hr
    · intro r o b hr hb; exact .inl ⟨r, o, hr, hb⟩
    · intro r hr; exact ⟨rfl, rfl⟩
    · intro r hr; exact (hE.dom r).2 hr
  have hin : InY E.S J' (ctxOf { E with w := W } objs k) (true, []) (ownOf E objs) := ⟨rfl, fun b hb => hb, fun b hb => .inr hb, by subst hJ'; exact hJ0⟩; refine calls_of_wp hf hb (wp_mono (h l E.S J' hR _ _ X _ _ hin hrel) ?_); rintro e a' w' ⟨C', E', X', σ', g', Z', rfl, h2, h3, h4, h5, h6⟩; have hd : a'.defers = [] := h3.defers.trans h2.dfr
  have hres : ∃ y, (results fn a'.tmps).run P E'.w = .ok y E'.w := by
    refine ⟨.tuple #[], ?_⟩
    unfold results
    simp [hrs]
  have hj := hR.step _ _ _ _ h2.j (h3.kept.mono h2.own)
  have fin : (∃ v, Ending.returned (.tuple #[]) = .returned v) ∧ ((∃ xs Z, S xs ∧ J xs Z E'.w) ∨ (∃ pre Z, Sp pre ∧ Jx pre Z E'.w)) := by
    refine ⟨⟨_, rfl⟩, ?_⟩; subst hJ'
    rcases g' with ⟨b, pre⟩
    cases b
    · exact .inr ⟨pre, _, h6 rfl, hj⟩
    · exact .inl ⟨pre, _, h5 rfl, hj⟩
  have hr2 : (results fn a'.tmps).run P E'.w = .ok (.tuple #[]) E'.w := by
    unfold results
    simp [hrs]
  rcases h4 with rfl | rfl
  · exact ⟨hd, _, hr2, fin⟩
  · exact ⟨hd, _, hr2, fin⟩
def stays (K : Nat) (s0 : List (Nat × AV)) : Prop := ∀ k v, find s0 k = some v → renAV (fun r => if r < K then some r else none) v = some v
theorem stays.nil (K : Nat) : stays K [] := fun k v h => by simp [find] at h
theorem stays.c {K k : Nat} {v : AV} {s : List (Nat × AV)} (h : stays K s) (hv : renAV (fun r => if r < K then some r else none) v = some v) : stays K ((k, v) :: s) := fun k' v' hf => by
  rw [find_cons] at hf
  split at hf
  · cases hf; exact hv
  · exact h k' v' hf
structure RI (C : Ctx) (s0 : List (Nat × AV)) (o : List (Nat × Obj)) (n nt : Nat) (S0 : Nat → Prop) (a : Act) (Z : Nat → Prop) (E : Env) (X : Nat → List Value) : Prop where
  rel : Rel C E X ⟨s0, o, n, nt, 0⟩ a
  S0 : ∀ b, S0 b → E.S b
  lt : ∀ b, Z b → b < E.w.heap.size
  new : ∀ b, Z b → C.w0.heap.size ≤ b
  fr : ∀ b, Z b → ¬ E.S b
  ob : ∀ b, Z b → ∀ r p, find o r = some p → blockOf (E.H r) ≠ some b
section
variable {C : Ctx} {s0 : List (Nat × AV)} {o : List (Nat × Obj)} {n nt : Nat} {S0 : Nat → Prop} {a : Act} {Z : Nat → Prop} {E : Env} {X : Nat → List Value}
theorem RI.step (h : RI C s0 o n nt S0 a Z E X) {B : World} (hk : Keep Z E.w B) : RI C s0 o n nt S0 a (addZ Z E.w B) { E with w := B } X := by
  have hsz := h.rel.kept.size; refine ⟨h.rel.other hk fun b hb => ⟨h.new b hb, h.fr b hb, h.ob b hb⟩, h.S0, fun b hb => ?_, fun b hb => ?_, fun b hb => ?_, fun b hb r p hr => ?_⟩
  · rcases hb with hb | hb
    · exact Nat.lt_of_lt_of_le (h.lt b hb) hk.size
    · exact hb.2
  · rcases hb with hb | hb
    · exact h.new b hb
    · exact Nat.le_trans hsz hb.1
  · rcases hb with hb | hb
    · exact h.fr b hb
    · intro hs; have := (h.rel.stay b hs).1; omega
  · rcases hb with hb | hb
    · exact h.ob b hb r p hr
    · intro e; have := (h.rel.objs r p hr).2.2.1.lt e; omega
theorem RI.mono (h : RI C s0 o n nt S0 a Z E X) {Z' : Nat → Prop} (hz : ∀ b, Z' b → Z b) : RI C s0 o n nt S0 a Z' E X :=
  ⟨h.rel, h.S0, fun b hb => h.lt b (hz b hb), fun b hb => h.new b (hz b hb), fun b hb => h.fr b (hz b hb), fun b hb => h.ob b (hz b hb)⟩
def ctxR (E : Env) (o : List (Nat × Obj)) (K : Nat) : Ctx := ctxOf E o K
theorem RI.enter (h : RI C s0 o n nt S0 a Z E X) {K p d : Nat} (hK : ∀ r, r < K → ∃ q, find o r = some q) (v : Value) (hp : p < nt) (hd : d < nt) :
    Rel (ctxR E o K) E X ⟨(d, .lit v) :: (p, .lit v) :: s0, o, n, nt, K⟩ { tmps := (a.tmps.setIfInBounds p v).setIfInBounds d v, defers := [] } := by
  have hr := h.rel
  have h0 : Rel (ctxR E o K) E X ⟨s0, o, n, nt, K⟩ { tmps := a.tmps, defers := [] } :=
    ⟨hr.slots, hr.size, rfl, hr.objs, hr.apart, hr.stay, hr.fresh, Keep.refl _ _, fun r q b h1 h2 => .inl ⟨r, q, h1, h2⟩, fun r _ => ⟨rfl, rfl⟩, fun r hk => by
      obtain ⟨q, hq⟩ := hK r hk
      exact (hr.objs r q hq).1, fun b hb => hb, fun b hb => .inl hb, rfl, hr.glob⟩
  have h1 := h0.put (some p) (fun d' e => by cases e; exact hp) (v := .lit v) (y := v) (by simp [FV]); exact h1.put (some d) (fun d' e => by cases e; exact hd) (v := .lit v) (y := v) (by simp [FV])
theorem RI.leave (h : RI C s0 o n nt S0 a Z E X) {K : Nat} (hs : stays K s0) {E' : Env} {X' : Nat → List Value} {o' : List (Nat × Obj)} {n' : Nat} {a' : Act} (hn : n' ≤ n)
    (h' : Rel (ctxR E o K) E' X' ⟨[], o', n', nt, K⟩ a') : RI C s0 o' n nt S0 a Z E' X' ∧ Keep (fun b => ¬ (Z b ∨ S0 b)) E.w E'.w := by
  have hr := h.rel; have hsz := hr.kept.size; have hown : ∀ b, ownOf E o b → C.own b ∨ C.w0.heap.size ≤ b := fun b ⟨r, q, h1, h2⟩ => hr.mine r q b h1 h2; have hoZ : ∀ b, ownOf E o b → ¬ Z b := fun b ⟨r, q, h1, h2⟩ hz => h.ob b hz r q h1 h2; have hoS : ∀ b, ownOf E o b → ¬ E.S b := fun b ⟨r, q, h1, h2⟩ hz => (hr.stay b hz).2 r q h1 h2; have hCk : C.k = 0 := hr.envk
  have hren : E.ren (fun r => if r < K then some r else none) E' := by
    refine ⟨fun b hb => ⟨h'.base b hb, h'.kept.block b (hr.stay b hb).1 fun ho => hoS b ho hb⟩, fun r r' hD hp => ?_⟩
    split at hp
    · rename_i hlt
      cases hp
      exact ⟨h'.envD r hlt, (h'.env r hlt).1, (h'.env r hlt).2⟩
    · cases hp
  refine ⟨⟨⟨fun k v hv => FV.ren hren (hs k v hv) (hr.slots k v hv), hr.size, hr.defers, h'.objs, h'.apart, h'.stay, fun r hD => Nat.lt_of_lt_of_le (h'.fresh r hD) hn,
      ⟨h'.kept.os.trans hr.kept.os, hr.kept.tape.trans h'.kept.tape, h'.kept.output.trans hr.kept.output, Nat.le_trans hsz h'.kept.size, fun b hb hno => ?_⟩, fun r q b h1 h2 => ?_, fun r hk => ?_, fun r hk => ?_, fun b hb => h'.base b (hr.base b hb), fun b hb => ?_, hCk, h'.glob⟩,
    fun b hb => h'.base b (h.S0 b hb), fun b hb => Nat.lt_of_lt_of_le (h.lt b hb) h'.kept.size, h.new, fun b hb hS => ?_, fun b hb r q h1 h2 => ?_⟩, h'.kept.mono fun b hb hz => ?_⟩
  · refine (h'.kept.block b (Nat.lt_of_lt_of_le hb hsz) fun ho => ?_).trans (hr.kept.block b hb hno)
    rcases hown b ho with h1 | h1
    · exact hno h1
    · omega
  · rcases h'.mine r q b h1 h2 with h3 | h3
    · exact hown b h3
    · exact .inr (Nat.le_trans hsz h3)
  · rw [hCk] at hk; exact absurd hk (Nat.not_lt_zero _)
  · rw [hCk] at hk; exact absurd hk (Nat.not_lt_zero _)
  · rcases h'.grow b hb with h3 | h3 | h3
    · exact hr.grow b h3
    · exact .inr (.inl (Nat.le_trans hsz h3))
    · rcases hown b h3 with h4 | h4
      · exact .inr (.inr h4)
      · exact .inr (.inl h4)
  · rcases h'.grow b hS with h3 | h3 | h3
    · exact h.fr b hb h3
    · have h4 : E.w.heap.size ≤ b := h3; have := h.lt b hb; omega
    · exact hoZ b h3 hb
  · rcases h'.mine r q b h1 h2 with h3 | h3
    · exact hoZ b h3 hb
    · have h4 : E.w.heap.size ≤ b := h3; have := h.lt b hb; omega
  · rcases hz with hz | hz
    · exact hoZ b hb hz
    · exact hoS b hb (h.S0 b hz)
theorem RI.after {P : Program} {c2 : Code} {Q : Exit → St → Prop} (h : RI C s0 o n nt S0 a Z E X) (hC : TopC C) {D : Nat} (hD : Z D) (hat : E.w.heap[D]? = some (.deferred (some []))) (h2 : Ev P c2 ⟨s0, o, n, nt, 0⟩ Q) :
    c2.wp P (fun e a' w' => ∃ E' X' σ', E'.w = w' ∧ Rel C E' X' σ' { a' with defers := [] } ∧ (a'.defers = [] ∨ ∃ D, a'.defers = [{ target := .collected D, args := #[] }] ∧ Mark C E' σ' D) ∧ Q e σ') { a with defers := { target := .collected D, args := #[] } :: a.defers } E.w := by
  have hr := h.rel; have had : a.defers = [] := hr.defers.trans hC.dfr; have hb := hr.rebase
  have hr2 : Rel { C.at E ⟨s0, o, n, nt, 0⟩ with dfr := [{ target := .collected D, args := #[] }] } E X ⟨s0, o, n, nt, 0⟩ { a with defers := { target := .collected D, args := #[] } :: a.defers } :=
    ⟨hb.slots, hb.size, by simp [had], hb.objs, hb.apart, hb.stay, hb.fresh, hb.kept, hb.mine, hb.env, hb.envD, hb.base, hb.grow, hb.envk, hb.glob⟩
  refine wp_mono (h2 _ E X _ hr2) ?_; rintro e a' w' ⟨E', X', σ', rfl, h3, h4⟩
  have h5 : Rel (C.at E ⟨s0, o, n, nt, 0⟩) E' X' σ' { a' with defers := [] } :=
    ⟨h3.slots, h3.size, hC.dfr.symm, h3.objs, h3.apart, h3.stay, h3.fresh, h3.kept, h3.mine, h3.env, h3.envD, h3.base, h3.grow, h3.envk, h3.glob⟩
  have hDo : ¬ (∃ r q, find o r = some q ∧ blockOf (E.H r) = some D) := fun ⟨r, q, h1, h2⟩ => h.ob D hD r q h1 h2; have hlt := h.lt D hD; refine ⟨E', X', σ', rfl, hr.unbase h5, .inr ⟨D, h3.defers, h.new D hD, fun hS => ?_, fun r q h1 h2 => ?_, (h3.kept.block D hlt hDo).trans hat⟩, h4⟩
  · rcases h3.grow D hS with h6 | h6 | h6
    · exact h.fr D hD h6
    · have h7 : E.w.heap.size ≤ D := h6; omega
    · exact hDo h6
  · rcases h3.mine r q D h1 h2 with h6 | h6
    · exact hDo h6
    · have h7 : E.w.heap.size ≤ D := h6; omega
end
def QQ (C : Ctx) (Q : Exit → St → Prop) (e : Exit) (a' : Act) (w' : World) : Prop := ∃ E' X' σ', E'.w = w' ∧ Rel C E' X' σ' { a' with defers := [] } ∧ (a'.defers = [] ∨ ∃ D, a'.defers = [{ target := .collected D, args := #[] }] ∧ Mark C E' σ' D) ∧ Q e σ'
def EvB (P : Program) (c c2 : Code) (σ : St) (Q : Exit → St → Prop) : Prop := ∀ C E X a, TopC C → Rel C E X σ a → c.wp P (Exit.then (c2.wp P (QQ C Q)) (QQ C Q)) a E.w
theorem EvT.ofB {P : Program} {c c2 : Code} {σ : St} {Q : Exit → St → Prop} (h : EvB P c c2 σ Q) : EvT P (.seq c c2) σ Q := fun C E X a hC hr => wp_seq (h C E X a hC hr)
theorem EvB.seqE {P : Program} {x y c2 : Code} {σ : St} {Q : Exit → St → Prop} (h : Ev P x σ (thenP (fun σ' => EvB P y c2 σ' Q) Q)) : EvB P (.seq x y) c2 σ Q := by
  intro C E X a hC hr; refine wp_seq (wp_mono (h C E X a hr) ?_); rintro e a' w' ⟨E', X', σ', rfl, h2, h3⟩; have hd : a'.defers = [] := h2.defers.trans hC.dfr
  cases e <;> simp only [Exit.then, thenP] at h3 ⊢
  case normal => exact h3 C E' X' a' hC h2
  all_goals exact ⟨E', X', σ', rfl, by rw [act_nil hd]; exact h2, .inl hd, h3⟩
theorem EvB.weaken {P : Program} {c c2 : Code} {σ σ' : St} {Q : Exit → St → Prop} (hw : Wk σ σ') (h : EvB P c c2 σ' Q) : EvB P c c2 σ Q := by
  intro C E X a hC hr; obtain ⟨E', X', e, hr'⟩ := hw C E X a hr; rw [← e]; exact h C E' X' a hC hr'
def roundQ {α : Type} (O : List α → List (Nat × Obj)) (QX : List α → List (Nat × Obj) → Prop) (n nt K : Nat) (xs : List α) : Exit → St → Prop
  | .normal, σ' => ∃ n', n' ≤ n ∧ Wk σ' ⟨[], O xs, n', nt, K⟩
  | .ret, σ' => ∃ n' o', n' ≤ n ∧ Wk σ' ⟨[], o', n', nt, K⟩ ∧ QX xs o'
  | _, _ => False
theorem Wk.renR (ks : List Nat) {σ σ' : St} (hnd : ks.Nodup) (hs : slotsRen (pos ks 0) σ σ'.slots) (ho : keepR σ (pos ks 0) σ.env 0 ks = some σ'.objs) (hn : σ'.next = ks.length) (ht : σ'.nt = σ.nt) (he : σ'.env = σ.env)
    (hk : ∀ i, i < σ.env → ks[i]? = some i) : Wk σ σ' := by
  intro C E X a hr
  let E'' : Env := { w := E.w, H := fun r' => match ks[r']? with | some k => E.H k | none => undef, Z := fun r' => match ks[r']? with | some k => E.Z k | none => 0, D := fun r' => ∃ k, ks[r']? = some k ∧ E.D k, S := E.S }
  have hren : E.ren (pos ks 0) E'' := by
    refine ⟨fun b hb => ⟨hb, rfl⟩, fun r r' hD hp => ?_⟩; obtain ⟨_, h2⟩ := pos_spec ks 0 r r' hp; simp only [Nat.sub_zero] at h2; exact ⟨⟨r, h2, hD⟩, by simp [E'', h2], by simp [E'', h2]⟩
  refine ⟨E'', fun r' => match ks[r']? with | some k => X k | none => [], rfl, ⟨?_, hr.size.trans ht.symm, hr.defers, ?_, ?_, ?_, ?_, hr.kept, ?_, ?_, ?_, hr.base, hr.grow, hr.envk.trans he.symm, hr.glob⟩⟩
  · intro s v hv; exact FV.ren hren (slotsRen_spec hs s v hv) (hr.ev (.tmp s))
  · intro r o hro; obtain ⟨k, o1, _, hkk, hk2, hk3⟩ := keepR_spec ks 0 _ ho r o hro; simp only [Nat.sub_zero] at hkk; obtain ⟨g1, g2, g3, g4⟩ := hr.objs k o1 hk2; have hsp := renObj_spec hk3; refine ⟨⟨k, hkk, g1⟩, by simp [E'', hkk, g2, hsp.2.2.1], ?_, ?_⟩
    · simp only [E'', hkk]; exact g3.ren hk3
    · simp only [hkk]; exact FVr.renObj hk3 hren g4
  · intro r r' o o' b hro hro' hb hb'; obtain ⟨k, o1, _, hkk, hk2, hk3⟩ := keepR_spec ks 0 _ ho r o hro; obtain ⟨k', o1', _, hkk', hk2', hk3'⟩ := keepR_spec ks 0 _ ho r' o' hro'; simp only [Nat.sub_zero] at hkk hkk'; simp only [E'', hkk] at hb; simp only [E'', hkk'] at hb'; have := hr.apart k k' o1 o1' b hk2 hk2' hb hb'; subst this; obtain ⟨hl, he⟩ := List.getElem?_eq_some_iff.1 hkk; obtain ⟨hl', he'⟩ := List.getElem?_eq_some_iff.1 hkk'; exact (List.getElem_inj hnd).1 (he.trans he'.symm)
  · intro b hb; obtain ⟨h1, h2⟩ := hr.stay b hb; refine ⟨h1, fun r o hro e => ?_⟩; obtain ⟨k, o1, _, hkk, hk2, hk3⟩ := keepR_spec ks 0 _ ho r o hro; simp only [Nat.sub_zero] at hkk; simp only [E'', hkk] at e; exact h2 k o1 hk2 e
  · rintro r ⟨k, hkk, _⟩; rw [hn]; exact (List.getElem?_eq_some_iff.1 hkk).1
  · intro r o b hro hb; obtain ⟨k, o1, _, hkk, hk2, hk3⟩ := keepR_spec ks 0 _ ho r o hro; simp only [Nat.sub_zero] at hkk; simp only [E'', hkk] at hb; exact hr.mine k o1 b hk2 hb
  · intro r hkr; have := hk r (by rw [← hr.envk]; exact hkr); simp only [E'', this]; exact hr.env r hkr
  · intro r hkr; exact ⟨r, hk r (by rw [← hr.envk]; exact hkr), hr.envD r hkr⟩
section control
variable {P : Program} {s : List (Nat × AV)} {b : List (Nat × Obj)} {n t e : Nat} {Q : Exit → St → Prop}
theorem kR_n {σ : St} {ρ : Nat → Option Nat} {k i : Nat} : keepR σ ρ k i [] = some [] := rfl
theorem kR_c {σ : St} {ρ : Nat → Option Nat} {k i j : Nat} {ks : List Nat} {slc : Bool} {el sz : Nat} {rows rows' : List (List AV)} {l : List (Nat × Obj)} (ho : find σ.objs j = some ⟨slc, el, sz, rows, true⟩ := by exact rfl) (he : rows = rows') (h : keepR σ ρ k (i + 1) ks = some l) :
    keepR σ ρ k i (j :: ks) = some ((i, ⟨slc, el, sz, rows', true⟩) :: l) := by
  subst he; simp only [keepR, ho, renObj, h]
end control
theorem EvY.skip {ι : Type} {P : Program} {S0 : Nat → Prop} {J : ι → (Nat → Prop) → World → Prop} {σ : St} {g : ι} {Q : Exit → St → ι → Prop} (h : Q .normal σ g) : EvY P S0 J .skip σ g Q := EvY.plain (Ev.skip h)
theorem EvY.exit {ι : Type} {P : Program} {S0 : Nat → Prop} {J : ι → (Nat → Prop) → World → Prop} {σ : St} {g : ι} {Q : Exit → St → ι → Prop} {id : Nat} (h : Q (.exit id) σ g) : EvY P S0 J (.exit id) σ g Q := EvY.plain (Ev.exit h)
theorem EvY.ret {ι : Type} {P : Program} {S0 : Nat → Prop} {J : ι → (Nat → Prop) → World → Prop} {σ : St} {g : ι} {Q : Exit → St → ι → Prop} (h : Q .ret σ g) : EvY P S0 J .ret σ g Q := EvY.plain (Ev.ret h)
section
variable {ι : Type} {P : Program} {S0 : Nat → Prop} {J : ι → (Nat → Prop) → World → Prop} {g : ι} {s : List (Nat × AV)} {b : List (Nat × Obj)} {n t e : Nat} {Q : Exit → St → ι → Prop}
theorem EvY.c {c : Operand} {x y : Code} {bb : Bool} (ht : bb = true → EvY P S0 J x ⟨s, b, n, t, e⟩ g Q) (hf : bb = false → EvY P S0 J y ⟨s, b, n, t, e⟩ g Q) (hc : opv s c = some (.lit (.bool bb)) := by exact rfl) : EvY P S0 J (.cond c x y) ⟨s, b, n, t, e⟩ g Q := EvY.cond (opv_ev hc) ht hf
theorem EvY.cd {c : Operand} {x y : Code} {p : Prop} [Decidable p] (ht : p → EvY P S0 J x ⟨s, b, n, t, e⟩ g Q) (hf : ¬ p → EvY P S0 J y ⟨s, b, n, t, e⟩ g Q) (hc : opv s c = some (.lit (.bool (decide p))) := by exact rfl) : EvY P S0 J (.cond c x y) ⟨s, b, n, t, e⟩ g Q := EvY.c (fun h => ht (of_decide_eq_true h)) (fun h => hf (of_decide_eq_false h)) hc
theorem EvY.cn {c : Operand} {x y : Code} {p : Prop} [Decidable p] (ht : ¬ p → EvY P S0 J x ⟨s, b, n, t, e⟩ g Q) (hf : p → EvY P S0 J y ⟨s, b, n, t, e⟩ g Q) (hc : opv s c = some (.lit (.bool (!decide p))) := by exact rfl) : EvY P S0 J (.cond c x y) ⟨s, b, n, t, e⟩ g Q := EvY.c (fun h => ht (by simpa using h)) (fun h => hf (by simpa using h)) hc
theorem EvY.ct {c : Operand} {x y : Code} (h : EvY P S0 J x ⟨s, b, n, t, e⟩ g Q) (hc : opv s c = some (.lit (.bool true)) := by exact rfl) : EvY P S0 J (.cond c x y) ⟨s, b, n, t, e⟩ g Q := EvY.cond (opv_ev hc) (fun _ => h) (fun h => by cases h)
theorem EvY.cf {c : Operand} {x y : Code} (h : EvY P S0 J y ⟨s, b, n, t, e⟩ g Q) (hc : opv s c = some (.lit (.bool false)) := by exact rfl) : EvY P S0 J (.cond c x y) ⟨s, b, n, t, e⟩ g Q := EvY.cond (opv_ev hc) (fun h => by cases h) (fun _ => h)
theorem EvY.sr {σ : St} {id : Nat} {l : List Oper} {y : Code} (h : ∀ K : St → Prop, (∀ σ', EvY P S0 J y σ' g Q → K σ') → SeqL P ⟨l⟩ l σ K) : EvY P S0 J (.seq (.region id ⟨l⟩ false) y) σ g Q := EvY.seqE (Ev.region_S fun K hK => h K fun σ' h' => hK σ' h')
theorem EvY.sm {id : Nat} {l : List Oper} {y : Code} (T : List (List Bool)) (K : Nat) (h : ∀ Kt : St → Prop, (∀ σ', EvY P S0 J y σ' g Q → Kt σ') → DM P l T (n + 4 * K) (endD P l (n + 4 * K) Kt) l K 0 ⟨s, b, n, t, e⟩ []) (hm : P.follows .mixedOrders = true := by exact rfl) (hok : drawOk l T ⟨s, b, n, t, e⟩ K = true := by exact rfl)
    (hch : readsChkM l T K = true := by exact rfl) (hTl : Nat.ble K T.length = true := by exact rfl) (hkb : keysLt n b = true := by exact rfl) : EvY P S0 J (.seq (.region id ⟨l⟩ true) y) ⟨s, b, n, t, e⟩ g Q := EvY.seqE (Ev.region_M T K (fun Kt hK => h Kt fun σ' h' => hK σ' h') hm hok hch hTl hkb)
theorem EvY.region_S {σ : St} {id : Nat} {l : List Oper} (h : ∀ K : St → Prop, (∀ σ', Q .normal σ' g → K σ') → SeqL P ⟨l⟩ l σ K) : EvY P S0 J (.region id ⟨l⟩ false) σ g Q := EvY.plain (Ev.region_S h)
theorem EvY.loopU {c : Code} {κ : Type} (G : κ → ι) (rs : List Nat) (ks : List Nat) {kept : List (Nat × AV)} (U : κ → List (Nat × AV)) (O : κ → List (Nat × Obj)) (μ : κ → Nat) (x0 : κ) (hk : Kept (pos rs 0) s ks kept) (hO : keepObjs ⟨s, b, n, t, e⟩ (pos rs 0) 0 rs = some (O x0)) (hU : slotsRen (pos rs 0) ⟨s, b, n, t, e⟩ (U x0)) (hg : g = G x0)
    (round : ∀ x (R : Exit → St → ι → Prop), (∀ e' σ' g', roundY (fun x => ⟨U x ++ kept, O x, rs.length, t, e⟩) G μ x Q e' σ' g' → R e' σ' g') → EvY P S0 J c ⟨U x ++ kept, O x, rs.length, t, e⟩ (G x) R) (hnd : rs.Nodup := by decide) (hl : ∀ i, i < e → rs[i]? = some i := by decide) : EvY P S0 J (.loop c) ⟨s, b, n, t, e⟩ g Q :=
  EvY.loop (fun x => ⟨U x ++ kept, O x, rs.length, t, e⟩) G μ x0 hg (Wk.ren rs hnd (slotsRen_append hU hk.ren) hO rfl rfl rfl hl) fun x => round x _ fun _ _ _ h => h
theorem roundYU {κ : Type} {G : κ → ι} {U : κ → List (Nat × AV)} {kept : List (Nat × AV)} {O : κ → List (Nat × Obj)} {μ : κ → Nat} {x : κ} (rs ks : List Nat) {m : Nat} (y : κ) (hμ : μ y < μ x) (hO : keepObjs ⟨s, b, n, t, e⟩ (pos rs 0) 0 rs = some (O y)) (hU : slotsRen (pos rs 0) ⟨s, b, n, t, e⟩ (U y)) (hk : Kept (pos rs 0) s ks kept) (hg : g = G y) (hm : rs.length = m := by exact rfl)
    (hnd : rs.Nodup := by decide) (hl : ∀ i, i < e → rs[i]? = some i := by decide) : roundY (fun x => ⟨U x ++ kept, O x, m, t, e⟩) G μ x Q .normal ⟨s, b, n, t, e⟩ g :=
  ⟨y, hμ, Wk.ren rs hnd (slotsRen_append hU hk.ren) hO hm.symm rfl rfl hl, hg⟩
end
section
variable {P : Program} {s : List (Nat × AV)} {b : List (Nat × Obj)} {n t e : Nat} {Q : Exit → St → Prop}
theorem EvT.sr {σ : St} {id : Nat} {l : List Oper} {y : Code} (h : ∀ K : St → Prop, (∀ σ', EvT P y σ' Q → K σ') → SeqL P ⟨l⟩ l σ K) : EvT P (.seq (.region id ⟨l⟩ false) y) σ Q := EvT.split (Ev.region_S fun K hK => h K fun σ' h' => hK σ' h')
theorem EvB.sr {σ : St} {id : Nat} {l : List Oper} {y c2 : Code} (h : ∀ K : St → Prop, (∀ σ', EvB P y c2 σ' Q → K σ') → SeqL P ⟨l⟩ l σ K) : EvB P (.seq (.region id ⟨l⟩ false) y) c2 σ Q := EvB.seqE (Ev.region_S fun K hK => h K fun σ' h' => hK σ' h')
end
section
variable {P : Program} {l0 n0 : Nat} {s : List (Nat × AV)} {b : List (Nat × Obj)} {n t e : Nat} {Q : Exit → St → Prop}
theorem EvI.region_S {σ : St} {id : Nat} {l : List Oper} (h : ∀ K : St → Prop, (∀ σ', Q .normal σ' → K σ') → SeqL P ⟨l⟩ l σ K) (hd : l.all noDefer = true := by exact rfl) : EvI P l0 n0 (.region id ⟨l⟩ false) σ Q := EvI.region hd (h _ fun _ h => h)
end
theorem wpL_to {P : Program} {ops : Array Oper} {n : Nat} {l2 : List Oper} {Q : Exit → Act → World → Prop} : ∀ (l1 : List Oper) (a : Act) (w : World), wpL P ops (fun e a w => e = .normal ∧ wpListIn Fence.wide n P ops Q l2 a w) l1 a w → wpListIn Fence.wide n P ops Q (l1 ++ l2) a w
  | [], a, w, h => by rw [wpL_nil] at h; exact h.2
  | o :: l1, a, w, h => by
    rw [wpL_cons] at h; simp only [List.cons_append, wpListIn]
    split at h
    · rename_i hw
      rw [if_pos hw]; refine ⟨fun _ _ => trivial, ?_⟩; have e : o.semAt Fence.wide.round a.eval = execOp a.eval o := rfl; rw [e]
      unfold Oper.wp at h
      generalize (execOp a.eval o).run P w = r at *
      cases r with
      | ok x w' =>
        cases x <;> simp only [Oper.upon, Oper.uponIn] at h ⊢
        case value u => exact wpL_to l1 _ _ h
        case skip => exact wpL_to l1 _ _ h
        case defer d => exact wpL_to l1 _ _ h
        case enter f args =>
          refine ⟨fun h0 => by simp [Fence.wide] at h0, callsIn_wide.2 (h.mono ?_)⟩; rintro e w'' h'
          cases e <;> simp only at h' ⊢
          · exact wpL_to l1 _ _ h'
          · exact absurd h'.1 (by simp)
          · obtain ⟨a0, w0, h0, _⟩ := h'
            cases h0
        case row row args =>
          refine ⟨fun h0 => by simp [Fence.wide] at h0, ?_⟩; intro c cs _; obtain ⟨v, w', r, s⟩ := h c cs; exact ⟨v, w', wpL_to l1 _ _ r, stepsIn_wide.2 s⟩
      | halt x w' =>
        cases x <;> simp only [Oper.upon, Oper.uponIn] at h ⊢
        case panic v => exact absurd h.1 (by simp)
    · rename_i hw
      rw [if_neg hw]; exact ⟨fun _ _ => trivial, wpL_to l1 _ _ h⟩
def yvC : List AV → Option (List Value)
  | [] => some []
  | .lit v :: l => (yvC l).map (v :: ·)
  | _ => none
def yvAV : AV → Option Value
  | .lit v => some v
  | .agg cs => (yvC cs).map fun l => .agg l.toArray
  | _ => none
def yvL : List AV → Option (List Value)
  | [] => some []
  | v :: l => match yvAV v, yvL l with
    | some y, some ys => some (y :: ys)
    | _, _ => none
theorem yvC_spec {E : Env} : ∀ {cs : List AV} {vs xs : List Value}, yvC cs = some vs → FVc E cs xs → xs = vs
  | [], vs, xs, h, hx => by
    simp only [yvC, Option.some.injEq] at h; subst h
    simpa [FVc] using hx
  | .lit v :: l, vs, xs, h, hx => by
    simp only [yvC, Option.map_eq_some_iff] at h; obtain ⟨ws, h1, rfl⟩ := h; simp only [FVc, FV] at hx; obtain ⟨y, ys, rfl, _, rfl, h2⟩ := hx; rw [yvC_spec h1 h2]
  | .top :: _, _, _, h, _ => by cases h
  | .agg _ :: _, _, _, h, _ => by cases h
  | .tup _ :: _, _, _, h, _ => by cases h
  | .sh _ _ :: _, _, _, h, _ => by cases h
  | .sadr _ _ :: _, _, _, h, _ => by cases h
  | .als _ _ _ :: _, _, _, h, _ => by cases h
  | .adr _ _ _ :: _, _, _, h, _ => by cases h
  | .fn _ _ _ :: _, _, _, h, _ => by cases h
  | .hd _ :: _, _, _, h, _ => by cases h
  | .shm _ _ :: _, _, _, h, _ => by cases h
  | .rem _ _ _ :: _, _, _, h, _ => by cases h
theorem yvAV_spec {E : Env} {v : AV} {y x : Value} (h : yvAV v = some y) (hx : FV E v x) : x = y := by
  cases v <;> simp only [yvAV] at h
  case lit v =>
    simp only [Option.some.injEq] at h; subst h
    simpa [FV] using hx
  case agg cs =>
    simp only [Option.map_eq_some_iff] at h; obtain ⟨vs, h1, rfl⟩ := h; simp only [FV] at hx; obtain ⟨xs, rfl, h2⟩ := hx; rw [← yvC_spec h1 h2]
  all_goals cases h
theorem yvL_spec {E : Env} : ∀ {cs : List AV} {vs xs : List Value}, yvL cs = some vs → FVs E cs xs → xs = vs
  | [], vs, xs, h, hx => by
    simp only [yvL, Option.some.injEq] at h; subst h
    simpa [FVs] using hx
  | c :: cs, vs, xs, h, hx => by
    simp only [yvL] at h
    split at h
    · rename_i y ys h1 h2
      simp only [Option.some.injEq] at h; subst h; simp only [FVs] at hx; obtain ⟨z, zs, rfl, g1, g2⟩ := hx; rw [yvAV_spec h1 g1, yvL_spec h2 g2]
    · cases h
def YP (P : Program) (ops : Array Oper) (l : Nat) (l2 : List Oper) (zs : List Operand) (y d : Nat) (v : Array Value) (R : Bool → St → Prop) (σ : St) : Prop :=
  σ.ev (.tmp y) = .lit (.func (.yield l) #[] #[]) ∧ (∃ vs : List Value, yvL (zs.map σ.ev) = some vs ∧ v = vs.toArray) ∧ d < σ.nt ∧
    SeqL P ops l2 (σ.put (some d) (.lit (.bool true))) (R true) ∧ SeqL P ops l2 (σ.put (some d) (.lit (.bool false))) (R false)
theorem EvY.yieldL {α : Type} {P : Program} {l : Nat} {N : List α → α → Prop} {encs : α → Array Value} {S0 : Nat → Prop} {J : Bool × List α → (Nat → Prop) → World → Prop} (hR : Rnd P l encs N S0 J) {σ0 : St} {pre : List α} {Q : Exit → St → Bool × List α → Prop}
    {id d y ty : Nat} {zs : List Operand} {ts : Array TypeId} {pos : String} {aft : Array Edge} {l2 : List Oper} (l1 : List Oper) (x : α) (hl : N pre x)
    (h : ∀ K : St → Prop, (∀ σ, YP P ⟨l1 ++ ⟨some d, .call { callee := .value (.tmp y), args := ⟨zs⟩, argTypes := ts }, ty, pos, aft, none⟩ :: l2⟩ l l2 zs y d (encs x) (fun b σ' => Q .normal σ' (b, pre ++ [x])) σ → K σ) → SeqL P ⟨l1 ++ ⟨some d, .call { callee := .value (.tmp y), args := ⟨zs⟩, argTypes := ts }, ty, pos, aft, none⟩ :: l2⟩ l1 σ0 K) :
    EvY P S0 J (.region id ⟨l1 ++ ⟨some d, .call { callee := .value (.tmp y), args := ⟨zs⟩, argTypes := ts }, ty, pos, aft, none⟩ :: l2⟩ false) σ0 (true, pre) Q := by
  intro C E0 X0 a0 Z hi hr0; refine (wpIn_wide (n := 1)).1 (wpIn_region_list (wpL_to l1 _ _ (h _ (fun _ h => h) C E0 X0 a0 hr0 _ ?_))); rintro E X σ a hr ⟨hy, hx, hd, ht, hf⟩; refine ⟨rfl, ?_⟩; have hk : Keep Z C.w0 E.w := hr.kept.mono hi.own; have hj := hR.step _ _ _ _ hi.j hk; obtain ⟨Z1, hZ1⟩ : ∃ Z1, addZ Z C.w0 E.w = Z1 := ⟨_, rfl⟩; rw [hZ1] at hj
  have hown : ∀ b, C.own b ∨ C.w0.heap.size ≤ b → b < E.w.heap.size → Z1 b := fun b hb hlt => by
    rw [← hZ1]
    rcases hb with hb | hb
    · exact .inl (hi.own b hb)
    · exact .inr ⟨hb, hlt⟩
  have hSZ : ∀ b, E.S b → Z1 b ∨ S0 b := fun b hb => by
    rcases hr.grow b hb with h | h | h
    · rcases hi.S0 b h with h | h
      · rw [← hZ1]; exact .inl (.inl h)
      · exact .inr h
    · exact .inl (hown b (.inr h) (hr.stay b hb).1)
    · exact .inl (hown b (.inl h) (hr.stay b hb).1)
  have hoZ : ∀ r o b, find σ.objs r = some o → blockOf (E.H r) = some b → Z1 b := fun r o b h1 h2 => hown b (hr.mine r o b h1 h2) ((hr.objs r o h1).2.2.1.lt h2); obtain ⟨fn, tmps, assign, body, hrun, hround⟩ := hR.round pre Z1 x E.w hj hl; have hyv := hr.ev (.tmp y); rw [hy] at hyv; simp only [FV] at hyv; obtain ⟨vs, hvs, hex⟩ := hx; have hargs : zs.map a.eval = vs := yvL_spec hvs (hr.evs zs)
  have fin : ∀ (b : Bool) (B : World), Keep (fun b => ¬ (Z1 b ∨ S0 b)) E.w B → Rel { C.at E σ with w0 := B } { E with w := B } X (σ.put (some d) (.lit (.bool b))) (a.put (some d) (.bool b)) := by
    intro b B hB; have hle : E.le { E with w := B } := ⟨fun b hb => ⟨hb, hB.block b (hr.stay b hb).1 fun h => h (hSZ b hb)⟩, fun r hr => ⟨hr, rfl, rfl⟩⟩; have hb : ∀ r o, find σ.objs r = some o → ∀ b, blockOf (E.H r) = some b → B.heap[b]? = E.w.heap[b]? := fun r o h1 b h2 => hB.block b ((hr.objs r o h1).2.2.1.lt h2) fun h => h (.inl (hoZ r o b h1 h2))
    have h0 : Rel { C.at E σ with w0 := B } { E with w := B } X σ a :=
      ⟨fun s v hv => FV.le _ hle _ (hr.slots s v hv), hr.size, hr.defers, fun r o h => ⟨(hr.objs r o h).1, (hr.objs r o h).2.1, (hr.objs r o h).2.2.1.kept (hb r o h), FVr.le _ _ (hle.by _) _ (hr.objs r o h).2.2.2⟩, hr.apart,
        fun b hb => ⟨Nat.lt_of_lt_of_le (hr.stay b hb).1 hB.size, (hr.stay b hb).2⟩, hr.fresh, Keep.refl _ _, fun r o b h1 h2 => .inl ⟨r, o, h1, h2⟩, hr.env, hr.envD, fun b hb => hb, fun b hb => .inl hb, hr.envk, hr.glob.le hle⟩
    exact h0.put (some d) (fun d' e => by cases e; exact hd) (by simp [FV])
  have hin : ∀ (b : Bool) (B : World) g', J g' Z1 B → InY S0 J { C.at E σ with w0 := B } g' Z1 := fun b B g' hj =>
    ⟨hi.dfr, fun b ⟨r, o, h1, h2⟩ => hoZ r o b h1 h2, hSZ, hj⟩
  simp only [wpListIn]; rw [if_pos (by simp [Region.wanted])]; refine ⟨fun _ _ => trivial, ?_⟩; have he : (⟨some d, .call { callee := .value (.tmp y), args := ⟨zs⟩, argTypes := ts }, ty, pos, aft, none⟩ : Oper).semAt Fence.wide.round a.eval = execOp a.eval ⟨some d, .call { callee := .value (.tmp y), args := ⟨zs⟩, argTypes := ts }, ty, pos, aft, none⟩ := rfl; rw [he]
  have hr1 : (execOp a.eval ⟨some d, .call { callee := .value (.tmp y), args := ⟨zs⟩, argTypes := ts }, ty, pos, aft, none⟩).run P E.w = .ok (.round l fn tmps assign body) E.w := by
    unfold execOp
    simp only [resolve, invoke, Sem.run_bind, Sem.run_pure, Result.andThen_ok, List.map_toArray, hyv, hargs]; rw [hex] at hrun
    simpa [go_sem] using hrun
  rw [hr1]; refine ⟨fun h => by simp [Fence.wide] at h, ?_⟩; refine hround.mono ?_
  have fin2 : ∀ (b : Bool) (B : World), J (b, pre ++ [x]) Z1 B → Keep (fun b => ¬ (Z1 b ∨ S0 b)) E.w B → SeqL P ⟨l1 ++ ⟨some d, .call { callee := .value (.tmp y), args := ⟨zs⟩, argTypes := ts }, ty, pos, aft, none⟩ :: l2⟩ l2 (σ.put (some d) (.lit (.bool b))) (fun σ' => Q .normal σ' (b, pre ++ [x])) →
      wpListIn Fence.wide 1 P ⟨l1 ++ ⟨some d, .call { callee := .value (.tmp y), args := ⟨zs⟩, argTypes := ts }, ty, pos, aft, none⟩ :: l2⟩ (fun e a' w' => ∃ C' E' X' σ' g' Z', E'.w = w' ∧ InY S0 J C' g' Z' ∧ Rel C' E' X' σ' a' ∧ Q e σ' g') l2 (a.put (some d) (.bool b)) B := by
    intro b B hj' hB hs
    have := wpL_to (n := 1) (l2 := []) l2 _ _ (hs _ _ _ _ (fin b B hB) (fun e a' w' => e = .normal ∧ wpListIn Fence.wide 1 P ⟨l1 ++ ⟨some d, .call { callee := .value (.tmp y), args := ⟨zs⟩, argTypes := ts }, ty, pos, aft, none⟩ :: l2⟩ (fun e a' w' => ∃ C' E' X' σ' g' Z', E'.w = w' ∧ InY S0 J C' g' Z' ∧ Rel C' E' X' σ' a' ∧ Q e σ' g') [] a' w')
      (fun E' X' σ' a' h1 h2 => ⟨rfl, by simp only [wpListIn]; exact ⟨_, E', X', σ', _, Z1, rfl, hin b B _ hj', h1, h2⟩⟩))
    rwa [List.append_nil] at this
  rintro e B ⟨hB, ⟨rfl, hj'⟩ | ⟨rfl, hj'⟩⟩
  · exact fin2 true B hj' hB ht
  · exact fin2 false B hj' hB hf
theorem EvY.yieldS {α : Type} {P : Program} {l : Nat} {N : List α → α → Prop} {encs : α → Array Value} {S0 : Nat → Prop} {J : Bool × List α → (Nat → Prop) → World → Prop} (hR : Rnd P l encs N S0 J) {σ0 : St} {pre : List α} {Q : Exit → St → Bool × List α → Prop}
    {id d y ty : Nat} {zs : List Operand} {ts : Array TypeId} {pos : String} {aft : Array Edge} {l1 : List Oper} (i : Nat) (x : α) (hl : N pre x)
    (ho : l1[i]? = some ⟨some d, .call { callee := .value (.tmp y), args := ⟨zs⟩, argTypes := ts }, ty, pos, aft, none⟩)
    (h : ∀ K : St → Prop, (∀ σ, YP P ⟨l1⟩ l (l1.drop (i + 1)) zs y d (encs x) (fun b σ' => Q .normal σ' (b, pre ++ [x])) σ → K σ) → SeqL P ⟨l1⟩ (l1.take i) σ0 K) :
    EvY P S0 J (.region id ⟨l1⟩ false) σ0 (true, pre) Q := by
  obtain ⟨hlt, he⟩ := List.getElem?_eq_some_iff.1 ho
  have e : l1 = l1.take i ++ ⟨some d, .call { callee := .value (.tmp y), args := ⟨zs⟩, argTypes := ts }, ty, pos, aft, none⟩ :: l1.drop (i + 1) := by
    rw [← he, List.getElem_cons_drop, List.take_append_drop]
  have := EvY.yieldL hR (σ0 := σ0) (Q := Q) (id := id) (d := d) (y := y) (ty := ty) (zs := zs) (ts := ts) (pos := pos) (aft := aft) (l2 := l1.drop (i + 1)) (l1.take i) x hl; rw [← e] at this; exact this h
theorem EvY.yieldT {α : Type} {P : Program} {l : Nat} {N : List α → α → Prop} {encs : α → Array Value} {S0 : Nat → Prop} {J : Bool × List α → (Nat → Prop) → World → Prop} (hR : Rnd P l encs N S0 J) {σ0 : St} {pre : List α} {Q : Exit → St → Bool × List α → Prop} {c : Code}
    {id d y ty : Nat} {zs : List Operand} {ts : Array TypeId} {pos : String} {aft : Array Edge} {l1 : List Oper} (i : Nat) (x : α) (hl : N pre x)
    (ho : l1[i]? = some ⟨some d, .call { callee := .value (.tmp y), args := ⟨zs⟩, argTypes := ts }, ty, pos, aft, none⟩)
    (h : ∀ K : St → Prop, (∀ σ, YP P ⟨l1⟩ l (l1.drop (i + 1)) zs y d (encs x) (fun b σ' => EvY P S0 J c σ' (b, pre ++ [x]) Q) σ → K σ) → SeqL P ⟨l1⟩ (l1.take i) σ0 K) :
    EvY P S0 J (.seq (.region id ⟨l1⟩ false) c) σ0 (true, pre) Q := EvY.seq (EvY.yieldS hR i x hl ho h)
theorem SeqL.k {P : Program} {ops : Array Oper} {l : List Oper} {σ : St} {Q : St → Prop} (h : ∀ K : St → Prop, (∀ σ', Q σ' → K σ') → SeqL P ops l σ K) : SeqL P ops l σ Q := h Q fun _ h => h
theorem Fun.ofT {P : Program} {f : FuncId} {fn : Func} {c : Code} {args : List AV} {Post : AV → List (Nat × Obj) → Prop} {nt : Nat} {rs : List ResultVar} (hf : P.funcs[f]? = some fn) (hb : fn.body = some c) (ht : fn.ntmps = nt)
    (hr : fn.results.toList = rs) (hnm : (fn.name == "runtime.NumGoroutine") = false) (hn : Nat.ble args.length nt = true) (h : EvT P c ⟨argSlots 0 args, [], 0, nt, 0⟩ (endP P rs Post)) : Fun P f args Post :=
  Fun.of_bodyT hf hb hnm (by rw [ht]; exact ble_le hn) (by rw [ht, hr]; exact h)
theorem h0_app {l m : List (Nat × Obj)} {rs : List Nat} (h : rs.all (fun r => (find l r).isNone) = true) : ∀ r q, find l r = some q → find (l ++ m) r = some q ∧ r ∉ rs := fun r q hf => by
  refine ⟨by rw [find_append, hf]; rfl, fun hm => ?_⟩; have := List.all_eq_true.1 h r hm; rw [hf] at this
  cases this
section
variable {P : Program} {s : List (Nat × AV)} {b : List (Nat × Obj)} {n t e : Nat}
theorem WkU (rs : List Nat) (ks : List Nat) {kept : List (Nat × AV)} (U : List (Nat × AV)) (O : List (Nat × Obj)) (hk : Kept (pos rs 0) s ks kept) (hO : keepObjs ⟨s, b, n, t, e⟩ (pos rs 0) 0 rs = some O) (hU : slotsRen (pos rs 0) ⟨s, b, n, t, e⟩ U) (hnd : rs.Nodup := by decide) (hl : ∀ i, i < e → rs[i]? = some i := by decide) :
    Wk ⟨s, b, n, t, e⟩ ⟨U ++ kept, O, rs.length, t, e⟩ := Wk.ren rs hnd (slotsRen_append hU hk.ren) hO rfl rfl rfl hl
theorem roundQ_n {α : Type} {O : List α → List (Nat × Obj)} {QX : List α → List (Nat × Obj) → Prop} {n0 : Nat} {xs : List α} (rs : List Nat) (hO : keepR ⟨s, b, n, t, e⟩ (pos rs 0) e 0 rs = some (O xs)) (hn : rs.length ≤ n0) (hnd : rs.Nodup) (hl : leads e rs) : roundQ O QX n0 t e xs .normal ⟨s, b, n, t, e⟩ :=
  ⟨rs.length, hn, Wk.renR rs hnd trivial hO rfl rfl rfl hl⟩
end
def scal : Op → Bool
  | .binOp .. => true
  | .convert .. => true
  | .call { callee := .builtin .max, args := _, argTypes := _ } => true
  | .call { callee := .builtin .min, args := _, argTypes := _ } => true
  | _ => false
theorem PureW.scalar {P : Program} {σ : St} {o : Oper} {z : Value} (h : ∀ C E X a, Rel C E X σ a → ∃ s : Sem Value, (execOp a.eval o) = (do pure (.value (← s))) ∧ pureOn P s = some z) : PureW P σ o (.lit z) := fun C E X a hr => by
  obtain ⟨s, h1, h2⟩ := h C E X a hr; refine ⟨z, by simp [FV], fun w => ?_⟩; rw [h1]
  simp [pureOn_run s h2 w]
theorem pureW_q {P : Program} {σ : St} {id : Nat} {o : Oper} {v : AV} {new : List (Nat × Obj)} (hk : scal o.op = true) (h : stepQ P σ id o.op = some (v, new)) : PureW P σ o v := by
  generalize hop : o.op = op at h hk
  unfold scal at hk
  split at hk
  · rename_i bop t x y yt
    simp only [stepQ] at h
    split at h
    · rename_i a b ha hb
      obtain ⟨z, h1, rfl, rfl⟩ := lits_some h; refine PureW.scalar fun C E X act hr => ⟨(do eqGuard bop t x y a b; binOp bop t a b), ?_, h1⟩
      unfold execOp
      simp only [hop, toVal_ev hr ha, toVal_ev hr hb]
    · cases h
  · rename_i s d x
    simp only [stepQ] at h; obtain ⟨z, h1, rfl, rfl⟩ := lits_some h; simp only [Option.bind_eq_some_iff] at h1; obtain ⟨a, h2, h3⟩ := h1; refine PureW.scalar fun C E X act hr => ⟨convert s d a, ?_, h3⟩
    unfold execOp
    simp only [hop, toVal_ev hr h2]
  · rename_i zs ts
    simp only [stepQ, stepBuiltin] at h; obtain ⟨z, h1, rfl, rfl⟩ := lits_some h; simp only [Option.bind_eq_some_iff] at h1; obtain ⟨l, h2, h3⟩ := h1; refine PureW.scalar fun C E X a hr => ⟨Builtin.max_ ts 0 l.toArray, ?_, h3⟩; have he := toVals_ev hr h2
    have hm : zs.map a.eval = l.toArray := by rw [← he]; apply Array.ext'; simp
    unfold execOp
    have hty : ∀ ty xs, Builtin.max_ ts ty xs = Builtin.max_ ts 0 xs := fun _ _ => rfl; simp only [hop, resolve, invoke, builtin, pure_bind, hm, hty o.type]
  · rename_i zs ts
    simp only [stepQ, stepBuiltin] at h; obtain ⟨z, h1, rfl, rfl⟩ := lits_some h; simp only [Option.bind_eq_some_iff] at h1; obtain ⟨l, h2, h3⟩ := h1; refine PureW.scalar fun C E X a hr => ⟨Builtin.min_ ts 0 l.toArray, ?_, h3⟩; have he := toVals_ev hr h2
    have hm : zs.map a.eval = l.toArray := by rw [← he]; apply Array.ext'; simp
    unfold execOp
    have hty : ∀ ty xs, Builtin.min_ ts ty xs = Builtin.min_ ts 0 xs := fun _ _ => rfl; simp only [hop, resolve, invoke, builtin, pure_bind, hm, hty o.type]
  · cases hk
section
variable {P : Program} {s : List (Nat × AV)} {b : List (Nat × Obj)} {n t e : Nat}
theorem HP.q {l : List Oper} {i m d ty : Nat} {L : Array Bool} {Q : St → Prop} {op : Op} {v : AV} {pos : String} {aft : Array Edge} (ho : l[i]? = some ⟨some d, op, ty, pos, aft, none⟩) (hq : stepQ P ⟨s, b, n, t, e⟩ 0 op = some (v, [])) (h : HP P l m (L.setIfInBounds i true) ⟨(d, v) :: s, b, n, t, e⟩ Q)
    (hk : scal op = true := by exact rfl) (hdn : Nat.blt d t = true := by exact rfl) (hc : (Region.noSelect ⟨l⟩ && Region.free .any ⟨l⟩ L i && (Region.ready .any ⟨l⟩ L).contains i) = true := by kernel_rfl) (hd : d ≠ 1000000 := by decide) : HP P l (m + 1) L ⟨s, b, n, t, e⟩ Q :=
  .take ho rfl (Nat.le_of_ble_eq_true hdn) hd rfl hc rfl (pureW_s (pureW_q (o := ⟨some d, op, ty, pos, aft, none⟩) hk hq)) h
end
end Go.AM
