/-
  Part 21 of the proof: the abstract machine, proved sound over the model.
  Conditions: none.
-/
import Derived.RangeFuncFrom
import Derived.Test.YtlpgjlnkfgacbaaGreatDoorX20
set_option linter.unusedVariables false
set_option linter.unusedSimpArgs false
set_option linter.unusedSectionVars false
namespace Go.AM
theorem Keep.trans {own : Nat → Prop} {A B C : World} (h : Keep own A B) (k : Keep own B C) : Keep own A C :=
  ⟨k.os.trans h.os, h.tape.trans k.tape, k.output.trans h.output, Nat.le_trans h.size k.size, fun b hb hn => (k.block b (Nat.lt_of_lt_of_le hb h.size) hn).trans (h.block b hb hn)⟩
theorem Keep.mono {own own' : Nat → Prop} {A B : World} (h : Keep own A B) (ho : ∀ b, own b → own' b) : Keep own' A B :=
  ⟨h.os, h.tape, h.output, h.size, fun b hb hn => h.block b hb fun h' => hn (ho b h')⟩
theorem Keep.alloc (own : Nat → Prop) (A : World) (o : Go.Obj) : Keep own A (A.alloc o) :=
  ⟨rfl, Tp.refl _, rfl, by simp, fun b hb _ => Go.RowKit.Below.heap_alloc A o b hb⟩
theorem Keep.putObj {own : Nat → Prop} (A : World) {l : Nat} (o : Go.Obj) (hl : own l) : Keep own A (A.putObj l o) :=
  ⟨rfl, Tp.refl _, rfl, by simp, fun b hb hn => World.putObj_heap_other fun e => hn (e ▸ hl)⟩
def addZ (Z : Nat → Prop) (A B : World) : Nat → Prop := fun b => Z b ∨ (A.heap.size ≤ b ∧ b < B.heap.size)
def SeqZ {α : Type} (P : Program) (gf : Nat) (lb : Array Value) (encs : α → Array Value) (S Sp : List α → Prop) (N : List α → α → Prop) (Z0 S0 : Nat → Prop) (w0 : World) : Prop :=
  ∀ (l : Nat) (J Jx : List α → (Nat → Prop) → World → Prop) (W : World), Keep (fun b => ¬ (Z0 b ∨ S0 b)) w0 W →
    (∀ pre Z A B, J pre Z A → Keep Z A B → J pre (addZ Z A B) B) → (∀ pre Z A B, Jx pre Z A → Keep Z A B → Jx pre (addZ Z A B) B) →
    (∀ pre Z x A, J pre Z A → N pre x → YieldAt Fence.wide 0 P l (encs x) A fun e B => Keep (fun b => ¬ (Z b ∨ S0 b)) A B ∧ ((e = .returned (.bool true) ∧ J (pre ++ [x]) Z B) ∨ (e = .returned (.bool false) ∧ Jx (pre ++ [x]) Z B))) →
    J [] Z0 W →
    Calls P gf (#[.func (.yield l) #[] #[]] ++ lb) W fun e B => (∃ v, e = .returned v) ∧ ((∃ xs Z, S xs ∧ J xs Z B) ∨ (∃ pre Z, Sp pre ∧ Jx pre Z B))
def zPost {α : Type} (S0 : Nat → Prop) (I : List α → (Nat → Prop) → World → Prop) (Ix : Code → List α → (Nat → Prop) → World → Prop) (xs : List α) (Z : Nat → Prop) (W : World) : Exit → Act → World → Prop
  | .normal, _, W' => Keep (fun b => ¬ (Z b ∨ S0 b)) W W' ∧ I xs Z W'
  | .ret, _, W' => Keep (fun b => ¬ (Z b ∨ S0 b)) W W' ∧ Ix .ret xs Z W'
  | .exit id, _, W' => Keep (fun b => ¬ (Z b ∨ S0 b)) W W' ∧ Ix (.exit id) xs Z W'
  | .goto t, _, W' => Keep (fun b => ¬ (Z b ∨ S0 b)) W W' ∧ Ix (.goto t) xs Z W'
  | .panic _, _, _ => False
  | .outgrown, _, _ => False
theorem Rel.other {C : Ctx} {E : Env} {X : Nat → List Value} {σ : St} {a : Act} (h : Rel C E X σ a) {B : World} {Z : Nat → Prop} (hk : Keep Z E.w B)
    (hZ : ∀ b, Z b → C.w0.heap.size ≤ b ∧ ¬ E.S b ∧ ∀ r o, Aw σ.objs r = some o → Bl (E.H r) ≠ some b) : Rel C { E with w := B } X σ a := by
  have hS : ∀ b, E.S b → B.heap[b]? = E.w.heap[b]? := fun b hb => hk.block b (h.stay b hb).1 fun hz => (hZ b hz).2.1 hb; have hle : E.le { E with w := B } := ⟨fun b hbS => ⟨hbS, hS b hbS⟩, fun r hr => ⟨hr, rfl, rfl⟩⟩
  exact ⟨fun s v hv => FV.le _ hle _ (h.slots s v hv), h.size, h.defers, fun r o hr => ⟨(h.objs r o hr).1, (h.objs r o hr).2.1, (h.objs r o hr).2.2.1.kept (fun b hbk => hk.block b ((h.objs r o hr).2.2.1.lt hbk) fun hz => (hZ b hz).2.2 r o hr hbk), FVr.le _ _ (hle.by _) _ (h.objs r o hr).2.2.2⟩, h.apart,
    fun b hbS => ⟨Nat.lt_of_lt_of_le (h.stay b hbS).1 hk.size, (h.stay b hbS).2⟩, h.fresh,
    ⟨hk.os.trans h.kept.os, h.kept.tape.trans hk.tape, hk.output.trans h.kept.output, Nat.le_trans h.kept.size hk.size, fun b hbl hno => (hk.block b (Nat.lt_of_lt_of_le hbl h.kept.size) fun hz => by have := (hZ b hz).1; omega).trans (h.kept.block b hbl hno)⟩, h.mine, h.env, h.envD, h.base, h.grow, h.envk, h.glob.le hle⟩
structure Mark (C : Ctx) (E : Env) (σ : St) (D : Nat) : Prop where
  new : C.w0.heap.size ≤ D
  fr : ¬ E.S D
  ob : ∀ r o, Aw σ.objs r = some o → Bl (E.H r) ≠ some D
  at_ : E.w.heap[D]? = some (.deferred (some []))
structure TopC (C : Ctx) : Prop where
  dfr : C.dfr = []
  own : ∀ b, ¬ C.own b
def EvT (P : Program) (c : Code) (σ : St) (Q : Exit → St → Prop) : Prop :=
  ∀ C E X a, TopC C → Rel C E X σ a → c.wp P (fun e a' w' => ∃ E' X' σ', E'.w = w' ∧ Rel C E' X' σ' { a' with defers := [] } ∧ (a'.defers = [] ∨ ∃ D, a'.defers = [{ target := .collected D, args := #[] }] ∧ Mark C E' σ' D) ∧ Q e σ') a E.w
theorem act_nil {a : Act} (h : a.defers = []) : { a with defers := [] } = a := by
  cases a
  simp only at h
  rw [h]
theorem EvT.split {P : Program} {x y : Code} {σ : St} {Q : Exit → St → Prop} (h : Ev P x σ (thenP (fun σ' => EvT P y σ' Q) Q)) : EvT P (.seq x y) σ Q := by
  intro C E X a hC hr; refine wp_seq (wp_mono (h C E X a hr) ?_); rintro e a' w' ⟨E', X', σ', rfl, h2, h3⟩; have hd : a'.defers = [] := h2.defers.trans hC.dfr
  cases e <;> simp only [Exit.then, thenP] at h3 ⊢
  case normal => exact h3 C E' X' a' hC h2
  all_goals exact ⟨E', X', σ', rfl, by rw [act_nil hd]; exact h2, .inl hd, h3⟩
theorem Fun.of_bodyT {P : Program} {f : FuncId} {fn : Func} {c : Code} {args : List AV} {Post : AV → List (Nat × Obj) → Prop} (hf : P.funcs[f]? = some fn) (hb : fn.body = some c) (hnm : (fn.name == "runtime.NumGoroutine") = false)
    (hn : args.length ≤ fn.ntmps) (h : EvT P c ⟨Dx 0 args, [], 0, fn.ntmps, 0⟩ (endP P fn.results.toList Post)) : Fun P f args Post := by
  refine ⟨⟨fn, hf, by simp [hb], hnm⟩, fun E xs hx hS hG => ?_⟩; refine (callsIn_wide (n := 1)).1 (callsIn_of_wp_marks (F := Fence.wide) hf hb trivial (wpIn_wide.2 ?_) rfl); have hxl := hx.length
  let C : Ctx := ⟨E.w, fun _ => False, fun _ => undef, 0, E.S, fun _ => 0, []⟩
  have hrel : Rel C E.clear (fun _ => []) ⟨Dx 0 args, [], 0, fn.ntmps, 0⟩ { tmps := xs.toArray ++ Array.replicate (fn.ntmps - xs.toArray.size) undef, defers := [] } := by
    refine ⟨?_, ?_, rfl, ?_, ?_, ?_, ?_, Keep.refl _ _, ?_, ?_, ?_, fun b hb => hb, fun b hb => .inl hb, rfl, hG⟩
    · intro s v hv; obtain ⟨_, h2⟩ := F3 args 0 s v hv; simp only [Nat.sub_zero] at h2; obtain ⟨y, hy, hfv⟩ := hx.get h2; have hlt : s < xs.length := (List.getElem?_eq_some_iff.1 hy).1
      have : (xs.toArray ++ Array.replicate (fn.ntmps - xs.toArray.size) undef).getD s undef = y := by
        have e : (xs.toArray ++ Array.replicate (fn.ntmps - xs.toArray.size) undef)[s]? = some y := by
          rw [Array.getElem?_append_left (by simpa using hlt)]
          simpa using hy
        rw [Array.getD_eq_getD_getElem?, e]; rfl
      rw [this]; exact hfv
    · simp [hxl]; omega
    · intro r o hr; simp [Aw] at hr
    · intro r r' o o' b hr; simp [Aw] at hr
    · intro b hb; exact ⟨hS b hb, fun r o hr => by simp [Aw] at hr⟩
    · intro r hr; exact hr.elim
    · intro r o b hr; simp [Aw] at hr
    · intro r hr; exact absurd hr (Nat.not_lt_zero _)
    intro r hr; exact absurd hr (Nat.not_lt_zero _)
  have hend : ∀ (E' : Env) X' σ' a', Rel C E' X' σ' a' → ∀ ks : List Nat, ks.Nodup → retP P fn.results.toList ks Post σ' →
      ∃ y, (results fn a'.tmps).run P E'.w = .ok y E'.w ∧ ∃ v objs E'' X'', E''.w = E'.w ∧ Post v objs ∧ LocalPost E.clear v objs y E'' X'' := by
    intro E' X' σ' a' hr ks hnd hret
    unfold retP at hret
    split at hret
    · exact hret.elim
    · rename_i vs hvs
      split at hret
      · rename_i v objs hv ho
        obtain ⟨y, hy1, hy2⟩ := hr.run_results hvs; refine ⟨y, hy1, v, objs, ?_⟩
        let E'' : Env := { w := E'.w, H := fun r' => match ks[r']? with | some k => E'.H k | none => undef, Z := fun r' => match ks[r']? with | some k => E'.Z k | none => 0, D := fun r' => r' < ks.length, S := E'.S }
        have hren : E'.ren (pos ks 0) E'' := by
          refine ⟨fun b hb => ⟨hb, rfl⟩, fun r r' hD hp => ?_⟩; obtain ⟨_, h2⟩ := pos_spec ks 0 r r' hp; simp only [Nat.sub_zero] at h2; exact ⟨(List.getElem?_eq_some_iff.1 h2).1, by simp [E'', h2], by simp [E'', h2]⟩
        refine ⟨E'', fun r' => match ks[r']? with | some k => X' k | none => [], rfl, hret, ⟨?_, ?_, ?_, ?_, ?_, ?_, ?_⟩⟩
        · exact ⟨hr.kept.os, hr.kept.tape, hr.kept.output, hr.kept.size, fun b hb _ => hr.kept.block b hb (fun h => h)⟩
        · exact ⟨fun b hb => ⟨hr.base b hb, hr.kept.block b (hS b hb) (fun h => h)⟩, fun r hD => hD.elim⟩
        · intro r hD; exact .inr (keepObjs_dom ks 0 objs ho r (Nat.zero_le _) (by simpa [E''] using hD))
        · intro b hb; obtain ⟨h1, h2⟩ := hr.stay b hb
          rcases hr.grow b hb with h | h | h
          · exact .inl h
          · refine .inr ⟨h, h1, fun r o hro e => ?_⟩; obtain ⟨k, o1, _, hk, hk2, _⟩ := Cj ks 0 objs ho r o hro; simp only [Nat.sub_zero] at hk; simp only [E'', hk] at e; exact h2 k o1 hk2 e
          · exact h.elim
        · intro r o hro; obtain ⟨k, o1, _, hk, hk2, hk3⟩ := Cj ks 0 objs ho r o hro; simp only [Nat.sub_zero] at hk; obtain ⟨g1, g2, g3, g4⟩ := hr.objs k o1 hk2; have hsp := EF hk3; refine ⟨(List.getElem?_eq_some_iff.1 hk).1, fun h => h, by simp [E'', hk, g2, hsp.2.2.1], ?_, ?_, ?_⟩
          · simp only [E'', hk]; exact g3.ren hk3
          · simp only [hk]; exact FVr.renObj hk3 hren g4
          · intro b hb; simp only [E'', hk] at hb
            rcases hr.mine k o1 b hk2 hb with h | h
            · exact h.elim
            · exact h
        · intro r r' o o' b hro hro' hb hb'; obtain ⟨k, o1, _, hk, hk2, hk3⟩ := Cj ks 0 objs ho r o hro; obtain ⟨k', o1', _, hk', hk2', hk3'⟩ := Cj ks 0 objs ho r' o' hro'; simp only [Nat.sub_zero] at hk hk'; simp only [E'', hk] at hb; simp only [E'', hk'] at hb'; have := hr.apart k k' o1 o1' b hk2 hk2' hb hb'; subst this; obtain ⟨hl, he⟩ := List.getElem?_eq_some_iff.1 hk; obtain ⟨hl', he'⟩ := List.getElem?_eq_some_iff.1 hk'; exact (List.getElem_inj hnd).1 (he.trans he'.symm)
        · exact FV.ren hren hv hy2
      · exact hret.elim
  refine wp_mono (h C E.clear _ _ ⟨rfl, fun _ h => h⟩ hrel) ?_; rintro e a' w' ⟨E', X', σ', rfl, hr, hdf, hq⟩
  have fin : ∀ ks : List Nat, ks.Nodup → retP P fn.results.toList ks Post σ' → LeavesInM Fence.wide 1 P fn a'.tmps (fun e w' => ∃ y v objs E' X', e = .returned y ∧ E'.w = w' ∧ Post v objs ∧ LocalPost E.clear v objs y E' X') a'.defers .returning E'.w := by
    intro ks hnd hq
    rcases hdf with hd | ⟨D, hd, hM⟩
    · obtain ⟨y, hy, v, objs, E'', X'', h1, h2, h3⟩ := hend E' X' σ' _ hr ks hnd hq; rw [hd]; exact ⟨y, hy, y, v, objs, E'', X'', rfl, h1, h2, h3⟩
    have hr' := hr.other (Z := fun b => b = D) (Keep.putObj E'.w (.deferred none) rfl) (fun b e => by subst e; exact ⟨hM.new, hM.fr, hM.ob⟩); obtain ⟨y, hy, v, objs, E'', X'', h1, h2, h3⟩ := hend _ X' σ' _ hr' ks hnd hq; rw [hd]; exact ⟨by simp, .inl ⟨D, _, rfl, run_takeDeferred hM.at_, y, hy, y, v, objs, E'', X'', rfl, h1, h2, h3⟩⟩
  cases e <;> simp only [endP] at hq
  case normal => obtain ⟨ks, hnd, hq⟩ := hq; exact fin ks hnd hq
  case ret => obtain ⟨ks, hnd, hq⟩ := hq; exact fin ks hnd hq
structure Rnd {α : Type} (P : Program) (l : Nat) (encs : α → Array Value) (N : List α → α → Prop) (S0 : Nat → Prop) (J : Bool × List α → (Nat → Prop) → World → Prop) : Prop where
  step : ∀ g Z A B, J g Z A → Keep Z A B → J g (addZ Z A B) B
  round : ∀ pre Z x A, J (true, pre) Z A → N pre x → YieldAt Fence.wide 0 P l (encs x) A fun e B => Keep (fun b => ¬ (Z b ∨ S0 b)) A B ∧ ((e = .returned (.bool true) ∧ J (true, pre ++ [x]) Z B) ∨ (e = .returned (.bool false) ∧ J (false, pre ++ [x]) Z B))
structure InY {ι : Type} (S0 : Nat → Prop) (J : ι → (Nat → Prop) → World → Prop) (C : Ctx) (g : ι) (Z : Nat → Prop) : Prop where
  dfr : C.dfr = []
  own : ∀ b, C.own b → Z b
  S0 : ∀ b, C.S0 b → Z b ∨ S0 b
  j : J g Z C.w0
def EvY {ι : Type} (P : Program) (S0 : Nat → Prop) (J : ι → (Nat → Prop) → World → Prop) (c : Code) (σ : St) (g : ι) (Q : Exit → St → ι → Prop) : Prop :=
  ∀ C E X a Z, InY S0 J C g Z → Rel C E X σ a → c.wp P (fun e a' w' => ∃ C' E' X' σ' g' Z', E'.w = w' ∧ InY S0 J C' g' Z' ∧ Rel C' E' X' σ' a' ∧ Q e σ' g') a E.w
def thenY {ι : Type} (K : St → ι → Prop) (Q : Exit → St → ι → Prop) : Exit → St → ι → Prop
  | .normal, σ, g => K σ g
  | e, σ, g => Q e σ g
section
variable {ι : Type} {P : Program} {S0 : Nat → Prop} {J : ι → (Nat → Prop) → World → Prop} {σ : St} {g : ι} {Q : Exit → St → ι → Prop}
theorem EvY.plain {c : Code} (h : Ev P c σ fun e σ' => Q e σ' g) : EvY P S0 J c σ g Q := by
  intro C E X a Z hi hr; refine wp_mono (h C E X a hr) ?_; rintro e a' w' ⟨E', X', σ', h1, h2, h3⟩; exact ⟨C, E', X', σ', g, Z, h1, hi, h2, h3⟩
theorem FH {x y : Code} (h : EvY P S0 J x σ g (thenY (fun σ' g' => EvY P S0 J y σ' g' Q) Q)) : EvY P S0 J (.seq x y) σ g Q := by
  intro C E X a Z hi hr; refine wp_seq (wp_mono (h C E X a Z hi hr) ?_); rintro e a' w' ⟨C', E', X', σ', g', Z', rfl, h2, h3, h4⟩
  cases e <;> simp only [Exit.then, thenY] at h4 ⊢
  case normal => exact h4 C' E' X' a' Z' h2 h3
  all_goals exact ⟨C', E', X', σ', g', Z', rfl, h2, h3, h4⟩
theorem EvY.seqE {x y : Code} (h : Ev P x σ (thenP (fun σ' => EvY P S0 J y σ' g Q) fun e σ' => Q e σ' g)) : EvY P S0 J (.seq x y) σ g Q :=
  FH (EvY.plain (h.mono fun e σ' hq => by cases e <;> exact hq))
theorem EvY.cond {c : Operand} {x y : Code} {b : Bool} (hc : σ.ev c = .lit (.bool b)) (ht : b = true → EvY P S0 J x σ g Q) (hf : b = false → EvY P S0 J y σ g Q) : EvY P S0 J (.cond c x y) σ g Q := by
  intro C E X a Z hi hr; have hv := hr.ev c; rw [hc] at hv; simp only [FV] at hv; exact wp_cond_split hv (fun e => ht e C E X a Z hi hr) (fun e => hf e C E X a Z hi hr)
def inBlockY (id : Nat) (Q : Exit → St → ι → Prop) : Exit → St → ι → Prop
  | .exit id', σ, g => if id' = id then Q .normal σ g else Q (.exit id') σ g
  | e, σ, g => Q e σ g
theorem EvY.block {id : Nat} {c : Code} (h : EvY P S0 J c σ g (inBlockY id Q)) : EvY P S0 J (.block id c) σ g Q := by
  intro C E X a Z hi hr; refine wp_block (wp_mono (h C E X a Z hi hr) ?_); rintro e a' w' ⟨C', E', X', σ', g', Z', rfl, h2, h3, h4⟩
  cases e <;> simp only [Exit.inBlock, inBlockY] at h4 ⊢
  case exit id' =>
    split
    · rename_i e
      simp only [e, if_true] at h4; exact ⟨C', E', X', σ', g', Z', rfl, h2, h3, h4⟩
    rename_i e
    simp only [e, if_false] at h4; exact ⟨C', E', X', σ', g', Z', rfl, h2, h3, h4⟩
  all_goals exact ⟨C', E', X', σ', g', Z', rfl, h2, h3, h4⟩
def roundY {κ : Type} (I : κ → St) (G : κ → ι) (μ : κ → Nat) (x : κ) (Q : Exit → St → ι → Prop) : Exit → St → ι → Prop
  | .normal, σ', g' => ∃ y, μ y < μ x ∧ Wk σ' (I y) ∧ g' = G y
  | e, σ', g' => Q e σ' g'
theorem EvY.loop {c : Code} {κ : Type} (I : κ → St) (G : κ → ι) (μ : κ → Nat) (x0 : κ) (hg : g = G x0) (h0 : Wk σ (I x0)) (round : ∀ x, EvY P S0 J c (I x) (G x) (roundY I G μ x Q)) : EvY P S0 J (.loop c) σ g Q := by
  intro C E X a Z hi hr
  have key : ∀ n x C E X a Z, μ x < n → InY S0 J C (G x) Z → Rel C E X (I x) a →
      Code.rounds P c (fun e a' w' => ∃ C' E' X' σ' g' Z', E'.w = w' ∧ InY S0 J C' g' Z' ∧ Rel C' E' X' σ' a' ∧ Q e σ' g') n a E.w := by
    intro n
    induction n with
    | zero => intro x C E X a Z h; omega
    | succ n ih =>
      intro x C E X a Z h hi hr; rw [rounds_succ]; refine wp_mono (round x C E X a Z hi hr) ?_; rintro e a' w' ⟨C', E', X', σ', g', Z', rfl, h2, h3, h4⟩
      cases e <;> simp only [Exit.then, roundY] at h4 ⊢
      case normal =>
        obtain ⟨y, hy, hw, rfl⟩ := h4; obtain ⟨E'', X'', e, hr'⟩ := hw C' E' X' a' h3; rw [← e]; exact ih y C' E'' X'' a' Z' (by omega) h2 hr'
      all_goals exact ⟨C', E', X', σ', g', Z', rfl, h2, h3, h4⟩
  obtain ⟨E', X', e, hr'⟩ := h0 C E X a hr; have := key (μ x0 + 1) x0 C E' X' a Z (by omega) (hg ▸ hi) hr'; rw [← e]; exact wp_loop_rounds _ this
end
def SeqR {α : Type} (P : Program) (gf : Nat) (caps : List AV) (objs : List (Nat × Obj)) (k : Nat) (encs : α → Array Value) (S Sp : List α → Prop) (N : List α → α → Prop) : Prop :=
  Bodied P gf ∧ ∀ (E : Env) (X : Nat → List Value) (lb : List Value), Entry E X objs k → FVs E caps lb → SeqZ P gf lb.toArray encs S Sp N (Gx E objs) E.S E.w
theorem SeqR.of_body {α : Type} {P : Program} {gf : FuncId} {fn : Func} {c : Code} {caps : List AV} {objs : List (Nat × Obj)} {k : Nat} {N : List α → α → Prop} {encs : α → Array Value} {S Sp : List α → Prop}
    (hf : P.funcs[gf]? = some fn) (hb : fn.body = some c) (hnm : (fn.name == "runtime.NumGoroutine") = false) (hrs : fn.results = #[]) (hn : caps.length + 1 ≤ fn.ntmps)
    (h : ∀ l S0 (J : Bool × List α → (Nat → Prop) → World → Prop), Rnd P l encs N S0 J → EvY P S0 J c ⟨Dx 0 (.lit (.func (.yield l) #[] #[]) :: caps), objs, k, fn.ntmps, k⟩ (true, []) (fun e σ' g' => (e = .normal ∨ e = .ret) ∧ (g'.1 = true → S g'.2) ∧ (g'.1 = false → Sp g'.2))) :
    SeqR P gf caps objs k encs S Sp N := by
  refine ⟨⟨fn, hf, by simp [hb], hnm⟩, fun E X lb hE hx => ?_⟩; intro l J Jx W hW hJ hJx hround hJ0
  obtain ⟨J', hJ'⟩ : ∃ J' : Bool × List α → (Nat → Prop) → World → Prop, J' = fun g => match g.1 with | true => J g.2 | false => Jx g.2 := ⟨_, rfl⟩
  have hR : Rnd P l encs N E.S J' := by
    subst hJ'; refine ⟨fun g Z A B h1 h2 => ?_, fun pre Z x A h1 h2 => ?_⟩
    · rcases g with ⟨b, pre⟩
      cases b
      · exact hJx pre Z A B h1 h2
      exact hJ pre Z A B h1 h2
    exact hround pre Z x A h1 h2
  have hxl := hx.length; have hle : E.le { E with w := W } := ⟨fun b hb => ⟨hb, hW.block b (hE.stay b hb).1 fun h => h (.inr hb)⟩, fun r hr => ⟨hr, rfl, rfl⟩⟩; have hown : ∀ r o b, Aw objs r = some o → Bl (E.H r) = some b → W.heap[b]? = E.w.heap[b]? := fun r o b h1 h2 => hW.block b ((hE.objs r o h1).2.2.1.lt h2) fun h => h (.inl ⟨r, o, h1, h2⟩)
  have hrel : Rel (GJ { E with w := W } objs k) { E with w := W } X ⟨Dx 0 (.lit (.func (.yield l) #[] #[]) :: caps), objs, k, fn.ntmps, k⟩ { tmps := (#[Value.func (Fn.yield l) #[] #[]] ++ lb.toArray) ++ Array.replicate (fn.ntmps - (#[Value.func (Fn.yield l) #[] #[]] ++ lb.toArray).size) undef, defers := [] } := by
    have hxx : FVs { E with w := W } (.lit (.func (.yield l) #[] #[]) :: caps) (Value.func (Fn.yield l) #[] #[] :: lb) := ⟨_, _, rfl, by simp [FV], FVs.le _ hle _ hx⟩; refine ⟨?_, ?_, rfl, ?_, hE.apart, ?_, ?_, Keep.refl _ _, ?_, ?_, ?_, fun b hb => hb, fun b hb => .inl hb, rfl, hE.glob.le hle⟩
    · intro s v hv; obtain ⟨_, h2⟩ := F3 _ 0 s v hv; simp only [Nat.sub_zero] at h2; obtain ⟨y, hy, hfv⟩ := hxx.get h2
      have e0 : (#[Value.func (Fn.yield l) #[] #[]] ++ lb.toArray : Array Value) = (Value.func (Fn.yield l) #[] #[] :: lb).toArray := by simp
      rw [e0]
      generalize (Value.func (Fn.yield l) #[] #[] :: lb) = xs at hy ⊢
      have hlt : s < xs.length := (List.getElem?_eq_some_iff.1 hy).1
      have : (xs.toArray ++ Array.replicate (fn.ntmps - xs.toArray.size) undef).getD s undef = y := by
        have e : (xs.toArray ++ Array.replicate (fn.ntmps - xs.toArray.size) undef)[s]? = some y := by
          rw [Array.getElem?_append_left (by simpa using hlt)]
          simpa using hy
        rw [Array.getD_eq_getD_getElem?, e]; rfl
      rw [this]; exact hfv
    · simp [hxl]; omega
    · intro r o hr; obtain ⟨h1, h2, h3, h4⟩ := hE.objs r o hr; exact ⟨(hE.dom r).2 h1, h2, h3.kept fun b hb => hown r o b hr hb, FVr.le _ _ (hle.by _) _ h4⟩
    · intro b hb; exact ⟨Nat.lt_of_lt_of_le (hE.stay b hb).1 hW.size, (hE.stay b hb).2⟩
    · intro r hr; exact (hE.dom r).1 hr
    · intro r o b hr hb; exact .inl ⟨r, o, hr, hb⟩
    · intro r hr; exact ⟨rfl, rfl⟩
    intro r hr; exact (hE.dom r).2 hr
  have hin : InY E.S J' (GJ { E with w := W } objs k) (true, []) (Gx E objs) := ⟨rfl, fun b hb => hb, fun b hb => .inr hb, by subst hJ'; exact hJ0⟩; refine calls_of_wp hf hb (wp_mono (h l E.S J' hR _ _ X _ _ hin hrel) ?_); rintro e a' w' ⟨C', E', X', σ', g', Z', rfl, h2, h3, h4, h5, h6⟩; have hd : a'.defers = [] := h3.defers.trans h2.dfr
  have hres : ∃ y, (results fn a'.tmps).run P E'.w = .ok y E'.w := by
    refine ⟨.tuple #[], ?_⟩
    unfold results
    simp [hrs]
  have hj := hR.step _ _ _ _ h2.j (h3.kept.mono h2.own)
  have fin : (∃ v, Ending.returned (.tuple #[]) = .returned v) ∧ ((∃ xs Z, S xs ∧ J xs Z E'.w) ∨ (∃ pre Z, Sp pre ∧ Jx pre Z E'.w)) := by
    refine ⟨⟨_, rfl⟩, ?_⟩; subst hJ'
    rcases g' with ⟨b, pre⟩
    cases b
    · exact .inr ⟨pre, _, h6 rfl, hj⟩
    exact .inl ⟨pre, _, h5 rfl, hj⟩
  have hr2 : (results fn a'.tmps).run P E'.w = .ok (.tuple #[]) E'.w := by
    unfold results
    simp [hrs]
  rcases h4 with rfl | rfl
  · exact ⟨hd, _, hr2, fin⟩
  exact ⟨hd, _, hr2, fin⟩
def stays (K : Nat) (s0 : List (Nat × AV)) : Prop := ∀ k v, Aw s0 k = some v → Dn (fun r => if r < K then some r else none) v = some v
theorem stays.nil (K : Nat) : stays K [] := fun k v h => by simp [Aw] at h
theorem stays.c {K k : Nat} {v : AV} {s : List (Nat × AV)} (h : stays K s) (hv : Dn (fun r => if r < K then some r else none) v = some v) : stays K ((k, v) :: s) := fun k' v' hf => by
  rw [AZ] at hf
  split at hf
  · cases hf; exact hv
  · exact h k' v' hf
structure RI (C : Ctx) (s0 : List (Nat × AV)) (o : List (Nat × Obj)) (n nt : Nat) (S0 : Nat → Prop) (a : Act) (Z : Nat → Prop) (E : Env) (X : Nat → List Value) : Prop where
  rel : Rel C E X ⟨s0, o, n, nt, 0⟩ a
  S0 : ∀ b, S0 b → E.S b
  lt : ∀ b, Z b → b < E.w.heap.size
  new : ∀ b, Z b → C.w0.heap.size ≤ b
  fr : ∀ b, Z b → ¬ E.S b
  ob : ∀ b, Z b → ∀ r p, Aw o r = some p → Bl (E.H r) ≠ some b
section
variable {C : Ctx} {s0 : List (Nat × AV)} {o : List (Nat × Obj)} {n nt : Nat} {S0 : Nat → Prop} {a : Act} {Z : Nat → Prop} {E : Env} {X : Nat → List Value}
theorem RI.step (h : RI C s0 o n nt S0 a Z E X) {B : World} (hk : Keep Z E.w B) : RI C s0 o n nt S0 a (addZ Z E.w B) { E with w := B } X := by
  have hsz := h.rel.kept.size; refine ⟨h.rel.other hk fun b hb => ⟨h.new b hb, h.fr b hb, h.ob b hb⟩, h.S0, fun b hb => ?_, fun b hb => ?_, fun b hb => ?_, fun b hb r p hr => ?_⟩
  · rcases hb with hb | hb
    · exact Nat.lt_of_lt_of_le (h.lt b hb) hk.size
    exact hb.2
  · rcases hb with hb | hb
    · exact h.new b hb
    exact Nat.le_trans hsz hb.1
  · rcases hb with hb | hb
    · exact h.fr b hb
    intro hs; have := (h.rel.stay b hs).1; omega
  rcases hb with hb | hb
  · exact h.ob b hb r p hr
  intro e; have := (h.rel.objs r p hr).2.2.1.lt e; omega
theorem RI.mono (h : RI C s0 o n nt S0 a Z E X) {Z' : Nat → Prop} (hz : ∀ b, Z' b → Z b) : RI C s0 o n nt S0 a Z' E X :=
  ⟨h.rel, h.S0, fun b hb => h.lt b (hz b hb), fun b hb => h.new b (hz b hb), fun b hb => h.fr b (hz b hb), fun b hb => h.ob b (hz b hb)⟩
def ctxR (E : Env) (o : List (Nat × Obj)) (K : Nat) : Ctx := GJ E o K
theorem RI.enter (h : RI C s0 o n nt S0 a Z E X) {K p d : Nat} (hK : ∀ r, r < K → ∃ q, Aw o r = some q) (v : Value) (hp : p < nt) (hd : d < nt) :
    Rel (ctxR E o K) E X ⟨(d, .lit v) :: (p, .lit v) :: s0, o, n, nt, K⟩ { tmps := (a.tmps.setIfInBounds p v).setIfInBounds d v, defers := [] } := by
  have hr := h.rel
  have h0 : Rel (ctxR E o K) E X ⟨s0, o, n, nt, K⟩ { tmps := a.tmps, defers := [] } :=
    ⟨hr.slots, hr.size, rfl, hr.objs, hr.apart, hr.stay, hr.fresh, Keep.refl _ _, fun r q b h1 h2 => .inl ⟨r, q, h1, h2⟩, fun r _ => ⟨rfl, rfl⟩, fun r hk => by
      obtain ⟨q, hq⟩ := hK r hk
      exact (hr.objs r q hq).1, fun b hb => hb, fun b hb => .inl hb, rfl, hr.glob⟩
  have h1 := h0.put (some p) (fun d' e => by cases e; exact hp) (v := .lit v) (y := v) (by simp [FV]); exact h1.put (some d) (fun d' e => by cases e; exact hd) (v := .lit v) (y := v) (by simp [FV])
theorem RI.leave (h : RI C s0 o n nt S0 a Z E X) {K : Nat} (hs : stays K s0) {E' : Env} {X' : Nat → List Value} {o' : List (Nat × Obj)} {n' : Nat} {a' : Act} (hn : n' ≤ n)
    (h' : Rel (ctxR E o K) E' X' ⟨[], o', n', nt, K⟩ a') : RI C s0 o' n nt S0 a Z E' X' ∧ Keep (fun b => ¬ (Z b ∨ S0 b)) E.w E'.w := by
  have hr := h.rel; have hsz := hr.kept.size; have hown : ∀ b, Gx E o b → C.own b ∨ C.w0.heap.size ≤ b := fun b ⟨r, q, h1, h2⟩ => hr.mine r q b h1 h2; have hoZ : ∀ b, Gx E o b → ¬ Z b := fun b ⟨r, q, h1, h2⟩ hz => h.ob b hz r q h1 h2; have hoS : ∀ b, Gx E o b → ¬ E.S b := fun b ⟨r, q, h1, h2⟩ hz => (hr.stay b hz).2 r q h1 h2; have hCk : C.k = 0 := hr.envk
  have hren : E.ren (fun r => if r < K then some r else none) E' := by
    refine ⟨fun b hb => ⟨h'.base b hb, h'.kept.block b (hr.stay b hb).1 fun ho => hoS b ho hb⟩, fun r r' hD hp => ?_⟩
    split at hp
    · rename_i hlt
      cases hp
      exact ⟨h'.envD r hlt, (h'.env r hlt).1, (h'.env r hlt).2⟩
    cases hp
  refine ⟨⟨⟨fun k v hv => FV.ren hren (hs k v hv) (hr.slots k v hv), hr.size, hr.defers, h'.objs, h'.apart, h'.stay, fun r hD => Nat.lt_of_lt_of_le (h'.fresh r hD) hn,
      ⟨h'.kept.os.trans hr.kept.os, hr.kept.tape.trans h'.kept.tape, h'.kept.output.trans hr.kept.output, Nat.le_trans hsz h'.kept.size, fun b hb hno => ?_⟩, fun r q b h1 h2 => ?_, fun r hk => ?_, fun r hk => ?_, fun b hb => h'.base b (hr.base b hb), fun b hb => ?_, hCk, h'.glob⟩,
    fun b hb => h'.base b (h.S0 b hb), fun b hb => Nat.lt_of_lt_of_le (h.lt b hb) h'.kept.size, h.new, fun b hb hS => ?_, fun b hb r q h1 h2 => ?_⟩, h'.kept.mono fun b hb hz => ?_⟩
  · refine (h'.kept.block b (Nat.lt_of_lt_of_le hb hsz) fun ho => ?_).trans (hr.kept.block b hb hno)
    rcases hown b ho with h1 | h1
    · exact hno h1
    omega
  · rcases h'.mine r q b h1 h2 with h3 | h3
    · exact hown b h3
    exact .inr (Nat.le_trans hsz h3)
  · rw [hCk] at hk; exact absurd hk (Nat.not_lt_zero _)
  · rw [hCk] at hk; exact absurd hk (Nat.not_lt_zero _)
  · rcases h'.grow b hb with h3 | h3 | h3
    · exact hr.grow b h3
    · exact .inr (.inl (Nat.le_trans hsz h3))
    rcases hown b h3 with h4 | h4
    · exact .inr (.inr h4)
    exact .inr (.inl h4)
  · rcases h'.grow b hS with h3 | h3 | h3
    · exact h.fr b hb h3
    · have h4 : E.w.heap.size ≤ b := h3; have := h.lt b hb; omega
    exact hoZ b h3 hb
  · rcases h'.mine r q b h1 h2 with h3 | h3
    · exact hoZ b h3 hb
    have h4 : E.w.heap.size ≤ b := h3; have := h.lt b hb; omega
  rcases hz with hz | hz
  · exact hoZ b hb hz
  exact hoS b hb (h.S0 b hz)
theorem RI.after {P : Program} {c2 : Code} {Q : Exit → St → Prop} (h : RI C s0 o n nt S0 a Z E X) (hC : TopC C) {D : Nat} (hD : Z D) (hat : E.w.heap[D]? = some (.deferred (some []))) (h2 : Ev P c2 ⟨s0, o, n, nt, 0⟩ Q) :
    c2.wp P (fun e a' w' => ∃ E' X' σ', E'.w = w' ∧ Rel C E' X' σ' { a' with defers := [] } ∧ (a'.defers = [] ∨ ∃ D, a'.defers = [{ target := .collected D, args := #[] }] ∧ Mark C E' σ' D) ∧ Q e σ') { a with defers := { target := .collected D, args := #[] } :: a.defers } E.w := by
  have hr := h.rel; have had : a.defers = [] := hr.defers.trans hC.dfr; have hb := hr.rebase
  have hr2 : Rel { C.at E ⟨s0, o, n, nt, 0⟩ with dfr := [{ target := .collected D, args := #[] }] } E X ⟨s0, o, n, nt, 0⟩ { a with defers := { target := .collected D, args := #[] } :: a.defers } :=
    ⟨hb.slots, hb.size, by simp [had], hb.objs, hb.apart, hb.stay, hb.fresh, hb.kept, hb.mine, hb.env, hb.envD, hb.base, hb.grow, hb.envk, hb.glob⟩
  refine wp_mono (h2 _ E X _ hr2) ?_; rintro e a' w' ⟨E', X', σ', rfl, h3, h4⟩
  have h5 : Rel (C.at E ⟨s0, o, n, nt, 0⟩) E' X' σ' { a' with defers := [] } :=
    ⟨h3.slots, h3.size, hC.dfr.symm, h3.objs, h3.apart, h3.stay, h3.fresh, h3.kept, h3.mine, h3.env, h3.envD, h3.base, h3.grow, h3.envk, h3.glob⟩
  have hDo : ¬ (∃ r q, Aw o r = some q ∧ Bl (E.H r) = some D) := fun ⟨r, q, h1, h2⟩ => h.ob D hD r q h1 h2; have hlt := h.lt D hD; refine ⟨E', X', σ', rfl, hr.unbase h5, .inr ⟨D, h3.defers, h.new D hD, fun hS => ?_, fun r q h1 h2 => ?_, (h3.kept.block D hlt hDo).trans hat⟩, h4⟩
  · rcases h3.grow D hS with h6 | h6 | h6
    · exact h.fr D hD h6
    · have h7 : E.w.heap.size ≤ D := h6; omega
    exact hDo h6
  rcases h3.mine r q D h1 h2 with h6 | h6
  · exact hDo h6
  have h7 : E.w.heap.size ≤ D := h6; omega
end
def QQ (C : Ctx) (Q : Exit → St → Prop) (e : Exit) (a' : Act) (w' : World) : Prop := ∃ E' X' σ', E'.w = w' ∧ Rel C E' X' σ' { a' with defers := [] } ∧ (a'.defers = [] ∨ ∃ D, a'.defers = [{ target := .collected D, args := #[] }] ∧ Mark C E' σ' D) ∧ Q e σ'
def EvB (P : Program) (c c2 : Code) (σ : St) (Q : Exit → St → Prop) : Prop := ∀ C E X a, TopC C → Rel C E X σ a → c.wp P (Exit.then (c2.wp P (QQ C Q)) (QQ C Q)) a E.w
theorem EvT.ofB {P : Program} {c c2 : Code} {σ : St} {Q : Exit → St → Prop} (h : EvB P c c2 σ Q) : EvT P (.seq c c2) σ Q := fun C E X a hC hr => wp_seq (h C E X a hC hr)
theorem EvB.seqE {P : Program} {x y c2 : Code} {σ : St} {Q : Exit → St → Prop} (h : Ev P x σ (thenP (fun σ' => EvB P y c2 σ' Q) Q)) : EvB P (.seq x y) c2 σ Q := by
  intro C E X a hC hr; refine wp_seq (wp_mono (h C E X a hr) ?_); rintro e a' w' ⟨E', X', σ', rfl, h2, h3⟩; have hd : a'.defers = [] := h2.defers.trans hC.dfr
  cases e <;> simp only [Exit.then, thenP] at h3 ⊢
  case normal => exact h3 C E' X' a' hC h2
  all_goals exact ⟨E', X', σ', rfl, by rw [act_nil hd]; exact h2, .inl hd, h3⟩
theorem EvB.weaken {P : Program} {c c2 : Code} {σ σ' : St} {Q : Exit → St → Prop} (hw : Wk σ σ') (h : EvB P c c2 σ' Q) : EvB P c c2 σ Q := by
  intro C E X a hC hr; obtain ⟨E', X', e, hr'⟩ := hw C E X a hr; rw [← e]; exact h C E' X' a hC hr'
def roundQ {α : Type} (O : List α → List (Nat × Obj)) (QX : List α → List (Nat × Obj) → Prop) (n nt K : Nat) (xs : List α) : Exit → St → Prop
  | .normal, σ' => ∃ n', n' ≤ n ∧ Wk σ' ⟨[], O xs, n', nt, K⟩
  | .ret, σ' => ∃ n' o', n' ≤ n ∧ Wk σ' ⟨[], o', n', nt, K⟩ ∧ QX xs o'
  | _, _ => False
theorem Wk.renR (ks : List Nat) {σ σ' : St} (hnd : ks.Nodup) (hs : Ey (pos ks 0) σ σ'.slots) (ho : keepR σ (pos ks 0) σ.env 0 ks = some σ'.objs) (hn : σ'.next = ks.length) (ht : σ'.nt = σ.nt) (he : σ'.env = σ.env)
    (hk : ∀ i, i < σ.env → ks[i]? = some i) : Wk σ σ' := by
  intro C E X a hr
  let E'' : Env := { w := E.w, H := fun r' => match ks[r']? with | some k => E.H k | none => undef, Z := fun r' => match ks[r']? with | some k => E.Z k | none => 0, D := fun r' => ∃ k, ks[r']? = some k ∧ E.D k, S := E.S }
  have hren : E.ren (pos ks 0) E'' := by
    refine ⟨fun b hb => ⟨hb, rfl⟩, fun r r' hD hp => ?_⟩; obtain ⟨_, h2⟩ := pos_spec ks 0 r r' hp; simp only [Nat.sub_zero] at h2; exact ⟨⟨r, h2, hD⟩, by simp [E'', h2], by simp [E'', h2]⟩
  refine ⟨E'', fun r' => match ks[r']? with | some k => X k | none => [], rfl, ⟨?_, hr.size.trans ht.symm, hr.defers, ?_, ?_, ?_, ?_, hr.kept, ?_, ?_, ?_, hr.base, hr.grow, hr.envk.trans he.symm, hr.glob⟩⟩
  · intro s v hv; exact FV.ren hren (slotsRen_spec hs s v hv) (hr.ev (.tmp s))
  · intro r o hro; obtain ⟨k, o1, _, hkk, hk2, hk3⟩ := Er ks 0 _ ho r o hro; simp only [Nat.sub_zero] at hkk; obtain ⟨g1, g2, g3, g4⟩ := hr.objs k o1 hk2; have hsp := EF hk3; refine ⟨⟨k, hkk, g1⟩, by simp [E'', hkk, g2, hsp.2.2.1], ?_, ?_⟩
    · simp only [E'', hkk]; exact g3.ren hk3
    simp only [hkk]; exact FVr.renObj hk3 hren g4
  · intro r r' o o' b hro hro' hb hb'; obtain ⟨k, o1, _, hkk, hk2, hk3⟩ := Er ks 0 _ ho r o hro; obtain ⟨k', o1', _, hkk', hk2', hk3'⟩ := Er ks 0 _ ho r' o' hro'; simp only [Nat.sub_zero] at hkk hkk'; simp only [E'', hkk] at hb; simp only [E'', hkk'] at hb'; have := hr.apart k k' o1 o1' b hk2 hk2' hb hb'; subst this; obtain ⟨hl, he⟩ := List.getElem?_eq_some_iff.1 hkk; obtain ⟨hl', he'⟩ := List.getElem?_eq_some_iff.1 hkk'; exact (List.getElem_inj hnd).1 (he.trans he'.symm)
  · intro b hb; obtain ⟨h1, h2⟩ := hr.stay b hb; refine ⟨h1, fun r o hro e => ?_⟩; obtain ⟨k, o1, _, hkk, hk2, hk3⟩ := Er ks 0 _ ho r o hro; simp only [Nat.sub_zero] at hkk; simp only [E'', hkk] at e; exact h2 k o1 hk2 e
  · rintro r ⟨k, hkk, _⟩; rw [hn]; exact (List.getElem?_eq_some_iff.1 hkk).1
  · intro r o b hro hb; obtain ⟨k, o1, _, hkk, hk2, hk3⟩ := Er ks 0 _ ho r o hro; simp only [Nat.sub_zero] at hkk; simp only [E'', hkk] at hb; exact hr.mine k o1 b hk2 hb
  · intro r hkr; have := hk r (by rw [← hr.envk]; exact hkr); simp only [E'', this]; exact hr.env r hkr
  intro r hkr; exact ⟨r, hk r (by rw [← hr.envk]; exact hkr), hr.envD r hkr⟩
section control
variable {P : Program} {s : List (Nat × AV)} {b : List (Nat × Obj)} {n t e : Nat} {Q : Exit → St → Prop}
theorem kR_n {σ : St} {ρ : Nat → Option Nat} {k i : Nat} : keepR σ ρ k i [] = some [] := rfl
theorem kR_c {σ : St} {ρ : Nat → Option Nat} {k i j : Nat} {ks : List Nat} {slc : Bool} {el sz : Nat} {rows rows' : List (List AV)} {l : List (Nat × Obj)} (ho : Aw σ.objs j = some ⟨slc, el, sz, rows, true⟩ := by exact rfl) (he : rows = rows') (h : keepR σ ρ k (i + 1) ks = some l) :
    keepR σ ρ k i (j :: ks) = some ((i, ⟨slc, el, sz, rows', true⟩) :: l) := by
  subst he; simp only [keepR, ho, EL, h]
end control
theorem EvY.skip {ι : Type} {P : Program} {S0 : Nat → Prop} {J : ι → (Nat → Prop) → World → Prop} {σ : St} {g : ι} {Q : Exit → St → ι → Prop} (h : Q .normal σ g) : EvY P S0 J .skip σ g Q := EvY.plain (As h)
theorem EvY.exit {ι : Type} {P : Program} {S0 : Nat → Prop} {J : ι → (Nat → Prop) → World → Prop} {σ : St} {g : ι} {Q : Exit → St → ι → Prop} {id : Nat} (h : Q (.exit id) σ g) : EvY P S0 J (.exit id) σ g Q := EvY.plain (AO h)
theorem EvY.ret {ι : Type} {P : Program} {S0 : Nat → Prop} {J : ι → (Nat → Prop) → World → Prop} {σ : St} {g : ι} {Q : Exit → St → ι → Prop} (h : Q .ret σ g) : EvY P S0 J .ret σ g Q := EvY.plain (Af h)
section
variable {ι : Type} {P : Program} {S0 : Nat → Prop} {J : ι → (Nat → Prop) → World → Prop} {g : ι} {s : List (Nat × AV)} {b : List (Nat × Obj)} {n t e : Nat} {Q : Exit → St → ι → Prop}
theorem EvY.c {c : Operand} {x y : Code} {bb : Bool} (ht : bb = true → EvY P S0 J x ⟨s, b, n, t, e⟩ g Q) (hf : bb = false → EvY P S0 J y ⟨s, b, n, t, e⟩ g Q) (hc : Ba s c = some (.lit (.bool bb)) := by exact rfl) : EvY P S0 J (.cond c x y) ⟨s, b, n, t, e⟩ g Q := EvY.cond (AS hc) ht hf
theorem EvY.cd {c : Operand} {x y : Code} {p : Prop} [Decidable p] (ht : p → EvY P S0 J x ⟨s, b, n, t, e⟩ g Q) (hf : ¬ p → EvY P S0 J y ⟨s, b, n, t, e⟩ g Q) (hc : Ba s c = some (.lit (.bool (decide p))) := by exact rfl) : EvY P S0 J (.cond c x y) ⟨s, b, n, t, e⟩ g Q := EvY.c (fun h => ht (of_decide_eq_true h)) (fun h => hf (of_decide_eq_false h)) hc
theorem EvY.cn {c : Operand} {x y : Code} {p : Prop} [Decidable p] (ht : ¬ p → EvY P S0 J x ⟨s, b, n, t, e⟩ g Q) (hf : p → EvY P S0 J y ⟨s, b, n, t, e⟩ g Q) (hc : Ba s c = some (.lit (.bool (!decide p))) := by exact rfl) : EvY P S0 J (.cond c x y) ⟨s, b, n, t, e⟩ g Q := EvY.c (fun h => ht (by simpa using h)) (fun h => hf (by simpa using h)) hc
theorem EvY.ct {c : Operand} {x y : Code} (h : EvY P S0 J x ⟨s, b, n, t, e⟩ g Q) (hc : Ba s c = some (.lit (.bool true)) := by exact rfl) : EvY P S0 J (.cond c x y) ⟨s, b, n, t, e⟩ g Q := EvY.cond (AS hc) (fun _ => h) (fun h => by cases h)
theorem EvY.cf {c : Operand} {x y : Code} (h : EvY P S0 J y ⟨s, b, n, t, e⟩ g Q) (hc : Ba s c = some (.lit (.bool false)) := by exact rfl) : EvY P S0 J (.cond c x y) ⟨s, b, n, t, e⟩ g Q := EvY.cond (AS hc) (fun h => by cases h) (fun _ => h)
theorem Fp {σ : St} {id : Nat} {l : List Oper} {y : Code} (h : ∀ K : St → Prop, (∀ σ', EvY P S0 J y σ' g Q → K σ') → SeqL P ⟨l⟩ l σ K) : EvY P S0 J (.seq (.region id ⟨l⟩ false) y) σ g Q := EvY.seqE (Ao fun K hK => h K fun σ' h' => hK σ' h')
theorem EvY.sm {id : Nat} {l : List Oper} {y : Code} (T : List (List Bool)) (K : Nat) (h : ∀ Kt : St → Prop, (∀ σ', EvY P S0 J y σ' g Q → Kt σ') → DM P l T (n + 4 * K) (endD P l (n + 4 * K) Kt) l K 0 ⟨s, b, n, t, e⟩ []) (hm : P.follows .mixedOrders = true := by exact rfl) (hok : drawOk l T ⟨s, b, n, t, e⟩ K = true := by exact rfl)
    (hch : readsChkM l T K = true := by exact rfl) (hTl : Nat.ble K T.length = true := by exact rfl) (hkb : keysLt n b = true := by exact rfl) : EvY P S0 J (.seq (.region id ⟨l⟩ true) y) ⟨s, b, n, t, e⟩ g Q := EvY.seqE (CH T K (fun Kt hK => h Kt fun σ' h' => hK σ' h') hm hok hch hTl hkb)
theorem EvY.region_S {σ : St} {id : Nat} {l : List Oper} (h : ∀ K : St → Prop, (∀ σ', Q .normal σ' g → K σ') → SeqL P ⟨l⟩ l σ K) : EvY P S0 J (.region id ⟨l⟩ false) σ g Q := EvY.plain (Ao h)
theorem EvY.loopU {c : Code} {κ : Type} (G : κ → ι) (rs : List Nat) (ks : List Nat) {kept : List (Nat × AV)} (U : κ → List (Nat × AV)) (O : κ → List (Nat × Obj)) (μ : κ → Nat) (x0 : κ) (hk : Kept (pos rs 0) s ks kept) (hO : CZ ⟨s, b, n, t, e⟩ (pos rs 0) 0 rs = some (O x0)) (hU : Ey (pos rs 0) ⟨s, b, n, t, e⟩ (U x0)) (hg : g = G x0)
    (round : ∀ x (R : Exit → St → ι → Prop), (∀ e' σ' g', roundY (fun x => ⟨U x ++ kept, O x, rs.length, t, e⟩) G μ x Q e' σ' g' → R e' σ' g') → EvY P S0 J c ⟨U x ++ kept, O x, rs.length, t, e⟩ (G x) R) (hnd : rs.Nodup := by decide) (hl : ∀ i, i < e → rs[i]? = some i := by decide) : EvY P S0 J (.loop c) ⟨s, b, n, t, e⟩ g Q :=
  EvY.loop (fun x => ⟨U x ++ kept, O x, rs.length, t, e⟩) G μ x0 hg (Wk.ren rs hnd (Fy hU hk.ren) hO rfl rfl rfl hl) fun x => round x _ fun _ _ _ h => h
theorem roundYU {κ : Type} {G : κ → ι} {U : κ → List (Nat × AV)} {kept : List (Nat × AV)} {O : κ → List (Nat × Obj)} {μ : κ → Nat} {x : κ} (rs ks : List Nat) {m : Nat} (y : κ) (hμ : μ y < μ x) (hO : CZ ⟨s, b, n, t, e⟩ (pos rs 0) 0 rs = some (O y)) (hU : Ey (pos rs 0) ⟨s, b, n, t, e⟩ (U y)) (hk : Kept (pos rs 0) s ks kept) (hg : g = G y) (hm : rs.length = m := by exact rfl)
    (hnd : rs.Nodup := by decide) (hl : ∀ i, i < e → rs[i]? = some i := by decide) : roundY (fun x => ⟨U x ++ kept, O x, m, t, e⟩) G μ x Q .normal ⟨s, b, n, t, e⟩ g :=
  ⟨y, hμ, Wk.ren rs hnd (Fy hU hk.ren) hO hm.symm rfl rfl hl, hg⟩
end
section
variable {P : Program} {s : List (Nat × AV)} {b : List (Nat × Obj)} {n t e : Nat} {Q : Exit → St → Prop}
theorem EvT.sr {σ : St} {id : Nat} {l : List Oper} {y : Code} (h : ∀ K : St → Prop, (∀ σ', EvT P y σ' Q → K σ') → SeqL P ⟨l⟩ l σ K) : EvT P (.seq (.region id ⟨l⟩ false) y) σ Q := EvT.split (Ao fun K hK => h K fun σ' h' => hK σ' h')
theorem EvB.sr {σ : St} {id : Nat} {l : List Oper} {y c2 : Code} (h : ∀ K : St → Prop, (∀ σ', EvB P y c2 σ' Q → K σ') → SeqL P ⟨l⟩ l σ K) : EvB P (.seq (.region id ⟨l⟩ false) y) c2 σ Q := EvB.seqE (Ao fun K hK => h K fun σ' h' => hK σ' h')
end
section
variable {P : Program} {l0 n0 : Nat} {s : List (Nat × AV)} {b : List (Nat × Obj)} {n t e : Nat} {Q : Exit → St → Prop}
theorem EvI.region_S {σ : St} {id : Nat} {l : List Oper} (h : ∀ K : St → Prop, (∀ σ', Q .normal σ' → K σ') → SeqL P ⟨l⟩ l σ K) (hd : l.all noDefer = true := by exact rfl) : EvI P l0 n0 (.region id ⟨l⟩ false) σ Q := EvI.region hd (h _ fun _ h => h)
end
theorem wpL_to {P : Program} {ops : Array Oper} {n : Nat} {l2 : List Oper} {Q : Exit → Act → World → Prop} : ∀ (l1 : List Oper) (a : Act) (w : World), wpL P ops (fun e a w => e = .normal ∧ wpListIn Fence.wide n P ops Q l2 a w) l1 a w → wpListIn Fence.wide n P ops Q (l1 ++ l2) a w
  | [], a, w, h => by rw [wpL_nil] at h; exact h.2
  | o :: l1, a, w, h => by
    rw [FN] at h; simp only [List.cons_append, wpListIn]
    split at h
    · rename_i hw
      rw [if_pos hw]; refine ⟨fun _ _ => trivial, ?_⟩; have e : o.semAt Fence.wide.round a.eval = execOp a.eval o := rfl; rw [e]
      unfold Oper.wp at h
      generalize (execOp a.eval o).run P w = r at *
      cases r with
      | ok x w' =>
        cases x <;> simp only [Oper.upon, Oper.uponIn] at h ⊢
        case value u => exact wpL_to l1 _ _ h
        case skip => exact wpL_to l1 _ _ h
        case defer d => exact wpL_to l1 _ _ h
        case enter f args =>
          refine ⟨fun h0 => by simp [Fence.wide] at h0, callsIn_wide.2 (h.mono ?_)⟩; rintro e w'' h'
          cases e <;> simp only at h' ⊢
          · exact wpL_to l1 _ _ h'
          · exact absurd h'.1 (by simp)
          · obtain ⟨a0, w0, h0, _⟩ := h'
            cases h0
        case row row args =>
          refine ⟨fun h0 => by simp [Fence.wide] at h0, ?_⟩; intro c cs _; obtain ⟨v, w', r, s⟩ := h c cs; exact ⟨v, w', wpL_to l1 _ _ r, stepsIn_wide.2 s⟩
      | halt x w' =>
        cases x <;> simp only [Oper.upon, Oper.uponIn] at h ⊢
        case panic v => exact absurd h.1 (by simp)
    · rename_i hw
      rw [if_neg hw]; exact ⟨fun _ _ => trivial, wpL_to l1 _ _ h⟩
def yvC : List AV → Option (List Value)
  | [] => some []
  | .lit v :: l => (yvC l).map (v :: ·)
  | _ => none
def yvAV : AV → Option Value
  | .lit v => some v
  | .agg cs => (yvC cs).map fun l => .agg l.toArray
  | _ => none
def yvL : List AV → Option (List Value)
  | [] => some []
  | v :: l => match yvAV v, yvL l with
    | some y, some ys => some (y :: ys)
    | _, _ => none
theorem yvC_spec {E : Env} : ∀ {cs : List AV} {vs xs : List Value}, yvC cs = some vs → FVc E cs xs → xs = vs
  | [], vs, xs, h, hx => by
    simp only [yvC, Option.some.injEq] at h; subst h
    simpa [FVc] using hx
  | .lit v :: l, vs, xs, h, hx => by
    simp only [yvC, Option.map_eq_some_iff] at h; obtain ⟨ws, h1, rfl⟩ := h; simp only [FVc, FV] at hx; obtain ⟨y, ys, rfl, _, rfl, h2⟩ := hx; rw [yvC_spec h1 h2]
  | .top :: _, _, _, h, _ => by cases h
  | .agg _ :: _, _, _, h, _ => by cases h
  | .tup _ :: _, _, _, h, _ => by cases h
  | .sh _ _ :: _, _, _, h, _ => by cases h
  | .sadr _ _ :: _, _, _, h, _ => by cases h
  | .als _ _ _ :: _, _, _, h, _ => by cases h
  | .adr _ _ _ :: _, _, _, h, _ => by cases h
  | .fn _ _ _ :: _, _, _, h, _ => by cases h
  | .hd _ :: _, _, _, h, _ => by cases h
  | .shm _ _ :: _, _, _, h, _ => by cases h
  | .rem _ _ _ :: _, _, _, h, _ => by cases h
theorem yvAV_spec {E : Env} {v : AV} {y x : Value} (h : yvAV v = some y) (hx : FV E v x) : x = y := by
  cases v <;> simp only [yvAV] at h
  case lit v =>
    simp only [Option.some.injEq] at h; subst h
    simpa [FV] using hx
  case agg cs =>
    simp only [Option.map_eq_some_iff] at h; obtain ⟨vs, h1, rfl⟩ := h; simp only [FV] at hx; obtain ⟨xs, rfl, h2⟩ := hx; rw [← yvC_spec h1 h2]
  all_goals cases h
theorem yvL_spec {E : Env} : ∀ {cs : List AV} {vs xs : List Value}, yvL cs = some vs → FVs E cs xs → xs = vs
  | [], vs, xs, h, hx => by
    simp only [yvL, Option.some.injEq] at h; subst h
    simpa [FVs] using hx
  | c :: cs, vs, xs, h, hx => by
    simp only [yvL] at h
    split at h
    · rename_i y ys h1 h2
      simp only [Option.some.injEq] at h; subst h; simp only [FVs] at hx; obtain ⟨z, zs, rfl, g1, g2⟩ := hx; rw [yvAV_spec h1 g1, yvL_spec h2 g2]
    · cases h
def YP (P : Program) (ops : Array Oper) (l : Nat) (l2 : List Oper) (zs : List Operand) (y d : Nat) (v : Array Value) (R : Bool → St → Prop) (σ : St) : Prop :=
  σ.ev (.tmp y) = .lit (.func (.yield l) #[] #[]) ∧ (∃ vs : List Value, yvL (zs.map σ.ev) = some vs ∧ v = vs.toArray) ∧ d < σ.nt ∧
    SeqL P ops l2 (σ.put (some d) (.lit (.bool true))) (R true) ∧ SeqL P ops l2 (σ.put (some d) (.lit (.bool false))) (R false)
theorem EvY.yieldL {α : Type} {P : Program} {l : Nat} {N : List α → α → Prop} {encs : α → Array Value} {S0 : Nat → Prop} {J : Bool × List α → (Nat → Prop) → World → Prop} (hR : Rnd P l encs N S0 J) {σ0 : St} {pre : List α} {Q : Exit → St → Bool × List α → Prop}
    {id d y ty : Nat} {zs : List Operand} {ts : Array TypeId} {pos : String} {aft : Array Edge} {l2 : List Oper} (l1 : List Oper) (x : α) (hl : N pre x)
    (h : ∀ K : St → Prop, (∀ σ, YP P ⟨l1 ++ ⟨some d, .call { callee := .value (.tmp y), args := ⟨zs⟩, argTypes := ts }, ty, pos, aft, none⟩ :: l2⟩ l l2 zs y d (encs x) (fun b σ' => Q .normal σ' (b, pre ++ [x])) σ → K σ) → SeqL P ⟨l1 ++ ⟨some d, .call { callee := .value (.tmp y), args := ⟨zs⟩, argTypes := ts }, ty, pos, aft, none⟩ :: l2⟩ l1 σ0 K) :
    EvY P S0 J (.region id ⟨l1 ++ ⟨some d, .call { callee := .value (.tmp y), args := ⟨zs⟩, argTypes := ts }, ty, pos, aft, none⟩ :: l2⟩ false) σ0 (true, pre) Q := by
  intro C E0 X0 a0 Z hi hr0; refine (wpIn_wide (n := 1)).1 (wpIn_region_list (wpL_to l1 _ _ (h _ (fun _ h => h) C E0 X0 a0 hr0 _ ?_))); rintro E X σ a hr ⟨hy, hx, hd, ht, hf⟩; refine ⟨rfl, ?_⟩; have hk : Keep Z C.w0 E.w := hr.kept.mono hi.own; have hj := hR.step _ _ _ _ hi.j hk; obtain ⟨Z1, hZ1⟩ : ∃ Z1, addZ Z C.w0 E.w = Z1 := ⟨_, rfl⟩; rw [hZ1] at hj
  have hown : ∀ b, C.own b ∨ C.w0.heap.size ≤ b → b < E.w.heap.size → Z1 b := fun b hb hlt => by
    rw [← hZ1]
    rcases hb with hb | hb
    · exact .inl (hi.own b hb)
    exact .inr ⟨hb, hlt⟩
  have hSZ : ∀ b, E.S b → Z1 b ∨ S0 b := fun b hb => by
    rcases hr.grow b hb with h | h | h
    · rcases hi.S0 b h with h | h
      · rw [← hZ1]; exact .inl (.inl h)
      exact .inr h
    · exact .inl (hown b (.inr h) (hr.stay b hb).1)
    exact .inl (hown b (.inl h) (hr.stay b hb).1)
  have hoZ : ∀ r o b, Aw σ.objs r = some o → Bl (E.H r) = some b → Z1 b := fun r o b h1 h2 => hown b (hr.mine r o b h1 h2) ((hr.objs r o h1).2.2.1.lt h2); obtain ⟨fn, tmps, assign, body, hrun, hround⟩ := hR.round pre Z1 x E.w hj hl; have hyv := hr.ev (.tmp y); rw [hy] at hyv; simp only [FV] at hyv; obtain ⟨vs, hvs, hex⟩ := hx; have hargs : zs.map a.eval = vs := yvL_spec hvs (hr.evs zs)
  have fin : ∀ (b : Bool) (B : World), Keep (fun b => ¬ (Z1 b ∨ S0 b)) E.w B → Rel { C.at E σ with w0 := B } { E with w := B } X (σ.put (some d) (.lit (.bool b))) (a.put (some d) (.bool b)) := by
    intro b B hB; have hle : E.le { E with w := B } := ⟨fun b hb => ⟨hb, hB.block b (hr.stay b hb).1 fun h => h (hSZ b hb)⟩, fun r hr => ⟨hr, rfl, rfl⟩⟩; have hb : ∀ r o, Aw σ.objs r = some o → ∀ b, Bl (E.H r) = some b → B.heap[b]? = E.w.heap[b]? := fun r o h1 b h2 => hB.block b ((hr.objs r o h1).2.2.1.lt h2) fun h => h (.inl (hoZ r o b h1 h2))
    have h0 : Rel { C.at E σ with w0 := B } { E with w := B } X σ a :=
      ⟨fun s v hv => FV.le _ hle _ (hr.slots s v hv), hr.size, hr.defers, fun r o h => ⟨(hr.objs r o h).1, (hr.objs r o h).2.1, (hr.objs r o h).2.2.1.kept (hb r o h), FVr.le _ _ (hle.by _) _ (hr.objs r o h).2.2.2⟩, hr.apart,
        fun b hb => ⟨Nat.lt_of_lt_of_le (hr.stay b hb).1 hB.size, (hr.stay b hb).2⟩, hr.fresh, Keep.refl _ _, fun r o b h1 h2 => .inl ⟨r, o, h1, h2⟩, hr.env, hr.envD, fun b hb => hb, fun b hb => .inl hb, hr.envk, hr.glob.le hle⟩
    exact h0.put (some d) (fun d' e => by cases e; exact hd) (by simp [FV])
  have hin : ∀ (b : Bool) (B : World) g', J g' Z1 B → InY S0 J { C.at E σ with w0 := B } g' Z1 := fun b B g' hj =>
    ⟨hi.dfr, fun b ⟨r, o, h1, h2⟩ => hoZ r o b h1 h2, hSZ, hj⟩
  simp only [wpListIn]; rw [if_pos (by simp [Region.wanted])]; refine ⟨fun _ _ => trivial, ?_⟩; have he : (⟨some d, .call { callee := .value (.tmp y), args := ⟨zs⟩, argTypes := ts }, ty, pos, aft, none⟩ : Oper).semAt Fence.wide.round a.eval = execOp a.eval ⟨some d, .call { callee := .value (.tmp y), args := ⟨zs⟩, argTypes := ts }, ty, pos, aft, none⟩ := rfl; rw [he]
  have hr1 : (execOp a.eval ⟨some d, .call { callee := .value (.tmp y), args := ⟨zs⟩, argTypes := ts }, ty, pos, aft, none⟩).run P E.w = .ok (.round l fn tmps assign body) E.w := by
    unfold execOp
    simp only [resolve, invoke, Sem.run_bind, Sem.run_pure, Result.andThen_ok, List.map_toArray, hyv, hargs]; rw [hex] at hrun
    simpa [go_sem] using hrun
  rw [hr1]; refine ⟨fun h => by simp [Fence.wide] at h, ?_⟩; refine hround.mono ?_
  have fin2 : ∀ (b : Bool) (B : World), J (b, pre ++ [x]) Z1 B → Keep (fun b => ¬ (Z1 b ∨ S0 b)) E.w B → SeqL P ⟨l1 ++ ⟨some d, .call { callee := .value (.tmp y), args := ⟨zs⟩, argTypes := ts }, ty, pos, aft, none⟩ :: l2⟩ l2 (σ.put (some d) (.lit (.bool b))) (fun σ' => Q .normal σ' (b, pre ++ [x])) →
      wpListIn Fence.wide 1 P ⟨l1 ++ ⟨some d, .call { callee := .value (.tmp y), args := ⟨zs⟩, argTypes := ts }, ty, pos, aft, none⟩ :: l2⟩ (fun e a' w' => ∃ C' E' X' σ' g' Z', E'.w = w' ∧ InY S0 J C' g' Z' ∧ Rel C' E' X' σ' a' ∧ Q e σ' g') l2 (a.put (some d) (.bool b)) B := by
    intro b B hj' hB hs
    have := wpL_to (n := 1) (l2 := []) l2 _ _ (hs _ _ _ _ (fin b B hB) (fun e a' w' => e = .normal ∧ wpListIn Fence.wide 1 P ⟨l1 ++ ⟨some d, .call { callee := .value (.tmp y), args := ⟨zs⟩, argTypes := ts }, ty, pos, aft, none⟩ :: l2⟩ (fun e a' w' => ∃ C' E' X' σ' g' Z', E'.w = w' ∧ InY S0 J C' g' Z' ∧ Rel C' E' X' σ' a' ∧ Q e σ' g') [] a' w')
      (fun E' X' σ' a' h1 h2 => ⟨rfl, by simp only [wpListIn]; exact ⟨_, E', X', σ', _, Z1, rfl, hin b B _ hj', h1, h2⟩⟩))
    rwa [List.append_nil] at this
  rintro e B ⟨hB, ⟨rfl, hj'⟩ | ⟨rfl, hj'⟩⟩
  · exact fin2 true B hj' hB ht
  exact fin2 false B hj' hB hf
theorem EvY.yieldS {α : Type} {P : Program} {l : Nat} {N : List α → α → Prop} {encs : α → Array Value} {S0 : Nat → Prop} {J : Bool × List α → (Nat → Prop) → World → Prop} (hR : Rnd P l encs N S0 J) {σ0 : St} {pre : List α} {Q : Exit → St → Bool × List α → Prop}
    {id d y ty : Nat} {zs : List Operand} {ts : Array TypeId} {pos : String} {aft : Array Edge} {l1 : List Oper} (i : Nat) (x : α) (hl : N pre x)
    (ho : l1[i]? = some ⟨some d, .call { callee := .value (.tmp y), args := ⟨zs⟩, argTypes := ts }, ty, pos, aft, none⟩)
    (h : ∀ K : St → Prop, (∀ σ, YP P ⟨l1⟩ l (l1.drop (i + 1)) zs y d (encs x) (fun b σ' => Q .normal σ' (b, pre ++ [x])) σ → K σ) → SeqL P ⟨l1⟩ (l1.take i) σ0 K) :
    EvY P S0 J (.region id ⟨l1⟩ false) σ0 (true, pre) Q := by
  obtain ⟨hlt, he⟩ := List.getElem?_eq_some_iff.1 ho
  have e : l1 = l1.take i ++ ⟨some d, .call { callee := .value (.tmp y), args := ⟨zs⟩, argTypes := ts }, ty, pos, aft, none⟩ :: l1.drop (i + 1) := by
    rw [← he, List.getElem_cons_drop, List.take_append_drop]
  have := EvY.yieldL hR (σ0 := σ0) (Q := Q) (id := id) (d := d) (y := y) (ty := ty) (zs := zs) (ts := ts) (pos := pos) (aft := aft) (l2 := l1.drop (i + 1)) (l1.take i) x hl; rw [← e] at this; exact this h
theorem EvY.yieldT {α : Type} {P : Program} {l : Nat} {N : List α → α → Prop} {encs : α → Array Value} {S0 : Nat → Prop} {J : Bool × List α → (Nat → Prop) → World → Prop} (hR : Rnd P l encs N S0 J) {σ0 : St} {pre : List α} {Q : Exit → St → Bool × List α → Prop} {c : Code}
    {id d y ty : Nat} {zs : List Operand} {ts : Array TypeId} {pos : String} {aft : Array Edge} {l1 : List Oper} (i : Nat) (x : α) (hl : N pre x)
    (ho : l1[i]? = some ⟨some d, .call { callee := .value (.tmp y), args := ⟨zs⟩, argTypes := ts }, ty, pos, aft, none⟩)
    (h : ∀ K : St → Prop, (∀ σ, YP P ⟨l1⟩ l (l1.drop (i + 1)) zs y d (encs x) (fun b σ' => EvY P S0 J c σ' (b, pre ++ [x]) Q) σ → K σ) → SeqL P ⟨l1⟩ (l1.take i) σ0 K) :
    EvY P S0 J (.seq (.region id ⟨l1⟩ false) c) σ0 (true, pre) Q := FH (EvY.yieldS hR i x hl ho h)
theorem SeqL.k {P : Program} {ops : Array Oper} {l : List Oper} {σ : St} {Q : St → Prop} (h : ∀ K : St → Prop, (∀ σ', Q σ' → K σ') → SeqL P ops l σ K) : SeqL P ops l σ Q := h Q fun _ h => h
theorem Fun.ofT {P : Program} {f : FuncId} {fn : Func} {c : Code} {args : List AV} {Post : AV → List (Nat × Obj) → Prop} {nt : Nat} {rs : List ResultVar} (hf : P.funcs[f]? = some fn) (hb : fn.body = some c) (ht : fn.ntmps = nt)
    (hr : fn.results.toList = rs) (hnm : (fn.name == "runtime.NumGoroutine") = false) (hn : Nat.ble args.length nt = true) (h : EvT P c ⟨Dx 0 args, [], 0, nt, 0⟩ (endP P rs Post)) : Fun P f args Post :=
  Fun.of_bodyT hf hb hnm (by rw [ht]; exact EV hn) (by rw [ht, hr]; exact h)
theorem h0_app {l m : List (Nat × Obj)} {rs : List Nat} (h : rs.all (fun r => (Aw l r).isNone) = true) : ∀ r q, Aw l r = some q → Aw (l ++ m) r = some q ∧ r ∉ rs := fun r q hf => by
  refine ⟨by rw [BE, hf]; rfl, fun hm => ?_⟩; have := List.all_eq_true.1 h r hm; rw [hf] at this
  cases this
section
variable {P : Program} {s : List (Nat × AV)} {b : List (Nat × Obj)} {n t e : Nat}
theorem WkU (rs : List Nat) (ks : List Nat) {kept : List (Nat × AV)} (U : List (Nat × AV)) (O : List (Nat × Obj)) (hk : Kept (pos rs 0) s ks kept) (hO : CZ ⟨s, b, n, t, e⟩ (pos rs 0) 0 rs = some O) (hU : Ey (pos rs 0) ⟨s, b, n, t, e⟩ U) (hnd : rs.Nodup := by decide) (hl : ∀ i, i < e → rs[i]? = some i := by decide) :
    Wk ⟨s, b, n, t, e⟩ ⟨U ++ kept, O, rs.length, t, e⟩ := Wk.ren rs hnd (Fy hU hk.ren) hO rfl rfl rfl hl
theorem roundQ_n {α : Type} {O : List α → List (Nat × Obj)} {QX : List α → List (Nat × Obj) → Prop} {n0 : Nat} {xs : List α} (rs : List Nat) (hO : keepR ⟨s, b, n, t, e⟩ (pos rs 0) e 0 rs = some (O xs)) (hn : rs.length ≤ n0) (hnd : rs.Nodup) (hl : leads e rs) : roundQ O QX n0 t e xs .normal ⟨s, b, n, t, e⟩ :=
  ⟨rs.length, hn, Wk.renR rs hnd trivial hO rfl rfl rfl hl⟩
end
section
variable {C : Ctx} {E : Env} {P : Program} {S0 : Nat → Prop} {X : Nat → List Value} {Z : Nat → Prop} {a : Act} {fn : Func} {gf : FuncId} {o : List (Nat × Obj)} {s0 : List (Nat × AV)} {α : Type}
def SeqA {α : Type} (P : Program) (gf : Nat) (args : List AV) (encs : α → Array Value) (S Sp : List α → Prop) (N : List α → α → Prop) : Prop :=
  Bodied P gf ∧ ∀ (E : Env) (xs : List Value) (l : Nat) (S0 Z0 : Nat → Prop) (J : Bool × List α → (Nat → Prop) → World → Prop), FVs E.clear args xs → (∀ b, E.S b → b < E.w.heap.size) → LaidOK E.w E.S → Rnd P l encs N S0 J → (∀ b, E.S b → Z0 b ∨ S0 b) → J (true, []) Z0 E.w →
    Calls P gf (xs ++ [Value.func (Fn.yield l) #[] #[]]).toArray E.w fun e B => (∃ v, e = .returned v) ∧ ∃ g Z, (g.1 = true → S g.2) ∧ (g.1 = false → Sp g.2) ∧ J g Z B
theorem FVs.app : ∀ {a b : List AV} {xs ys : List Value}, FVs E a xs → FVs E b ys → FVs E (a ++ b) (xs ++ ys)
  | [], b, xs, ys, h, h2 => by
    simp only [FVs] at h; subst h; exact h2
  | c :: a, b, xs, ys, h, h2 => by
    simp only [FVs] at h; obtain ⟨y, zs, rfl, h3, h4⟩ := h; exact ⟨y, zs ++ ys, rfl, h3, FVs.app h4 h2⟩
theorem SeqA.of_body {c : Code} {args : List AV} {N : List α → α → Prop} {encs : α → Array Value} {S Sp : List α → Prop}
    (hf : P.funcs[gf]? = some fn) (hb : fn.body = some c) (hnm : (fn.name == "runtime.NumGoroutine") = false) (hrs : fn.results = #[]) (hn : args.length + 1 ≤ fn.ntmps)
    (h : ∀ l S0 (J : Bool × List α → (Nat → Prop) → World → Prop), Rnd P l encs N S0 J → EvY P S0 J c ⟨Dx 0 (args ++ [.lit (.func (.yield l) #[] #[])]), [], 0, fn.ntmps, 0⟩ (true, []) (fun e σ' g' => (e = .normal ∨ e = .ret) ∧ (g'.1 = true → S g'.2) ∧ (g'.1 = false → Sp g'.2))) :
    SeqA P gf args encs S Sp N := by
  refine ⟨⟨fn, hf, by simp [hb], hnm⟩, fun E xs0 l S0 Z0 J hx0 hS hG hR hSZ hJ => ?_⟩; have hx : FVs E.clear (args ++ [.lit (.func (.yield l) #[] #[])]) (xs0 ++ [Value.func (Fn.yield l) #[] #[]]) := FVs.app hx0 ⟨_, _, rfl, by simp [FV], by simp [FVs]⟩
  generalize xs0 ++ [Value.func (Fn.yield l) #[] #[]] = xs at hx ⊢
  have hn2 : (args ++ [AV.lit (.func (.yield l) #[] #[])]).length ≤ fn.ntmps := by simpa using hn
  have h' := h l S0 J hR
  generalize args ++ [AV.lit (.func (.yield l) #[] #[])] = args at hx hn2 h'
  have hxl := hx.length
  let C : Ctx := ⟨E.w, fun _ => False, fun _ => undef, 0, E.S, fun _ => 0, []⟩
  have hrel : Rel C E.clear (fun _ => []) ⟨Dx 0 args, [], 0, fn.ntmps, 0⟩ { tmps := xs.toArray ++ Array.replicate (fn.ntmps - xs.toArray.size) undef, defers := [] } := by
    refine ⟨?_, ?_, rfl, ?_, ?_, ?_, ?_, Keep.refl _ _, ?_, ?_, ?_, fun b hb => hb, fun b hb => .inl hb, rfl, hG⟩
    · intro s v hv; obtain ⟨_, h2⟩ := F3 args 0 s v hv; simp only [Nat.sub_zero] at h2; obtain ⟨y, hy, hfv⟩ := hx.get h2; have hlt : s < xs.length := (List.getElem?_eq_some_iff.1 hy).1
      have : (xs.toArray ++ Array.replicate (fn.ntmps - xs.toArray.size) undef).getD s undef = y := by
        have e : (xs.toArray ++ Array.replicate (fn.ntmps - xs.toArray.size) undef)[s]? = some y := by
          rw [Array.getElem?_append_left (by simpa using hlt)]
          simpa using hy
        rw [Array.getD_eq_getD_getElem?, e]; rfl
      rw [this]; exact hfv
    · simp [hxl]; omega
    · intro r o hr; simp [Aw] at hr
    · intro r r' o o' b hr; simp [Aw] at hr
    · intro b hb; exact ⟨hS b hb, fun r o hr => by simp [Aw] at hr⟩
    · intro r hr; exact hr.elim
    · intro r o b hr; simp [Aw] at hr
    · intro r hr; exact absurd hr (Nat.not_lt_zero _)
    intro r hr; exact absurd hr (Nat.not_lt_zero _)
  have hin : InY S0 J C (true, []) Z0 := ⟨rfl, fun b hb => hb.elim, hSZ, hJ⟩; refine calls_of_wp hf hb (wp_mono (h' C E.clear _ _ _ hin hrel) ?_); rintro e a' w' ⟨C', E', X', σ', g', Z', rfl, h2, h3, h4, h5, h6⟩; have hd : a'.defers = [] := h3.defers.trans h2.dfr
  have hr2 : (results fn a'.tmps).run P E'.w = .ok (.tuple #[]) E'.w := by
    unfold results
    simp [hrs]
  have hj := hR.step _ _ _ _ h2.j (h3.kept.mono h2.own); have fin : (∃ v, Ending.returned (.tuple #[]) = .returned v) ∧ ∃ g Z, (g.1 = true → S g.2) ∧ (g.1 = false → Sp g.2) ∧ J g Z E'.w := ⟨⟨_, rfl⟩, g', _, h5, h6, hj⟩
  rcases h4 with rfl | rfl
  · exact ⟨hd, _, hr2, fin⟩
  exact ⟨hd, _, hr2, fin⟩
theorem SeqA.of {c : Code} {args : List AV} {nt : Nat} {N : List α → α → Prop} {encs : α → Array Value} {S Sp : List α → Prop}
    (hf : P.funcs[gf]? = some fn) (hb : fn.body = some c) (ht : fn.ntmps = nt) (hrs : fn.results = #[]) (hnm : (fn.name == "runtime.NumGoroutine") = false) (hn : Nat.ble (args.length + 1) nt = true)
    (h : ∀ l S0 (J : Bool × List α → (Nat → Prop) → World → Prop), Rnd P l encs N S0 J → EvY P S0 J c ⟨Dx 0 (args ++ [.lit (.func (.yield l) #[] #[])]), [], 0, nt, 0⟩ (true, []) (fun e σ' g' => (e = .normal ∨ e = .ret) ∧ (g'.1 = true → S g'.2) ∧ (g'.1 = false → Sp g'.2))) :
    SeqA P gf args encs S Sp N := SeqA.of_body hf hb hnm hrs (by rw [ht]; exact EV hn) (by rw [ht]; exact h)
theorem wp_rangeA {g : Operand} {ps : Array Tmp} {assign body : Code} {Q : Exit → Act → World → Prop} {w : World} {gf : Nat} {lb : Array Value}
    (hg : a.eval g = .func (.func gf) #[] lb) (eg : ∀ args w, (callFunc gf args).run P w = .ok (.enter gf args) w)
    {encs : α → Array Value} {S Sp : List α → Prop} {N : List α → α → Prop} {Z0 S0 : Nat → Prop} (hseq : SeqZ P gf lb encs S Sp N Z0 S0 w) (hps : ∀ x, (encs x).size = ps.size) (hZ0 : ∀ b, Z0 b → b < w.heap.size) (hS0 : ∀ b, S0 b → b < w.heap.size)
    (I : List α → (Nat → Prop) → World → Prop) (Ix : Code → List α → (Nat → Prop) → World → Prop)
    (hI : ∀ pre Z A B, I pre Z A → Keep Z A B → I pre (addZ Z A B) B) (hIx : ∀ c pre Z A B, Ix c pre Z A → Keep Z A B → Ix c pre (addZ Z A B) B)
    (hIm : ∀ pre (Z Z' : Nat → Prop) A, I pre Z A → (∀ b, Z' b → Z b) → I pre Z' A) (hIxm : ∀ c pre (Z Z' : Nat → Prop) A, Ix c pre Z A → (∀ b, Z' b → Z b) → Ix c pre Z' A) (h0 : I [] Z0 w)
    (hround : ∀ (l n : Nat) (pre : List α) (x : α) (Z : Nat → Prop) (A : World), I pre Z A → N pre x → Z l →
      assign.wpIn (rnd l) n P (Exit.then (fun a₁ A₁ => Keep (fun b => ¬ (Z b ∨ S0 b)) A A₁ ∧ ∀ A₂, Keep (fun b => b = l) A₁ A₂ → A₂.heap.size = A₁.heap.size → body.wpIn (rnd l) n P (zPost S0 I Ix (pre ++ [x]) Z A₂) a₁ A₂) (fun _ _ _ => False))
        { tmps := (ps.zip (encs x)).foldl (fun t (p, v) => t.setIfInBounds p v) a.tmps, defers := [] } A)
    (hdone : ∀ (D : Nat) (xs : List α) (Z : Nat → Prop) (W : World), w.heap.size ≤ D → Z D → S xs → I xs Z W → W.heap[D]? = some (.deferred (some [])) → Q .normal { a with defers := { target := .collected D, args := #[] } :: a.defers } W)
    (hstop : ∀ (D : Nat) (c : Code) (pre : List α) (Z : Nat → Prop) (W : World), w.heap.size ≤ D → Z D → Sp pre → Ix c pre Z W → W.heap[D]? = some (.deferred (some [])) → c.wp P Q { a with defers := { target := .collected D, args := #[] } :: a.defers } W) :
    (Code.rangeFunc g ps assign body).wp P Q a w := by
  refine (wpIn_wide (n := 1)).1 (wpIn_rangeFunc ?_); intro fn hfn; obtain ⟨rec, hrec⟩ : ∃ rec : LoopState → Option Code → Loop, rec = fun st pe => { state := st, pending := pe, fn, tmps := a.tmps, params := ps, assign, body, defers := w.heap.size } := ⟨_, rfl⟩; obtain ⟨W1, hW1⟩ : ∃ W1, (w.alloc (.deferred (some []))).alloc (.loop (rec .ready none)) = W1 := ⟨_, rfl⟩; obtain ⟨l, hl⟩ : ∃ l, l = w.heap.size + 1 := ⟨_, rfl⟩; obtain ⟨D, hD⟩ : ∃ D, D = w.heap.size := ⟨_, rfl⟩
  have hsz1 : W1.heap.size = w.heap.size + 2 := by rw [← hW1]; simp
  have hL1 : W1.heap[l]? = some (.loop (rec .ready none)) := by
    rw [← hW1, hl]; have := World.alloc_heap_new (w.alloc (.deferred (some []))) (.loop (rec .ready none)); rwa [World.size_alloc] at this
  have hK1 : W1.heap[D]? = some (.deferred (some [])) := by
    rw [← hW1, hD]; exact (Go.RowKit.Below.heap_alloc _ _ _ (by simp)).trans (World.alloc_heap_new w _)
  have hkp1 : ∀ own, Keep own w W1 := fun own => by rw [← hW1]; exact (Keep.alloc own w _).trans (Keep.alloc own _ _)
  have hlD : l ≠ D := by omega
  have hlS : ¬ S0 l := fun h => by have := hS0 l h; omega
  have hI1 : I [] (fun b => Z0 b ∨ b = l ∨ b = D) W1 := hIm _ _ _ _ (hI _ _ _ _ h0 (hkp1 Z0)) fun b hb => by
    rcases hb with h | h | h
    · exact .inl h
    · exact .inr ⟨by omega, by omega⟩
    exact .inr ⟨by omega, by omega⟩
  refine ⟨l, [{ target := .collected D, args := #[] }], W1, { target := .fn (.func gf) lb, args := #[.func (.yield l) #[] #[]] }, W1, gf, #[.func (.yield l) #[] #[]] ++ lb, W1, ?_, ?_, fun _ _ => trivial, ?_, fun h => by simp [Fence.wide] at h, ?_⟩
  · rw [← hW1, hrec, hl, hD]; exact run_enterLoop_outer _ _ _ _ _
  · simp only [resolve, hg]
    simp [go_sem]
  · simp [invoke, go_sem, eg]
  refine callsIn_wide.2 ((hseq l
    (fun pre Z A => I pre (fun b => Z b ∨ b = l ∨ b = D) A ∧ A.heap[l]? = some (.loop (rec .ready none)) ∧ A.heap[D]? = some (.deferred (some [])) ∧ ¬ Z l ∧ ¬ Z D)
    (fun pre Z A => ∃ c, Ix c pre (fun b => Z b ∨ b = l ∨ b = D) A ∧ A.heap[l]? = some (.loop (rec .done (some c))) ∧ A.heap[D]? = some (.deferred (some [])) ∧ ¬ Z l ∧ ¬ Z D) W1 (hkp1 _) ?_ ?_ ?_ ⟨hI1, hL1, hK1, fun h => by have := hZ0 l h; omega, fun h => by have := hZ0 D h; omega⟩).mono ?_)
  · rintro pre Z A B ⟨h1, h2, h3, h4, h5⟩ hk; have a1 := (Array.getElem?_eq_some_iff.1 h2).1; have a2 := (Array.getElem?_eq_some_iff.1 h3).1; refine ⟨hIm _ _ _ _ (hI _ _ _ _ h1 (hk.mono fun b hb => .inl hb)) fun b hb => ?_, (hk.block l a1 h4).trans h2, (hk.block D a2 h5).trans h3, ?_, ?_⟩
    · rcases hb with (h | h) | h
      · exact .inl (.inl h)
      · exact .inr h
      exact .inl (.inr h)
    · rintro (h | h)
      · exact h4 h
      omega
    rintro (h | h)
    · exact h5 h
    omega
  · rintro pre Z A B ⟨c, h1, h2, h3, h4, h5⟩ hk; have a1 := (Array.getElem?_eq_some_iff.1 h2).1; have a2 := (Array.getElem?_eq_some_iff.1 h3).1; refine ⟨c, hIxm _ _ _ _ _ (hIx _ _ _ _ _ h1 (hk.mono fun b hb => .inl hb)) fun b hb => ?_, (hk.block l a1 h4).trans h2, (hk.block D a2 h5).trans h3, ?_, ?_⟩
    · rcases hb with (h | h) | h
      · exact .inl (.inl h)
      · exact .inr h
      exact .inl (.inr h)
    · rintro (h | h)
      · exact h4 h
      omega
    rintro (h | h)
    · exact h5 h
    omega
  · rintro pre Z x A ⟨h1, h2, h3, h4, h5⟩ hlen; have a1 := (Array.getElem?_eq_some_iff.1 h2).1; have hy := run_yield (P := P) (args := encs x) h2 (by rw [hrec]; exact hps x); rw [hrec] at hy; refine ⟨fn, _, assign, body, hy, roundIn_of_wpIn hfn (wpIn_mono (hround l 0 pre x _ A h1 hlen (.inr (.inl rfl))) ?_)⟩; rintro e a1' A1 hp
    cases e <;> simp only [Exit.then] at hp ⊢
    obtain ⟨hkA, hb⟩ := hp; have a0 := a1; have h2' : A1.heap[l]? = some (.loop (rec .ready none)) := (hkA.block l a1 fun h => h (.inl (.inr (.inl rfl)))).trans h2; have h3' : A1.heap[D]? = some (.deferred (some [])) := (hkA.block D (Array.getElem?_eq_some_iff.1 h3).1 fun h => h (.inl (.inr (.inr rfl)))).trans h3; have a1 := (Array.getElem?_eq_some_iff.1 h2').1; refine ⟨_, run_beginRound h2' (by rw [hrec]), ?_⟩; obtain ⟨A2, hA2⟩ : ∃ A2, A1.putObj l (.loop { rec .ready none with state := .busy }) = A2 := ⟨_, rfl⟩
    have hk2 : Keep (fun b => b = l) A1 A2 := by rw [← hA2]; exact Keep.putObj _ _ rfl
    have hl2 : A2.heap[l]? = some (.loop { rec .ready none with state := .busy }) := by rw [← hA2]; exact World.putObj_heap_same a1
    have hD2 : A2.heap[D]? = some (.deferred (some [])) := by rw [← hA2]; exact (World.putObj_heap_other (Ne.symm hlD)).trans h3'
    rw [hA2]; refine wpIn_mono (hb A2 hk2 (by rw [← hA2]; simp)) ?_
    have fin : ∀ (jump : Option Code) (W3 : World), Keep (fun b => ¬ ((Z b ∨ b = l ∨ b = D) ∨ S0 b)) A2 W3 →
        ∃ W4, (Instr.endRound l jump).run P W3 = .ok (.bool jump.isNone) W4 ∧ W4.heap[l]? = some (.loop (rec (if jump.isNone then .ready else .done) jump)) ∧ W4.heap[D]? = some (.deferred (some [])) ∧ Keep (fun b => b = l) W3 W4 ∧ W4.heap.size = W3.heap.size ∧ Keep (fun b => ¬ (Z b ∨ S0 b)) A W4 := fun jump W3 hk3 => by
      have b1 := (Array.getElem?_eq_some_iff.1 hl2).1; have b2 := (Array.getElem?_eq_some_iff.1 hD2).1; have hl3 : W3.heap[l]? = some (.loop { rec .ready none with state := .busy }) := (hk3.block l b1 fun h => h (.inl (.inr (.inl rfl)))).trans hl2; have hD3 : W3.heap[D]? = some (.deferred (some [])) := (hk3.block D b2 fun h => h (.inl (.inr (.inr rfl)))).trans hD2; have hr := run_endRound (P := P) jump hl3; rw [hrec] at hr ⊢; refine ⟨_, hr, World.putObj_heap_same (Array.getElem?_eq_some_iff.1 hl3).1, (World.putObj_heap_other (Ne.symm hlD)).trans hD3, Keep.putObj _ _ rfl, by simp, ?_⟩
      have hnl : ∀ b, b = l → ¬ (Z b ∨ S0 b) := fun b e h => by subst e; exact h.elim h4 hlS
      exact (((hkA.mono (own' := fun b => ¬ (Z b ∨ S0 b)) fun b h h' => h (h'.elim (fun h => .inl (.inl h)) .inr)).trans (hk2.mono hnl)).trans (hk3.mono fun b h h' => h (h'.elim (fun h => .inl (.inl h)) .inr))).trans (Keep.putObj _ _ (hnl l rfl))
    have stay : ∀ {W3 W4 : World}, Keep (fun b => b = l) W3 W4 → Keep (fun b => Z b ∨ b = l ∨ b = D) W3 W4 := fun h => h.mono fun b hb => .inr (.inl hb); rintro e a3 W3 hp
    cases e with
    | normal =>
      obtain ⟨hk3, hi3⟩ := hp; obtain ⟨W4, hr, g1, g2, g3, g4, g5⟩ := fin none W3 hk3; exact ⟨_, W4, hr, g5, .inl ⟨rfl, hIm _ _ _ _ (hI _ _ _ _ hi3 (stay g3)) (fun b hb => .inl hb), g1, g2, h4, h5⟩⟩
    | ret =>
      obtain ⟨hk3, hi3⟩ := hp; obtain ⟨W4, hr, g1, g2, g3, g4, g5⟩ := fin (some .ret) W3 hk3; exact ⟨_, W4, hr, g5, .inr ⟨rfl, .ret, hIxm _ _ _ _ _ (hIx _ _ _ _ _ hi3 (stay g3)) (fun b hb => .inl hb), g1, g2, h4, h5⟩⟩
    | exit id =>
      obtain ⟨hk3, hi3⟩ := hp; obtain ⟨W4, hr, g1, g2, g3, g4, g5⟩ := fin (some (.exit id)) W3 hk3; exact ⟨_, W4, hr, g5, .inr ⟨rfl, .exit id, hIxm _ _ _ _ _ (hIx _ _ _ _ _ hi3 (stay g3)) (fun b hb => .inl hb), g1, g2, h4, h5⟩⟩
    | goto t =>
      obtain ⟨hk3, hi3⟩ := hp; obtain ⟨W4, hr, g1, g2, g3, g4, g5⟩ := fin (some (.goto t)) W3 hk3; exact ⟨_, W4, hr, g5, .inr ⟨rfl, .goto t, hIxm _ _ _ _ _ (hIx _ _ _ _ _ hi3 (stay g3)) (fun b hb => .inl hb), g1, g2, h4, h5⟩⟩
    | panic ch => exact hp.elim
    | outgrown => exact hp.elim
  rintro e W2 ⟨⟨v, rfl⟩, (⟨xs, Z, hS, h1, h2, h3, h4, h5⟩ | ⟨pre, Z, hSp, c, h1, h2, h3, h4, h5⟩)⟩
  · refine ⟨none, _, by have := run_endLoop (P := P) h2 (by rw [hrec]; simp); rw [hrec] at this; exact this, ?_⟩; exact hdone D xs _ _ (by omega) (.inl (.inr (.inr rfl))) hS (hI _ _ _ _ h1 (Keep.putObj _ _ (.inr (.inl rfl)))) ((World.putObj_heap_other (Ne.symm hlD)).trans h3)
  refine ⟨some c, _, by have := run_endLoop (P := P) h2 (by rw [hrec]; simp); rw [hrec] at this; exact this, ?_⟩; exact wpIn_wide.2 (hstop D c pre _ _ (by omega) (.inl (.inr (.inr rfl))) hSp (hIx _ _ _ _ _ h1 (Keep.putObj _ _ (.inr (.inl rfl)))) ((World.putObj_heap_other (Ne.symm hlD)).trans h3))
theorem RI.next {n nt : Nat} (h : RI C s0 o n nt S0 a Z E X) {m : Nat} (hm : n ≤ m) : RI C s0 o m nt S0 a Z E X :=
  ⟨⟨h.rel.slots, h.rel.size, h.rel.defers, h.rel.objs, h.rel.apart, h.rel.stay, fun r hr => Nat.lt_of_lt_of_le (h.rel.fresh r hr) hm, h.rel.kept, h.rel.mine, h.rel.env, h.rel.envD, h.rel.base, h.rel.grow, h.rel.envk, h.rel.glob⟩, h.S0, h.lt, h.new, h.fr, h.ob⟩
theorem RI.lower {n nt : Nat} (h : RI C s0 o n nt S0 a Z E X) {m : Nat} (hm : ∀ r, E.D r → r < m) : RI C s0 o m nt S0 a Z E X :=
  ⟨⟨h.rel.slots, h.rel.size, h.rel.defers, h.rel.objs, h.rel.apart, h.rel.stay, hm, h.rel.kept, h.rel.mine, h.rel.env, h.rel.envD, h.rel.base, h.rel.grow, h.rel.envk, h.rel.glob⟩, h.S0, h.lt, h.new, h.fr, h.ob⟩
theorem RI.enter1 {n nt : Nat} (h : RI C s0 o n nt S0 a Z E X) {K p : Nat} (hK : ∀ r, r < K → ∃ q, Aw o r = some q) (v : Value) (hp : p < nt) :
    Rel (ctxR E o K) E X ⟨(p, .lit v) :: s0, o, n, nt, K⟩ { tmps := a.tmps.setIfInBounds p v, defers := [] } := by
  have hr := h.rel
  have h0 : Rel (ctxR E o K) E X ⟨s0, o, n, nt, K⟩ { tmps := a.tmps, defers := [] } :=
    ⟨hr.slots, hr.size, rfl, hr.objs, hr.apart, hr.stay, hr.fresh, Keep.refl _ _, fun r q b h1 h2 => .inl ⟨r, q, h1, h2⟩, fun r _ => ⟨rfl, rfl⟩, fun r hk => by
      obtain ⟨q, hq⟩ := hK r hk
      exact (hr.objs r q hq).1, fun b hb => hb, fun b hb => .inl hb, rfl, hr.glob⟩
  exact h0.put (some p) (fun d' e => by cases e; exact hp) (v := .lit v) (y := v) (by simp [FV])
def asgP (P : Program) (l m : Nat) (body : Code) (nt K : Nat) (Q : Exit → St → Prop) : Exit → St → Prop
  | .normal, σ1 => σ1.nt = nt ∧ σ1.env = K ∧ EvI P l m body σ1 Q
  | _, _ => False
theorem EvB.rangeA {b objs0 : List (Nat × Obj)} {n nt K gs p bid : Nat} {N : List α → α → Prop} {asg body c2 : Code} {caps caps' : List AV} {enc : α → Value} {S Sp : List α → Prop} {Q : Exit → St → Prop}
    (rs : List Nat) (O : List α → List (Nat × Obj)) (QX : List α → List (Nat × Obj) → Prop) (hc : SeqR P gf caps' objs0 rs.length (fun x => #[enc x]) S Sp N) (hg : Aw s0 gs = none)
    (hh : handL ⟨(gs, .fn (.func gf) [] caps) :: s0, b, n, nt, 0⟩ rs caps = some caps') (ho : onlyL rs caps = true) (hnd : rs.Nodup) (hk : CZ ⟨(gs, .fn (.func gf) [] caps) :: s0, b, n, nt, 0⟩ (pos rs 0) 0 rs = some objs0)
    (h0 : ∀ r q, Aw (O []) r = some q → Aw b r = some q ∧ r ∉ rs) (hK : ∀ pre r, r < K → ∃ q, Aw (O pre) r = some q) (hs : stays K s0) (hp : p < nt)
    (hround : ∀ l m pre x, N pre x → EvI P l m asg ⟨(p, .lit (enc x)) :: s0, O pre, n, nt, K⟩ (asgP P l m body nt K (roundQ O QX n nt K (pre ++ [x]))))
    (hdone : ∀ xs, S xs → Ev P c2 ⟨s0, O xs, n, nt, 0⟩ Q) (hstop : ∀ pre o', Sp pre → QX pre o' → Q .ret ⟨s0, o', n, nt, 0⟩) :
    EvB P (.block bid (.rangeFunc (.tmp gs) #[p] asg body)) c2 ⟨(gs, .fn (.func gf) [] caps) :: s0, b, n, nt, 0⟩ Q := by
  intro C E X a hC hr; have had : a.defers = [] := hr.defers.trans hC.dfr; have hfn := hr.slots gs (.fn (.func gf) [] caps) (by simp only [AZ, if_true])
  have hsl : ∀ k v, Aw s0 k = some v → FV E v (a.tmps.getD k undef) := fun k v hv => hr.slots k v (by
    simp only [AZ]
    split
    · rename_i e
      subst e; rw [hg] at hv
      cases hv
    exact hv)
  simp only [FV] at hfn; obtain ⟨x0, ys, hgv, hx0, hys⟩ := hfn; have hx0' : x0 = #[] := Array.ext' (by simpa [FVs] using hx0); subst hx0'; have hent := hr.entry hnd (T := true) hk; have hxh := FVs.hand hr (T := true) (fun _ => ho) hh hys; have hseq := hc.2 _ _ _ hent hxh; have eg : ∀ args w, (callFunc gf args).run P w = .ok (.enter gf args) w := run_enter hc.1
  have hZ : ∀ c, Gx (E.hand ⟨(gs, .fn (.func gf) [] caps) :: s0, b, n, nt, 0⟩ rs true) objs0 c → ∃ r q, r ∈ rs ∧ Aw b r = some q ∧ Bl (E.H r) = some c := by
    rintro c ⟨r, q, h1, h2⟩; obtain ⟨j, q1, _, hj, hj2, _⟩ := Cj rs 0 objs0 hk r q h1; simp only [Nat.sub_zero] at hj; simp only [Env.hand, hj] at h2; exact ⟨j, q1, List.mem_of_getElem? hj, hj2, h2⟩
  have hS0 : ∀ c, (E.hand ⟨(gs, .fn (.func gf) [] caps) :: s0, b, n, nt, 0⟩ rs true).S c → E.S c := fun c h => by
    rcases h with h | ⟨h, _⟩
    · exact h
    cases h
  have hri0 : RI C s0 (O []) n nt (E.hand ⟨(gs, .fn (.func gf) [] caps) :: s0, b, n, nt, 0⟩ rs true).S a (Gx (E.hand ⟨(gs, .fn (.func gf) [] caps) :: s0, b, n, nt, 0⟩ rs true) objs0) E X := by
    refine ⟨⟨hsl, hr.size, hr.defers, fun r q h1 => hr.objs r q (h0 r q h1).1, fun r r' q q' c h1 h2 => hr.apart r r' q q' c (h0 r q h1).1 (h0 r' q' h2).1, fun c hc => ⟨(hr.stay c hc).1, fun r q h1 => (hr.stay c hc).2 r q (h0 r q h1).1⟩, hr.fresh, hr.kept,
      fun r q c h1 => hr.mine r q c (h0 r q h1).1, hr.env, hr.envD, hr.base, hr.grow, hr.envk, hr.glob⟩, hS0, fun c hz => ?_, fun c hz => ?_, fun c hz hS => ?_, fun c hz r q h1 h2 => ?_⟩
    · obtain ⟨r, q, _, h1, h2⟩ := hZ c hz; exact (hr.objs r q h1).2.2.1.lt h2
    · obtain ⟨r, q, _, h1, h2⟩ := hZ c hz
      rcases hr.mine r q c h1 h2 with h3 | h3
      · exact absurd h3 (hC.own c)
      exact h3
    · obtain ⟨r, q, _, h1, h2⟩ := hZ c hz; exact (hr.stay c hS).2 r q h1 h2
    obtain ⟨r', q', hm, h3, h4⟩ := hZ c hz; have := hr.apart r r' q q' c (h0 r q h1).1 h3 h2 h4; subst this; exact (h0 r q h1).2 hm
  generalize hZe : Gx (E.hand ⟨(gs, .fn (.func gf) [] caps) :: s0, b, n, nt, 0⟩ rs true) objs0 = Z0 at *
  generalize hSe : (E.hand ⟨(gs, .fn (.func gf) [] caps) :: s0, b, n, nt, 0⟩ rs true).S = S0 at *
  have hge : a.eval (.tmp gs) = .func (.func gf) #[] ys.toList.toArray := by
    have e : a.eval (.tmp gs) = a.tmps.getD gs undef := rfl; rw [e, hgv]
  refine (wp_block (wp_rangeA (gf := gf) (lb := ys.toList.toArray) (encs := fun x => #[enc x]) hge eg hseq (fun x => rfl) (fun c hc => hri0.lt c hc) (fun c hc => (hr.stay c (hS0 c hc)).1)
    (fun pre Z W => ∃ E' X', E'.w = W ∧ RI C s0 (O pre) n nt S0 a Z E' X') (fun c pre Z W => c = .ret ∧ ∃ o' E' X', E'.w = W ∧ RI C s0 o' n nt S0 a Z E' X' ∧ QX pre o') ?_ ?_ ?_ ?_ ⟨E, X, rfl, hri0⟩ ?_ ?_ ?_))
  · rintro pre Z A B ⟨E', X', rfl, h1⟩ hkp; exact ⟨_, X', rfl, h1.step hkp⟩
  · rintro c pre Z A B ⟨rfl, o', E', X', rfl, h1, h2⟩ hkp; exact ⟨rfl, o', _, X', rfl, h1.step hkp, h2⟩
  · rintro pre Z Z' A ⟨E', X', rfl, h1⟩ hz; exact ⟨E', X', rfl, h1.mono hz⟩
  · rintro c pre Z Z' A ⟨rfl, o', E', X', rfl, h1, h2⟩ hz; exact ⟨rfl, o', E', X', rfl, h1.mono hz, h2⟩
  · rintro l m pre x Z A ⟨E', X', rfl, h1⟩ hlen hl; have hZS : ∀ b, Z b → ¬ S0 b := fun b hb hs => h1.fr b hb (h1.S0 b hs); have hen := h1.enter1 (K := K) (p := p) (hK pre) (enc x) hp; have key := hround l m pre x hlen _ _ _ _ hen; refine wpIn_mono (n := m) (Q := fun e a' w' => ∃ E1 X1 σ1, E1.w = w' ∧ Rel (ctxR E' (O pre) K) E1 X1 σ1 a' ∧ asgP P l m body nt K (roundQ O QX n nt K (pre ++ [x])) e σ1) (by simpa using key) ?_; rintro e a1 W1 ⟨E1, X1, σ1, rfl, g1, g2⟩
    cases e <;> simp only [asgP] at g2
    obtain ⟨gnt, genv, gb⟩ := g2; obtain ⟨sl1, o1, n1, nt1, K1⟩ := σ1
    dsimp only at gnt genv
    subst gnt genv; have g0 : Rel (ctxR E' (O pre) K1) E1 X1 ⟨[], o1, n1, nt1, K1⟩ a1 := ⟨fun k v hv => by simp [Aw] at hv, g1.size, g1.defers, g1.objs, g1.apart, g1.stay, g1.fresh, g1.kept, g1.mine, g1.env, g1.envD, g1.base, g1.grow, g1.envk, g1.glob⟩; have hle := (h1.next (Nat.le_max_left n n1)).leave hs (Nat.le_max_right n n1) g0; simp only [Exit.then]; refine ⟨hle.2, fun A2 hA2 hsz => ?_⟩; have h2 := (hle.1.step (hA2.mono fun b e => by subst e; exact hl)).mono (Z' := Z) fun b hb => .inl hb; have hlb : ∀ b, E1.S b → A2.heap[b]? = E1.w.heap[b]? := fun b hb => hA2.block b (hle.1.rel.stay b hb).1 fun e => hle.1.fr b (e ▸ hl) hb; have hlo : ∀ r q, Aw o1 r = some q → ∀ b, Bl (E1.H r) = some b → A2.heap[b]? = E1.w.heap[b]? := fun r q h3 b h4 => hA2.block b ((g1.objs r q h3).2.2.1.lt h4) fun e => hle.1.ob b (e ▸ hl) r q h3 h4; have hel : E1.le { E1 with w := A2 } := ⟨fun b hb => ⟨hb, hlb b hb⟩, fun r hr => ⟨hr, rfl, rfl⟩⟩
    have h3 : Rel (ctxR { E1 with w := A2 } o1 K1) { E1 with w := A2 } X1 ⟨sl1, o1, n1, nt1, K1⟩ a1 :=
      ⟨fun s v hv => FV.le _ hel _ (g1.slots s v hv), g1.size, g1.defers, fun r o h => ⟨(g1.objs r o h).1, (g1.objs r o h).2.1, (g1.objs r o h).2.2.1.kept (hlo r o h), FVr.le _ _ (hel.by _) _ (g1.objs r o h).2.2.2⟩, g1.apart,
        fun b hb => ⟨Nat.lt_of_lt_of_le (g1.stay b hb).1 hA2.size, (g1.stay b hb).2⟩, g1.fresh, Keep.refl _ _, fun r o b h1 h2 => .inl ⟨r, o, h1, h2⟩, fun r _ => ⟨rfl, rfl⟩, g1.envD, fun b hb => hb, fun b hb => .inl hb, rfl, g1.glob.le hel⟩
    refine wpIn_mono (n := m) (Q := fun e a' w' => ∃ E3 X3 σ3, E3.w = w' ∧ Rel (ctxR { E1 with w := A2 } o1 K1) E3 X3 σ3 a' ∧ roundQ O QX n nt1 K1 (pre ++ [x]) e σ3) (gb _ _ _ _ h3) ?_; rintro e a' w' ⟨E3, X3, σ3, rfl, h5, h6⟩
    cases e <;> simp only [roundQ] at h6
    case normal =>
      obtain ⟨n', hn', hwk⟩ := h6; obtain ⟨E4, X4, e4, h7⟩ := hwk _ _ _ _ h5; have h8 := h2.leave hs (Nat.le_trans hn' (Nat.le_max_left n n1)) h7; rw [← e4]; exact ⟨h8.2, E4, X4, rfl, h8.1.lower fun r hr => Nat.lt_of_lt_of_le (h7.fresh r hr) hn'⟩
    case ret =>
      obtain ⟨n', o', hn', hwk, hqx⟩ := h6; obtain ⟨E4, X4, e4, h7⟩ := hwk _ _ _ _ h5; have h8 := h2.leave hs (Nat.le_trans hn' (Nat.le_max_left n n1)) h7; rw [← e4]; exact ⟨h8.2, rfl, o', E4, X4, rfl, h8.1.lower fun r hr => Nat.lt_of_lt_of_le (h7.fresh r hr) hn', hqx⟩
  · rintro D xs Z W hD hZD hS ⟨E', X', rfl, h1⟩ hat; exact h1.after hC hZD hat (hdone xs hS)
  rintro D c pre Z W hD hZD hS ⟨rfl, o', E', X', rfl, h1, h2⟩ hat; refine wp_ret ?_; refine ⟨E', X', _, rfl, ?_, .inr ⟨D, by simp [had], h1.new D hZD, h1.fr D hZD, h1.ob D hZD, hat⟩, hstop pre o' hS h2⟩; have := h1.rel; exact ⟨this.slots, this.size, hC.dfr.symm, this.objs, this.apart, this.stay, this.fresh, this.kept, this.mine, this.env, this.envD, this.base, this.grow, this.envk, this.glob⟩
def HandP (f l : Nat) (x : Operand) (zs : Array Operand) (args : List AV) (σ : St) : Prop :=
  F4 (σ.ev x) = some (f, [], []) ∧ zs.toList.map σ.ev = args ++ [.lit (.func (.yield l) #[] #[])] ∧ BQ args = true
theorem FVs.split : ∀ {a b : List AV} {zs : List Value}, FVs E (a ++ b) zs → ∃ xs ys, zs = xs ++ ys ∧ FVs E a xs ∧ FVs E b ys
  | [], b, zs, h => ⟨[], zs, rfl, by simp [FVs], h⟩
  | c :: a, b, zs, h => by
    simp only [List.cons_append, FVs] at h; obtain ⟨y, ys, rfl, h1, h2⟩ := h; obtain ⟨us, vs, rfl, h3, h4⟩ := FVs.split h2; exact ⟨y :: us, vs, rfl, ⟨y, us, rfl, h1, h3⟩, h4⟩
theorem SeqR.of_hand {gf f : FuncId} {caps args : List AV} {objs : List (Nat × Obj)} {k nt : Nat} {N : List α → α → Prop} {encs : α → Array Value} {S Sp : List α → Prop} {id ty : Nat} {l1 : List Oper} {x : Operand} {zs : Array Operand} {ts : Array TypeId} {d : Option Nat} {ps : String} {aft : Array Edge}
    (hf : P.funcs[gf]? = some fn) (hb : fn.body = some (.region id ⟨l1 ++ [⟨d, .call { callee := .value x, args := zs, argTypes := ts }, ty, ps, aft, none⟩]⟩ false)) (ht : fn.ntmps = nt) (hrs : fn.results = #[]) (hnm : (fn.name == "runtime.NumGoroutine") = false) (hn : Nat.ble (caps.length + 1) nt = true) (hA : SeqA P f args encs S Sp N)
    (h : ∀ l (K : St → Prop), (∀ σ, HandP f l x zs args σ → K σ) → SeqL P ⟨l1 ++ [⟨d, .call { callee := .value x, args := zs, argTypes := ts }, ty, ps, aft, none⟩]⟩ l1 ⟨Dx 0 (.lit (.func (.yield l) #[] #[]) :: caps), objs, k, nt, k⟩ K) :
    SeqR P gf caps objs k encs S Sp N := by
  subst ht; have hn := EV hn; refine ⟨⟨fn, hf, by simp [hb], hnm⟩, fun E X lb hE hx => ?_⟩; intro l J Jx W hW hJ hJx hround hJ0
  obtain ⟨J', hJ'⟩ : ∃ J' : Bool × List α → (Nat → Prop) → World → Prop, J' = fun g => match g.1 with | true => J g.2 | false => Jx g.2 := ⟨_, rfl⟩
  have hR : Rnd P l encs N E.S J' := by
    subst hJ'; refine ⟨fun g Z A B h1 h2 => ?_, fun pre Z x A h1 h2 => ?_⟩
    · rcases g with ⟨b, pre⟩
      cases b
      · exact hJx pre Z A B h1 h2
      exact hJ pre Z A B h1 h2
    exact hround pre Z x A h1 h2
  have hxl := hx.length; have hle : E.le { E with w := W } := ⟨fun b hb => ⟨hb, hW.block b (hE.stay b hb).1 fun h => h (.inr hb)⟩, fun r hr => ⟨hr, rfl, rfl⟩⟩; have hown : ∀ r o b, Aw objs r = some o → Bl (E.H r) = some b → W.heap[b]? = E.w.heap[b]? := fun r o b h1 h2 => hW.block b ((hE.objs r o h1).2.2.1.lt h2) fun h => h (.inl ⟨r, o, h1, h2⟩)
  have hrel : Rel (GJ { E with w := W } objs k) { E with w := W } X ⟨Dx 0 (.lit (.func (.yield l) #[] #[]) :: caps), objs, k, fn.ntmps, k⟩ { tmps := (#[Value.func (Fn.yield l) #[] #[]] ++ lb.toArray) ++ Array.replicate (fn.ntmps - (#[Value.func (Fn.yield l) #[] #[]] ++ lb.toArray).size) undef, defers := [] } := by
    have hxx : FVs { E with w := W } (.lit (.func (.yield l) #[] #[]) :: caps) (Value.func (Fn.yield l) #[] #[] :: lb) := ⟨_, _, rfl, by simp [FV], FVs.le _ hle _ hx⟩; refine ⟨?_, ?_, rfl, ?_, hE.apart, ?_, ?_, Keep.refl _ _, ?_, ?_, ?_, fun b hb => hb, fun b hb => .inl hb, rfl, hE.glob.le hle⟩
    · intro s v hv; obtain ⟨_, h2⟩ := F3 _ 0 s v hv; simp only [Nat.sub_zero] at h2; obtain ⟨y, hy, hfv⟩ := hxx.get h2
      have e0 : (#[Value.func (Fn.yield l) #[] #[]] ++ lb.toArray : Array Value) = (Value.func (Fn.yield l) #[] #[] :: lb).toArray := by simp
      rw [e0]
      generalize (Value.func (Fn.yield l) #[] #[] :: lb) = xs at hy ⊢
      have hlt : s < xs.length := (List.getElem?_eq_some_iff.1 hy).1
      have : (xs.toArray ++ Array.replicate (fn.ntmps - xs.toArray.size) undef).getD s undef = y := by
        have e : (xs.toArray ++ Array.replicate (fn.ntmps - xs.toArray.size) undef)[s]? = some y := by
          rw [Array.getElem?_append_left (by simpa using hlt)]
          simpa using hy
        rw [Array.getD_eq_getD_getElem?, e]; rfl
      rw [this]; exact hfv
    · simp [hxl]; omega
    · intro r o hr; obtain ⟨h1, h2, h3, h4⟩ := hE.objs r o hr; exact ⟨(hE.dom r).2 h1, h2, h3.kept fun b hb => hown r o b hr hb, FVr.le _ _ (hle.by _) _ h4⟩
    · intro b hb; exact ⟨Nat.lt_of_lt_of_le (hE.stay b hb).1 hW.size, (hE.stay b hb).2⟩
    · intro r hr; exact (hE.dom r).1 hr
    · intro r o b hr hb; exact .inl ⟨r, o, hr, hb⟩
    · intro r hr; exact ⟨rfl, rfl⟩
    intro r hr; exact (hE.dom r).2 hr
  have hin : InY E.S J' (GJ { E with w := W } objs k) (true, []) (Gx E objs) := ⟨rfl, fun b hb => hb, fun b hb => .inr hb, by subst hJ'; exact hJ0⟩; refine calls_of_wp hf hb ((wpIn_wide (n := 1)).1 (wpIn_region_list (wpL_to l1 _ _ (h l _ (fun _ h => h) _ _ X _ hrel _ ?_)))); rintro E1 X1 σ a hr ⟨hcal, hzs, hcl⟩; refine ⟨rfl, ?_⟩; have hk : Keep (Gx E objs) W E1.w := hr.kept; have hj := hR.step _ _ _ _ hin.j hk
  generalize hZ1 : addZ (Gx E objs) (GJ { E with w := W } objs k).w0 E1.w = Z1 at hj
  have hown : ∀ b, Gx E objs b ∨ W.heap.size ≤ b → b < E1.w.heap.size → Z1 b := fun b hb hlt => by
    rw [← hZ1]
    rcases hb with hb | hb
    · exact .inl hb
    exact .inr ⟨hb, hlt⟩
  have hSZ : ∀ b, E1.S b → Z1 b ∨ E.S b := fun b hb => by
    rcases hr.grow b hb with h | h | h
    · exact .inr h
    · exact .inl (hown b (.inr h) (hr.stay b hb).1)
    exact .inl (hown b (.inl h) (hr.stay b hb).1)
  have hoZ : ∀ r o b, Aw σ.objs r = some o → Bl (E1.H r) = some b → Z1 b := fun r o b h1 h2 => hown b (hr.mine r o b h1 h2) ((hr.objs r o h1).2.2.1.lt h2); obtain ⟨us, vs, hx1, hu, hv⟩ := calleeOf_spec hcal (hr.ev x); have hu' : us = #[] := Array.ext' (by simpa [FVs] using hu); have hv' : vs = #[] := Array.ext' (by simpa [FVs] using hv); subst hu' hv'; have hargs := hr.evs zs.toList; rw [hzs] at hargs; obtain ⟨xs, ys, hzz, ha, hy⟩ := FVs.split hargs
  have hy' : ys = [Value.func (Fn.yield l) #[] #[]] := by
    simp only [FVs, FV] at hy; obtain ⟨y, ys', rfl, rfl, rfl⟩ := hy; rfl
  subst hy'; have hcalls := hA.2 E1 xs l E.S Z1 J' (FVs.closed hcl ha) (fun b hb => (hr.stay b hb).1) hr.glob hR hSZ hj; simp only [wpListIn]; rw [if_pos (by simp [Region.wanted])]; refine ⟨fun _ _ => trivial, ?_⟩; have he : (⟨d, .call { callee := .value x, args := zs, argTypes := ts }, ty, ps, aft, none⟩ : Oper).semAt Fence.wide.round a.eval = execOp a.eval ⟨d, .call { callee := .value x, args := zs, argTypes := ts }, ty, ps, aft, none⟩ := rfl; rw [he]
  have hrun : (execOp a.eval ⟨d, .call { callee := .value x, args := zs, argTypes := ts }, ty, ps, aft, none⟩).run P E1.w = .ok (.enter f (xs ++ [Value.func (Fn.yield l) #[] #[]]).toArray) E1.w := by
    unfold execOp
    simp only [resolve, Deferred.ofValue, hx1, Sem.run_bind, Sem.run_pure, Result.andThen_ok, invoke]; rw [run_enter hA.1]
    congr 2
    apply Array.ext'
    simp [hzz]
  rw [hrun]; refine ⟨fun h => by simp [Fence.wide] at h, ?_⟩; refine callsIn_wide.2 (hcalls.mono ?_); rintro e B ⟨⟨v, rfl⟩, g, Z, h4, h5, h6⟩; have hd : a.defers = [] := hr.defers
  have hr2 : (results fn (a.put d v).tmps).run P B = .ok (.tuple #[]) B := by
    unfold results
    simp [hrs]
  have hd2 : (a.put d v).defers = [] := by cases d <;> exact hd
  refine ⟨hd2, _, hr2, ⟨_, rfl⟩, ?_⟩; subst hJ'
  rcases g with ⟨b, pre⟩
  cases b
  · exact .inr ⟨pre, _, h5 rfl, h6⟩
  exact .inl ⟨pre, _, h4 rfl, h6⟩
theorem SeqR.of_handS {gf f : FuncId} {caps args : List AV} {objs : List (Nat × Obj)} {k nt : Nat} {N : List α → α → Prop} {encs : α → Array Value} {S Sp : List α → Prop} {id ty : Nat} {l1 : List Oper} {x : Operand} {zs : Array Operand} {ts : Array TypeId} {d : Option Nat} {ps : String} {aft : Array Edge}
    (i : Nat) (hf : P.funcs[gf]? = some fn) (hb : fn.body = some (.region id ⟨l1⟩ false)) (ho : l1[i]? = some ⟨d, .call { callee := .value x, args := zs, argTypes := ts }, ty, ps, aft, none⟩) (hl : l1.length = i + 1) (ht : fn.ntmps = nt) (hrs : fn.results = #[]) (hnm : (fn.name == "runtime.NumGoroutine") = false) (hn : Nat.ble (caps.length + 1) nt = true) (hA : SeqA P f args encs S Sp N)
    (h : ∀ l (K : St → Prop), (∀ σ, HandP f l x zs args σ → K σ) → SeqL P ⟨l1⟩ (l1.take i) ⟨Dx 0 (.lit (.func (.yield l) #[] #[]) :: caps), objs, k, nt, k⟩ K) :
    SeqR P gf caps objs k encs S Sp N := by
  obtain ⟨hlt, he⟩ := List.getElem?_eq_some_iff.1 ho
  have e : l1 = l1.take i ++ [⟨d, .call { callee := .value x, args := zs, argTypes := ts }, ty, ps, aft, none⟩] := by
    have h1 : l1.drop (i + 1) = [] := List.drop_of_length_le (by omega); rw [← he, ← h1, List.getElem_cons_drop, List.take_append_drop]
  refine SeqR.of_hand (l1 := l1.take i) hf (by rw [← e]; exact hb) ht hrs hnm hn hA ?_; rw [← e]; exact h
theorem FVc.lits2 : ∀ {vs : List Value}, vs.all (fun v => v.oneCell') = true → FVc E (vs.map .lit) vs
  | [], _ => by simp [FVc]
  | v :: vs, h => by
    simp only [List.all_cons, Bool.and_eq_true] at h; simp only [List.map_cons, FVc]; exact ⟨v, vs, rfl, h.1, by simp [FV], FVc.lits2 h.2⟩
theorem Wk.unlit {s : List (Nat × AV)} {b : List (Nat × Obj)} {n t e : Nat} (p : Nat) (vs : List Value) (h : vs.all (fun v => v.oneCell') = true) : Wk ⟨(p, .lit (.agg ⟨vs⟩)) :: s, b, n, t, e⟩ ⟨(p, .agg (vs.map .lit)) :: s, b, n, t, e⟩ := by
  intro C E X a hr; refine ⟨E, X, rfl, ⟨?_, hr.size, hr.defers, hr.objs, hr.apart, hr.stay, hr.fresh, hr.kept, hr.mine, hr.env, hr.envD, hr.base, hr.grow, hr.envk, hr.glob⟩⟩; intro k v hv
  by_cases hk : k = p
  · subst hk; have h1 := hr.slots k (.lit (.agg ⟨vs⟩)) (by simp [AZ]); simp only [AZ, if_true, Option.some.injEq] at hv; subst hv; simp only [FV] at h1 ⊢; exact ⟨⟨vs⟩, h1, FVc.lits2 h⟩
  refine hr.slots k v ?_; simp only [AZ] at hv ⊢; rw [if_neg (by omega)] at hv ⊢; exact hv
end
section
variable {c : Int}
theorem wrapU (x : Int) : IntKind.u64.wrap x = x % 18446744073709551616 := by simp [IntKind.wrap, IntKind.bits, IntKind.signed]
section rules
variable {P : Program} {s : List (Nat × AV)} {b : List (Nat × Obj)} {n t e id : Nat} {d ty : Nat} {x y : Operand} {k k' : IntKind} {i j : Int}
theorem qu.add (hx : Ba s x = some (.lit (.int .u64 i)) := by exact rfl) (hy : Ba s y = some (.lit (.int .u64 j)) := by exact rfl) : Az P ⟨s, b, n, t, e⟩ id (.binOp .add ty x y d) = some (.lit (.int .u64 ((i + j) % 18446744073709551616)), []) := by simp only [Az, AS hx, AS hy, Cq, bin_add, Db, Option.map_some, wrapU]
theorem qu.sub (hx : Ba s x = some (.lit (.int .u64 i)) := by exact rfl) (hy : Ba s y = some (.lit (.int .u64 j)) := by exact rfl) : Az P ⟨s, b, n, t, e⟩ id (.binOp .sub ty x y d) = some (.lit (.int .u64 ((i - j) % 18446744073709551616)), []) := by simp only [Az, AS hx, AS hy, Cq, bin_sub, Db, Option.map_some, wrapU]
theorem qu.addB (hx : Ba s x = some (.lit (.int .u64 i)) := by exact rfl) (hy : Ba s y = some (.lit (.int .u64 j)) := by exact rfl) (h1 : 0 ≤ i + j := by first | omega | assumption) (h2 : i + j ≤ 18446744073709551615 := by first | omega | assumption) : Az P ⟨s, b, n, t, e⟩ id (.binOp .add ty x y d) = some (.lit (.int .u64 (i + j)), []) := by simp only [Az, AS hx, AS hy, Cq, bin_add, Db, Option.map_some, wrap_u64 h1 h2]
theorem qu.mulB (hx : Ba s x = some (.lit (.int .u64 i)) := by exact rfl) (hy : Ba s y = some (.lit (.int .u64 j)) := by exact rfl) (h1 : 0 ≤ i * j := by first | omega | assumption) (h2 : i * j ≤ 18446744073709551615 := by first | omega | assumption) : Az P ⟨s, b, n, t, e⟩ id (.binOp .mul ty x y d) = some (.lit (.int .u64 (i * j)), []) := by simp only [Az, AS hx, AS hy, Cq, bin_mul, Db, Option.map_some, wrap_u64 h1 h2]
theorem qu.quo (hx : Ba s x = some (.lit (.int .u64 i)) := by exact rfl) (hy : Ba s y = some (.lit (.int .u64 j)) := by exact rfl) (h1 : 0 ≤ i := by first | omega | assumption) (h2 : i ≤ 18446744073709551615 := by first | omega | assumption) (h3 : 0 < j := by first | omega | assumption) : Az P ⟨s, b, n, t, e⟩ id (.binOp .quo ty x y d) = some (.lit (.int .u64 (i / j)), []) := by
  have h4 : 0 ≤ i / j := Int.ediv_nonneg h1 (by omega); have h5 : i / j ≤ i := Int.ediv_le_self j h1; simp only [Az, AS hx, AS hy, Cq, bin_quo _ _ _ _ _ _ _ (show j ≠ 0 by omega), Db, Option.map_some, tdiv_nn h1, wrap_u64 (show 0 ≤ i / j by omega) (show i / j ≤ 18446744073709551615 by omega)]
theorem qu.rem (hx : Ba s x = some (.lit (.int .u64 i)) := by exact rfl) (hy : Ba s y = some (.lit (.int .u64 j)) := by exact rfl) (h1 : 0 ≤ i := by first | omega | assumption) (h3 : j ≠ 0 := by first | omega | assumption) : Az P ⟨s, b, n, t, e⟩ id (.binOp .rem ty x y d) = some (.lit (.int .u64 (i % j)), []) := by simp only [Az, AS hx, AS hy, Cq, bin_rem _ _ _ _ _ _ _ h3, Db, Option.map_some, tmod_nn h1]
theorem bin_shlU (P : Program) (t : TypeId) (x y : Operand) (yk : IntKind) (a c m : Int) (hc : 0 ≤ c) (hm : (2 : Int) ^ (min c.toNat 64) = m) : Eu P .shl t x y (.int .u64 a) (.int yk c) = some (.int .u64 ((a * m) % 18446744073709551616)) := by
  have hk : IntKind.u64.bits = 64 := rfl
  have : (Op.shift .shl .u64 a yk c) = pure (.int .u64 ((a * m) % 18446744073709551616)) := by
    simp only [Op.shift, hk]; rw [if_neg (by omega), hm, wrapU]
  simp [Eu, Bn, eqGuard_at_int, binOp, this, Bw]
theorem bin_shrU (P : Program) (t : TypeId) (x y : Operand) (yk : IntKind) (a c m : Int) (hc : 0 ≤ c) (hm : (2 : Int) ^ (min c.toNat 64) = m) : Eu P .shr t x y (.int .u64 a) (.int yk c) = some (.int .u64 (a / m)) := by
  have hk : IntKind.u64.bits = 64 := rfl
  have h0 : 0 ≤ m := by rw [← hm]; exact Int.pow_nonneg (by decide)
  have : (Op.shift .shr .u64 a yk c) = pure (.int .u64 (a / m)) := by
    simp only [Op.shift, hk]; rw [if_neg (by omega), hm]
    congr 2
    rw [Int.fdiv_eq_ediv_of_nonneg _ h0]
  simp [Eu, Bn, eqGuard_at_int, binOp, this, Bw]
theorem qu.shl {yk : IntKind} (m : Int) (hm : (2 : Int) ^ (min c.toNat 64) = m) (hx : Ba s x = some (.lit (.int .u64 i)) := by exact rfl) (hy : Ba s y = some (.lit (.int yk c)) := by exact rfl) (hc : 0 ≤ c := by decide) : Az P ⟨s, b, n, t, e⟩ id (.binOp .shl ty x y d) = some (.lit (.int .u64 ((i * m) % 18446744073709551616)), []) := by
  simp only [Az, AS hx, AS hy, Cq, bin_shlU _ _ _ _ _ _ _ _ hc hm, Db, Option.map_some]
theorem qu.shr {yk : IntKind} (m : Int) (hm : (2 : Int) ^ (min c.toNat 64) = m) (hx : Ba s x = some (.lit (.int .u64 i)) := by exact rfl) (hy : Ba s y = some (.lit (.int yk c)) := by exact rfl) (hc : 0 ≤ c := by decide) : Az P ⟨s, b, n, t, e⟩ id (.binOp .shr ty x y d) = some (.lit (.int .u64 (i / m)), []) := by
  simp only [Az, AS hx, AS hy, Cq, bin_shrU _ _ _ _ _ _ _ _ hc hm, Db, Option.map_some]
theorem bin_andU (P : Program) (t : TypeId) (x y : Operand) (a : Int) (q : Nat) (h1 : 0 ≤ a) (h2 : a ≤ 18446744073709551615) (hq : q ≤ 64) : Eu P .and t x y (.int .u64 a) (.int .u64 ((2 : Int) ^ q - 1)) = some (.int .u64 (a % (2 : Int) ^ q)) := by
  have hk : IntKind.u64.bits = 64 := rfl; obtain ⟨a, rfl⟩ := Int.eq_ofNat_of_zero_le h1
  have h3 : a < 2 ^ 64 := by omega
  have hp : (2 : Nat) ^ q ≤ 2 ^ 64 := Nat.pow_le_pow_right (by decide) hq; have hpos : 0 < (2 : Nat) ^ q := Nat.pow_pos (by decide)
  have e2 : ((2 : Int) ^ q - 1) = ((2 ^ q - 1 : Nat) : Int) := by
    rw [Int.ofNat_sub hpos]
    simp
  have e : (Op.intBits .and .u64 (a : Int) ((2 : Int) ^ q - 1)) = pure (.int .u64 ((a : Int) % (2 : Int) ^ q)) := by
    rw [e2]; simp only [Op.intBits, hk, wrapU]
    congr 2
    rw [BitVec.toNat_and]
    have f1' : (BitVec.ofInt 64 (a : Int)).toNat = a := by rw [BitVec.ofInt_natCast, BitVec.toNat_ofNat, Nat.mod_eq_of_lt h3]
    have f2' : (BitVec.ofInt 64 ((2 ^ q - 1 : Nat) : Int)).toNat = 2 ^ q - 1 := by rw [BitVec.ofInt_natCast, BitVec.toNat_ofNat, Nat.mod_eq_of_lt (by omega)]
    have f1 : (BitVec.ofInt IntKind.u64.bits (a : Int)).toNat = a := f1'; have f2 : (BitVec.ofInt IntKind.u64.bits ((2 ^ q - 1 : Nat) : Int)).toNat = 2 ^ q - 1 := f2'; rw [f1, f2, Nat.and_two_pow_sub_one_eq_mod]; have h5 : a % 2 ^ q ≤ a := Nat.mod_le _ _
    have h6 : ((a % 2 ^ q : Nat) : Int) = (a : Int) % (2 : Int) ^ q := by simp
    rw [← h6]; omega
  simp [Eu, Bn, eqGuard_at_int, binOp, e, Bw]
theorem qu.and (q : Nat) (m : Int) (hm : (2 : Int) ^ q = m) (hc : c = m - 1) (hq : q ≤ 64) (hx : Ba s x = some (.lit (.int .u64 i)) := by exact rfl) (hy : Ba s y = some (.lit (.int .u64 c)) := by exact rfl) (h1 : 0 ≤ i := by first | omega | assumption) (h2 : i ≤ 18446744073709551615 := by first | omega | assumption) : Az P ⟨s, b, n, t, e⟩ id (.binOp .and ty x y d) = some (.lit (.int .u64 (i % m)), []) := by
  subst hc; subst hm; simp only [Az, AS hx, AS hy, Cq, bin_andU _ _ _ _ _ _ h1 h2 hq, Db, Option.map_some]
end rules
end
section rules
variable {P : Program} {s : List (Nat × AV)} {b : List (Nat × Obj)} {n t e id ty d : Nat} {x y : Operand}
theorem q.s2eql {u c : Nat} {gs : List (Nat × Nat)} {xa xb ya yb : List AV} {va vb wa wb : List Value} {r1 r2 : Bool} (hT : EqT P ty [(0, u), (c, u)]) (hU : EqT P u gs) (ha : B9 P u = some true) (hcl : P.cellsOf u = c) (hr1 : eqG P xa ya gs = some r1) (hr2 : eqG P xb yb gs = some r2)
    (hx : Ba s x = some (.agg (xa ++ xb)) := by exact rfl) (hy : Ba s y = some (.agg (ya ++ yb)) := by exact rfl) (h1 : CU xa = some va := by exact rfl) (h2 : CU xb = some vb := by exact rfl) (k1 : CU ya = some wa := by exact rfl) (k2 : CU yb = some wb := by exact rfl)
    (hx2 : CU (xa ++ xb) = some (va ++ vb) := by exact rfl) (hy2 : CU (ya ++ yb) = some (wa ++ wb) := by exact rfl) (l1 : va.length = c := by exact rfl) (l2 : vb.length = c := by exact rfl) (m1 : wa.length = c := by exact rfl) (m2 : wb.length = c := by exact rfl) (hc : c ≠ 0 := by decide) :
    Az P ⟨s, b, n, t, e⟩ id (.binOp .eql ty x y d) = some (.lit (.bool (r1 && r2)), []) := by
  have hb : Eu P .eql ty x y (.agg (va ++ vb).toArray) (.agg (wa ++ wb).toArray) = some (.bool (r1 && r2)) := by
    have h0 := pure_eqT2 9997 hT hU ha hcl hc h1 h2 k1 k2 l1 l2 m1 m2 hr1 hr2; simp only [Eu, Bn, pure_eqGuard _ _ _ _ _ _ hT.m, Option.bind_some, binOp, Op.equal, Op.maxDepth]; simp only [Nat.reduceAdd] at h0
    simp [Bn, h0, Bw]
  simp only [Az, AS hx, AS hy, Cq, hx2, hy2, Option.map_some, hb, Db]
end rules
def scal : Op → Bool
  | .binOp .. => true
  | .convert .. => true
  | .call { callee := .builtin .max, args := _, argTypes := _ } => true
  | .call { callee := .builtin .min, args := _, argTypes := _ } => true
  | _ => false
theorem PureW.scalar {P : Program} {σ : St} {o : Oper} {z : Value} (h : ∀ C E X a, Rel C E X σ a → ∃ s : Sem Value, (execOp a.eval o) = (do pure (.value (← s))) ∧ BK P s = some z) : PureW P σ o (.lit z) := fun C E X a hr => by
  obtain ⟨s, h1, h2⟩ := h C E X a hr; refine ⟨z, by simp [FV], fun w => ?_⟩; rw [h1]
  simp [pureOn_run s h2 w]
theorem pureW_q {P : Program} {σ : St} {id : Nat} {o : Oper} {v : AV} {new : List (Nat × Obj)} (hk : scal o.op = true) (h : Az P σ id o.op = some (v, new)) : PureW P σ o v := by
  generalize hop : o.op = op at h hk
  unfold scal at hk
  split at hk
  · rename_i bop t x y yt
    simp only [Az] at h
    split at h
    · rename_i a b ha hb
      obtain ⟨z, h1, rfl, rfl⟩ := Df h; refine PureW.scalar fun C E X act hr => ⟨(do eqGuard bop t x y a b; binOp bop t a b), ?_, h1⟩
      unfold execOp
      simp only [hop, EG hr ha, EG hr hb]
    cases h
  · rename_i s d x
    simp only [Az] at h; obtain ⟨z, h1, rfl, rfl⟩ := Df h; simp only [Option.bind_eq_some_iff] at h1; obtain ⟨a, h2, h3⟩ := h1; refine PureW.scalar fun C E X act hr => ⟨convert s d a, ?_, h3⟩
    unfold execOp
    simp only [hop, EG hr h2]
  · rename_i zs ts
    simp only [Az, BT] at h; obtain ⟨z, h1, rfl, rfl⟩ := Df h; simp only [Option.bind_eq_some_iff] at h1; obtain ⟨l, h2, h3⟩ := h1; refine PureW.scalar fun C E X a hr => ⟨Builtin.max_ ts 0 l.toArray, ?_, h3⟩; have he := toVals_ev hr h2
    have hm : zs.map a.eval = l.toArray := by rw [← he]; apply Array.ext'; simp
    unfold execOp
    have hty : ∀ ty xs, Builtin.max_ ts ty xs = Builtin.max_ ts 0 xs := fun _ _ => rfl; simp only [hop, resolve, invoke, builtin, pure_bind, hm, hty o.type]
  · rename_i zs ts
    simp only [Az, BT] at h; obtain ⟨z, h1, rfl, rfl⟩ := Df h; simp only [Option.bind_eq_some_iff] at h1; obtain ⟨l, h2, h3⟩ := h1; refine PureW.scalar fun C E X a hr => ⟨Builtin.min_ ts 0 l.toArray, ?_, h3⟩; have he := toVals_ev hr h2
    have hm : zs.map a.eval = l.toArray := by rw [← he]; apply Array.ext'; simp
    unfold execOp
    have hty : ∀ ty xs, Builtin.min_ ts ty xs = Builtin.min_ ts 0 xs := fun _ _ => rfl; simp only [hop, resolve, invoke, builtin, pure_bind, hm, hty o.type]
  cases hk
section
variable {P : Program} {s : List (Nat × AV)} {b : List (Nat × Obj)} {n t e : Nat}
theorem HP.q {l : List Oper} {i m d ty : Nat} {L : Array Bool} {Q : St → Prop} {op : Op} {v : AV} {pos : String} {aft : Array Edge} (ho : l[i]? = some ⟨some d, op, ty, pos, aft, none⟩) (hq : Az P ⟨s, b, n, t, e⟩ 0 op = some (v, [])) (h : HP P l m (L.setIfInBounds i true) ⟨(d, v) :: s, b, n, t, e⟩ Q)
    (hk : scal op = true := by exact rfl) (hdn : Nat.blt d t = true := by exact rfl) (hc : (Region.noSelect ⟨l⟩ && Region.free .any ⟨l⟩ L i && (Region.ready .any ⟨l⟩ L).contains i) = true := by kernel_rfl) (hd : d ≠ 1000000 := by decide) : HP P l (m + 1) L ⟨s, b, n, t, e⟩ Q :=
  .take ho rfl (Nat.le_of_ble_eq_true hdn) hd rfl hc rfl (pureW_s (pureW_q (o := ⟨some d, op, ty, pos, aft, none⟩) hk hq)) h
end
end Go.AM
