/-
  The abstract machine, continued: an iterator with memory of its own, walked; a range over it, walked.
  Conditions: none; generic over the program.
-/
import Derived.Test.YtigjoaejncfmdaaAmRange
namespace Go.AM
set_option linter.unusedVariables false
set_option linter.unusedSimpArgs false
set_option linter.unusedSectionVars false
/-! ### The iterator -/
/-- What a round promises: it keeps the iterator's blocks and the frozen ones. -/
structure Rnd {α : Type} (P : Program) (l : Nat) (encs : α → Array Value) (N : Nat) (S0 : Nat → Prop) (J : Bool × List α → (Nat → Prop) → World → Prop) : Prop where
  step : ∀ g Z A B, J g Z A → Keep Z A B → J g (addZ Z A B) B
  round : ∀ pre Z x A, J (true, pre) Z A → pre.length < N → YieldAt Fence.wide 0 P l (encs x) A fun e B => Keep (fun b => ¬ (Z b ∨ S0 b)) A B ∧ ((e = .returned (.bool true) ∧ J (true, pre ++ [x]) Z B) ∨ (e = .returned (.bool false) ∧ J (false, pre ++ [x]) Z B))
structure InY {ι : Type} (S0 : Nat → Prop) (J : ι → (Nat → Prop) → World → Prop) (C : Ctx) (g : ι) (Z : Nat → Prop) : Prop where
  dfr : C.dfr = []
  own : ∀ b, C.own b → Z b
  S0 : ∀ b, C.S0 b → Z b ∨ S0 b
  j : J g Z C.w0
/-- Code of an iterator: between its steps rounds may come. -/
def EvY {ι : Type} (P : Program) (S0 : Nat → Prop) (J : ι → (Nat → Prop) → World → Prop) (c : Code) (σ : St) (g : ι) (Q : Exit → St → ι → Prop) : Prop :=
  ∀ C E X a Z, InY S0 J C g Z → Rel C E X σ a → c.wp P (fun e a' w' => ∃ C' E' X' σ' g' Z', E'.w = w' ∧ InY S0 J C' g' Z' ∧ Rel C' E' X' σ' a' ∧ Q e σ' g') a E.w
def thenY {ι : Type} (K : St → ι → Prop) (Q : Exit → St → ι → Prop) : Exit → St → ι → Prop
  | .normal, σ, g => K σ g
  | e, σ, g => Q e σ g
section
variable {ι : Type} {P : Program} {S0 : Nat → Prop} {J : ι → (Nat → Prop) → World → Prop} {σ : St} {g : ι} {Q : Exit → St → ι → Prop}
theorem EvY.plain {c : Code} (h : Ev P c σ fun e σ' => Q e σ' g) : EvY P S0 J c σ g Q := by
  intro C E X a Z hi hr
  refine wp_mono (h C E X a hr) ?_
  rintro e a' w' ⟨E', X', σ', h1, h2, h3⟩
  exact ⟨C, E', X', σ', g, Z, h1, hi, h2, h3⟩
theorem EvY.weaken {c : Code} {σ' : St} (hw : Wk σ σ') (h : EvY P S0 J c σ' g Q) : EvY P S0 J c σ g Q := by
  intro C E X a Z hi hr
  obtain ⟨E', X', e, hr'⟩ := hw C E X a hr
  rw [← e]
  exact h C E' X' a Z hi hr'
theorem EvY.seq {x y : Code} (h : EvY P S0 J x σ g (thenY (fun σ' g' => EvY P S0 J y σ' g' Q) Q)) : EvY P S0 J (.seq x y) σ g Q := by
  intro C E X a Z hi hr
  refine wp_seq (wp_mono (h C E X a Z hi hr) ?_)
  rintro e a' w' ⟨C', E', X', σ', g', Z', rfl, h2, h3, h4⟩
  cases e <;> simp only [Exit.then, thenY] at h4 ⊢
  case normal => exact h4 C' E' X' a' Z' h2 h3
  all_goals exact ⟨C', E', X', σ', g', Z', rfl, h2, h3, h4⟩
/-- Plain code ahead. -/
theorem EvY.seqE {x y : Code} (h : Ev P x σ (thenP (fun σ' => EvY P S0 J y σ' g Q) fun e σ' => Q e σ' g)) : EvY P S0 J (.seq x y) σ g Q :=
  EvY.seq (EvY.plain (h.mono fun e σ' hq => by cases e <;> exact hq))
theorem EvY.cond {c : Operand} {x y : Code} {b : Bool} (hc : σ.ev c = .lit (.bool b)) (ht : b = true → EvY P S0 J x σ g Q) (hf : b = false → EvY P S0 J y σ g Q) : EvY P S0 J (.cond c x y) σ g Q := by
  intro C E X a Z hi hr
  have hv := hr.ev c
  rw [hc] at hv
  simp only [FV] at hv
  exact wp_cond_split hv (fun e => ht e C E X a Z hi hr) (fun e => hf e C E X a Z hi hr)
def inBlockY (id : Nat) (Q : Exit → St → ι → Prop) : Exit → St → ι → Prop
  | .exit id', σ, g => if id' = id then Q .normal σ g else Q (.exit id') σ g
  | e, σ, g => Q e σ g
theorem EvY.block {id : Nat} {c : Code} (h : EvY P S0 J c σ g (inBlockY id Q)) : EvY P S0 J (.block id c) σ g Q := by
  intro C E X a Z hi hr
  refine wp_block (wp_mono (h C E X a Z hi hr) ?_)
  rintro e a' w' ⟨C', E', X', σ', g', Z', rfl, h2, h3, h4⟩
  cases e <;> simp only [Exit.inBlock, inBlockY] at h4 ⊢
  case exit id' =>
    split
    · rename_i e
      simp only [e, if_true] at h4
      exact ⟨C', E', X', σ', g', Z', rfl, h2, h3, h4⟩
    · rename_i e
      simp only [e, if_false] at h4
      exact ⟨C', E', X', σ', g', Z', rfl, h2, h3, h4⟩
  all_goals exact ⟨C', E', X', σ', g', Z', rfl, h2, h3, h4⟩
def roundY {κ : Type} (I : κ → St) (G : κ → ι) (μ : κ → Nat) (x : κ) (Q : Exit → St → ι → Prop) : Exit → St → ι → Prop
  | .normal, σ', g' => ∃ y, μ y < μ x ∧ Wk σ' (I y) ∧ g' = G y
  | e, σ', g' => Q e σ' g'
theorem EvY.loop {c : Code} {κ : Type} (I : κ → St) (G : κ → ι) (μ : κ → Nat) (x0 : κ) (hg : g = G x0) (h0 : Wk σ (I x0)) (round : ∀ x, EvY P S0 J c (I x) (G x) (roundY I G μ x Q)) : EvY P S0 J (.loop c) σ g Q := by
  intro C E X a Z hi hr
  have key : ∀ n x C E X a Z, μ x < n → InY S0 J C (G x) Z → Rel C E X (I x) a →
      Code.rounds P c (fun e a' w' => ∃ C' E' X' σ' g' Z', E'.w = w' ∧ InY S0 J C' g' Z' ∧ Rel C' E' X' σ' a' ∧ Q e σ' g') n a E.w := by
    intro n
    induction n with
    | zero => intro x C E X a Z h; omega
    | succ n ih =>
      intro x C E X a Z h hi hr
      rw [rounds_succ]
      refine wp_mono (round x C E X a Z hi hr) ?_
      rintro e a' w' ⟨C', E', X', σ', g', Z', rfl, h2, h3, h4⟩
      cases e <;> simp only [Exit.then, roundY] at h4 ⊢
      case normal =>
        obtain ⟨y, hy, hw, rfl⟩ := h4
        obtain ⟨E'', X'', e, hr'⟩ := hw C' E' X' a' h3
        rw [← e]
        exact ih y C' E'' X'' a' Z' (by omega) h2 hr'
      all_goals exact ⟨C', E', X', σ', g', Z', rfl, h2, h3, h4⟩
  obtain ⟨E', X', e, hr'⟩ := h0 C E X a hr
  have := key (μ x0 + 1) x0 C E' X' a Z (by omega) (hg ▸ hi) hr'
  rw [← e]
  exact wp_loop_rounds _ this
end
/-- The contract of an iterator that holds the boxes 0 .. k - 1. -/
def SeqR {α : Type} (P : Program) (gf : Nat) (caps : List AV) (objs : List (Nat × Obj)) (k : Nat) (encs : α → Array Value) (S Sp : List α → Prop) (N : Nat) : Prop :=
  Bodied P gf ∧ ∀ (E : Env) (X : Nat → List Value) (lb : List Value), Entry E X objs k → FVs E caps lb → SeqZ P gf lb.toArray encs S Sp N (ownOf E objs) E.S E.w
theorem SeqR.of_body {α : Type} {P : Program} {gf : FuncId} {fn : Func} {c : Code} {caps : List AV} {objs : List (Nat × Obj)} {k N : Nat} {encs : α → Array Value} {S Sp : List α → Prop}
    (hf : P.funcs[gf]? = some fn) (hb : fn.body = some c) (hnm : (fn.name == "runtime.NumGoroutine") = false) (hrs : fn.results = #[]) (hn : caps.length + 1 ≤ fn.ntmps)
    (h : ∀ l S0 (J : Bool × List α → (Nat → Prop) → World → Prop), Rnd P l encs N S0 J → EvY P S0 J c ⟨argSlots 0 (.lit (.func (.yield l) #[] #[]) :: caps), objs, k, fn.ntmps, k⟩ (true, []) (fun e σ' g' => (e = .normal ∨ e = .ret) ∧ (g'.1 = true → S g'.2) ∧ (g'.1 = false → Sp g'.2))) :
    SeqR P gf caps objs k encs S Sp N := by
  refine ⟨⟨fn, hf, by simp [hb], hnm⟩, fun E X lb hE hx => ?_⟩
  intro l J Jx W hW hJ hJx hround hJ0
  obtain ⟨J', hJ'⟩ : ∃ J' : Bool × List α → (Nat → Prop) → World → Prop, J' = fun g => match g.1 with | true => J g.2 | false => Jx g.2 := ⟨_, rfl⟩
  have hR : Rnd P l encs N E.S J' := by
    subst hJ'
    refine ⟨fun g Z A B h1 h2 => ?_, fun pre Z x A h1 h2 => ?_⟩
    · rcases g with ⟨b, pre⟩
      cases b
      · exact hJx pre Z A B h1 h2
      · exact hJ pre Z A B h1 h2
    · exact hround pre Z x A h1 h2
  have hxl := hx.length
  have hle : E.le { E with w := W } := ⟨fun b hb => ⟨hb, hW.block b (hE.stay b hb).1 fun h => h (.inr hb)⟩, fun r hr => ⟨hr, rfl, rfl⟩⟩
  have hown : ∀ r o b, find objs r = some o → blockOf (E.H r) = some b → W.heap[b]? = E.w.heap[b]? := fun r o b h1 h2 => hW.block b ((hE.objs r o h1).2.2.1.lt h2) fun h => h (.inl ⟨r, o, h1, h2⟩)
  have hrel : Rel (ctxOf { E with w := W } objs k) { E with w := W } X ⟨argSlots 0 (.lit (.func (.yield l) #[] #[]) :: caps), objs, k, fn.ntmps, k⟩ { tmps := (#[Value.func (Fn.yield l) #[] #[]] ++ lb.toArray) ++ Array.replicate (fn.ntmps - (#[Value.func (Fn.yield l) #[] #[]] ++ lb.toArray).size) undef, defers := [] } := by
    have hxx : FVs { E with w := W } (.lit (.func (.yield l) #[] #[]) :: caps) (Value.func (Fn.yield l) #[] #[] :: lb) := ⟨_, _, rfl, by simp [FV], FVs.le _ hle _ hx⟩
    refine ⟨?_, ?_, rfl, ?_, hE.apart, ?_, ?_, Keep.refl _ _, ?_, ?_, ?_, fun b hb => hb, fun b hb => .inl hb, rfl, hE.glob.le hle⟩
    · intro s v hv
      obtain ⟨_, h2⟩ := find_argSlots _ 0 s v hv
      simp only [Nat.sub_zero] at h2
      obtain ⟨y, hy, hfv⟩ := hxx.get h2
      have e0 : (#[Value.func (Fn.yield l) #[] #[]] ++ lb.toArray : Array Value) = (Value.func (Fn.yield l) #[] #[] :: lb).toArray := by simp
      rw [e0]
      generalize (Value.func (Fn.yield l) #[] #[] :: lb) = xs at hy ⊢
      have hlt : s < xs.length := (List.getElem?_eq_some_iff.1 hy).1
      have : (xs.toArray ++ Array.replicate (fn.ntmps - xs.toArray.size) undef).getD s undef = y := by
        have e : (xs.toArray ++ Array.replicate (fn.ntmps - xs.toArray.size) undef)[s]? = some y := by
          rw [Array.getElem?_append_left (by simpa using hlt)]
          simpa using hy
        rw [Array.getD_eq_getD_getElem?, e]
        rfl
      rw [this]
      exact hfv
    · simp [hxl]; omega
    · intro r o hr
      obtain ⟨h1, h2, h3, h4⟩ := hE.objs r o hr
      exact ⟨(hE.dom r).2 h1, h2, h3.kept fun b hb => hown r o b hr hb, FVr.le _ _ (hle.by _) _ h4⟩
    · intro b hb
      exact ⟨Nat.lt_of_lt_of_le (hE.stay b hb).1 hW.size, (hE.stay b hb).2⟩
    · intro r hr; exact (hE.dom r).1 hr
    · intro r o b hr hb; exact .inl ⟨r, o, hr, hb⟩
    · intro r hr; exact ⟨rfl, rfl⟩
    · intro r hr; exact (hE.dom r).2 hr
  have hin : InY E.S J' (ctxOf { E with w := W } objs k) (true, []) (ownOf E objs) := ⟨rfl, fun b hb => hb, fun b hb => .inr hb, by subst hJ'; exact hJ0⟩
  refine calls_of_wp hf hb (wp_mono (h l E.S J' hR _ _ X _ _ hin hrel) ?_)
  rintro e a' w' ⟨C', E', X', σ', g', Z', rfl, h2, h3, h4, h5, h6⟩
  have hd : a'.defers = [] := h3.defers.trans h2.dfr
  have hres : ∃ y, (results fn a'.tmps).run P E'.w = .ok y E'.w := by
    refine ⟨.tuple #[], ?_⟩
    unfold results
    simp [hrs]
  have hj := hR.step _ _ _ _ h2.j (h3.kept.mono h2.own)
  have fin : (∃ v, Ending.returned (.tuple #[]) = .returned v) ∧ ((∃ xs Z, S xs ∧ J xs Z E'.w) ∨ (∃ pre Z, Sp pre ∧ Jx pre Z E'.w)) := by
    refine ⟨⟨_, rfl⟩, ?_⟩
    subst hJ'
    rcases g' with ⟨b, pre⟩
    cases b
    · exact .inr ⟨pre, _, h6 rfl, hj⟩
    · exact .inl ⟨pre, _, h5 rfl, hj⟩
  have hr2 : (results fn a'.tmps).run P E'.w = .ok (.tuple #[]) E'.w := by
    unfold results
    simp [hrs]
  rcases h4 with rfl | rfl
  · exact ⟨hd, _, hr2, fin⟩
  · exact ⟨hd, _, hr2, fin⟩
/-! ### The caller -/
/-- Slots that the rounds leave as they are: values, and pointers to the first K roots. -/
def stays (K : Nat) (s0 : List (Nat × AV)) : Prop := ∀ k v, find s0 k = some v → renAV (fun r => if r < K then some r else none) v = some v
theorem stays.nil (K : Nat) : stays K [] := fun k v h => by simp [find] at h
theorem stays.c {K k : Nat} {v : AV} {s : List (Nat × AV)} (h : stays K s) (hv : renAV (fun r => if r < K then some r else none) v = some v) : stays K ((k, v) :: s) := fun k' v' hf => by
  rw [find_cons] at hf
  split at hf
  · cases hf; exact hv
  · exact h k' v' hf
structure RI (C : Ctx) (s0 : List (Nat × AV)) (o : List (Nat × Obj)) (n nt : Nat) (S0 : Nat → Prop) (a : Act) (Z : Nat → Prop) (E : Env) (X : Nat → List Value) : Prop where
  rel : Rel C E X ⟨s0, o, n, nt, 0⟩ a
  S0 : ∀ b, S0 b → E.S b
  lt : ∀ b, Z b → b < E.w.heap.size
  new : ∀ b, Z b → C.w0.heap.size ≤ b
  fr : ∀ b, Z b → ¬ E.S b
  ob : ∀ b, Z b → ∀ r p, find o r = some p → blockOf (E.H r) ≠ some b
section
variable {C : Ctx} {s0 : List (Nat × AV)} {o : List (Nat × Obj)} {n nt : Nat} {S0 : Nat → Prop} {a : Act} {Z : Nat → Prop} {E : Env} {X : Nat → List Value}
theorem RI.step (h : RI C s0 o n nt S0 a Z E X) {B : World} (hk : Keep Z E.w B) : RI C s0 o n nt S0 a (addZ Z E.w B) { E with w := B } X := by
  have hsz := h.rel.kept.size
  refine ⟨h.rel.other hk fun b hb => ⟨h.new b hb, h.fr b hb, h.ob b hb⟩, h.S0, fun b hb => ?_, fun b hb => ?_, fun b hb => ?_, fun b hb r p hr => ?_⟩
  · rcases hb with hb | hb
    · exact Nat.lt_of_lt_of_le (h.lt b hb) hk.size
    · exact hb.2
  · rcases hb with hb | hb
    · exact h.new b hb
    · exact Nat.le_trans hsz hb.1
  · rcases hb with hb | hb
    · exact h.fr b hb
    · intro hs; have := (h.rel.stay b hs).1; omega
  · rcases hb with hb | hb
    · exact h.ob b hb r p hr
    · intro e; have := (h.rel.objs r p hr).2.2.1.lt e; omega
theorem RI.mono (h : RI C s0 o n nt S0 a Z E X) {Z' : Nat → Prop} (hz : ∀ b, Z' b → Z b) : RI C s0 o n nt S0 a Z' E X :=
  ⟨h.rel, h.S0, fun b hb => h.lt b (hz b hb), fun b hb => h.new b (hz b hb), fun b hb => h.fr b (hz b hb), fun b hb => h.ob b (hz b hb)⟩
/-- The round's context. -/
def ctxR (E : Env) (o : List (Nat × Obj)) (K : Nat) : Ctx := ctxOf E o K
/-- A round begins. -/
theorem RI.enter (h : RI C s0 o n nt S0 a Z E X) {K p d : Nat} (hK : ∀ r, r < K → ∃ q, find o r = some q) (v : Value) (hp : p < nt) (hd : d < nt) :
    Rel (ctxR E o K) E X ⟨(d, .lit v) :: (p, .lit v) :: s0, o, n, nt, K⟩ { tmps := (a.tmps.setIfInBounds p v).setIfInBounds d v, defers := [] } := by
  have hr := h.rel
  have h0 : Rel (ctxR E o K) E X ⟨s0, o, n, nt, K⟩ { tmps := a.tmps, defers := [] } :=
    ⟨hr.slots, hr.size, rfl, hr.objs, hr.apart, hr.stay, hr.fresh, Keep.refl _ _, fun r q b h1 h2 => .inl ⟨r, q, h1, h2⟩, fun r _ => ⟨rfl, rfl⟩, fun r hk => by
      obtain ⟨q, hq⟩ := hK r hk
      exact (hr.objs r q hq).1, fun b hb => hb, fun b hb => .inl hb, rfl, hr.glob⟩
  have h1 := h0.put (some p) (fun d' e => by cases e; exact hp) (v := .lit v) (y := v) (by simp [FV])
  exact h1.put (some d) (fun d' e => by cases e; exact hd) (v := .lit v) (y := v) (by simp [FV])
/-- A round ends: the slots of the loop's start. -/
theorem RI.leave (h : RI C s0 o n nt S0 a Z E X) {K : Nat} (hs : stays K s0) {E' : Env} {X' : Nat → List Value} {o' : List (Nat × Obj)} {n' : Nat} {a' : Act} (hn : n' ≤ n)
    (h' : Rel (ctxR E o K) E' X' ⟨[], o', n', nt, K⟩ a') : RI C s0 o' n nt S0 a Z E' X' ∧ Keep (fun b => ¬ (Z b ∨ S0 b)) E.w E'.w := by
  have hr := h.rel
  have hsz := hr.kept.size
  have hown : ∀ b, ownOf E o b → C.own b ∨ C.w0.heap.size ≤ b := fun b ⟨r, q, h1, h2⟩ => hr.mine r q b h1 h2
  have hoZ : ∀ b, ownOf E o b → ¬ Z b := fun b ⟨r, q, h1, h2⟩ hz => h.ob b hz r q h1 h2
  have hoS : ∀ b, ownOf E o b → ¬ E.S b := fun b ⟨r, q, h1, h2⟩ hz => (hr.stay b hz).2 r q h1 h2
  have hCk : C.k = 0 := hr.envk
  have hren : E.ren (fun r => if r < K then some r else none) E' := by
    refine ⟨fun b hb => ⟨h'.base b hb, h'.kept.block b (hr.stay b hb).1 fun ho => hoS b ho hb⟩, fun r r' hD hp => ?_⟩
    split at hp
    · rename_i hlt
      cases hp
      exact ⟨h'.envD r hlt, (h'.env r hlt).1, (h'.env r hlt).2⟩
    · cases hp
  refine ⟨⟨⟨fun k v hv => FV.ren hren (hs k v hv) (hr.slots k v hv), hr.size, hr.defers, h'.objs, h'.apart, h'.stay, fun r hD => Nat.lt_of_lt_of_le (h'.fresh r hD) hn,
      ⟨h'.kept.os.trans hr.kept.os, hr.kept.tape.trans h'.kept.tape, h'.kept.output.trans hr.kept.output, Nat.le_trans hsz h'.kept.size, fun b hb hno => ?_⟩, fun r q b h1 h2 => ?_, fun r hk => ?_, fun r hk => ?_, fun b hb => h'.base b (hr.base b hb), fun b hb => ?_, hCk, h'.glob⟩,
    fun b hb => h'.base b (h.S0 b hb), fun b hb => Nat.lt_of_lt_of_le (h.lt b hb) h'.kept.size, h.new, fun b hb hS => ?_, fun b hb r q h1 h2 => ?_⟩, h'.kept.mono fun b hb hz => ?_⟩
  · refine (h'.kept.block b (Nat.lt_of_lt_of_le hb hsz) fun ho => ?_).trans (hr.kept.block b hb hno)
    rcases hown b ho with h1 | h1
    · exact hno h1
    · omega
  · rcases h'.mine r q b h1 h2 with h3 | h3
    · exact hown b h3
    · exact .inr (Nat.le_trans hsz h3)
  · rw [hCk] at hk; exact absurd hk (Nat.not_lt_zero _)
  · rw [hCk] at hk; exact absurd hk (Nat.not_lt_zero _)
  · rcases h'.grow b hb with h3 | h3 | h3
    · exact hr.grow b h3
    · exact .inr (.inl (Nat.le_trans hsz h3))
    · rcases hown b h3 with h4 | h4
      · exact .inr (.inr h4)
      · exact .inr (.inl h4)
  · rcases h'.grow b hS with h3 | h3 | h3
    · exact h.fr b hb h3
    · have h4 : E.w.heap.size ≤ b := h3
      have := h.lt b hb
      omega
    · exact hoZ b h3 hb
  · rcases h'.mine r q b h1 h2 with h3 | h3
    · exact hoZ b h3 hb
    · have h4 : E.w.heap.size ≤ b := h3
      have := h.lt b hb
      omega
  · rcases hz with hz | hz
    · exact hoZ b hb hz
    · exact hoS b hb (h.S0 b hz)
/-- Behind the loop. -/
theorem RI.after {P : Program} {c2 : Code} {Q : Exit → St → Prop} (h : RI C s0 o n nt S0 a Z E X) (hC : TopC C) {D : Nat} (hD : Z D) (hat : E.w.heap[D]? = some (.deferred (some []))) (h2 : Ev P c2 ⟨s0, o, n, nt, 0⟩ Q) :
    c2.wp P (fun e a' w' => ∃ E' X' σ', E'.w = w' ∧ Rel C E' X' σ' { a' with defers := [] } ∧ (a'.defers = [] ∨ ∃ D, a'.defers = [{ target := .collected D, args := #[] }] ∧ Mark C E' σ' D) ∧ Q e σ') { a with defers := { target := .collected D, args := #[] } :: a.defers } E.w := by
  have hr := h.rel
  have had : a.defers = [] := hr.defers.trans hC.dfr
  have hb := hr.rebase
  have hr2 : Rel { C.at E ⟨s0, o, n, nt, 0⟩ with dfr := [{ target := .collected D, args := #[] }] } E X ⟨s0, o, n, nt, 0⟩ { a with defers := { target := .collected D, args := #[] } :: a.defers } :=
    ⟨hb.slots, hb.size, by simp [had], hb.objs, hb.apart, hb.stay, hb.fresh, hb.kept, hb.mine, hb.env, hb.envD, hb.base, hb.grow, hb.envk, hb.glob⟩
  refine wp_mono (h2 _ E X _ hr2) ?_
  rintro e a' w' ⟨E', X', σ', rfl, h3, h4⟩
  have h5 : Rel (C.at E ⟨s0, o, n, nt, 0⟩) E' X' σ' { a' with defers := [] } :=
    ⟨h3.slots, h3.size, hC.dfr.symm, h3.objs, h3.apart, h3.stay, h3.fresh, h3.kept, h3.mine, h3.env, h3.envD, h3.base, h3.grow, h3.envk, h3.glob⟩
  have hDo : ¬ (∃ r q, find o r = some q ∧ blockOf (E.H r) = some D) := fun ⟨r, q, h1, h2⟩ => h.ob D hD r q h1 h2
  have hlt := h.lt D hD
  refine ⟨E', X', σ', rfl, hr.unbase h5, .inr ⟨D, h3.defers, h.new D hD, fun hS => ?_, fun r q h1 h2 => ?_, (h3.kept.block D hlt hDo).trans hat⟩, h4⟩
  · rcases h3.grow D hS with h6 | h6 | h6
    · exact h.fr D hD h6
    · have h7 : E.w.heap.size ≤ D := h6
      omega
    · exact hDo h6
  · rcases h3.mine r q D h1 h2 with h6 | h6
    · exact hDo h6
    · have h7 : E.w.heap.size ≤ D := h6
      omega
end
/-- Code ahead of the rest of a function; behind it deferred calls may stand. -/
def QQ (C : Ctx) (Q : Exit → St → Prop) (e : Exit) (a' : Act) (w' : World) : Prop := ∃ E' X' σ', E'.w = w' ∧ Rel C E' X' σ' { a' with defers := [] } ∧ (a'.defers = [] ∨ ∃ D, a'.defers = [{ target := .collected D, args := #[] }] ∧ Mark C E' σ' D) ∧ Q e σ'
def EvB (P : Program) (c c2 : Code) (σ : St) (Q : Exit → St → Prop) : Prop := ∀ C E X a, TopC C → Rel C E X σ a → c.wp P (Exit.then (c2.wp P (QQ C Q)) (QQ C Q)) a E.w
theorem EvT.ofB {P : Program} {c c2 : Code} {σ : St} {Q : Exit → St → Prop} (h : EvB P c c2 σ Q) : EvT P (.seq c c2) σ Q := fun C E X a hC hr => wp_seq (h C E X a hC hr)
theorem EvB.seqE {P : Program} {x y c2 : Code} {σ : St} {Q : Exit → St → Prop} (h : Ev P x σ (thenP (fun σ' => EvB P y c2 σ' Q) Q)) : EvB P (.seq x y) c2 σ Q := by
  intro C E X a hC hr
  refine wp_seq (wp_mono (h C E X a hr) ?_)
  rintro e a' w' ⟨E', X', σ', rfl, h2, h3⟩
  have hd : a'.defers = [] := h2.defers.trans hC.dfr
  cases e <;> simp only [Exit.then, thenP] at h3 ⊢
  case normal => exact h3 C E' X' a' hC h2
  all_goals exact ⟨E', X', σ', rfl, by rw [act_nil hd]; exact h2, .inl hd, h3⟩
theorem EvB.weaken {P : Program} {c c2 : Code} {σ σ' : St} {Q : Exit → St → Prop} (hw : Wk σ σ') (h : EvB P c c2 σ' Q) : EvB P c c2 σ Q := by
  intro C E X a hC hr
  obtain ⟨E', X', e, hr'⟩ := hw C E X a hr
  rw [← e]
  exact h C E' X' a hC hr'
def roundQ {α : Type} (O : List α → List (Nat × Obj)) (QX : List α → List (Nat × Obj) → Prop) (n nt K : Nat) (xs : List α) : Exit → St → Prop
  | .normal, σ' => ∃ n', n' ≤ n ∧ Wk σ' ⟨[], O xs, n', nt, K⟩
  | .ret, σ' => ∃ n' o', n' ≤ n ∧ Wk σ' ⟨[], o', n', nt, K⟩ ∧ QX xs o'
  | _, _ => False
theorem EvB.range {α : Type} {P : Program} {s0 : List (Nat × AV)} {b objs0 : List (Nat × Obj)} {n nt K N gs p d bid aid ty : Nat} {gf : FuncId} {ps : String} {aft : Array Edge} {body c2 : Code} {caps caps' : List AV} {enc : α → Value} {S Sp : List α → Prop} {Q : Exit → St → Prop}
    (rs : List Nat) (O : List α → List (Nat × Obj)) (QX : List α → List (Nat × Obj) → Prop) (hc : SeqR P gf caps' objs0 rs.length (fun x => #[enc x]) S Sp N) (hg : find s0 gs = none)
    (hh : handL ⟨(gs, .fn (.func gf) [] caps) :: s0, b, n, nt, 0⟩ rs caps = some caps') (ho : onlyL rs caps = true) (hnd : rs.Nodup) (hk : keepObjs ⟨(gs, .fn (.func gf) [] caps) :: s0, b, n, nt, 0⟩ (pos rs 0) 0 rs = some objs0)
    (h0 : ∀ r q, find (O []) r = some q → find b r = some q ∧ r ∉ rs) (hK : ∀ pre r, r < K → ∃ q, find (O pre) r = some q) (hs : stays K s0) (hp : p < nt) (hd : d < nt)
    (hround : ∀ l m pre x, pre.length < N → EvI P l m body ⟨(d, .lit (enc x)) :: (p, .lit (enc x)) :: s0, O pre, n, nt, K⟩ (roundQ O QX n nt K (pre ++ [x])))
    (hdone : ∀ xs, S xs → Ev P c2 ⟨s0, O xs, n, nt, 0⟩ Q) (hstop : ∀ pre o', Sp pre → QX pre o' → Q .ret ⟨s0, o', n, nt, 0⟩) :
    EvB P (.block bid (.rangeFunc (.tmp gs) #[p] (.region aid ⟨[⟨some d, .assign (.tmp p), ty, ps, aft, none⟩]⟩ false) body)) c2 ⟨(gs, .fn (.func gf) [] caps) :: s0, b, n, nt, 0⟩ Q := by
  intro C E X a hC hr
  have had : a.defers = [] := hr.defers.trans hC.dfr
  have hfn := hr.slots gs (.fn (.func gf) [] caps) (by simp only [find_cons, if_true])
  have hsl : ∀ k v, find s0 k = some v → FV E v (a.tmps.getD k undef) := fun k v hv => hr.slots k v (by
    simp only [find_cons]
    split
    · rename_i e
      subst e
      rw [hg] at hv
      cases hv
    · exact hv)
  simp only [FV] at hfn
  obtain ⟨x0, ys, hgv, hx0, hys⟩ := hfn
  have hx0' : x0 = #[] := Array.ext' (by simpa [FVs] using hx0)
  subst hx0'
  have hent := hr.entry hnd (T := true) hk
  have hxh := FVs.hand hr (T := true) (fun _ => ho) hh hys
  have hseq := hc.2 _ _ _ hent hxh
  have eg : ∀ args w, (callFunc gf args).run P w = .ok (.enter gf args) w := run_enter hc.1
  have hZ : ∀ c, ownOf (E.hand ⟨(gs, .fn (.func gf) [] caps) :: s0, b, n, nt, 0⟩ rs true) objs0 c → ∃ r q, r ∈ rs ∧ find b r = some q ∧ blockOf (E.H r) = some c := by
    rintro c ⟨r, q, h1, h2⟩
    obtain ⟨j, q1, _, hj, hj2, _⟩ := keepObjs_spec rs 0 objs0 hk r q h1
    simp only [Nat.sub_zero] at hj
    simp only [Env.hand, hj] at h2
    exact ⟨j, q1, List.mem_of_getElem? hj, hj2, h2⟩
  have hS0 : ∀ c, (E.hand ⟨(gs, .fn (.func gf) [] caps) :: s0, b, n, nt, 0⟩ rs true).S c → E.S c := fun c h => by
    rcases h with h | ⟨h, _⟩
    · exact h
    · cases h
  have hri0 : RI C s0 (O []) n nt (E.hand ⟨(gs, .fn (.func gf) [] caps) :: s0, b, n, nt, 0⟩ rs true).S a (ownOf (E.hand ⟨(gs, .fn (.func gf) [] caps) :: s0, b, n, nt, 0⟩ rs true) objs0) E X := by
    refine ⟨⟨hsl, hr.size, hr.defers, fun r q h1 => hr.objs r q (h0 r q h1).1, fun r r' q q' c h1 h2 => hr.apart r r' q q' c (h0 r q h1).1 (h0 r' q' h2).1, fun c hc => ⟨(hr.stay c hc).1, fun r q h1 => (hr.stay c hc).2 r q (h0 r q h1).1⟩, hr.fresh, hr.kept,
      fun r q c h1 => hr.mine r q c (h0 r q h1).1, hr.env, hr.envD, hr.base, hr.grow, hr.envk, hr.glob⟩, hS0, fun c hz => ?_, fun c hz => ?_, fun c hz hS => ?_, fun c hz r q h1 h2 => ?_⟩
    · obtain ⟨r, q, _, h1, h2⟩ := hZ c hz
      exact (hr.objs r q h1).2.2.1.lt h2
    · obtain ⟨r, q, _, h1, h2⟩ := hZ c hz
      rcases hr.mine r q c h1 h2 with h3 | h3
      · exact absurd h3 (hC.own c)
      · exact h3
    · obtain ⟨r, q, _, h1, h2⟩ := hZ c hz
      exact (hr.stay c hS).2 r q h1 h2
    · obtain ⟨r', q', hm, h3, h4⟩ := hZ c hz
      have := hr.apart r r' q q' c (h0 r q h1).1 h3 h2 h4
      subst this
      exact (h0 r q h1).2 hm
  generalize hZe : ownOf (E.hand ⟨(gs, .fn (.func gf) [] caps) :: s0, b, n, nt, 0⟩ rs true) objs0 = Z0 at *
  generalize hSe : (E.hand ⟨(gs, .fn (.func gf) [] caps) :: s0, b, n, nt, 0⟩ rs true).S = S0 at *
  have hge : a.eval (.tmp gs) = .func (.func gf) #[] ys.toList.toArray := by
    have e : a.eval (.tmp gs) = a.tmps.getD gs undef := rfl
    rw [e, hgv]
  refine (wp_block (wp_rangeZ (gf := gf) (lb := ys.toList.toArray) (encs := fun x => #[enc x]) hge eg hseq (fun x => rfl) (fun c hc => hri0.lt c hc) (fun c hc => (hr.stay c (hS0 c hc)).1)
    (fun pre Z W => ∃ E' X', E'.w = W ∧ RI C s0 (O pre) n nt S0 a Z E' X') (fun c pre Z W => c = .ret ∧ ∃ o' E' X', E'.w = W ∧ RI C s0 o' n nt S0 a Z E' X' ∧ QX pre o') ?_ ?_ ?_ ?_ ⟨E, X, rfl, hri0⟩ ?_ ?_ ?_))
  · rintro pre Z A B ⟨E', X', rfl, h1⟩ hkp
    exact ⟨_, X', rfl, h1.step hkp⟩
  · rintro c pre Z A B ⟨rfl, o', E', X', rfl, h1, h2⟩ hkp
    exact ⟨rfl, o', _, X', rfl, h1.step hkp, h2⟩
  · rintro pre Z Z' A ⟨E', X', rfl, h1⟩ hz
    exact ⟨E', X', rfl, h1.mono hz⟩
  · rintro c pre Z Z' A ⟨rfl, o', E', X', rfl, h1, h2⟩ hz
    exact ⟨rfl, o', E', X', rfl, h1.mono hz, h2⟩
  · rintro l m pre x Z A ⟨E', X', rfl, h1⟩ hlen hl
    refine wpIn_region_list ?_
    simp only [wpListIn]
    rw [if_pos (by simp [Region.wanted])]
    refine oper_in rfl ?_
    unfold Oper.wp execOp
    simp only [Sem.run_pure, Oper.upon, Act.put]
    refine ⟨rfl, fun A2 hA2 hsz => ?_⟩
    have h2 := (h1.step (hA2.mono fun b e => by subst e; exact hl)).mono (Z' := Z) fun b hb => .inl hb
    have h3 := h2.enter (K := K) (p := p) (d := d) (hK pre) (enc x) hp hd
    refine wpIn_mono (n := m) (Q := fun e a' w' => ∃ E3 X3 σ3, E3.w = w' ∧ Rel (ctxR { E' with w := A2 } (O pre) K) E3 X3 σ3 a' ∧ roundQ O QX n nt K (pre ++ [x]) e σ3) ?_ ?_
    · have h4 := hround l m pre x hlen _ _ _ _ h3
      have hev : ({ tmps := a.tmps.setIfInBounds p (enc x), defers := [] } : Act).eval (.tmp p) = enc x := by
        have hlt : p < a.tmps.size := by rw [h1.rel.size]; exact hp
        simp [Act.eval, Array.getD_eq_getD_getElem?, hlt]
      simpa [hev] using h4
    · rintro e a' w' ⟨E3, X3, σ3, rfl, h5, h6⟩
      cases e <;> simp only [roundQ] at h6
      case normal =>
        obtain ⟨n', hn', hwk⟩ := h6
        obtain ⟨E4, X4, e4, h7⟩ := hwk _ _ _ _ h5
        have h8 := h2.leave hs hn' h7
        rw [← e4]
        exact ⟨h8.2, E4, X4, rfl, h8.1⟩
      case ret =>
        obtain ⟨n', o', hn', hwk, hqx⟩ := h6
        obtain ⟨E4, X4, e4, h7⟩ := hwk _ _ _ _ h5
        have h8 := h2.leave hs hn' h7
        rw [← e4]
        exact ⟨h8.2, rfl, o', E4, X4, rfl, h8.1, hqx⟩
  · rintro D xs Z W hD hZD hS ⟨E', X', rfl, h1⟩ hat
    exact h1.after hC hZD hat (hdone xs hS)
  · rintro D c pre Z W hD hZD hS ⟨rfl, o', E', X', rfl, h1, h2⟩ hat
    refine wp_ret ?_
    refine ⟨E', X', _, rfl, ?_, .inr ⟨D, by simp [had], h1.new D hZD, h1.fr D hZD, h1.ob D hZD, hat⟩, hstop pre o' hS h2⟩
    have := h1.rel
    exact ⟨this.slots, this.size, hC.dfr.symm, this.objs, this.apart, this.stay, this.fresh, this.kept, this.mine, this.env, this.envD, this.base, this.grow, this.envk, this.glob⟩
end Go.AM
