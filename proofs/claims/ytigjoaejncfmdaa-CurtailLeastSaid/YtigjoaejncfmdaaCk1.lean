/-
  Going through the events of a demand and of bars: plain laws.
  Conditions: none.
-/
import Derived.Test.YtigjoaejncfmdaaAmAuto
namespace Go.Proofs.Ytigjoaejncfmdaa
open Go Go.AM
set_option linter.unusedSimpArgs false
set_option linter.unusedVariables false
set_option maxRecDepth 100000

theorem snocI {T : Type} {P : List T → Prop} (h0 : P []) (hs : ∀ l s, P l → P (l ++ [s])) : ∀ l, P l := by
  intro l
  have : ∀ m : List T, P m.reverse := by
    intro m
    induction m with
    | nil => exact h0
    | cons x m ih => rw [List.reverse_cons]; exact hs _ _ ih
  have := this l.reverse
  rwa [List.reverse_reverse] at this
abbrev Ev3 := Int × Int × Int
def swF (q : Int × Int) (e : Ev3) : Int × Int := if e.2.1 = 1 then (e.2.2, q.2) else (q.1, q.2 + e.2.2)
def swE (P : List Ev3) : Int × Int := P.foldl swF (0, 0)
theorem swE_snoc (P : List Ev3) (e : Ev3) : swE (P ++ [e]) = swF (swE P) e := by simp [swE, List.foldl_append]
def goesOn (e : Ev3) : List Ev3 → Bool
  | [] => false
  | f :: _ => decide (f.1 = e.1)
def sweep (A : Int) : Int × Int → List Ev3 → Bool
  | _, [] => true
  | q, e :: r => (goesOn e r || decide ((swF q e).1 ≤ (swF q e).2 * A)) && sweep A (swF q e) r
theorem sweep_all (A : Int) : ∀ (R P : List Ev3), sweep A (swE P) R = true ↔ ∀ R1 e R2, R = R1 ++ e :: R2 → goesOn e R2 = false → (swE (P ++ R1 ++ [e])).1 ≤ (swE (P ++ R1 ++ [e])).2 * A
  | [], P => by
    refine ⟨fun _ R1 e R2 h => ?_, fun _ => rfl⟩
    have := congrArg List.length h
    simp at this
  | f :: R, P => by
    rw [sweep, ← swE_snoc, Bool.and_eq_true, sweep_all A R (P ++ [f]), Bool.or_eq_true, decide_eq_true_eq]
    constructor
    · rintro ⟨h1, h2⟩ R1 e R2 hR hg
      cases R1 with
      | nil =>
        simp only [List.nil_append, List.cons.injEq] at hR
        obtain ⟨rfl, rfl⟩ := hR
        rw [List.append_nil]
        rcases h1 with h1 | h1
        · rw [hg] at h1; cases h1
        · exact h1
      | cons g R1 =>
        simp only [List.cons_append, List.cons.injEq] at hR
        obtain ⟨rfl, hR⟩ := hR
        have := h2 R1 e R2 hR hg
        simpa [List.append_assoc] using this
    · intro h
      refine ⟨?_, fun R1 e R2 hR hg => ?_⟩
      · cases hg : goesOn f R with
        | true => exact .inl rfl
        | false => exact .inr (by have := h [] f R rfl hg; simpa using this)
      · have := h (f :: R1) e R2 (by rw [hR]; rfl) hg
        simpa [List.append_assoc] using this
/-! What a prefix adds up to. -/
def chSum (P : List Ev3) : Int := (P.map fun e => if e.2.1 = 1 then 0 else e.2.2).sum
def lastD (v : Int) (P : List Ev3) : Int := P.foldl (fun v e => if e.2.1 = 1 then e.2.2 else v) v
theorem swE_eq : ∀ P : List Ev3, swE P = (lastD 0 P, chSum P) := by
  refine snocI rfl ?_
  intro P e ih
  rw [swE_snoc, ih, swF]
  simp only [lastD, chSum, List.foldl_append, List.map_append, List.sum_append, List.map_cons, List.map_nil, List.sum_cons, List.sum_nil, List.foldl_cons, List.foldl_nil]
  split
  · simp
  · simp
theorem lastD_filter (v : Int) : ∀ P : List Ev3, lastD v (P.filter fun e => decide (e.2.1 = 1)) = lastD v P := by
  refine snocI rfl ?_
  intro P e ih
  rw [List.filter_append]
  by_cases h : e.2.1 = 1
  · rw [List.filter_cons_of_pos (by simpa using h), List.filter_nil]
    simp only [lastD, List.foldl_append, List.foldl_cons, List.foldl_nil] at ih ⊢
    rw [if_pos h, if_pos h]
  · rw [List.filter_cons_of_neg (by simpa using h), List.filter_nil, List.append_nil, ih]
    simp only [lastD, List.foldl_append, List.foldl_cons, List.foldl_nil]
    rw [if_neg h]
theorem perm_sum {T : Type} {f : T → Int} {p q : List T} (h : p.Perm q) : (p.map f).sum = (q.map f).sum := by
  induction h with
  | nil => rfl
  | cons x _ ih => simp only [List.map_cons, List.sum_cons, ih]
  | swap x y l => simp only [List.map_cons, List.sum_cons]; omega
  | trans _ _ i1 i2 => exact i1.trans i2
theorem sum_zeros {T : Type} (l : List T) : (l.map fun _ => (0 : Int)).sum = 0 := by induction l with
  | nil => rfl
  | cons x l ih => simp [ih]
/-! The events of a demand and of bars. -/
def evSteps (l : List (Int × Int)) : List Ev3 := l.map fun s => (s.1, 1, s.2)
def evBar (a : Int) (b : Int × Int) : List Ev3 := if b.1 + a < b.2 - a then [(b.1 + a, 0, 1), (b.2 - a, 0, -1)] else []
def evs (l : List (Int × Int)) (a : Int) (bars : List (Int × Int)) : List Ev3 := evSteps l ++ bars.flatMap (evBar a)
def serveAt (bars : List (Int × Int)) (a x : Int) : Int := (bars.map fun b => if b.1 + a ≤ x ∧ x < b.2 - a then (1 : Int) else 0).sum
def needAt (l : List (Int × Int)) (x : Int) : Int := l.foldl (fun v s => if s.1 ≤ x then s.2 else v) 0
theorem needAt_snoc (l : List (Int × Int)) (s : Int × Int) (x : Int) : needAt (l ++ [s]) x = if s.1 ≤ x then s.2 else needAt l x := by simp [needAt, List.foldl_append]
theorem serveAt_nn (a x : Int) : ∀ bars : List (Int × Int), 0 ≤ serveAt bars a x ∧ serveAt bars a x ≤ bars.length := by
  refine snocI (by simp [serveAt]) ?_
  intro bars b ih
  simp only [serveAt, List.map_append, List.sum_append, List.map_cons, List.map_nil, List.sum_cons, List.sum_nil, List.length_append, List.length_singleton] at ih ⊢
  split <;> omega
def upTo (x : Int) (e : Ev3) : Int := if e.1 ≤ x then (if e.2.1 = 1 then 0 else e.2.2) else 0
theorem upTo_bars (a x : Int) : ∀ bars : List (Int × Int), ((bars.flatMap (evBar a)).map (upTo x)).sum = serveAt bars a x := by
  refine snocI rfl ?_
  intro bars b ih
  rw [List.flatMap_append, List.map_append, List.sum_append, ih]
  simp only [serveAt, List.map_append, List.sum_append, List.map_cons, List.map_nil, List.sum_cons, List.sum_nil, List.flatMap_cons, List.flatMap_nil, List.append_nil]
  have e : ((evBar a b).map (upTo x)).sum = if b.1 + a ≤ x ∧ x < b.2 - a then (1 : Int) else 0 := by
    unfold evBar
    by_cases h : b.1 + a < b.2 - a
    · rw [if_pos h]
      simp only [List.map_cons, List.map_nil, List.sum_cons, List.sum_nil, upTo]
      repeat' split
      all_goals omega
    · rw [if_neg h, if_neg (by omega)]
      rfl
  rw [e]
  omega
theorem upTo_steps (x : Int) : ∀ l : List (Int × Int), ((evSteps l).map (upTo x)).sum = 0 := by
  intro l
  induction l with
  | nil => rfl
  | cons s l ih =>
    simp only [evSteps, List.map_cons, List.sum_cons] at ih ⊢
    rw [ih]
    simp [upTo]
theorem filter_evs (l : List (Int × Int)) (a : Int) (bars : List (Int × Int)) : (evs l a bars).filter (fun e => decide (e.2.1 = 1)) = evSteps l := by
  rw [evs, List.filter_append]
  have h1 : (evSteps l).filter (fun e => decide (e.2.1 = 1)) = evSteps l := by
    rw [List.filter_eq_self]
    intro e he
    obtain ⟨s, _, rfl⟩ := List.mem_map.1 he
    rfl
  have h2 : (bars.flatMap (evBar a)).filter (fun e => decide (e.2.1 = 1)) = [] := by
    rw [List.filter_eq_nil_iff]
    intro e he
    obtain ⟨b, _, hb⟩ := List.mem_flatMap.1 he
    unfold evBar at hb
    split at hb
    · simp only [List.mem_cons, List.not_mem_nil, or_false] at hb
      rcases hb with rfl | rfl <;> simp
    · cases hb
  rw [h1, h2, List.append_nil]
theorem asc_ext : ∀ {p q : List Ev3}, p.Pairwise (fun x y => x.1 < y.1) → q.Pairwise (fun x y => x.1 < y.1) → (∀ x, x ∈ p ↔ x ∈ q) → p = q
  | [], [], _, _, _ => rfl
  | [], y :: q, _, _, h => by have := (h y).2 (by simp); cases this
  | x :: p, [], _, _, h => by have := (h x).1 (by simp); cases this
  | x :: p, y :: q, hp, hq, h => by
    rw [List.pairwise_cons] at hp hq
    have hxy : x = y := by
      rcases List.mem_cons.1 ((h x).1 (by simp)) with e | e
      · exact e
      · rcases List.mem_cons.1 ((h y).2 (by simp)) with e' | e'
        · exact e'.symm
        · have := hq.1 x e; have := hp.1 y e'; omega
    subst hxy
    have : p = q := asc_ext hp.2 hq.2 fun z => by
      constructor
      · intro hz
        rcases List.mem_cons.1 ((h z).1 (List.mem_cons_of_mem _ hz)) with e | e
        · have := hp.1 z hz; subst e; omega
        · exact e
      · intro hz
        rcases List.mem_cons.1 ((h z).2 (List.mem_cons_of_mem _ hz)) with e | e
        · have := hq.1 z hz; subst e; omega
        · exact e
    rw [this]
theorem need_split {x : Int} : ∀ {l : List (Int × Int)} {v : Int} {P R : List Ev3}, evSteps l = P ++ R → (∀ e ∈ P, e.1 ≤ x) → (∀ e ∈ R, x < e.1) → lastD v P = l.foldl (fun v s => if s.1 ≤ x then s.2 else v) v
  | [], v, P, R, h, _, _ => by
    have : P = [] := (List.append_eq_nil_iff.1 h.symm).1
    rw [this]; rfl
  | s :: l, v, [], R, h, hP, hR => by
    have hs : ¬ s.1 ≤ x := by have := hR (s.1, 1, s.2) (by rw [← List.nil_append R, ← h]; simp [evSteps]); simp only at this; omega
    have h' : evSteps l = [] ++ R.tail := by rw [← List.nil_append R, ← h]; rfl
    have := need_split (x := x) (v := v) h' hP (fun e he => hR e (List.mem_of_mem_tail he))
    rw [this, List.foldl_cons, if_neg hs]
  | s :: l, v, p :: P, R, h, hP, hR => by
    simp only [evSteps, List.map_cons, List.cons_append, List.cons.injEq] at h
    obtain ⟨rfl, h⟩ := h
    have hs : s.1 ≤ x := hP (s.1, 1, s.2) (by simp)
    have := need_split (x := x) (v := s.2) (l := l) h (fun e he => hP e (List.mem_cons_of_mem _ he)) hR
    rw [List.foldl_cons, if_pos hs, ← this]
    rfl
theorem state_at {l bars : List (Int × Int)} {a x : Int} {P R : List Ev3} (hl : l.Pairwise fun p q => p.1 < q.1) (hp : (P ++ R).Perm (evs l a bars)) (hs : (P ++ R).Pairwise fun p q => p.1 ≤ q.1) (hP : ∀ e ∈ P, e.1 ≤ x) (hR : ∀ e ∈ R, x < e.1) : swE P = (needAt l x, serveAt bars a x) := by
  rw [swE_eq]
  congr 1
  · rw [← lastD_filter]
    have hf := hp.filter (fun e => decide (e.2.1 = 1))
    rw [filter_evs] at hf
    have ha : (evSteps l).Pairwise (fun x y => x.1 < y.1) := by rw [evSteps, List.pairwise_map]; exact hl
    have hn : ((P ++ R).filter (fun e => decide (e.2.1 = 1))).Pairwise (fun x y => x.1 < y.1) := by
      have h1 : ((P ++ R).filter (fun e => decide (e.2.1 = 1))).Pairwise (fun x y => x.1 ≤ y.1) := hs.filter _
      have h2 : (((P ++ R).filter (fun e => decide (e.2.1 = 1))).map (·.1)).Nodup := by
        refine (hf.map (·.1)).nodup_iff.2 ?_
        rw [List.Nodup, List.pairwise_map]
        exact ha.imp fun h => by omega
      rw [List.Nodup, List.pairwise_map] at h2
      exact (h1.and h2).imp fun ⟨h, h'⟩ => by omega
    have he := asc_ext hn ha fun e => hf.mem_iff
    rw [List.filter_append] at he
    exact need_split he.symm (fun e he => hP e (List.mem_filter.1 he).1) (fun e he => hR e (List.mem_filter.1 he).1)
  · have h1 := perm_sum (f := upTo x) hp
    rw [evs, List.map_append, List.map_append, List.sum_append, List.sum_append, upTo_steps, upTo_bars] at h1
    have h2 : (P.map (upTo x)).sum = chSum P := by
      rw [chSum]
      congr 1
      exact List.map_congr_left fun e he => by rw [upTo, if_pos (hP e he)]
    have h3 : (R.map (upTo x)).sum = 0 := by
      have : R.map (upTo x) = R.map fun _ => (0 : Int) := List.map_congr_left fun e he => by rw [upTo, if_neg (by have := hR e he; omega)]
      rw [this]
      exact sum_zeros R
    omega
def okAt (l bars : List (Int × Int)) (a A x : Int) : Prop := needAt l x ≤ serveAt bars a x * A
instance (l bars a A x) : Decidable (okAt l bars a A x) := by unfold okAt; infer_instance
theorem sweep_iff {l bars : List (Int × Int)} {a A : Int} {ev : List Ev3} (hl : l.Pairwise fun p q => p.1 < q.1) (hp : ev.Perm (evs l a bars)) (hs : ev.Pairwise fun p q => p.1 ≤ q.1) : sweep A (0, 0) ev = true ↔ ∀ x, okAt l bars a A x := by
  have h0 := sweep_all A ev []
  rw [show swE [] = (0, 0) from rfl] at h0
  rw [h0]
  constructor
  · intro h x
    obtain ⟨P, R, hPR, hP, hR⟩ : ∃ P R, ev = P ++ R ∧ (∀ e ∈ P, e.1 ≤ x) ∧ ∀ e ∈ R, x < e.1 := by
      clear h h0 hp
      induction ev with
      | nil => exact ⟨[], [], rfl, by simp, by simp⟩
      | cons e ev ih =>
        rw [List.pairwise_cons] at hs
        by_cases he : e.1 ≤ x
        · obtain ⟨P, R, h1, h2, h3⟩ := ih hs.2
          refine ⟨e :: P, R, by rw [h1]; rfl, fun f hf => ?_, h3⟩
          rcases List.mem_cons.1 hf with rfl | hf
          · exact he
          · exact h2 f hf
        · refine ⟨[], e :: ev, rfl, by simp, fun f hf => ?_⟩
          rcases List.mem_cons.1 hf with rfl | hf
          · omega
          · have := hs.1 f hf; omega
    subst hPR
    have hst := state_at hl hp hs hP hR
    rcases List.eq_nil_or_concat P with rfl | ⟨R1, e, rfl⟩
    · rw [show swE [] = (0, 0) from rfl] at hst
      simp only [Prod.mk.injEq] at hst
      rw [okAt, ← hst.1, ← hst.2]
      omega
    · rw [List.concat_eq_append] at *
      have hg : goesOn e R = false := by
        cases R with
        | nil => rfl
        | cons f R =>
          have h1 := hR f (by simp)
          have h2 := hP e (by simp)
          exact decide_eq_false (by omega)
      have := h R1 e R (by simp) hg
      rw [List.nil_append, hst] at this
      exact this
  · intro h R1 e R2 hR hg
    subst hR
    have hs' := hs
    rw [List.pairwise_append] at hs'
    obtain ⟨s1, s2, s3⟩ := hs'
    rw [List.pairwise_cons] at s2
    have hst := state_at (P := R1 ++ [e]) (R := R2) (x := e.1) hl (by simpa using hp) (by simpa using hs) (fun f hf => by
      rcases List.mem_append.1 hf with hf | hf
      · exact s3 f hf e (by simp)
      · rw [List.mem_singleton] at hf; subst hf; omega) (fun f hf => by
      cases R2 with
      | nil => cases hf
      | cons g R2 =>
        have h1 : ¬ g.1 = e.1 := of_decide_eq_false hg
        have h2 := s2.1 g (by simp)
        rcases List.mem_cons.1 hf with rfl | hf
        · omega
        · have := (List.pairwise_cons.1 s2.2).1 f hf
          omega)
    rw [List.nil_append, hst]
    exact h e.1
/-! It is enough to look where the demand changes, and where bars end. -/
theorem needAt_low {x : Int} : ∀ l : List (Int × Int), (∀ s ∈ l, x < s.1) → needAt l x = 0 := by
  refine snocI (fun _ => rfl) ?_
  intro l s ih h
  rw [needAt_snoc, if_neg (by have := h s (by simp); omega)]
  exact ih fun p hp => h p (by simp [hp])
theorem needAt_same {x : Int} : ∀ l : List (Int × Int), (∀ s ∈ l, s.1 ≠ x) → needAt l x = needAt l (x - 1) := by
  refine snocI (fun _ => rfl) ?_
  intro l s ih h
  have h1 := h s (by simp)
  rw [needAt_snoc, needAt_snoc, ih fun p hp => h p (by simp [hp])]
  by_cases h2 : s.1 ≤ x
  · rw [if_pos h2, if_pos (by omega)]
  · rw [if_neg h2, if_neg (by omega)]
theorem serveAt_up {x a : Int} : ∀ bars : List (Int × Int), (∀ b ∈ bars, b.2 - a ≠ x) → serveAt bars a (x - 1) ≤ serveAt bars a x := by
  refine snocI (fun _ => Int.le_refl _) ?_
  intro l s ih h
  have h1 := h s (by simp)
  have h2 := ih fun p hp => h p (by simp [hp])
  simp only [serveAt, List.map_append, List.sum_append, List.map_cons, List.map_nil, List.sum_cons, List.sum_nil] at h2 ⊢
  repeat' split
  all_goals omega
theorem low_bound (x : Int) : ∀ l : List (Int × Int), ∃ L, L ≤ x ∧ ∀ s ∈ l, L < s.1
  | [] => ⟨x, Int.le_refl _, by simp⟩
  | s :: l => by
    obtain ⟨L, h1, h2⟩ := low_bound x l
    refine ⟨min L (s.1 - 1), by omega, fun p hp => ?_⟩
    rcases List.mem_cons.1 hp with rfl | hp
    · omega
    · have := h2 p hp; omega
theorem okAt_all {l bars : List (Int × Int)} {a A : Int} (hA : 0 ≤ A) (h1 : ∀ s ∈ l, okAt l bars a A s.1) (h2 : ∀ b ∈ bars, okAt l bars a A (b.2 - a)) (x : Int) : okAt l bars a A x := by
  obtain ⟨L, hL, hlow⟩ := low_bound x l
  have key : ∀ n : Nat, okAt l bars a A (L + n) := by
    intro n
    induction n with
    | zero =>
      rw [Int.natCast_zero, Int.add_zero, okAt, needAt_low l hlow]
      exact Int.mul_nonneg (serveAt_nn a L bars).1 hA
    | succ n ih =>
      by_cases c1 : ∃ s ∈ l, s.1 = L + (n + 1 : Nat)
      · obtain ⟨s, hs, e⟩ := c1
        rw [← e]; exact h1 s hs
      · by_cases c2 : ∃ b ∈ bars, b.2 - a = L + (n + 1 : Nat)
        · obtain ⟨b, hb, e⟩ := c2
          rw [← e]; exact h2 b hb
        · have e : L + (n + 1 : Nat) - 1 = L + n := by omega
          have k1 := needAt_same (x := L + (n + 1 : Nat)) l fun s hs h => c1 ⟨s, hs, h⟩
          have k2 := serveAt_up (a := a) (x := L + (n + 1 : Nat)) bars fun b hb h => c2 ⟨b, hb, h⟩
          rw [e] at k1 k2
          rw [okAt] at ih ⊢
          rw [k1]
          exact Int.le_trans ih (Int.mul_le_mul_of_nonneg_right k2 hA)
  have := key (x - L).toNat
  rwa [show L + ((x - L).toNat : Int) = x by omega] at this
def checkP (l : List (Int × Int)) (a A : Int) (bars : List (Int × Int)) : Prop := (∀ s ∈ l, okAt l bars a A s.1) ∧ ∀ b ∈ bars, okAt l bars a A (b.2 - a)
instance (l a A bars) : Decidable (checkP l a A bars) := by unfold checkP; infer_instance
theorem checkP_iff {l bars : List (Int × Int)} {a A : Int} (hA : 0 ≤ A) : checkP l a A bars ↔ ∀ x, okAt l bars a A x := ⟨fun h => okAt_all hA h.1 h.2, fun h => ⟨fun s _ => h s.1, fun b _ => h (b.2 - a)⟩⟩
theorem sweep_check {l bars : List (Int × Int)} {a A : Int} {ev : List Ev3} (hA : 0 ≤ A) (hl : l.Pairwise fun p q => p.1 < q.1) (hp : ev.Perm (evs l a bars)) (hs : ev.Pairwise fun p q => p.1 ≤ q.1) : sweep A (0, 0) ev = decide (checkP l a A bars) := by
  by_cases h : checkP l a A bars
  · rw [decide_eq_true h]; exact (sweep_iff hl hp hs).2 ((checkP_iff hA).1 h)
  · rw [decide_eq_false h]
    cases hw : sweep A (0, 0) ev with
    | false => rfl
    | true => exact absurd ((checkP_iff hA).2 ((sweep_iff hl hp hs).1 hw)) h
end Go.Proofs.Ytigjoaejncfmdaa
