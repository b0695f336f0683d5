/-
  The pieces of a size: plain laws.
  Conditions: none.
-/
import Derived.Test.YtddogeicmhbidaaGreatDoorSteel
import Derived.Test.YtddogeicmhbidaaGreatDoorAmMap
namespace Go.Proofs.YtddogeicmhbidaaGreatDoor
open Go Go.AM
set_option linter.unusedSimpArgs false
set_option linter.unusedVariables false
set_option maxRecDepth 100000

def PcHas (l : List Bar) (d n : Int) : Prop := ∃ b ∈ l, b.size = d ∧ cutOf b = n
instance (l d n) : Decidable (PcHas l d n) := by unfold PcHas; infer_instance
def pcCnt (l : List Bar) (d n : Int) : Int := (l.map fun b => if b.size = d ∧ cutOf b = n then b.count else 0).sum
theorem pcCnt_snoc (l : List Bar) (s : Bar) (d n : Int) : pcCnt (l ++ [s]) d n = pcCnt l d n + (if s.size = d ∧ cutOf s = n then s.count else 0) := by simp [pcCnt]
theorem pcHas_snoc (l : List Bar) (s : Bar) (d n : Int) : PcHas (l ++ [s]) d n ↔ PcHas l d n ∨ (s.size = d ∧ cutOf s = n) := by
  unfold PcHas
  constructor
  · rintro ⟨b, hb, h⟩
    rcases List.mem_append.1 hb with hb | hb
    · exact .inl ⟨b, hb, h⟩
    · rw [List.mem_singleton] at hb; subst hb; exact .inr h
  · rintro (⟨b, hb, h⟩ | h)
    · exact ⟨b, List.mem_append_left _ hb, h⟩
    · exact ⟨s, by simp, h⟩
theorem pcCnt_no {l : List Bar} {d n : Int} (h : ¬ PcHas l d n) : pcCnt l d n = 0 := by
  induction l with
  | nil => rfl
  | cons b l ih =>
    have h1 : ¬ (b.size = d ∧ cutOf b = n) := fun e => h ⟨b, by simp, e⟩
    have h2 := ih fun ⟨x, hx, e⟩ => h ⟨x, List.mem_cons_of_mem _ hx, e⟩
    rw [pcCnt] at h2 ⊢
    rw [List.map_cons, List.sum_cons, if_neg h1, h2]
    rfl
theorem pcCnt_bd (d n : Int) : ∀ l : List Bar, (∀ b ∈ l, okBar b) → 0 ≤ pcCnt l d n ∧ pcCnt l d n ≤ 1000 * l.length := by
  refine snoc_ind (fun _ => by simp [pcCnt]) ?_
  intro l s ih h
  obtain ⟨i1, i2⟩ := ih fun b hb => h b (by simp [hb])
  have h3 := (h s (by simp)).2.2.1
  have h4 := (h s (by simp)).2.2.2.1
  rw [pcCnt_snoc, List.length_append, List.length_singleton]
  split <;> omega
/-! The greatest length below a number, and the pieces from it on down. -/
def pcMax (l : List Bar) (d below : Int) : Int := l.foldl (fun m b => if b.size = d ∧ cutOf b < below ∧ m < cutOf b then cutOf b else m) 0
theorem pcMax_snoc (l : List Bar) (s : Bar) (d below : Int) : pcMax (l ++ [s]) d below = if s.size = d ∧ cutOf s < below ∧ pcMax l d below < cutOf s then cutOf s else pcMax l d below := by rw [pcMax, List.foldl_append]; rfl
theorem pcMax_spec (d below : Int) : ∀ l : List Bar, 0 ≤ pcMax l d below ∧ (pcMax l d below ≠ 0 → PcHas l d (pcMax l d below) ∧ pcMax l d below < below) ∧ ∀ b ∈ l, b.size = d → cutOf b < below → cutOf b ≤ pcMax l d below := by
  refine snoc_ind ⟨by simp [pcMax], fun h => absurd rfl h, fun b hb => (by cases hb)⟩ ?_
  intro l s ⟨i0, i1, i2⟩
  rw [pcMax_snoc]
  by_cases h : s.size = d ∧ cutOf s < below ∧ pcMax l d below < cutOf s
  · rw [if_pos h]
    refine ⟨by omega, fun _ => ⟨(pcHas_snoc l s d _).2 (.inr ⟨h.1, rfl⟩), h.2.1⟩, fun b hb h1 h2 => ?_⟩
    rcases List.mem_append.1 hb with hb | hb
    · have := i2 b hb h1 h2; omega
    · rw [List.mem_singleton] at hb; subst hb; omega
  · rw [if_neg h]
    refine ⟨i0, fun h0 => ⟨(pcHas_snoc l s d _).2 (.inl (i1 h0).1), (i1 h0).2⟩, fun b hb h1 h2 => ?_⟩
    rcases List.mem_append.1 hb with hb | hb
    · exact i2 b hb h1 h2
    · rw [List.mem_singleton] at hb; subst hb; omega
def pcAt (l : List Bar) (d below : Int) : List (Int × Int) :=
  if h : pcMax l d below = 0 then [] else (pcMax l d below, pcCnt l d (pcMax l d below)) :: pcAt l d (pcMax l d below)
termination_by below.toNat
decreasing_by
  obtain ⟨h0, h1, _⟩ := pcMax_spec d below l
  have := (h1 h).2
  omega
theorem pcAt_nil {l : List Bar} {d below : Int} (h : pcMax l d below = 0) : pcAt l d below = [] := by rw [pcAt, dif_pos h]
theorem pcAt_cons {l : List Bar} {d below : Int} (h : ¬ pcMax l d below = 0) : pcAt l d below = (pcMax l d below, pcCnt l d (pcMax l d below)) :: pcAt l d (pcMax l d below) := by rw [pcAt, dif_neg h]
theorem pcAt_spec (l : List Bar) (d : Int) : ∀ (k : Nat) (below : Int), below.toNat ≤ k → (∀ p, p ∈ pcAt l d below ↔ (PcHas l d p.1 ∧ 0 < p.1 ∧ p.1 < below) ∧ p.2 = pcCnt l d p.1) ∧ (pcAt l d below).Pairwise (fun x y => y.1 < x.1) := by
  intro k
  induction k with
  | zero =>
    intro below hb
    obtain ⟨h0, h1, h2⟩ := pcMax_spec d below l
    have hz : pcMax l d below = 0 := Classical.byContradiction fun h => by have := (h1 h).2; omega
    rw [pcAt_nil hz]
    refine ⟨fun p => ⟨fun h => (by cases h), fun h => by have := h.1.2; omega⟩, List.Pairwise.nil⟩
  | succ k ih =>
    intro below hb
    obtain ⟨h0, h1, h2⟩ := pcMax_spec d below l
    by_cases hz : pcMax l d below = 0
    · rw [pcAt_nil hz]
      refine ⟨fun p => ⟨fun h => (by cases h), fun h => ?_⟩, List.Pairwise.nil⟩
      obtain ⟨⟨⟨b, hb1, hb2, hb3⟩, hp, hp2⟩, _⟩ := h
      have := h2 b hb1 hb2 (by omega)
      omega
    · rw [pcAt_cons hz]
      obtain ⟨hm1, hm2⟩ := h1 hz
      obtain ⟨j1, j2⟩ := ih (pcMax l d below) (by omega)
      refine ⟨fun p => ?_, List.pairwise_cons.2 ⟨fun y hy => ((j1 y).1 hy).1.2.2, j2⟩⟩
      rw [List.mem_cons, j1]
      constructor
      · rintro (rfl | ⟨⟨g1, g2, g3⟩, g4⟩)
        · exact ⟨⟨hm1, by simp only; omega, hm2⟩, rfl⟩
        · exact ⟨⟨g1, g2, by omega⟩, g4⟩
      · rintro ⟨⟨g1, g2, g3⟩, g4⟩
        by_cases e : p.1 = pcMax l d below
        · left
          rw [← e, ← g4]
        · right
          obtain ⟨b, hb1, hb2, hb3⟩ := g1
          have := h2 b hb1 hb2 (by omega)
          exact ⟨⟨⟨b, hb1, hb2, hb3⟩, g2, by omega⟩, g4⟩
def pcP (l : List Bar) (d : Int) : List (Int × Int) := pcAt l d 1048577
theorem pcP_mem {l : List Bar} (hok : ∀ b ∈ l, okBar b) {d : Int} (p : Int × Int) : p ∈ pcP l d ↔ PcHas l d p.1 ∧ p.2 = pcCnt l d p.1 := by
  rw [pcP, (pcAt_spec l d _ _ (Nat.le_refl _)).1 p]
  constructor
  · exact fun h => ⟨h.1.1, h.2⟩
  · rintro ⟨⟨b, h1, h2, h3⟩, h4⟩
    have := cutOf_bd (hok b h1)
    exact ⟨⟨⟨b, h1, h2, h3⟩, by omega, by omega⟩, h4⟩
theorem pcP_sorted (l : List Bar) (d : Int) : (pcP l d).Pairwise (fun x y => y.1 < x.1) := (pcAt_spec l d _ _ (Nat.le_refl _)).2
theorem desc_ext : ∀ {p q : List (Int × Int)}, p.Pairwise (fun x y => y.1 < x.1) → q.Pairwise (fun x y => y.1 < x.1) → (∀ x, x ∈ p ↔ x ∈ q) → p = q
  | [], [], _, _, _ => rfl
  | [], y :: q, _, _, h => by have := (h y).2 (by simp); cases this
  | x :: p, [], _, _, h => by have := (h x).1 (by simp); cases this
  | x :: p, y :: q, hp, hq, h => by
    rw [List.pairwise_cons] at hp hq
    have hxy : x = y := by
      rcases List.mem_cons.1 ((h x).1 (by simp)) with e | e
      · exact e
      · rcases List.mem_cons.1 ((h y).2 (by simp)) with e' | e'
        · exact e'.symm
        · have := hq.1 x e; have := hp.1 y e'; omega
    subst hxy
    have : p = q := desc_ext hp.2 hq.2 fun z => by
      constructor
      · intro hz
        rcases List.mem_cons.1 ((h z).1 (List.mem_cons_of_mem _ hz)) with e | e
        · have := hp.1 z hz; subst e; omega
        · exact e
      · intro hz
        rcases List.mem_cons.1 ((h z).2 (List.mem_cons_of_mem _ hz)) with e | e
        · have := hq.1 z hz; subst e; omega
        · exact e
    rw [this]
/-! The same by a map. -/
def pcM1 (d : Int) (m : List (Int × Int)) (b : Bar) : List (Int × Int) := if b.size = d then mput m (cutOf b) ((mget m (cutOf b)).getD 0 + b.count) else m
def pcM (l : List Bar) (d : Int) : List (Int × Int) := l.foldl (pcM1 d) []
theorem pcM_snoc (l : List Bar) (s : Bar) (d : Int) : pcM (l ++ [s]) d = if s.size = d then mput (pcM l d) (cutOf s) ((mget (pcM l d) (cutOf s)).getD 0 + s.count) else pcM l d := by simp [pcM, List.foldl_append, pcM1]
theorem pcM_spec (d : Int) : ∀ l : List Bar, ((pcM l d).map (·.1)).Nodup ∧ (pcM l d).length ≤ l.length ∧ ∀ n, mget (pcM l d) n = if PcHas l d n then some (pcCnt l d n) else none := by
  refine snoc_ind ⟨by simp [pcM], by simp [pcM], fun n => by rw [if_neg (by rintro ⟨b, hb, _⟩; cases hb)]; rfl⟩ ?_
  intro l s ⟨i1, i2, i3⟩
  rw [pcM_snoc]
  by_cases hs : s.size = d
  · rw [if_pos hs]
    refine ⟨mput_nodup i1 _ _, by have := mput_length_le (pcM l d) (cutOf s) ((mget (pcM l d) (cutOf s)).getD 0 + s.count); simp only [List.length_append, List.length_singleton]; omega, fun n => ?_⟩
    rw [mget_mput, i3 (cutOf s), i3 n, pcCnt_snoc]
    by_cases hn : n = cutOf s
    · subst hn
      rw [if_pos rfl, if_pos ((pcHas_snoc l s d _).2 (.inr ⟨hs, rfl⟩)), if_pos (show s.size = d ∧ cutOf s = cutOf s from ⟨hs, rfl⟩)]
      by_cases hh : PcHas l d (cutOf s)
      · rw [if_pos hh]; rfl
      · rw [if_neg hh, pcCnt_no hh]; rfl
    · rw [if_neg hn, if_neg (show ¬ (s.size = d ∧ cutOf s = n) from fun e => hn e.2.symm), Int.add_zero]
      by_cases hh : PcHas l d n
      · rw [if_pos hh, if_pos ((pcHas_snoc l s d n).2 (.inl hh))]
      · rw [if_neg hh, if_neg (fun e => ((pcHas_snoc l s d n).1 e).elim hh (fun e => hn e.2.symm))]
  · rw [if_neg hs]
    refine ⟨i1, by simp only [List.length_append]; omega, fun n => ?_⟩
    rw [i3 n, pcCnt_snoc, if_neg (show ¬ (s.size = d ∧ cutOf s = n) from fun e => hs e.1), Int.add_zero]
    by_cases hh : PcHas l d n
    · rw [if_pos hh, if_pos ((pcHas_snoc l s d n).2 (.inl hh))]
    · rw [if_neg hh, if_neg (fun e => ((pcHas_snoc l s d n).1 e).elim hh (fun e => hs e.1))]
theorem pcM_mem (l : List Bar) (d : Int) (p : Int × Int) : p ∈ pcM l d ↔ PcHas l d p.1 ∧ p.2 = pcCnt l d p.1 := by
  obtain ⟨i1, _, i3⟩ := pcM_spec d l
  have h3 := i3 p.1
  constructor
  · intro h
    rw [mget_of_mem i1 (k := p.1) (v := p.2) h] at h3
    by_cases hh : PcHas l d p.1
    · rw [if_pos hh] at h3
      exact ⟨hh, by simpa using h3⟩
    · rw [if_neg hh] at h3; cases h3
  · rintro ⟨hh, e⟩
    rw [if_pos hh, ← e] at h3
    exact mget_mem h3
theorem pcM_sort {l : List Bar} (hok : ∀ b ∈ l, okBar b) {d : Int} {q : List (Int × Int)} (hp : q.Perm (pcM l d)) (hs : q.Pairwise fun x y => y.1 ≤ x.1) : q = pcP l d := by
  refine desc_ext ?_ (pcP_sorted l d) fun p => by rw [hp.mem_iff, pcM_mem, pcP_mem hok]
  have hn : (q.map (·.1)).Nodup := (hp.map _).nodup_iff.2 (pcM_spec d l).1
  rw [List.Nodup, List.pairwise_map] at hn
  exact (hs.and hn).imp fun ⟨h1, h2⟩ => by omega
end Go.Proofs.YtddogeicmhbidaaGreatDoor
namespace Go.Proofs.YtddogeicmhbidaaGreatDoor
open Go Go.AM
set_option linter.unusedSimpArgs false
set_option linter.unusedVariables false
set_option maxRecDepth 100000

def cmpI (x y : Int) : Int := if x < y then -1 else if y < x then 1 else 0
theorem cmpI_fun (x y : Int) : Fun Tryz.prog 28 [.lit (.int .i64 x), .lit (.int .i64 y)] (Ret (.lit (.int .i64 (cmpI x y))) []) := by
  have hNaN : ∀ z : Int, Fun Tryz.prog 52 [.lit (.int .i64 z)] (Ret (.lit (.bool false)) []) := by
    intro z
    refine Fun.of (nt := 6) (rs := [.tmp 2]) Tryz.func52 rfl rfl rfl rfl rfl ?_
    refine Ev.sr fun K hK => S.o q.as (S.end (hK _ ?_))
    clear hK K
    refine Ev.sr fun K hK => S.o q.mv (S.o q.mv (S.o q.neq (S.o q.as (S.end (hK _ ?_)))))
    clear hK K
    refine Ev.ret ?_
    refine Ev.ret1 ?_
    refine ⟨?_, rfl⟩
    first | (rw [decide_eq_false (by omega)]; done) | (congr 2; simp; done)
  refine Fun.of (nt := 20) (rs := [.tmp 4]) Tryz.func28 rfl rfl rfl rfl rfl ?_
  refine Ev.sr fun K hK => S.o q.as (S.end (hK _ ?_))
  clear hK K
  refine Ev.sr fun K hK => S.o q.mv (S.c0 (hF := hNaN _) (h := S.o q.as (S.end (hK _ ?_))))
  clear hK K
  refine Ev.sr fun K hK => S.o q.mv (S.c0 (hF := hNaN _) (h := S.o q.as (S.end (hK _ ?_))))
  clear hK K
  refine Ev.seq ?_
  refine Ev.sr fun K hK => S.o q.mv (S.end (hK _ ?_))
  clear hK K
  refine Ev.cf ?_
  refine Ev.skip ?_
  show Ev _ _ _ _
  refine Ev.seq ?_
  refine Ev.sr fun K hK => S.o q.mv (S.end (hK _ ?_))
  clear hK K
  refine Ev.cf ?_
  refine Ev.skip ?_
  show Ev _ _ _ _
  refine Ev.seq ?_
  refine Ev.sr fun K hK => S.o q.mv (S.o q.mv (S.o q.lss (S.end (hK _ ?_))))
  clear hK K
  refine Ev.cd (fun c1 => ?_) (fun c1 => ?_)
  · first
  | (first | omega | contradiction)
  | refine Ev.sr fun K hK => S.o q.as (S.end (hK _ ?_))
    clear hK K
    refine Ev.ret ?_
    refine Ev.ret1 ?_
    refine ⟨?_, rfl⟩
    (unfold cmpI; first | (rw [if_pos ‹_›]; done) | (rw [if_neg ‹_›, if_pos (by omega)]; done) | (rw [if_neg ‹_›, if_neg (by omega)]; done))
  · first
  | (first | omega | contradiction)
  | refine Ev.skip ?_
    show Ev _ _ _ _
    refine Ev.seq ?_
    refine Ev.sr fun K hK => S.o q.mv (S.o q.mv (S.o q.gtr (S.end (hK _ ?_))))
    clear hK K
    refine Ev.cd (fun c2 => ?_) (fun c2 => ?_)
    · first
    | (first | omega | contradiction)
    | refine Ev.sr fun K hK => S.o q.as (S.end (hK _ ?_))
      clear hK K
      refine Ev.ret ?_
      refine Ev.ret1 ?_
      refine ⟨?_, rfl⟩
      (unfold cmpI; first | (rw [if_pos ‹_›]; done) | (rw [if_neg ‹_›, if_pos (by omega)]; done) | (rw [if_neg ‹_›, if_neg (by omega)]; done))
    · first
    | (first | omega | contradiction)
    | refine Ev.skip ?_
      show Ev _ _ _ _
      refine Ev.sr fun K hK => S.o q.as (S.end (hK _ ?_))
      clear hK K
      refine Ev.ret ?_
      refine Ev.ret1 ?_
      refine ⟨?_, rfl⟩
      (unfold cmpI; first | (rw [if_pos ‹_›]; done) | (rw [if_neg ‹_›, if_pos (by omega)]; done) | (rw [if_neg ‹_›, if_neg (by omega)]; done))

def pcCmp (x y : Int × Int) : Int := cmpI y.1 x.1
theorem pcCmp_fun (x y : Int × Int) : Fun Tryz.prog 27 [.agg (pairC x), .agg (pairC y)] (Ret (.lit (.int .i64 (pcCmp x y))) []) := by
  obtain ⟨x1, x2⟩ := x
  obtain ⟨y1, y2⟩ := y
  refine Fun.of (nt := 10) (rs := [.tmp 4]) Tryz.func27 rfl rfl rfl rfl rfl ?_
  refine Ev.sr fun K hK => S.nn (q.bx [_, _] true) (S.nn (q.bx [_, _] true) (S.o q.as (S.end (hK _ ?_))))
  clear hK K
  refine Ev.sr fun K hK => S.o (q.fa 0 am_fi33_0 am_cl3) (S.o (q.lv am_ag3) (S.o (q.fa 0 am_fi33_0 am_cl3) (S.o (q.lv am_ag3) (S.c0 (hF := cmpI_fun _ _) (h := S.o q.as (S.end (hK _ ?_)))))))
  clear hK K
  refine Ev.ret ?_
  refine Ev.ret1 ?_
  refine ⟨?_, rfl⟩
  rfl
end Go.Proofs.YtddogeicmhbidaaGreatDoor
