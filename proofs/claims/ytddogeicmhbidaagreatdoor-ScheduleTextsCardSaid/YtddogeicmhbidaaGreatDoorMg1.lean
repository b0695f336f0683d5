/-
  Layer 14: merging, plain laws.
  Conditions: none.
-/
import Derived.Test.YtddogeicmhbidaaGreatDoorSm1
namespace Go.Proofs.YtddogeicmhbidaaGreatDoor
open Go Go.AM
set_option linter.unusedSimpArgs false
set_option linter.unusedVariables false
set_option maxRecDepth 100000

def Bar.addC : Bar → Int → Bar
  | ⟨m, s, n, k, d⟩, x => ⟨m, s, n + x, k, d⟩
def addTo (l : List Bar) (x : Bar) : List Bar := l.map fun y => if y.mark = x.mark then y.addC x.count else y
def mstep (a out : List Bar) (x : Bar) : List Bar := if markI a x.mark < 0 then out ++ [x] else addTo out x
/-- Two schedules merged. -/
def mergeL (a b : List Bar) : List Bar := b.foldl (mstep a) a
theorem mergeL_snoc (a b : List Bar) (x : Bar) : mergeL a (b ++ [x]) = mstep a (mergeL a b) x := by simp [mergeL, List.foldl_append]
theorem markI_neg {l : List Bar} {mk : List UInt8} : markI l mk < 0 ↔ ∀ y ∈ l, y.mark ≠ mk := by
  have h := idxP_nonneg (fun b : Bar => decide (b.mark = mk)) l 0 (Int.le_refl _)
  constructor
  · intro h1 y hy e
    have := h.2 ⟨y, hy, decide_eq_true e⟩
    unfold markI at h1
    omega
  · intro h1
    by_cases h2 : markI l mk < 0
    · exact h2
    · obtain ⟨y, hy, e⟩ := h.1 (by unfold markI at h2; omega)
      exact absurd (of_decide_eq_true e) (h1 y hy)
theorem addTo_marks (l : List Bar) (x : Bar) : (addTo l x).map Bar.mark = l.map Bar.mark := by
  rw [addTo, List.map_map]
  refine List.map_congr_left fun y _ => ?_
  simp only [Function.comp]
  split <;> rfl
/-- What a partial merge is. -/
structure Mg (a b out : List Bar) : Prop where
  marks : out.map Bar.mark = a.map Bar.mark ++ (b.filter fun x => decide (markI a x.mark < 0)).map Bar.mark
  at_ : ∀ (k : Nat) y, a[k]? = some y → (∀ z ∈ b, z.mark ≠ y.mark) → out[k]? = some y
  ok : ∀ y ∈ out, IsName y.mark ∧ y.size ∈ sizes ∧ 1 ≤ y.count ∧ y.count ≤ 2000 ∧ dimsN y.code ≠ 0 ∧ (y.dims.length : Int) = dimsN y.code ∧ dimsOK y.dims
  old : ∀ y ∈ out, (∃ z ∈ b, z.mark = y.mark) ∨ y ∈ a
theorem mg_of {a : List Bar} (ha : okSched a) : ∀ b : List Bar, (∀ x ∈ b, okBar x) → b.Pairwise (fun x y => x.mark ≠ y.mark) → Mg a b (mergeL a b) := by
  refine snoc_ind (fun _ _ => ⟨by simp [mergeL], fun k y h _ => h, fun y hy => ?_, fun y hy => .inr hy⟩) ?_
  · have := ha.2.1 y hy
    obtain ⟨h1, h2, h3, h4, h5, h6, h7⟩ := this
    exact ⟨h1, h2, h3, by omega, h5, h6, h7⟩
  intro b x ih hok hpw
  rw [List.pairwise_append] at hpw
  have hne : ∀ z ∈ b, z.mark ≠ x.mark := fun z hz => hpw.2.2 z hz x (by simp)
  have i := ih (fun y hy => hok y (by simp [hy])) hpw.1
  obtain ⟨x1, x2, x3, x4, x5, x6, x7⟩ := hok x (by simp)
  rw [mergeL_snoc]
  unfold mstep
  split
  · rename_i hx
    refine ⟨?_, fun k y hk hz => ?_, fun y hy => ?_, fun y hy => ?_⟩
    · rw [List.map_append, i.marks, List.filter_append, List.filter_cons, if_pos (decide_eq_true hx)]
      simp
    · have h1 := i.at_ k y hk (fun z hzb => hz z (by simp [hzb]))
      rw [List.getElem?_append_left (List.getElem?_eq_some_iff.1 h1).1]
      exact h1
    · rcases List.mem_append.1 hy with hy | hy
      · exact i.ok y hy
      · rw [List.mem_singleton] at hy; subst hy; exact ⟨x1, x2, x3, by omega, x5, x6, x7⟩
    · rcases List.mem_append.1 hy with hy | hy
      · rcases i.old y hy with ⟨z, hz, e⟩ | h
        · exact .inl ⟨z, by simp [hz], e⟩
        · exact .inr h
      · rw [List.mem_singleton] at hy; subst hy; exact .inl ⟨_, by simp, rfl⟩
  · rename_i hx
    refine ⟨?_, fun k y hk hz => ?_, fun y hy => ?_, fun y hy => ?_⟩
    · rw [addTo_marks, i.marks, List.filter_append, List.filter_cons, if_neg (by simpa using hx)]
      simp
    · have h1 := i.at_ k y hk (fun z hzb => hz z (by simp [hzb]))
      have h2 := hz x (by simp)
      rw [addTo, List.getElem?_map, h1]
      simp only [Option.map_some, if_neg (fun e : y.mark = x.mark => h2 e.symm)]
    · simp only [addTo, List.mem_map] at hy
      obtain ⟨z, hz, rfl⟩ := hy
      obtain ⟨z1, z2, z3, z4, z5, z6, z7⟩ := i.ok z hz
      split
      · rename_i e
        have hza : z ∈ a := (i.old z hz).resolve_left (fun ⟨u, hu, eu⟩ => hne u hu (eu.trans e))
        have := (ha.2.1 z hza).2.2.2.1
        refine ⟨z1, z2, ?_, ?_, z5, z6, z7⟩
        · show 1 ≤ z.count + x.count; omega
        · show z.count + x.count ≤ 2000; omega
      · exact ⟨z1, z2, z3, z4, z5, z6, z7⟩
    · simp only [addTo, List.mem_map] at hy
      obtain ⟨z, hz, rfl⟩ := hy
      split
      · rename_i e; exact .inl ⟨x, by simp, e.symm⟩
      · rcases i.old z hz with ⟨u, hu, e⟩ | h
        · exact .inl ⟨u, by simp [hu], e⟩
        · exact .inr h
theorem Mg.len {a b out : List Bar} (h : Mg a b out) : out.length ≤ a.length + b.length ∧ a.length ≤ out.length := by
  have h1 := congrArg List.length h.marks
  simp only [List.length_map, List.length_append] at h1
  have h2 := List.length_filter_le (fun x => decide (markI a x.mark < 0)) b
  omega
theorem filter_pair {T U : Type} (f : T → U) (p : T → Bool) {l : List T} (h : l.Pairwise fun x y => f x ≠ f y) : ((l.filter p).map f).Nodup := by
  rw [List.Nodup, List.pairwise_map]
  exact h.filter p
theorem Mg.distinct {a b out : List Bar} (h : Mg a b out) (ha : okSched a) (hb : b.Pairwise fun x y => x.mark ≠ y.mark) : out.Pairwise fun x y => x.mark ≠ y.mark := by
  have h1 : (out.map Bar.mark).Nodup := by
    rw [h.marks, List.nodup_append]
    refine ⟨?_, filter_pair Bar.mark _ hb, fun m hm m' hm' e => ?_⟩
    · rw [List.Nodup, List.pairwise_map]; exact ha.2.2
    · subst e
      obtain ⟨y, hy, rfl⟩ := List.mem_map.1 hm
      obtain ⟨x, hx, e⟩ := List.mem_map.1 hm'
      have := (List.mem_filter.1 hx).2
      exact markI_neg.1 (of_decide_eq_true this) y hy e.symm
  rw [List.Nodup, List.pairwise_map] at h1
  exact h1
theorem set_addTo : ∀ {l : List Bar} {k : Nat} {y x : Bar}, l.Pairwise (fun a b => a.mark ≠ b.mark) → l[k]? = some y → y.mark = x.mark → l.set k (y.addC x.count) = addTo l x
  | [], _, _, _, _, h, _ => by simp at h
  | z :: l, 0, y, x, hp, h, e => by
    simp only [List.getElem?_cons_zero, Option.some.injEq] at h
    subst h
    rw [List.pairwise_cons] at hp
    rw [List.set_cons_zero, addTo, List.map_cons, if_pos e]
    congr 1
    conv => lhs; rw [← List.map_id l]
    refine List.map_congr_left fun u hu => ?_
    rw [if_neg (fun e' => hp.1 u hu (e.trans e'.symm))]
    rfl
  | z :: l, k + 1, y, x, hp, h, e => by
    simp only [List.getElem?_cons_succ] at h
    rw [List.pairwise_cons] at hp
    have hy := List.mem_of_getElem? h
    rw [List.set_cons_succ, set_addTo hp.2 h e, addTo, addTo, List.map_cons, if_neg (fun e' => hp.1 y hy (e'.trans e.symm))]
/-- A line that has another shape than the one with its mark. -/
def badM (a : List Bar) (x : Bar) : Prop := ∃ y ∈ a, y.mark = x.mark ∧ ¬ sameD y x
instance (a x) : Decidable (badM a x) := by unfold badM; infer_instance
def bigM (a b : List Bar) : Prop := ∃ x ∈ b, ∃ y ∈ a, y.mark = x.mark ∧ 1000 < y.count + x.count
instance (a b) : Decidable (bigM a b) := by unfold bigM; infer_instance
def mergeE (a b : List Bar) : Int := if okSched a ∧ okSched b then (if ∃ x ∈ b, badM a x then 19 else if bigM a b then 5 else if (mergeL a b).length ≤ 60 then 0 else 4) else 1
def mergeV (a b : List Bar) : List Bar := if mergeE a b = 0 then mergeL a b else []
theorem me1 {a b : List Bar} (h : ¬ (okSched a ∧ okSched b)) : mergeE a b = 1 ∧ mergeV a b = [] := by
  have e : mergeE a b = 1 := if_neg h
  exact ⟨e, if_neg (by rw [e]; decide)⟩
theorem me19 {a b : List Bar} (h : okSched a ∧ okSched b) (h1 : ∃ x ∈ b, badM a x) : mergeE a b = 19 ∧ mergeV a b = [] := by
  have e : mergeE a b = 19 := by unfold mergeE; rw [if_pos h, if_pos h1]
  exact ⟨e, if_neg (by rw [e]; decide)⟩
theorem me5 {a b : List Bar} (h : okSched a ∧ okSched b) (h1 : ¬ ∃ x ∈ b, badM a x) (h2 : bigM a b) : mergeE a b = 5 ∧ mergeV a b = [] := by
  have e : mergeE a b = 5 := by unfold mergeE; rw [if_pos h, if_neg h1, if_pos h2]
  exact ⟨e, if_neg (by rw [e]; decide)⟩
theorem me4 {a b : List Bar} (h : okSched a ∧ okSched b) (h1 : ¬ ∃ x ∈ b, badM a x) (h2 : ¬ bigM a b) (h3 : ¬ (mergeL a b).length ≤ 60) : mergeE a b = 4 ∧ mergeV a b = [] := by
  have e : mergeE a b = 4 := by unfold mergeE; rw [if_pos h, if_neg h1, if_neg h2, if_neg h3]
  exact ⟨e, if_neg (by rw [e]; decide)⟩
theorem me0 {a b : List Bar} (h : okSched a ∧ okSched b) (h1 : ¬ ∃ x ∈ b, badM a x) (h2 : ¬ bigM a b) (h3 : (mergeL a b).length ≤ 60) : mergeE a b = 0 ∧ mergeV a b = mergeL a b := by
  have e : mergeE a b = 0 := by unfold mergeE; rw [if_pos h, if_neg h1, if_neg h2, if_pos h3]
  exact ⟨e, if_pos e⟩
/-- What the round at one line needs. -/
structure MRound (a pre : List Bar) (s : Bar) : Prop where
  mg : Mg a pre (mergeL a pre)
  dis : (mergeL a pre).Pairwise fun x y => x.mark ≠ y.mark
  cut : okBar s
  len : (mergeL a pre).length ≤ 120
theorem mround {a b pre suf : List Bar} {s : Bar} (ha : okSched a) (hb : okSched b) (hp : pre ++ s :: suf = b) : MRound a pre s := by
  obtain ⟨h1, h2, h3⟩ := hb
  rw [← hp] at h1 h3
  rw [List.pairwise_append] at h3
  have hg := mg_of ha pre (fun x hx => h2 x (by rw [← hp]; simp [hx])) h3.1
  have hl := hg.len
  have := ha.1
  simp only [List.length_append, List.length_cons] at h1
  exact ⟨hg, hg.distinct ha h3.1, h2 s (by rw [← hp]; simp), by omega⟩
/-- .. and at a line whose mark there is. -/
theorem mround_at {a b pre suf : List Bar} {s : Bar} (ha : okSched a) (hb : okSched b) (hp : pre ++ s :: suf = b) (h : ¬ markI a s.mark < 0) :
    ∃ y, a[(markI a s.mark).toNat]? = some y ∧ y ∈ a ∧ okBar y ∧ y.mark = s.mark ∧ (mergeL a pre)[(markI a s.mark).toNat]? = some y ∧ (mergeL a pre).set (markI a s.mark).toNat (y.addC s.count) = mergeL a (pre ++ [s]) ∧
      ((mergeL a pre).set (markI a s.mark).toNat (y.addC s.count))[(markI a s.mark).toNat]? = some (y.addC s.count) ∧ (∀ z ∈ a, z.mark = s.mark → z = y) := by
  have hr := mround ha hb hp
  obtain ⟨y, _, h1, h2, h3⟩ := barAt_some (show 0 ≤ markI a s.mark by omega)
  have hpw := hb.2.2
  rw [← hp, List.pairwise_append] at hpw
  have h4 := hr.mg.at_ _ y h1 (fun z hz e => hpw.2.2 z hz s (by simp) (e.trans h3))
  refine ⟨y, h1, h2, ha.2.1 y h2, h3, h4, ?_, ?_, fun z hz e => ?_⟩
  · rw [set_addTo hr.dis h4 h3, mergeL_snoc, mstep, if_neg h]
  · exact List.getElem?_set_self (List.getElem?_eq_some_iff.1 h4).1
  · have hd := ha.2.2
    by_cases hzy : z = y
    · exact hzy
    · exact absurd (e.trans h3.symm) (by
        obtain ⟨i, hi, e1⟩ := List.getElem_of_mem hz
        obtain ⟨j, hj, e2⟩ := List.getElem_of_mem h2
        rw [List.pairwise_iff_getElem] at hd
        rcases Nat.lt_trichotomy i j with hij | hij | hij
        · have := hd i j hi hj hij; rw [e1, e2] at this; exact this
        · subst hij; exact absurd (e1.symm.trans e2) hzy
        · have := hd j i hj hi hij; rw [e1, e2] at this; exact fun e => this e.symm)
theorem bad_snoc {a pre : List Bar} {s : Bar} (h : ¬ ∃ x ∈ pre, badM a x) (h1 : ¬ badM a s) : ¬ ∃ x ∈ pre ++ [s], badM a x := by
  rintro ⟨x, hx, hb⟩
  rcases List.mem_append.1 hx with hx | hx
  · exact h ⟨x, hx, hb⟩
  · rw [List.mem_singleton] at hx; subst hx; exact h1 hb
theorem bad_none {a : List Bar} {s : Bar} (h : markI a s.mark < 0) : ¬ badM a s := fun ⟨y, hy, e, _⟩ => markI_neg.1 h y hy e
theorem bad_at {a : List Bar} {s y : Bar} (hu : ∀ z ∈ a, z.mark = s.mark → z = y) (hy : sameD y s) : ¬ badM a s := fun ⟨z, hz, e, h⟩ => h (by rw [hu z hz e]; exact hy)
theorem bigM_snoc {a pre : List Bar} {s : Bar} : bigM a (pre ++ [s]) ↔ bigM a pre ∨ ∃ y ∈ a, y.mark = s.mark ∧ 1000 < y.count + s.count := by
  unfold bigM
  constructor
  · rintro ⟨x, hx, h⟩
    rcases List.mem_append.1 hx with hx | hx
    · exact .inl ⟨x, hx, h⟩
    · rw [List.mem_singleton] at hx; subst hx; exact .inr h
  · rintro (⟨x, hx, h⟩ | h)
    · exact ⟨x, by simp [hx], h⟩
    · exact ⟨s, by simp, h⟩
theorem big_none {a pre : List Bar} {s : Bar} (h : markI a s.mark < 0) : bigM a (pre ++ [s]) ↔ bigM a pre := by
  rw [bigM_snoc]
  exact ⟨fun h' => h'.resolve_right fun ⟨y, hy, e, _⟩ => markI_neg.1 h y hy e, .inl⟩
theorem big_at {a pre : List Bar} {s y : Bar} (hy : y ∈ a) (hm : y.mark = s.mark) (hu : ∀ z ∈ a, z.mark = s.mark → z = y) : bigM a (pre ++ [s]) ↔ bigM a pre ∨ 1000 < y.count + s.count := by
  rw [bigM_snoc]
  constructor
  · rintro (h | ⟨z, hz, e, h⟩)
    · exact .inl h
    · rw [hu z hz e] at h; exact .inr h
  · rintro (h | h)
    · exact .inl h
    · exact .inr ⟨y, hy, hm, h⟩
theorem bigM_nil (a : List Bar) : ¬ bigM a [] := by rintro ⟨x, hx, _⟩; cases hx
theorem mergeL_new {a pre : List Bar} {s : Bar} (h : markI a s.mark < 0) : mergeL a pre ++ [s] = mergeL a (pre ++ [s]) := by rw [mergeL_snoc, mstep, if_pos h]
theorem mfin {a b : List Bar} (ha : okSched a) (hb : okSched b) : (mergeL a b).length ≤ 120 := by
  have hl := (mg_of ha b hb.2.1 hb.2.2).len
  have h1 := ha.1
  have h2 := hb.1
  omega
end Go.Proofs.YtddogeicmhbidaaGreatDoor
