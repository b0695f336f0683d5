/-
  The bars of a demand satisfy it, and have its bound: plain laws.
  Conditions: none.
-/
import Derived.Test.YtigjoaejncfmdaaLb2
namespace Go.Proofs.Ytigjoaejncfmdaa
open Go Go.AM
set_option linter.unusedSimpArgs false
set_option linter.unusedVariables false
set_option maxRecDepth 100000

theorem bGo_snoc2 (a : Int) (q x : Int × Int) : ∀ (l : List (Int × Int)) (p : Option (Int × Int)) (s0 : Int), bGo a p (l ++ [q] ++ [x]) s0 = bGo a p (l ++ [q]) s0 + (x.2 - x.1) + min (x.1 - q.2) (2 * a)
  | [], none, s0 => by simp [bGo]
  | [], some r, s0 => by simp [bGo]
  | y :: l, none, s0 => by
    rw [List.cons_append, List.cons_append, bGo, bGo]
    exact bGo_snoc2 a q x l (some y) _
  | y :: l, some r, s0 => by
    rw [List.cons_append, List.cons_append, bGo, bGo]
    exact bGo_snoc2 a q x l (some y) _
theorem spanS_app (A B : List (Int × Int)) : spanS (A ++ B) = spanS A + spanS B := by simp [spanS]
theorem spanS_one (s : Int × Int) : spanS [s] = s.2 - s.1 := by simp [spanS]
theorem set_last {T : Type} (ys : List T) (o v : T) : (ys ++ [o]).set ((ys ++ [o]).length - 1) v = ys ++ [v] := by
  rw [List.length_append, List.length_singleton, show ys.length + 1 - 1 = ys.length by omega, List.set_append_right _ _ (Nat.le_refl _), Nat.sub_self]
  rfl
theorem rj_facts {a : Int} (ha : 0 ≤ a) : ∀ l : List (Int × Int), Asc l → (l ≠ [] → spanS (rjL a l) = 2 * a + bGo a none l 0) ∧ (∀ b ∈ rjL a l, b.1 + a ≤ b.2 - a) ∧ ∀ x, cov l x → ∃ b ∈ rjL a l, b.1 + a ≤ x ∧ x < b.2 - a := by
  refine foldl_snoc_ind (fun _ => ⟨fun h => absurd rfl h, fun b hb => (by cases hb), fun x h => by obtain ⟨s, hs, _⟩ := h; cases hs⟩) ?_
  intro l s ih hasc
  obtain ⟨h1, h2, h3⟩ := hasc.snoc
  obtain ⟨i1, i2, i3⟩ := ih h1
  have hj := (join_asc a ha l h1).2
  have hcov : ∀ x, cov (l ++ [s]) x → cov l x ∨ (s.1 ≤ x ∧ x < s.2) := by
    rintro x ⟨y, hy, hx⟩
    rcases List.mem_append.1 hy with hy | hy
    · exact .inl ⟨y, hy, hx⟩
    · rw [List.mem_singleton] at hy; subst hy; exact .inr hx
  rw [rjL_snoc, rjAdd]
  cases hr : (rjL a l).getLast? with
  | none =>
    have hr0 : rjL a l = [] := List.getLast?_eq_none_iff.1 hr
    have hl : l = [] := by
      rcases Nat.eq_zero_or_pos l.length with h | h
      · exact List.eq_nil_of_length_eq_zero h
      · have := (rjL_len a l).2 h; rw [hr0] at this; simp at this
    subst hl
    simp only [hr0, List.nil_append]
    refine ⟨fun _ => ?_, fun b hb => ?_, fun x hx => ?_⟩
    · rw [spanS_one]; simp only [shiftS, bGo]; omega
    · rw [List.mem_singleton] at hb; subst hb; simp only [shiftS]; omega
    · rcases hcov x hx with ⟨y, hy, _⟩ | hx
      · cases hy
      · exact ⟨shiftS a s, by simp, by simp only [shiftS]; omega, by simp only [shiftS]; omega⟩
  | some o =>
    obtain ⟨ys, hys⟩ := List.getLast?_eq_some_iff.1 hr
    have hne : l ≠ [] := by
      intro e; subst e; cases hr
    obtain ⟨q, hq⟩ : ∃ q, l.getLast? = some q := ⟨_, List.getLast?_eq_some_getLast hne⟩
    obtain ⟨l', hl'⟩ := List.getLast?_eq_some_iff.1 hq
    have ho := hj o q hr hq
    obtain ⟨g1, g2⟩ := h3 q hq
    have i1' := i1 hne
    have hb := bGo_snoc2 a q s l' none 0
    rw [← hl'] at hb
    have hoi := i2 o (by rw [hys]; simp)
    simp only
    by_cases hc : (shiftS a s).1 ≤ o.2
    · rw [if_pos hc, hys, set_last]
      have hc' : s.1 - a ≤ o.2 := hc
      rw [hys, spanS_app, spanS_one] at i1'
      refine ⟨fun _ => ?_, fun b hbm => ?_, fun x hx => ?_⟩
      · rw [spanS_app, spanS_one, hb]
        simp only [shiftS]
        omega
      · rcases List.mem_append.1 hbm with hbm | hbm
        · exact i2 b (by rw [hys]; simp [hbm])
        · rw [List.mem_singleton] at hbm; subst hbm; simp only [shiftS]; omega
      · rcases hcov x hx with hx | hx
        · obtain ⟨b, hb1, hb2, hb3⟩ := i3 x hx
          rw [hys] at hb1
          rcases List.mem_append.1 hb1 with hb1 | hb1
          · exact ⟨b, by simp [hb1], hb2, hb3⟩
          · rw [List.mem_singleton] at hb1; subst hb1
            exact ⟨(b.1, (shiftS a s).2), by simp, hb2, by simp only [shiftS]; omega⟩
        · exact ⟨(o.1, (shiftS a s).2), by simp, by simp only; omega, by simp only [shiftS]; omega⟩
    · rw [if_neg hc]
      have hc' : ¬ s.1 - a ≤ o.2 := hc
      refine ⟨fun _ => ?_, fun b hbm => ?_, fun x hx => ?_⟩
      · rw [spanS_app, spanS_one, hb, i1']
        simp only [shiftS]
        omega
      · rcases List.mem_append.1 hbm with hbm | hbm
        · exact i2 b hbm
        · rw [List.mem_singleton] at hbm; subst hbm; simp only [shiftS]; omega
      · rcases hcov x hx with hx | hx
        · obtain ⟨b, hb1, hb2, hb3⟩ := i3 x hx
          exact ⟨b, by simp [hb1], hb2, hb3⟩
        · exact ⟨shiftS a s, by simp, by simp only [shiftS]; omega, by simp only [shiftS]; omega⟩
theorem serveAt_app (A B : List (Int × Int)) (a x : Int) : serveAt (A ++ B) a x = serveAt A a x + serveAt B a x := by simp [serveAt]
theorem serve_mem {a x : Int} {b : Int × Int} (h1 : b.1 + a ≤ x) (h2 : x < b.2 - a) : ∀ {l : List (Int × Int)}, b ∈ l → 1 ≤ serveAt l a x := by
  intro l hl
  obtain ⟨p, q, rfl⟩ := List.append_of_mem hl
  rw [show p ++ b :: q = p ++ ([b] ++ q) from rfl, serveAt_app, serveAt_app]
  have e1 := (serveAt_nn a x p).1
  have e2 := (serveAt_nn a x q).1
  have e3 : serveAt [b] a x = 1 := by simp [serveAt, h1, h2]
  omega
theorem coverK_eq {l : List (Int × Int)} {d a : Int} (hg : givenE l d a = 0) (k : Nat) : coverK l d a k = rjL a (levK l d k) := (join_asc a (givenZ hg).2.2.2.2.1 _ (lev_facts hg k).1).1
theorem coverN_facts {l : List (Int × Int)} {d a : Int} (hg : givenE l d a = 0) : ∀ n : Nat, (n : Int) ≤ leastN l d → spanS (coverN l d a n) = boundN l d a n ∧ n ≤ (coverN l d a n).length
  | 0, _ => ⟨rfl, Nat.zero_le _⟩
  | n + 1, hn => by
    obtain ⟨i1, i2⟩ := coverN_facts hg n (by omega)
    obtain ⟨f1, f2, f3, f4⟩ := lev_facts hg n
    have hne := f4 (by omega)
    have r1 := (rj_facts (givenZ hg).2.2.2.2.1 _ f1).1 hne
    have r2 := (rjL_len a (levK l d n)).2 (List.length_pos_iff.2 hne)
    rw [coverN, coverK_eq hg, spanS_app, i1, r1, boundN, boundK, List.length_append]
    have e := bGo_add a (levK l d n) none (boundN l d a n + 2 * a)
    exact ⟨by show _ = bGo a none (levK l d n) (boundN l d a n + 2 * a); rw [e]; omega, by omega⟩
theorem cover_serve {l : List (Int × Int)} {d a x : Int} (hg : givenE l d a = 0) : ∀ m : Nat, (∀ k : Nat, k < m → (k : Int) * areaOf d < needAt l x) → (m : Int) ≤ serveAt (coverN l d a m) a x
  | 0, _ => by simp [coverN, serveAt]
  | m + 1, h => by
    have ih := cover_serve (x := x) hg m fun k hk => h k (by omega)
    obtain ⟨f1, f2, f3, f4⟩ := lev_facts hg m
    obtain ⟨b, hb1, hb2, hb3⟩ := (rj_facts (givenZ hg).2.2.2.2.1 _ f1).2.2 x ((f3 x).2 (h m (by omega)))
    have := serve_mem hb2 hb3 hb1
    rw [coverN, coverK_eq hg, serveAt_app]
    omega
theorem cover_mono {l : List (Int × Int)} {d a x : Int} {m : Nat} : ∀ n : Nat, m ≤ n → serveAt (coverN l d a m) a x ≤ serveAt (coverN l d a n) a x
  | 0, h => by rw [show m = 0 by omega]; exact Int.le_refl _
  | n + 1, h => by
    by_cases e : m = n + 1
    · rw [e]; exact Int.le_refl _
    · have h1 := cover_mono (l := l) (d := d) (a := a) (x := x) n (by omega : m ≤ n)
      have h2 := (serveAt_nn a x (coverK l d a n)).1
      rw [coverN, serveAt_app]
      omega
theorem cover_ok {l : List (Int × Int)} {d a : Int} (hg : givenE l d a = 0) (x : Int) : okAt l (coverN l d a (leastN l d).toNat) a (areaOf d) x := by
  obtain ⟨hs1, hs2, hlast, hz, ha0, ha1, hA0, hA1⟩ := givenZ hg
  have hA : 0 < areaOf d := by omega
  unfold okAt
  rcases Int.lt_or_le 0 (needAt l x) with hw | hw
  · generalize hm : (needAt l x - 1) / areaOf d = m
    have hm0 : 0 ≤ m := by rw [← hm]; exact Int.ediv_nonneg (by omega) (by omega)
    have hm1 : m * areaOf d ≤ needAt l x - 1 := by rw [← hm]; exact Int.ediv_mul_le _ (by omega)
    have hm2 : needAt l x - 1 < (m + 1) * areaOf d := by rw [← hm]; exact Int.lt_ediv_add_one_mul_self _ hA
    have hk : ∀ k : Nat, k < m.toNat + 1 → (k : Int) * areaOf d < needAt l x := by
      intro k hk
      have : (k : Int) * areaOf d ≤ m * areaOf d := Int.mul_le_mul_of_nonneg_right (by omega) (by omega)
      omega
    have hs := cover_serve (x := x) hg (m.toNat + 1) hk
    have hle : m.toNat + 1 ≤ (leastN l d).toNat := by
      rcases Int.lt_or_le m (leastN l d) with h | h
      · omega
      · exfalso
        have hc := ((lev_facts hg m.toNat).2.2.1 x).2 (hk m.toNat (by omega))
        obtain ⟨s, hsm, _⟩ := hc
        have e0 : (0 : Int) ≤ (m.toNat : Int) * areaOf d := Int.mul_nonneg (by omega) (by omega)
        have h1 := (spans_some e0 hlast).1 (List.length_pos_iff.2 (List.ne_nil_of_mem hsm))
        have h2 := (least_k (l := l) (d := d) (k := m + 1) (by omega)).2 (by rw [show m + 1 - 1 = ((m.toNat : Nat) : Int) by omega]; exact h1)
        omega
    have hmn := cover_mono (l := l) (d := d) (a := a) (x := x) _ hle
    have h3 : m + 1 ≤ serveAt (coverN l d a (leastN l d).toNat) a x := by omega
    have h4 := Int.mul_le_mul_of_nonneg_right h3 (by omega : 0 ≤ areaOf d)
    omega
  · have := Int.mul_nonneg (serveAt_nn a x (coverN l d a (leastN l d).toNat)).1 (by omega : 0 ≤ areaOf d)
    omega
end Go.Proofs.Ytigjoaejncfmdaa
