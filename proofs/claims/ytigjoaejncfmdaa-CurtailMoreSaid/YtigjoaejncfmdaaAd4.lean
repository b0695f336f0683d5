/-
  A greater demand has no lesser bound: plain laws.
  Conditions: none.
-/
import Derived.Test.YtigjoaejncfmdaaLb1
import Derived.Test.YtigjoaejncfmdaaAd1
namespace Go.Proofs.Ytigjoaejncfmdaa
open Go Go.AM
set_option linter.unusedSimpArgs false
set_option linter.unusedVariables false
set_option maxRecDepth 100000

theorem bGo0 : ∀ (l : List (Int × Int)) (p : Option (Int × Int)) (s : Int), l.Pairwise (fun p q => p.2 < q.1) → (∀ q, p = some q → ∀ x ∈ l, q.2 < x.1) → bGo 0 p l s = s + spanS l
  | [], p, s, _, _ => by cases p <;> simp [bGo, spanS]
  | x :: l, none, s, h, _ => by
    have h1 := List.pairwise_cons.1 h
    rw [bGo, bGo0 l (some x) _ h1.2 fun q hq y hy => by cases hq; exact h1.1 y hy]
    simp only [spanS, List.map_cons, List.sum_cons]
    omega
  | x :: l, some q, s, h, h2 => by
    have h1 := List.pairwise_cons.1 h
    have h3 := h2 q rfl x (by simp)
    rw [bGo, bGo0 l (some x) _ h1.2 fun q hq y hy => by cases hq; exact h1.1 y hy]
    simp only [spanS, List.map_cons, List.sum_cons]
    omega
theorem lev_bars {l : List (Int × Int)} {d a : Int} (hg : givenE l d a = 0) (k : Nat) : barsE (levK l d k) = 0 ∧ totV (levK l d k) = spanS (levK l d k) ∧ 0 ≤ spanS (levK l d k) ∧ spanS (levK l d k) ≤ 838860800 := by
  obtain ⟨hs1, hs2, hlast, hz, ha0, ha1, hA0, hA1⟩ := givenZ hg
  obtain ⟨f1, f2, f3, f4⟩ := lev_facts hg k
  have hlen := (spans_bd hs1 hs2 ((k : Int) * areaOf d)).1
  have hln : (levK l d k).length ≤ 200 := hlen
  have hb : ∀ s ∈ levK l d k, barOk s := fun s hs => by
    have h1 := f1.2 s hs
    have h2 := f2 s hs
    unfold InR at h2
    unfold barOk
    omega
  obtain ⟨b1, b2⟩ := bars_0 (b := levK l d k) (by omega) hb
  obtain ⟨b3, b4⟩ := spanS_bd _ hb
  exact ⟨b1, b2, b3, by omega⟩
theorem bound0 {l : List (Int × Int)} {d a : Int} (hg : givenE l d a = 0) (n : Nat) : boundN l d 0 n = sumK (fun k => spanS (levK l d k)) n := by
  rw [boundN_sum]
  congr 1
  funext k
  rw [bGo0 _ none 0 (lev_facts hg k).1.1 fun q hq => by cases hq]
  omega
theorem sum_bd {l : List (Int × Int)} {d a : Int} (hg : givenE l d a = 0) : ∀ n : Nat, 0 ≤ sumK (fun k => spanS (levK l d k)) n ∧ sumK (fun k => spanS (levK l d k)) n ≤ 838860800 * n
  | 0 => by simp [sumK]
  | n + 1 => by
    have h1 := sum_bd hg n
    have h2 := (lev_bars hg n).2.2
    rw [sumK]
    omega
theorem area_mono {d c : Int} (hd : 0 ≤ d) (h : d ≤ c) : areaOf d ≤ areaOf c := by
  unfold areaOf
  have h1 : 7854 * d * d ≤ 7854 * c * c := by
    have := Int.mul_le_mul h h hd (by omega : 0 ≤ c)
    rw [Int.mul_assoc, Int.mul_assoc]
    omega
  exact Int.ediv_le_ediv (by omega) (by omega)
theorem least_anti {l : List (Int × Int)} {d c : Int} (hs2 : okL none l) (hd : d ∈ sizes) (hc : c ∈ sizes) (h : d ≤ c) : leastN l c ≤ leastN l d := by
  have hA := area_bd hd
  have hC := area_bd hc
  have hm := area_mono (size_bd hd).1 h
  have hn := leastN_nn hs2 (show 28 ≤ areaOf d by omega)
  rcases Int.lt_or_le 0 (leastN l c) with h1 | h1
  · have h2 := (least_k (l := l) (d := c) (k := leastN l c) (by omega)).1 (Int.le_refl _)
    refine (least_k (l := l) (d := d) (k := leastN l c) (by omega)).2 ?_
    have h3 := Int.mul_le_mul_of_nonneg_left hm (show 0 ≤ leastN l c - 1 by omega)
    omega
  · omega
theorem mbad {l : List (Int × Int)} {d a : Int} (h : ¬ boundE l d a = 0) : boundV l d a = 0 := by
  by_cases hg : givenE l d a = 0
  · by_cases h2 : leastN l d ≤ 1000
    · exact absurd (bars_t hg h2).2 h
    · exact (bars_full hg h2).1
  · exact (bars_bad hg).1
theorem mgood {l : List (Int × Int)} {d a : Int} (h : boundE l d a = 0) : givenE l d a = 0 ∧ leastN l d ≤ 1000 := by
  by_cases hg : givenE l d a = 0
  · by_cases h2 : leastN l d ≤ 1000
    · exact ⟨hg, h2⟩
    · have := (bars_full hg h2).2.1; omega
  · have := (bars_bad hg).2.1; omega
theorem mgiven0 {l : List (Int × Int)} {d a : Int} (h : givenE l d a = 0) : givenE l d 0 = 0 := by
  obtain ⟨h1, h2, h3⟩ := givenE_zero h
  exact givenE4 h1 ⟨h2.1, by omega, by omega⟩ h3
theorem mgivenC {l : List (Int × Int)} {d a c : Int} (h : givenE l d a = 0) (hc : c ∈ sizes) : givenE l c 0 = 0 := by
  obtain ⟨h1, h2, h3⟩ := givenE_zero h
  exact givenE4 h1 ⟨hc, by omega, by omega⟩ h3
/-- The lesser size has no fewer levels. -/
theorem least_c {l : List (Int × Int)} {d a c : Int} (h : givenE l d a = 0) (hc : c ∈ sizes) (hdc : d ≤ c) : leastV l c ≤ leastV l d ∧ givenE l c 0 = 0 := by
  have h1 := mgivenC h hc
  obtain ⟨hs1, hs2, hlast, hz, _⟩ := givenZ h
  refine ⟨?_, h1⟩
  rw [show leastV l c = leastN l c from if_pos h1, show leastV l d = leastN l d from if_pos (mgiven0 h)]
  exact least_anti hs2 hz hc hdc
/-- The bound without anchorage. -/
theorem bound_none {l : List (Int × Int)} {d a : Int} (h : givenE l d a = 0) (h2 : leastN l d ≤ 1000) : boundE l d 0 = 0 ∧ boundV l d 0 = sumK (fun k => spanS (levK l d k)) (leastN l d).toNat := by
  have h0 := mgiven0 h
  obtain ⟨e1, e2⟩ := bars_t h0 h2
  exact ⟨e2, e1.trans (bound0 h0 _)⟩
theorem level_k {l : List (Int × Int)} {d a : Int} (h : givenE l d a = 0) (k : Nat) (hk : (k : Int) < 1000) : levelE l d ((k : Int) + 1) = 0 ∧ levelV l d ((k : Int) + 1) = levK l d k := by
  have h0 := mgiven0 h
  refine ⟨(if_pos h0).trans (if_pos ⟨by omega, by omega⟩), (if_pos ⟨h0, by omega, by omega⟩).trans ?_⟩
  rw [show ((k : Int) + 1 - 1) = k by omega]
  rfl
theorem rj_bd {a : Int} (ha : 0 ≤ a ∧ a ≤ 1048576) : ∀ l : List (Int × Int), (∀ s ∈ l, InR s) → ∀ b ∈ rjL a l, -2097152 ≤ b.1 ∧ b.2 ≤ 2097152 := by
  refine foldl_snoc_ind (fun _ b hb => by cases hb) ?_
  intro l s ih h b hb
  have h1 := ih fun x hx => h x (by simp [hx])
  have h2 := h s (by simp)
  unfold InR at h2
  rw [rjL_snoc, rjAdd] at hb
  have hs : (shiftS a s).1 = s.1 - a ∧ (shiftS a s).2 = s.2 + a := ⟨rfl, rfl⟩
  split at hb
  · rename_i o ho
    have h3 := h1 o (List.mem_of_getLast? ho)
    split at hb
    · rcases List.mem_or_eq_of_mem_set hb with hb | rfl
      · exact h1 b hb
      · exact ⟨h3.1, by simp only; omega⟩
    · rcases List.mem_append.1 hb with hb | hb
      · exact h1 b hb
      · rw [List.mem_singleton] at hb; subst hb; omega
  · rcases List.mem_append.1 hb with hb | hb
    · exact h1 b hb
    · rw [List.mem_singleton] at hb; subst hb; omega
theorem cover_bars {l : List (Int × Int)} {d a : Int} (hg : givenE l d a = 0) : ∀ n : Nat, ∀ s ∈ coverN l d a n, barOk s
  | 0, s, hs => by cases hs
  | n + 1, s, hs => by
    obtain ⟨hs1, hs2, hlast, hz, ha0, ha1, hA0, hA1⟩ := givenZ hg
    rw [coverN, coverK_eq hg] at hs
    rcases List.mem_append.1 hs with hs | hs
    · exact cover_bars hg n s hs
    · obtain ⟨f1, f2, f3, f4⟩ := lev_facts hg n
      have h1 := (rj_facts ha0 _ f1).2.1 s hs
      have h2 := rj_bd ⟨ha0, ha1⟩ _ f2 s hs
      unfold barOk
      omega
/-- A greater demand has no lesser bound. -/
theorem more_low {l m : List (Int × Int)} {xs : List Int} {d a : Int} (hx : Brk l m xs) (hj : joinE l m xs = 0) (hb : boundE l d a = 0) :
    boundE (joinV l m xs) d a = 21 ∨ boundE (joinV l m xs) d a = 4 ∨ (boundE (joinV l m xs) d a = 0 ∧ boundV l d a ≤ boundV (joinV l m xs) d a) := by
  obtain ⟨hg, hn⟩ := mgood hb
  obtain ⟨okl, okm, okJ, hat⟩ := join_ok hx hj
  obtain ⟨hs1, hs2, hlast, hz, ha0, ha1, hA0, hA1⟩ := givenZ hg
  generalize joinV l m xs = J at *
  by_cases hL : lastOK J
  · have hgJ : givenE J d a = 0 := givenE4 okJ ⟨hz, ha0, ha1⟩ hL
    by_cases hnJ : leastN J d ≤ 1000
    · obtain ⟨e1, e2⟩ := bars_t hgJ hnJ
      refine .inr (.inr ⟨e2, ?_⟩)
      have hnn := leastN_nn okJ.2 (show 28 ≤ areaOf d by omega)
      have hc := (coverN_facts hgJ (leastN J d).toNat (by omega)).1
      rw [(bars_t hg hn).1, e1, ← hc]
      have hnl := leastN_nn hs2 (show 28 ≤ areaOf d by omega)
      refine bound_low hg (cover_bars hgJ _) (fun x => ?_) _ (by omega)
      have h1 := cover_ok hgJ x
      unfold okAt at h1 ⊢
      rw [need_eq, hat x] at h1
      rw [need_eq]
      have := (atF_ok okm x).1
      omega
    · exact .inr (.inl (bars_full hgJ hnJ).2.1)
  · refine .inl ?_
    have hgJ : givenE J d a = 21 := givenE3 okJ ⟨hz, ha0, ha1⟩ hL
    rw [(bars_bad (by omega)).2.1, hgJ]
end Go.Proofs.Ytigjoaejncfmdaa
