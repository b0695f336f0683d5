/-
  Chapter 23: the law DemandHighest, walked.
  Conditions: none.
-/
import Derived.Test.YtnomiafjeiijkaaDoorDm9
namespace Go.Proofs.YtnomiafjeiijkaaDoor
open Go Go.AM
set_option linter.unusedSimpArgs false
set_option linter.unusedVariables false
set_option maxRecDepth 100000
set_option maxHeartbeats 1000000

theorem best_facts (s0 : Int × Int) : ∀ pre : List (Int × Int), (∀ s ∈ pre, s0.1 ≤ s.1) → (pre.Pairwise fun a b => a.1 < b.1) → (bestF s0 pre = s0 ∨ bestF s0 pre ∈ pre) ∧ s0.2 ≤ (bestF s0 pre).2 ∧ (∀ s ∈ pre, s.2 ≤ (bestF s0 pre).2) ∧ ∀ s ∈ pre, s.2 = (bestF s0 pre).2 → (bestF s0 pre).1 ≤ s.1 := by
  refine snoc_ind (fun _ _ => ⟨.inl rfl, Int.le_refl _, fun s hs => by simp at hs, fun s hs => by simp at hs⟩) ?_
  rintro l ⟨x, y⟩ ih h0 hp
  rw [List.pairwise_append] at hp
  obtain ⟨h1, h2, h3, h4⟩ := ih (fun s hs => h0 s (by simp [hs])) hp.1
  have hlt : ∀ s ∈ l, s.1 < x := fun s hs => hp.2.2 s hs (x, y) (by simp)
  by_cases h : y > (bestF s0 l).2
  · rw [best_t h]
    refine ⟨.inr (by simp), by simp only; omega, fun s hs => ?_, fun s hs he => ?_⟩
    · simp only [List.mem_append, List.mem_singleton] at hs
      rcases hs with hs | rfl
      · have := h3 s hs; simp only; omega
      · exact Int.le_refl _
    · simp only [List.mem_append, List.mem_singleton] at hs
      rcases hs with hs | rfl
      · have := h3 s hs; simp only at he; omega
      · exact Int.le_refl _
  · rw [best_f h]
    refine ⟨h1.elim .inl fun hm => .inr (by simp [hm]), h2, fun s hs => ?_, fun s hs he => ?_⟩
    · simp only [List.mem_append, List.mem_singleton] at hs
      rcases hs with hs | rfl
      · exact h3 s hs
      · simp only; omega
    · simp only [List.mem_append, List.mem_singleton] at hs
      rcases hs with hs | rfl
      · exact h4 s hs he
      · rcases h1 with h1 | h1
        · rw [h1]; exact h0 (x, y) (by simp)
        · have := hlt _ h1; simp only; omega
theorem atF_or (x : Int) : ∀ (l : List (Int × Int)) (v : Int), atF v l x = v ∨ ∃ s ∈ l, s.1 ≤ x ∧ atF v l x = s.2
  | [], v => .inl rfl
  | a :: l, v => by
    rw [atF]
    by_cases h : a.1 ≤ x
    · rw [if_pos h]
      rcases atF_or x l a.2 with h1 | ⟨s, hs, h2, h3⟩
      · exact .inr ⟨a, by simp, h, h1⟩
      · exact .inr ⟨s, by simp [hs], h2, h3⟩
    · rw [if_neg h]
      rcases atF_or x l v with h1 | ⟨s, hs, h2, h3⟩
      · exact .inl h1
      · exact .inr ⟨s, by simp [hs], h2, h3⟩
theorem atF_none {y : Int} : ∀ {l : List (Int × Int)} {v : Int}, (∀ s ∈ l, y < s.1) → atF v l y = v
  | [], v, _ => rfl
  | a :: l, v, h => by
    have := h a (by simp)
    rw [atF, if_neg (by omega)]
    exact atF_none fun s hs => h s (by simp [hs])
theorem atF_mem {s : Int × Int} : ∀ {l : List (Int × Int)} {v : Int}, (l.Pairwise fun a b => a.1 < b.1) → s ∈ l → atF v l s.1 = s.2
  | [], v, _, h => by cases h
  | a :: l, v, hp, h => by
    rw [List.pairwise_cons] at hp
    rw [atF]
    rcases List.mem_cons.1 h with rfl | h
    · rw [if_pos (Int.le_refl _)]
      exact atF_none hp.1
    · exact atF_mem hp.2 h
theorem peak_law {l : List (Int × Int)} {s0 : Int × Int} {rest : List (Int × Int)} (hl : l = s0 :: rest) (hok : okSteps l) (x : Int) : 0 ≤ (bestF s0 l).2 ∧ atF 0 l (bestF s0 l).1 = (bestF s0 l).2 ∧ atF 0 l x ≤ (bestF s0 l).2 ∧ (atF 0 l x = (bestF s0 l).2 → 0 < (bestF s0 l).2 → (bestF s0 l).1 ≤ x) := by
  obtain ⟨_, hs, hp⟩ := hok
  have h0 : ∀ s ∈ l, s0.1 ≤ s.1 := by
    intro s h
    rw [hl] at h hp
    rw [List.pairwise_cons] at hp
    rcases List.mem_cons.1 h with rfl | h
    · exact Int.le_refl _
    · have := hp.1 s h; omega
  obtain ⟨h1, h2, h3, h4⟩ := best_facts s0 l h0 hp
  have hs0 : s0 ∈ l := by rw [hl]; simp
  have hm : bestF s0 l ∈ l := by
    rcases h1 with h1 | h1
    · rw [h1]; exact hs0
    · exact h1
  have hz := (hs s0 hs0).2.1
  refine ⟨by omega, atF_mem hp hm, ?_, ?_⟩
  · rcases atF_or x l 0 with h | ⟨s, h5, _, h6⟩
    · omega
    · have := h3 s h5; omega
  · intro he hpos
    rcases atF_or x l 0 with h | ⟨s, h5, h7, h6⟩
    · omega
    · have := h4 s h5 (by omega); omega
theorem atF_map (f : Int → Int) (y : Int) : ∀ (l : List (Int × Int)) (v : Int), atF (f v) (l.map fun s => (s.1, f s.2)) y = f (atF v l y)
  | [], v => rfl
  | a :: l, v => by
    rw [List.map_cons, atF, atF]
    have : (if (a.1, f a.2).1 ≤ y then (a.1, f a.2).2 else f v) = f (if a.1 ≤ y then a.2 else v) := by split <;> rfl
    rw [this]
    exact atF_map f y l _
theorem atF_sc {A B : Int} (hB : 1 ≤ B) (l : List (Int × Int)) (y : Int) : atF 0 (scL A B l) y = (atF 0 l y * A + B - 1) / B := by
  have h := atF_map (fun v => (v * A + B - 1) / B) y l 0
  have h0 : ((0 : Int) * A + B - 1) / B = 0 := by rw [Int.zero_mul, Int.zero_add]; exact Int.ediv_eq_zero_of_lt (by omega) (by omega)
  simp only [h0] at h
  exact h
theorem sc_same {B v : Int} (hB : 1 ≤ B) : (v * B + B - 1) / B = v := by
  rw [show v * B + B - 1 = (B - 1) + v * B by omega, Int.add_mul_ediv_right _ _ (by omega), Int.ediv_eq_zero_of_lt (by omega) (by omega), Int.zero_add]
theorem scL_same {B : Int} (hB : 1 ≤ B) (l : List (Int × Int)) : scL B B l = l := by
  unfold scL sc1
  conv => rhs; rw [← List.map_id l]
  refine List.map_congr_left fun s _ => ?_
  rw [sc_same hB]; rfl
theorem same_law23 {d : Dem} {B : Int} (hok : okDem d) (hB : 1 ≤ B) (hB2 : B ≤ 1000) : scD d B B = d ∧ scE d B B = 0 := by
  have hf : fac B B := ⟨⟨hB, hB2⟩, hB, hB2⟩
  have hn : ¬ scBig B B d.steps := by
    rintro ⟨s, hs, hb⟩
    unfold sc1 at hb
    rw [sc_same hB] at hb
    have := (hok.2.2.2.1 s hs).2.2
    omega
  obtain ⟨e1, e2⟩ := sc_ok hok hf hn
  rw [e1, scL_same hB]
  exact ⟨rfl, e2⟩
theorem ceil_law {k A B : Int} (h0 : 0 ≤ k) (hB : 1 ≤ B) (hA : B ≤ A) : k ≤ (k * A + B - 1) / B ∧ k * A ≤ (k * A + B - 1) / B * B ∧ (k * A + B - 1) / B * B < k * A + B := by
  have h1 := Int.ediv_mul_le (k * A + B - 1) (show B ≠ 0 by omega)
  have h2 := Int.lt_ediv_add_one_mul_self (k * A + B - 1) (show 0 < B by omega)
  generalize (k * A + B - 1) / B = m at h1 h2
  rw [Int.add_mul, Int.one_mul] at h2
  refine ⟨?_, by omega, by omega⟩
  rcases Int.lt_or_le m k with h | h
  · have h3 : (m + 1) * B ≤ k * B := Int.mul_le_mul_of_nonneg_right (by omega) (by omega)
    have h4 : k * B ≤ k * A := Int.mul_le_mul_of_nonneg_left hA h0
    rw [Int.add_mul, Int.one_mul] at h3
    omega
  · exact h
theorem scD_ok {d : Dem} {A B : Int} (hok : okDem d) (hf : fac A B) (h : scE d A B = 0) : scD d A B = ⟨d.name, d.zone, scL A B d.steps⟩ ∧ okDem (scD d A B) := by
  have hn : ¬ scBig A B d.steps := fun hb => by rw [(sc_big hok hf hb).2] at h; cases h
  obtain ⟨e1, _⟩ := sc_ok hok hf hn
  refine ⟨e1, ?_⟩
  rw [e1]
  obtain ⟨h1, h2, h3, h4, h5⟩ := hok
  refine ⟨h1, h2, by rw [scL_len]; exact h3, fun s hs => ?_, ?_⟩
  · obtain ⟨q, hq, rfl⟩ := List.mem_map.1 hs
    have hq2 := h4 q hq
    obtain ⟨b1, b2, b3, b4, b5⟩ := sc_bd hf hq2.2.1 hq2.2.2
    refine ⟨hq2.1, b4, ?_⟩
    have : ¬ sc1 A B q > 1099511627776 := fun hb => hn ⟨q, hq, hb⟩
    simp only; omega
  · unfold scL
    rw [List.pairwise_map]
    exact h5
theorem scaled_at {d : Dem} {A B x : Int} (hok : okDem d) (hB : 1 ≤ B) (hAB : B ≤ A) (hA : A ≤ 1000) (h : scE d A B = 0) : okE1 (okDem (scD d A B)) = 0 ∧ atDV d x ≤ atDV (scD d A B) x ∧ atDV d x * A ≤ atDV (scD d A B) x * B ∧ atDV (scD d A B) x * B < atDV d x * A + B ∧ 0 ≤ atDV d x * A ∧ atDV d x * A ≤ 1099511627776000 := by
  have hf : fac A B := ⟨⟨by omega, hA⟩, hB, by omega⟩
  obtain ⟨e1, h2⟩ := scD_ok hok hf h
  obtain ⟨k1, _, _, _⟩ := atD_y (x := x) hok
  obtain ⟨m1, m2, _, _⟩ := atD_y (x := x) h2
  have hk := atF_bd (y := x) (l := d.steps) 0 hok.2.2.2.1 (by omega) (by omega)
  have e3 : atDV (scD d A B) x = (atDV d x * A + B - 1) / B := by
    rw [m1, k1, e1]
    exact atF_sc hB _ _
  rw [e3, k1]
  obtain ⟨c1, c2, c3⟩ := ceil_law hk.1 hB hAB
  have b1 : 0 ≤ atF 0 d.steps x * A := Int.mul_nonneg hk.1 (by omega)
  have b2 : atF 0 d.steps x * A ≤ 1099511627776 * 1000 := Int.mul_le_mul hk.2 hA (by omega) (by omega)
  exact ⟨m2, c1, c2, c3, b1, by omega⟩
theorem sc_or {d : Dem} {A B : Int} (hok : okDem d) (hf : fac A B) (h : ¬ scE d A B = 0) : scE d A B = 5 := by
  by_cases hb : scBig A B d.steps
  · exact (sc_big hok hf hb).2
  · exact absurd (sc_ok hok hf hb).2 h
theorem pk_none {d : Dem} {x : Int} (hok : okDem d) (h : ¬ pkE d = 0) : pkE d = 14 ∧ atDV d x = 0 := by
  rcases hs : d.steps with _ | ⟨s, l⟩
  · refine ⟨(pk_nil hok (by rw [hs]; rfl)).2, ?_⟩
    rw [(atD_y (x := x) hok).1, hs]; rfl
  · exact absurd (pk_cons hok hs).2 h
theorem pk_some {d : Dem} (x : Int) (hok : okDem d) (h : pkE d = 0) : 0 ≤ (pkS d).2 ∧ atDV d (pkS d).1 = (pkS d).2 ∧ atDV d x ≤ (pkS d).2 ∧ (atDV d x = (pkS d).2 → 0 < (pkS d).2 → (pkS d).1 ≤ x) := by
  rcases hs : d.steps with _ | ⟨s, l⟩
  · rw [(pk_nil hok (by rw [hs]; rfl)).2] at h; cases h
  · obtain ⟨e1, _⟩ := pk_cons hok hs
    obtain ⟨a1, _, _, _⟩ := atD_y (x := x) hok
    obtain ⟨a2, _, _, _⟩ := atD_y (x := (pkS d).1) hok
    rw [a1, a2, e1]
    exact peak_law hs hok.2.2 x
theorem highest_law (d : Dem) (x num den : Int) (hwd : d.w) (hx : -2147483648 ≤ x ∧ x ≤ 2147483647) (hn : 0 ≤ num ∧ num ≤ 65535) (hd : 0 ≤ den ∧ den ≤ 65535) : Fun Tryd.prog 6 [.agg d.c, .lit (.int .i32 x), .lit (.int .u16 num), .lit (.int .u16 den)] (Ret (.lit (.bool true)) []) := by
  obtain ⟨hx1, hx2⟩ := hx
  obtain ⟨hn1, hn2⟩ := hn
  obtain ⟨hd1, hd2⟩ := hd
  refine Fun.of (nt := 168) (rs := [.tmp 8]) Tryd.func6 rfl rfl rfl rfl rfl ?_
  refine Ev.sr fun K hK => S.nn (q.bx [_, _, _, _, _, _, _, _] true) (S.o q.as (S.end (hK _ ?_)))
  clear hK K
  refine Ev.seq ?_
  refine Ev.sr fun K hK => S.c0 (hF := awake_fun) (h := S.o q.nott (S.end (hK _ ?_)))
  clear hK K
  refine Ev.cf ?_
  refine Ev.skip ?_
  show Ev _ _ _ _
  refine Ev.seq ?_
  refine Ev.sr fun K hK => S.o (q.lvA [_, _, _, _, _, _, _, _] am_ag28 am_cl28) (S.nn (q.bs [[_, _, _, _, _, _, _, _]] true am_el41 am_ze28 am_cl28) ?_)
  refine SeqL.weaken (Wk.frzl (f := Dem.c) [d] 27 [_]) ?_
  refine S.c0 (hF := small_fun [d] (by simp)) (h := S.o q.not (S.bn q.mv (fun c1 => ?_) (fun c1 => ?_)))
  · first
  | (first | omega | contradiction)
  | refine S.sk (S.sk (S.sk (S.o q.pt (S.end (hK _ ?_)))))
    clear hK K
    refine Ev.ct ?_
    refine Ev.sr fun K hK => S.o q.as (S.end (hK _ ?_))
    clear hK K
    refine Ev.ret ?_
    refine Ev.ret1 ?_
    refine ⟨?_, rfl⟩
    first | rfl | exact lawT rfl | exact lawT (by omega) | exact lawT (by assumption) | (exfalso; omega) | contradiction | (exfalso; simp_all; done) | (exfalso; simp at *; done)
  · first
  | (first | omega | contradiction)
  | refine S.o (q.lvA [_, _, _, _, _, _, _, _] am_ag28 am_cl28) (S.c0 (hF := one_fun d hwd) (h := S.o q.not (S.o q.pf (S.end (hK _ ?_)))))
    clear hK K
    refine Ev.cn (fun c2 => ?_) (fun c2 => ?_)
    · first
    | (first | omega | contradiction)
    | refine Ev.sr fun K hK => S.o q.as (S.end (hK _ ?_))
      clear hK K
      refine Ev.ret ?_
      refine Ev.ret1 ?_
      refine ⟨?_, rfl⟩
      first | rfl | exact lawT rfl | exact lawT (by omega) | exact lawT (by assumption) | (exfalso; omega) | contradiction | (exfalso; simp_all; done) | (exfalso; simp at *; done)
    · first
    | (first | omega | contradiction)
    | refine Ev.skip ?_
      show Ev _ _ _ _
      have hok : okDem d := ‹okDem d›
      obtain ⟨e1, e2, _, _⟩ := atD_y (x := x) hok
      have hkb := atF_bd (y := x) (l := d.steps) 0 hok.2.2.2.1 (by omega) (by omega)
      have hk0 : 0 ≤ atDV d x := by rw [e1]; exact hkb.1
      refine Ev.sr fun K hK => S.o (q.lvA [_, _, _, _, _, _, _, _] am_ag28 am_cl28) (S.o q.mv (S.o (q.cvi am_un3 am_us21) (S.c0 (hF := demAt_fun d x hwd) (h := S.o q.mv (S.o q.ex (S.o q.ex (S.o q.as (S.o q.as (S.end (hK _ ?_))))))))))
      clear hK K
      refine Ev.sr fun K hK => S.o (q.lvA [_, _, _, _, _, _, _, _] am_ag28 am_cl28) (S.c0 (hF := demPeak_fun d hwd) (h := S.o q.mv (S.o q.ex (S.o q.ex (S.o q.ex (S.o q.as (S.o q.as (S.o q.as (S.end (hK _ ?_))))))))))
      clear hK K
      refine Ev.seq ?_
      refine Ev.sr fun K hK => S.o q.mv (S.o q.neq (S.bn q.mv (fun c3 => ?_) (fun c3 => ?_)))
      · first
      | (first | omega | contradiction)
      | refine S.sk (S.sk (S.o q.pt (S.end (hK _ ?_))))
        clear hK K
        refine Ev.ct ?_
        refine Ev.sr fun K hK => S.o q.as (S.end (hK _ ?_))
        clear hK K
        refine Ev.ret ?_
        refine Ev.ret1 ?_
        refine ⟨?_, rfl⟩
        first | rfl | exact lawT rfl | exact lawT (by omega) | exact lawT (by assumption) | (exfalso; omega) | contradiction | (exfalso; simp_all; done) | (exfalso; simp at *; done)
      · first
      | (first | omega | contradiction)
      | refine S.o q.mv (S.o q.lss (S.o q.pf (S.end (hK _ ?_))))
        clear hK K
        refine Ev.cd (fun c4 => ?_) (fun c4 => ?_)
        · first
        | (first | omega | contradiction)
        | refine Ev.sr fun K hK => S.o q.as (S.end (hK _ ?_))
          clear hK K
          refine Ev.ret ?_
          refine Ev.ret1 ?_
          refine ⟨?_, rfl⟩
          first | rfl | exact lawT rfl | exact lawT (by omega) | exact lawT (by assumption) | (exfalso; omega) | contradiction | (exfalso; simp_all; done) | (exfalso; simp at *; done)
        · first
        | (first | omega | contradiction)
        | refine Ev.skip ?_
          show Ev _ _ _ _
          refine Ev.seq ?_
          refine Ev.sr fun K hK => S.o q.mv (S.o q.neq (S.end (hK _ ?_)))
          clear hK K
          refine Ev.cn (fun c5 => ?_) (fun c5 => ?_)
          · first
          | (first | omega | contradiction)
          | obtain ⟨e3, e4⟩ := pk_none (x := x) hok ‹¬ pkE d = 0›
            refine Ev.sr fun K hK => S.o q.mv (S.o q.eql (S.bd q.mv (fun c6 => ?_) (fun c6 => ?_)))
            · first
            | (first | omega | contradiction)
            | refine S.o q.mv (S.o q.eql (S.o q.pt (S.o q.as (S.end (hK _ ?_)))))
              clear hK K
              refine Ev.ret ?_
              refine Ev.ret1 ?_
              refine ⟨?_, rfl⟩
              first | rfl | exact lawT rfl | exact lawT (by omega) | exact lawT (by assumption) | (exfalso; omega) | contradiction | (exfalso; simp_all; done) | (exfalso; simp at *; done)
            · first
            | (first | omega | contradiction)
            | refine S.sk (S.sk (S.o q.pf (S.o q.as (S.end (hK _ ?_)))))
              clear hK K
              refine Ev.ret ?_
              refine Ev.ret1 ?_
              refine ⟨?_, rfl⟩
              first | rfl | exact lawT rfl | exact lawT (by omega) | exact lawT (by assumption) | (exfalso; omega) | contradiction | (exfalso; simp_all; done) | (exfalso; simp at *; done)
          · first
          | (first | omega | contradiction)
          | refine Ev.skip ?_
            show Ev _ _ _ _
            have hpe : pkE d = 0 := by omega
            obtain ⟨p1, p2, p3, p4⟩ := pk_some x hok hpe
            refine Ev.sr fun K hK => S.o (q.lvA [_, _, _, _, _, _, _, _] am_ag28 am_cl28) (S.o q.mv (S.c0 (hF := demAt_fun d (pkS d).1 hwd) (h := S.o q.mv (S.o q.ex (S.o q.ex (S.o q.as (S.o q.as (S.end (hK _ ?_)))))))))
            clear hK K
            refine Ev.seq ?_
            refine Ev.sr fun K hK => S.o q.mv (S.o q.neq (S.bn q.mv (fun c7 => ?_) (fun c7 => ?_)))
            · first
            | (first | omega | contradiction)
            | refine S.sk (S.sk (S.sk (S.o q.pt (S.o q.mv (S.sk (S.sk (S.sk (S.o q.pt (S.o q.mv (S.sk (S.sk (S.sk (S.sk (S.sk (S.sk (S.sk (S.sk (S.sk (S.sk (S.sk (S.sk (S.sk (S.o q.pt (S.end (hK _ ?_)))))))))))))))))))))))))
              clear hK K
              refine Ev.ct ?_
              refine Ev.sr fun K hK => S.o q.as (S.end (hK _ ?_))
              clear hK K
              refine Ev.ret ?_
              refine Ev.ret1 ?_
              refine ⟨?_, rfl⟩
              first | rfl | exact lawT rfl | exact lawT (by omega) | exact lawT (by assumption) | (exfalso; omega) | contradiction | (exfalso; simp_all; done) | (exfalso; simp at *; done)
            · first
            | (first | omega | contradiction)
            | refine S.o q.mv (S.o q.mv (S.o q.neq (S.o q.pf (S.bn q.mv (fun c8 => ?_) (fun c8 => ?_)))))
              · first
              | (first | omega | contradiction)
              | refine S.sk (S.sk (S.sk (S.o q.pt (S.o q.mv (S.sk (S.sk (S.sk (S.sk (S.sk (S.sk (S.sk (S.sk (S.sk (S.sk (S.sk (S.sk (S.sk (S.o q.pt (S.end (hK _ ?_))))))))))))))))))))
                clear hK K
                refine Ev.ct ?_
                refine Ev.sr fun K hK => S.o q.as (S.end (hK _ ?_))
                clear hK K
                refine Ev.ret ?_
                refine Ev.ret1 ?_
                refine ⟨?_, rfl⟩
                first | rfl | exact lawT rfl | exact lawT (by omega) | exact lawT (by assumption) | (exfalso; omega) | contradiction | (exfalso; simp_all; done) | (exfalso; simp at *; done)
              · first
              | (first | omega | contradiction)
              | refine S.o q.mv (S.o q.mv (S.o q.gtr (S.o q.pf (S.bd q.mv (fun c9 => ?_) (fun c9 => ?_)))))
                · first
                | (first | omega | contradiction)
                | refine S.sk (S.sk (S.sk (S.sk (S.sk (S.sk (S.sk (S.sk (S.sk (S.sk (S.sk (S.sk (S.sk (S.o q.pt (S.end (hK _ ?_)))))))))))))))
                  clear hK K
                  refine Ev.ct ?_
                  refine Ev.sr fun K hK => S.o q.as (S.end (hK _ ?_))
                  clear hK K
                  refine Ev.ret ?_
                  refine Ev.ret1 ?_
                  refine ⟨?_, rfl⟩
                  first | rfl | exact lawT rfl | exact lawT (by omega) | exact lawT (by assumption) | (exfalso; omega) | contradiction | (exfalso; simp_all; done) | (exfalso; simp at *; done)
                · first
                | (first | omega | contradiction)
                | refine S.o q.mv (S.o q.mv (S.o q.eql (S.bd q.mv (fun c10 => ?_) (fun c10 => ?_))))
                  · first
                  | (first | omega | contradiction)
                  | refine S.o q.mv (S.o q.gtr (S.o q.pt (S.bd q.mv (fun c11 => ?_) (fun c11 => ?_))))
                    · first
                    | (first | omega | contradiction)
                    | refine S.o q.mv (S.o (q.cvi am_un3 am_us21) (S.o q.mv (S.o q.lss (S.o q.pt (S.o q.pf (S.end (hK _ ?_)))))))
                      clear hK K
                      refine Ev.cd (fun c12 => ?_) (fun c12 => ?_)
                      · first
                      | (first | omega | contradiction)
                      | refine Ev.sr fun K hK => S.o q.as (S.end (hK _ ?_))
                        clear hK K
                        refine Ev.ret ?_
                        refine Ev.ret1 ?_
                        refine ⟨?_, rfl⟩
                        first | rfl | exact lawT rfl | exact lawT (by omega) | exact lawT (by assumption) | (exfalso; omega) | contradiction | (exfalso; simp_all; done) | (exfalso; simp at *; done)
                      · first
                      | (first | omega | contradiction)
                      | refine Ev.skip ?_
                        show Ev _ _ _ _
                        refine Ev.sr fun K hK => S.o q.mv (S.o (q.cvi am_un3 am_us55) (S.o q.rem (S.o q.add (S.o q.as (S.end (hK _ ?_))))))
                        clear hK K
                        obtain ⟨B, hB⟩ : ∃ B, 1 + den % 1000 = B := ⟨_, rfl⟩
                        rw [hB]
                        have hB1 : 1 ≤ B ∧ B ≤ 1000 := by omega
                        have hr1 := Int.emod_nonneg num (show 1001 - B ≠ 0 by omega)
                        have hr2 := Int.emod_lt_of_pos num (show 0 < 1001 - B by omega)
                        refine Ev.sr fun K hK => S.o q.mv (S.o q.mv (S.o (q.cvi am_un3 am_us55) (S.o q.mv (S.o q.sub (S.o q.rem (S.o q.add (S.o q.as (S.end (hK _ ?_)))))))))
                        clear hK K
                        obtain ⟨A, hA⟩ : ∃ A, B + num % (1001 - B) = A := ⟨_, rfl⟩
                        rw [hA]
                        have hA1 : B ≤ A ∧ A ≤ 1000 := by omega
                        have hfac : fac A B := ⟨⟨by omega, by omega⟩, by omega, by omega⟩
                        obtain ⟨f1, f2⟩ := same_law23 hok hB1.1 hB1.2
                        have f3 : [scD d B B] = [d] := by rw [f1]
                        refine Ev.sr fun K hK => S.o (q.lvA [_, _, _, _, _, _, _, _] am_ag28 am_cl28) (S.o q.mv (S.o q.mv (S.c0 (hF := demScaled_fun d A B hwd) (h := S.o q.mv (S.o q.ex (S.o q.ex (S.nn (q.al am_ze28) (S.sv [_, _, _, _, _, _, _, _] true [_] am_in28 am_cl28 (h := S.o q.as (S.end (hK _ ?_)))))))))))
                        clear hK K
                        refine Ev.sr fun K hK => S.o (q.lvA [_, _, _, _, _, _, _, _] am_ag28 am_cl28) (S.o q.mv (S.o q.mv (S.c0 (hF := demScaled_fun d B B hwd) (h := S.o q.mv (S.o q.ex (S.o q.ex (S.nn (q.al am_ze28) (S.sv [_, _, _, _, _, _, _, _] true [_, _] am_in28 am_cl28 (h := S.o q.as (S.end (hK _ ?_)))))))))))
                        clear hK K
                        refine Ev.seq ?_
                        refine Ev.sr fun K hK => S.o q.mv (S.o q.neq (S.bn q.mv (fun c13 => ?_) (fun c13 => ?_)))
                        · first
                        | (first | omega | contradiction)
                        | refine S.sk (S.sk (S.sk (S.sk (S.sk (S.sk (S.o q.pt (S.end (hK _ ?_))))))))
                          clear hK K
                          refine Ev.ct ?_
                          refine Ev.sr fun K hK => S.o q.as (S.end (hK _ ?_))
                          clear hK K
                          refine Ev.ret ?_
                          refine Ev.ret1 ?_
                          refine ⟨?_, rfl⟩
                          first | rfl | exact lawT rfl | exact lawT (by omega) | exact lawT (by assumption) | (exfalso; omega) | contradiction | (exfalso; simp_all; done) | (exfalso; simp at *; done)
                        · first
                        | (first | omega | contradiction)
                        | refine S.o (q.lvA [_, _, _, _, _, _, _, _] am_ag28 am_cl28) (S.nn (q.bs [[_, _, _, _, _, _, _, _]] true am_el41 am_ze28 am_cl28) ?_)
                          refine SeqL.weaken (Wk.frzl (f := Dem.c) [scD d B B] 124 [_, _, _]) ?_
                          refine S.o (q.lvA [_, _, _, _, _, _, _, _] am_ag28 am_cl28) (S.nn (q.bs [[_, _, _, _, _, _, _, _]] true am_el41 am_ze28 am_cl28) ?_)
                          refine SeqL.weaken (Wk.frzl (f := Dem.c) [d] 126 [_, _, _]) ?_
                          refine S.c0 (hF := rSame_fun [scD d B B] [d] (by simp) (by simp) (demW_one (scD_w B B hwd)) (demW_one hwd)) (h := S.o q.not (S.o q.pf (S.end (hK _ ?_))))
                          clear hK K
                          refine Ev.cn (fun c14 => ?_) (fun c14 => ?_)
                          · first
                          | (first | omega | contradiction)
                          | refine Ev.sr fun K hK => S.o q.as (S.end (hK _ ?_))
                            clear hK K
                            refine Ev.ret ?_
                            refine Ev.ret1 ?_
                            refine ⟨?_, rfl⟩
                            first | rfl | exact lawT rfl | exact lawT (by omega) | exact lawT (by assumption) | (exfalso; omega) | contradiction | (exfalso; simp_all; done) | (exfalso; simp at *; done)
                          · first
                          | (first | omega | contradiction)
                          | refine Ev.skip ?_
                            show Ev _ _ _ _
                            refine Ev.seq ?_
                            refine Ev.sr fun K hK => S.o q.mv (S.o q.neq (S.end (hK _ ?_)))
                            clear hK K
                            refine Ev.cn (fun c15 => ?_) (fun c15 => ?_)
                            · first
                            | (first | omega | contradiction)
                            | have g1 := sc_or hok hfac ‹¬ scE d A B = 0›
                              refine Ev.sr fun K hK => S.o q.mv (S.o q.eql (S.o q.as (S.end (hK _ ?_))))
                              clear hK K
                              refine Ev.ret ?_
                              refine Ev.ret1 ?_
                              refine ⟨?_, rfl⟩
                              first | rfl | exact lawT rfl | exact lawT (by omega) | exact lawT (by assumption) | (exfalso; omega) | contradiction | (exfalso; simp_all; done) | (exfalso; simp at *; done)
                            · first
                            | (first | omega | contradiction)
                            | refine Ev.skip ?_
                              show Ev _ _ _ _
                              have g2 : scE d A B = 0 := by omega
                              obtain ⟨g3, g4, g5, g6, g7, g8⟩ := scaled_at (x := x) hok hB1.1 hA1.1 hA1.2 g2
                              refine Ev.sr fun K hK => S.o (q.lvA [_, _, _, _, _, _, _, _] am_ag28 am_cl28) (S.o q.mv (S.o (q.cvi am_un3 am_us21) (S.c0 (hF := demAt_fun (scD d A B) x (scD_w A B hwd)) (h := S.o q.mv (S.o q.ex (S.o q.ex (S.o q.as (S.o q.as (S.end (hK _ ?_))))))))))
                              clear hK K
                              refine Ev.sr fun K hK => S.o q.mv (S.o q.eql (S.bd q.mv (fun c16 => ?_) (fun c16 => ?_)))
                              · first
                              | (first | omega | contradiction)
                              | refine S.o q.mv (S.o q.mv (S.o q.geq (S.o q.pt (S.bd q.mv (fun c17 => ?_) (fun c17 => ?_)))))
                                · first
                                | (first | omega | contradiction)
                                | refine S.o q.mv (S.o q.mv (S.o q.mul (S.o q.mv (S.o q.mv (S.o q.mul (S.o q.geq (S.o q.pt (S.bd q.mv (fun c18 => ?_) (fun c18 => ?_)))))))))
                                  · first
                                  | (first | omega | contradiction)
                                  | refine S.o q.mv (S.o q.mv (S.o q.mul (S.o q.mv (S.o q.mv (S.o q.mul (S.o q.mv (S.o q.add (S.o q.lss (S.o q.pt (S.o q.as (S.end (hK _ ?_))))))))))))
                                    clear hK K
                                    refine Ev.ret ?_
                                    refine Ev.ret1 ?_
                                    refine ⟨?_, rfl⟩
                                    first | rfl | exact lawT rfl | exact lawT (by omega) | exact lawT (by assumption) | (exfalso; omega) | contradiction | (exfalso; simp_all; done) | (exfalso; simp at *; done)
                                  · first
                                  | (first | omega | contradiction)
                                  | refine S.sk (S.sk (S.sk (S.sk (S.sk (S.sk (S.sk (S.sk (S.sk (S.o q.pf (S.o q.as (S.end (hK _ ?_))))))))))))
                                    clear hK K
                                    refine Ev.ret ?_
                                    refine Ev.ret1 ?_
                                    refine ⟨?_, rfl⟩
                                    first | rfl | exact lawT rfl | exact lawT (by omega) | exact lawT (by assumption) | (exfalso; omega) | contradiction | (exfalso; simp_all; done) | (exfalso; simp at *; done)
                                · first
                                | (first | omega | contradiction)
                                | refine S.sk (S.sk (S.sk (S.sk (S.sk (S.sk (S.sk (S.o q.pf (S.o q.mv (S.sk (S.sk (S.sk (S.sk (S.sk (S.sk (S.sk (S.sk (S.sk (S.o q.pf (S.o q.as (S.end (hK _ ?_)))))))))))))))))))))
                                  clear hK K
                                  refine Ev.ret ?_
                                  refine Ev.ret1 ?_
                                  refine ⟨?_, rfl⟩
                                  first | rfl | exact lawT rfl | exact lawT (by omega) | exact lawT (by assumption) | (exfalso; omega) | contradiction | (exfalso; simp_all; done) | (exfalso; simp at *; done)
                              · first
                              | (first | omega | contradiction)
                              | refine S.sk (S.sk (S.sk (S.o q.pf (S.o q.mv (S.sk (S.sk (S.sk (S.sk (S.sk (S.sk (S.sk (S.o q.pf (S.o q.mv (S.sk (S.sk (S.sk (S.sk (S.sk (S.sk (S.sk (S.sk (S.sk (S.o q.pf (S.o q.as (S.end (hK _ ?_))))))))))))))))))))))))))
                                clear hK K
                                refine Ev.ret ?_
                                refine Ev.ret1 ?_
                                refine ⟨?_, rfl⟩
                                first | rfl | exact lawT rfl | exact lawT (by omega) | exact lawT (by assumption) | (exfalso; omega) | contradiction | (exfalso; simp_all; done) | (exfalso; simp at *; done)
                    · first
                    | (first | omega | contradiction)
                    | refine S.sk (S.sk (S.sk (S.sk (S.o q.pf (S.o q.pf (S.end (hK _ ?_)))))))
                      clear hK K
                      refine Ev.cf ?_
                      refine Ev.skip ?_
                      show Ev _ _ _ _
                      refine Ev.sr fun K hK => S.o q.mv (S.o (q.cvi am_un3 am_us55) (S.o q.rem (S.o q.add (S.o q.as (S.end (hK _ ?_))))))
                      clear hK K
                      obtain ⟨B, hB⟩ : ∃ B, 1 + den % 1000 = B := ⟨_, rfl⟩
                      rw [hB]
                      have hB1 : 1 ≤ B ∧ B ≤ 1000 := by omega
                      have hr1 := Int.emod_nonneg num (show 1001 - B ≠ 0 by omega)
                      have hr2 := Int.emod_lt_of_pos num (show 0 < 1001 - B by omega)
                      refine Ev.sr fun K hK => S.o q.mv (S.o q.mv (S.o (q.cvi am_un3 am_us55) (S.o q.mv (S.o q.sub (S.o q.rem (S.o q.add (S.o q.as (S.end (hK _ ?_)))))))))
                      clear hK K
                      obtain ⟨A, hA⟩ : ∃ A, B + num % (1001 - B) = A := ⟨_, rfl⟩
                      rw [hA]
                      have hA1 : B ≤ A ∧ A ≤ 1000 := by omega
                      have hfac : fac A B := ⟨⟨by omega, by omega⟩, by omega, by omega⟩
                      obtain ⟨f1, f2⟩ := same_law23 hok hB1.1 hB1.2
                      have f3 : [scD d B B] = [d] := by rw [f1]
                      refine Ev.sr fun K hK => S.o (q.lvA [_, _, _, _, _, _, _, _] am_ag28 am_cl28) (S.o q.mv (S.o q.mv (S.c0 (hF := demScaled_fun d A B hwd) (h := S.o q.mv (S.o q.ex (S.o q.ex (S.nn (q.al am_ze28) (S.sv [_, _, _, _, _, _, _, _] true [_] am_in28 am_cl28 (h := S.o q.as (S.end (hK _ ?_)))))))))))
                      clear hK K
                      refine Ev.sr fun K hK => S.o (q.lvA [_, _, _, _, _, _, _, _] am_ag28 am_cl28) (S.o q.mv (S.o q.mv (S.c0 (hF := demScaled_fun d B B hwd) (h := S.o q.mv (S.o q.ex (S.o q.ex (S.nn (q.al am_ze28) (S.sv [_, _, _, _, _, _, _, _] true [_, _] am_in28 am_cl28 (h := S.o q.as (S.end (hK _ ?_)))))))))))
                      clear hK K
                      refine Ev.seq ?_
                      refine Ev.sr fun K hK => S.o q.mv (S.o q.neq (S.bn q.mv (fun c19 => ?_) (fun c19 => ?_)))
                      · first
                      | (first | omega | contradiction)
                      | refine S.sk (S.sk (S.sk (S.sk (S.sk (S.sk (S.o q.pt (S.end (hK _ ?_))))))))
                        clear hK K
                        refine Ev.ct ?_
                        refine Ev.sr fun K hK => S.o q.as (S.end (hK _ ?_))
                        clear hK K
                        refine Ev.ret ?_
                        refine Ev.ret1 ?_
                        refine ⟨?_, rfl⟩
                        first | rfl | exact lawT rfl | exact lawT (by omega) | exact lawT (by assumption) | (exfalso; omega) | contradiction | (exfalso; simp_all; done) | (exfalso; simp at *; done)
                      · first
                      | (first | omega | contradiction)
                      | refine S.o (q.lvA [_, _, _, _, _, _, _, _] am_ag28 am_cl28) (S.nn (q.bs [[_, _, _, _, _, _, _, _]] true am_el41 am_ze28 am_cl28) ?_)
                        refine SeqL.weaken (Wk.frzl (f := Dem.c) [scD d B B] 124 [_, _, _]) ?_
                        refine S.o (q.lvA [_, _, _, _, _, _, _, _] am_ag28 am_cl28) (S.nn (q.bs [[_, _, _, _, _, _, _, _]] true am_el41 am_ze28 am_cl28) ?_)
                        refine SeqL.weaken (Wk.frzl (f := Dem.c) [d] 126 [_, _, _]) ?_
                        refine S.c0 (hF := rSame_fun [scD d B B] [d] (by simp) (by simp) (demW_one (scD_w B B hwd)) (demW_one hwd)) (h := S.o q.not (S.o q.pf (S.end (hK _ ?_))))
                        clear hK K
                        refine Ev.cn (fun c20 => ?_) (fun c20 => ?_)
                        · first
                        | (first | omega | contradiction)
                        | refine Ev.sr fun K hK => S.o q.as (S.end (hK _ ?_))
                          clear hK K
                          refine Ev.ret ?_
                          refine Ev.ret1 ?_
                          refine ⟨?_, rfl⟩
                          first | rfl | exact lawT rfl | exact lawT (by omega) | exact lawT (by assumption) | (exfalso; omega) | contradiction | (exfalso; simp_all; done) | (exfalso; simp at *; done)
                        · first
                        | (first | omega | contradiction)
                        | refine Ev.skip ?_
                          show Ev _ _ _ _
                          refine Ev.seq ?_
                          refine Ev.sr fun K hK => S.o q.mv (S.o q.neq (S.end (hK _ ?_)))
                          clear hK K
                          refine Ev.cn (fun c21 => ?_) (fun c21 => ?_)
                          · first
                          | (first | omega | contradiction)
                          | have g1 := sc_or hok hfac ‹¬ scE d A B = 0›
                            refine Ev.sr fun K hK => S.o q.mv (S.o q.eql (S.o q.as (S.end (hK _ ?_))))
                            clear hK K
                            refine Ev.ret ?_
                            refine Ev.ret1 ?_
                            refine ⟨?_, rfl⟩
                            first | rfl | exact lawT rfl | exact lawT (by omega) | exact lawT (by assumption) | (exfalso; omega) | contradiction | (exfalso; simp_all; done) | (exfalso; simp at *; done)
                          · first
                          | (first | omega | contradiction)
                          | refine Ev.skip ?_
                            show Ev _ _ _ _
                            have g2 : scE d A B = 0 := by omega
                            obtain ⟨g3, g4, g5, g6, g7, g8⟩ := scaled_at (x := x) hok hB1.1 hA1.1 hA1.2 g2
                            refine Ev.sr fun K hK => S.o (q.lvA [_, _, _, _, _, _, _, _] am_ag28 am_cl28) (S.o q.mv (S.o (q.cvi am_un3 am_us21) (S.c0 (hF := demAt_fun (scD d A B) x (scD_w A B hwd)) (h := S.o q.mv (S.o q.ex (S.o q.ex (S.o q.as (S.o q.as (S.end (hK _ ?_))))))))))
                            clear hK K
                            refine Ev.sr fun K hK => S.o q.mv (S.o q.eql (S.bd q.mv (fun c22 => ?_) (fun c22 => ?_)))
                            · first
                            | (first | omega | contradiction)
                            | refine S.o q.mv (S.o q.mv (S.o q.geq (S.o q.pt (S.bd q.mv (fun c23 => ?_) (fun c23 => ?_)))))
                              · first
                              | (first | omega | contradiction)
                              | refine S.o q.mv (S.o q.mv (S.o q.mul (S.o q.mv (S.o q.mv (S.o q.mul (S.o q.geq (S.o q.pt (S.bd q.mv (fun c24 => ?_) (fun c24 => ?_)))))))))
                                · first
                                | (first | omega | contradiction)
                                | refine S.o q.mv (S.o q.mv (S.o q.mul (S.o q.mv (S.o q.mv (S.o q.mul (S.o q.mv (S.o q.add (S.o q.lss (S.o q.pt (S.o q.as (S.end (hK _ ?_))))))))))))
                                  clear hK K
                                  refine Ev.ret ?_
                                  refine Ev.ret1 ?_
                                  refine ⟨?_, rfl⟩
                                  first | rfl | exact lawT rfl | exact lawT (by omega) | exact lawT (by assumption) | (exfalso; omega) | contradiction | (exfalso; simp_all; done) | (exfalso; simp at *; done)
                                · first
                                | (first | omega | contradiction)
                                | refine S.sk (S.sk (S.sk (S.sk (S.sk (S.sk (S.sk (S.sk (S.sk (S.o q.pf (S.o q.as (S.end (hK _ ?_))))))))))))
                                  clear hK K
                                  refine Ev.ret ?_
                                  refine Ev.ret1 ?_
                                  refine ⟨?_, rfl⟩
                                  first | rfl | exact lawT rfl | exact lawT (by omega) | exact lawT (by assumption) | (exfalso; omega) | contradiction | (exfalso; simp_all; done) | (exfalso; simp at *; done)
                              · first
                              | (first | omega | contradiction)
                              | refine S.sk (S.sk (S.sk (S.sk (S.sk (S.sk (S.sk (S.o q.pf (S.o q.mv (S.sk (S.sk (S.sk (S.sk (S.sk (S.sk (S.sk (S.sk (S.sk (S.o q.pf (S.o q.as (S.end (hK _ ?_)))))))))))))))))))))
                                clear hK K
                                refine Ev.ret ?_
                                refine Ev.ret1 ?_
                                refine ⟨?_, rfl⟩
                                first | rfl | exact lawT rfl | exact lawT (by omega) | exact lawT (by assumption) | (exfalso; omega) | contradiction | (exfalso; simp_all; done) | (exfalso; simp at *; done)
                            · first
                            | (first | omega | contradiction)
                            | refine S.sk (S.sk (S.sk (S.o q.pf (S.o q.mv (S.sk (S.sk (S.sk (S.sk (S.sk (S.sk (S.sk (S.o q.pf (S.o q.mv (S.sk (S.sk (S.sk (S.sk (S.sk (S.sk (S.sk (S.sk (S.sk (S.o q.pf (S.o q.as (S.end (hK _ ?_))))))))))))))))))))))))))
                              clear hK K
                              refine Ev.ret ?_
                              refine Ev.ret1 ?_
                              refine ⟨?_, rfl⟩
                              first | rfl | exact lawT rfl | exact lawT (by omega) | exact lawT (by assumption) | (exfalso; omega) | contradiction | (exfalso; simp_all; done) | (exfalso; simp at *; done)
                  · first
                  | (first | omega | contradiction)
                  | refine S.sk (S.sk (S.o q.pf (S.o q.mv (S.sk (S.sk (S.sk (S.sk (S.o q.pf (S.o q.pf (S.end (hK _ ?_)))))))))))
                    clear hK K
                    refine Ev.cf ?_
                    refine Ev.skip ?_
                    show Ev _ _ _ _
                    refine Ev.sr fun K hK => S.o q.mv (S.o (q.cvi am_un3 am_us55) (S.o q.rem (S.o q.add (S.o q.as (S.end (hK _ ?_))))))
                    clear hK K
                    obtain ⟨B, hB⟩ : ∃ B, 1 + den % 1000 = B := ⟨_, rfl⟩
                    rw [hB]
                    have hB1 : 1 ≤ B ∧ B ≤ 1000 := by omega
                    have hr1 := Int.emod_nonneg num (show 1001 - B ≠ 0 by omega)
                    have hr2 := Int.emod_lt_of_pos num (show 0 < 1001 - B by omega)
                    refine Ev.sr fun K hK => S.o q.mv (S.o q.mv (S.o (q.cvi am_un3 am_us55) (S.o q.mv (S.o q.sub (S.o q.rem (S.o q.add (S.o q.as (S.end (hK _ ?_)))))))))
                    clear hK K
                    obtain ⟨A, hA⟩ : ∃ A, B + num % (1001 - B) = A := ⟨_, rfl⟩
                    rw [hA]
                    have hA1 : B ≤ A ∧ A ≤ 1000 := by omega
                    have hfac : fac A B := ⟨⟨by omega, by omega⟩, by omega, by omega⟩
                    obtain ⟨f1, f2⟩ := same_law23 hok hB1.1 hB1.2
                    have f3 : [scD d B B] = [d] := by rw [f1]
                    refine Ev.sr fun K hK => S.o (q.lvA [_, _, _, _, _, _, _, _] am_ag28 am_cl28) (S.o q.mv (S.o q.mv (S.c0 (hF := demScaled_fun d A B hwd) (h := S.o q.mv (S.o q.ex (S.o q.ex (S.nn (q.al am_ze28) (S.sv [_, _, _, _, _, _, _, _] true [_] am_in28 am_cl28 (h := S.o q.as (S.end (hK _ ?_)))))))))))
                    clear hK K
                    refine Ev.sr fun K hK => S.o (q.lvA [_, _, _, _, _, _, _, _] am_ag28 am_cl28) (S.o q.mv (S.o q.mv (S.c0 (hF := demScaled_fun d B B hwd) (h := S.o q.mv (S.o q.ex (S.o q.ex (S.nn (q.al am_ze28) (S.sv [_, _, _, _, _, _, _, _] true [_, _] am_in28 am_cl28 (h := S.o q.as (S.end (hK _ ?_)))))))))))
                    clear hK K
                    refine Ev.seq ?_
                    refine Ev.sr fun K hK => S.o q.mv (S.o q.neq (S.bn q.mv (fun c25 => ?_) (fun c25 => ?_)))
                    · first
                    | (first | omega | contradiction)
                    | refine S.sk (S.sk (S.sk (S.sk (S.sk (S.sk (S.o q.pt (S.end (hK _ ?_))))))))
                      clear hK K
                      refine Ev.ct ?_
                      refine Ev.sr fun K hK => S.o q.as (S.end (hK _ ?_))
                      clear hK K
                      refine Ev.ret ?_
                      refine Ev.ret1 ?_
                      refine ⟨?_, rfl⟩
                      first | rfl | exact lawT rfl | exact lawT (by omega) | exact lawT (by assumption) | (exfalso; omega) | contradiction | (exfalso; simp_all; done) | (exfalso; simp at *; done)
                    · first
                    | (first | omega | contradiction)
                    | refine S.o (q.lvA [_, _, _, _, _, _, _, _] am_ag28 am_cl28) (S.nn (q.bs [[_, _, _, _, _, _, _, _]] true am_el41 am_ze28 am_cl28) ?_)
                      refine SeqL.weaken (Wk.frzl (f := Dem.c) [scD d B B] 124 [_, _, _]) ?_
                      refine S.o (q.lvA [_, _, _, _, _, _, _, _] am_ag28 am_cl28) (S.nn (q.bs [[_, _, _, _, _, _, _, _]] true am_el41 am_ze28 am_cl28) ?_)
                      refine SeqL.weaken (Wk.frzl (f := Dem.c) [d] 126 [_, _, _]) ?_
                      refine S.c0 (hF := rSame_fun [scD d B B] [d] (by simp) (by simp) (demW_one (scD_w B B hwd)) (demW_one hwd)) (h := S.o q.not (S.o q.pf (S.end (hK _ ?_))))
                      clear hK K
                      refine Ev.cn (fun c26 => ?_) (fun c26 => ?_)
                      · first
                      | (first | omega | contradiction)
                      | refine Ev.sr fun K hK => S.o q.as (S.end (hK _ ?_))
                        clear hK K
                        refine Ev.ret ?_
                        refine Ev.ret1 ?_
                        refine ⟨?_, rfl⟩
                        first | rfl | exact lawT rfl | exact lawT (by omega) | exact lawT (by assumption) | (exfalso; omega) | contradiction | (exfalso; simp_all; done) | (exfalso; simp at *; done)
                      · first
                      | (first | omega | contradiction)
                      | refine Ev.skip ?_
                        show Ev _ _ _ _
                        refine Ev.seq ?_
                        refine Ev.sr fun K hK => S.o q.mv (S.o q.neq (S.end (hK _ ?_)))
                        clear hK K
                        refine Ev.cn (fun c27 => ?_) (fun c27 => ?_)
                        · first
                        | (first | omega | contradiction)
                        | have g1 := sc_or hok hfac ‹¬ scE d A B = 0›
                          refine Ev.sr fun K hK => S.o q.mv (S.o q.eql (S.o q.as (S.end (hK _ ?_))))
                          clear hK K
                          refine Ev.ret ?_
                          refine Ev.ret1 ?_
                          refine ⟨?_, rfl⟩
                          first | rfl | exact lawT rfl | exact lawT (by omega) | exact lawT (by assumption) | (exfalso; omega) | contradiction | (exfalso; simp_all; done) | (exfalso; simp at *; done)
                        · first
                        | (first | omega | contradiction)
                        | refine Ev.skip ?_
                          show Ev _ _ _ _
                          have g2 : scE d A B = 0 := by omega
                          obtain ⟨g3, g4, g5, g6, g7, g8⟩ := scaled_at (x := x) hok hB1.1 hA1.1 hA1.2 g2
                          refine Ev.sr fun K hK => S.o (q.lvA [_, _, _, _, _, _, _, _] am_ag28 am_cl28) (S.o q.mv (S.o (q.cvi am_un3 am_us21) (S.c0 (hF := demAt_fun (scD d A B) x (scD_w A B hwd)) (h := S.o q.mv (S.o q.ex (S.o q.ex (S.o q.as (S.o q.as (S.end (hK _ ?_))))))))))
                          clear hK K
                          refine Ev.sr fun K hK => S.o q.mv (S.o q.eql (S.bd q.mv (fun c28 => ?_) (fun c28 => ?_)))
                          · first
                          | (first | omega | contradiction)
                          | refine S.o q.mv (S.o q.mv (S.o q.geq (S.o q.pt (S.bd q.mv (fun c29 => ?_) (fun c29 => ?_)))))
                            · first
                            | (first | omega | contradiction)
                            | refine S.o q.mv (S.o q.mv (S.o q.mul (S.o q.mv (S.o q.mv (S.o q.mul (S.o q.geq (S.o q.pt (S.bd q.mv (fun c30 => ?_) (fun c30 => ?_)))))))))
                              · first
                              | (first | omega | contradiction)
                              | refine S.o q.mv (S.o q.mv (S.o q.mul (S.o q.mv (S.o q.mv (S.o q.mul (S.o q.mv (S.o q.add (S.o q.lss (S.o q.pt (S.o q.as (S.end (hK _ ?_))))))))))))
                                clear hK K
                                refine Ev.ret ?_
                                refine Ev.ret1 ?_
                                refine ⟨?_, rfl⟩
                                first | rfl | exact lawT rfl | exact lawT (by omega) | exact lawT (by assumption) | (exfalso; omega) | contradiction | (exfalso; simp_all; done) | (exfalso; simp at *; done)
                              · first
                              | (first | omega | contradiction)
                              | refine S.sk (S.sk (S.sk (S.sk (S.sk (S.sk (S.sk (S.sk (S.sk (S.o q.pf (S.o q.as (S.end (hK _ ?_))))))))))))
                                clear hK K
                                refine Ev.ret ?_
                                refine Ev.ret1 ?_
                                refine ⟨?_, rfl⟩
                                first | rfl | exact lawT rfl | exact lawT (by omega) | exact lawT (by assumption) | (exfalso; omega) | contradiction | (exfalso; simp_all; done) | (exfalso; simp at *; done)
                            · first
                            | (first | omega | contradiction)
                            | refine S.sk (S.sk (S.sk (S.sk (S.sk (S.sk (S.sk (S.o q.pf (S.o q.mv (S.sk (S.sk (S.sk (S.sk (S.sk (S.sk (S.sk (S.sk (S.sk (S.o q.pf (S.o q.as (S.end (hK _ ?_)))))))))))))))))))))
                              clear hK K
                              refine Ev.ret ?_
                              refine Ev.ret1 ?_
                              refine ⟨?_, rfl⟩
                              first | rfl | exact lawT rfl | exact lawT (by omega) | exact lawT (by assumption) | (exfalso; omega) | contradiction | (exfalso; simp_all; done) | (exfalso; simp at *; done)
                          · first
                          | (first | omega | contradiction)
                          | refine S.sk (S.sk (S.sk (S.o q.pf (S.o q.mv (S.sk (S.sk (S.sk (S.sk (S.sk (S.sk (S.sk (S.o q.pf (S.o q.mv (S.sk (S.sk (S.sk (S.sk (S.sk (S.sk (S.sk (S.sk (S.sk (S.o q.pf (S.o q.as (S.end (hK _ ?_))))))))))))))))))))))))))
                            clear hK K
                            refine Ev.ret ?_
                            refine Ev.ret1 ?_
                            refine ⟨?_, rfl⟩
                            first | rfl | exact lawT rfl | exact lawT (by omega) | exact lawT (by assumption) | (exfalso; omega) | contradiction | (exfalso; simp_all; done) | (exfalso; simp at *; done)

theorem wf_i32 {n : Int} (h : (Go.Lit.int .i32 n).wf = true) : -2147483648 ≤ n ∧ n ≤ 2147483647 := by
  have e1 : IntKind.i32.min = -2147483648 := rfl
  have e2 : IntKind.i32.max = 2147483647 := rfl
  simp only [Go.Lit.wf, e1, e2, Bool.and_eq_true, decide_eq_true_eq] at h
  exact h
theorem wf_u16 {n : Int} (h : (Go.Lit.int .u16 n).wf = true) : 0 ≤ n ∧ n ≤ 65535 := by
  have e1 : IntKind.u16.min = 0 := rfl
  have e2 : IntKind.u16.max = 65535 := rfl
  simp only [Go.Lit.wf, e1, e2, Bool.and_eq_true, decide_eq_true_eq] at h
  exact h
theorem highest_law2 (d : Dem) (x num den : Int) (hwd : d.w) (hx : (Go.Lit.int .i32 x).wf = true) (hn : (Go.Lit.int .u16 num).wf = true) (hd : (Go.Lit.int .u16 den).wf = true) : Fun Tryd.prog 6 [.agg d.c, .lit (.int .i32 x), .lit (.int .u16 num), .lit (.int .u16 den)] (Ret (.lit (.bool true)) []) := highest_law d x num den hwd (wf_i32 hx) (wf_u16 hn) (wf_u16 hd)
end Go.Proofs.YtnomiafjeiijkaaDoor
