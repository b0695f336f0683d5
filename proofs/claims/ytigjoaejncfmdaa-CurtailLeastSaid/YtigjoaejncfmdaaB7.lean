/-
  ref28.Cover.
  Conditions: none.
-/
import Derived.Test.YtigjoaejncfmdaaB6
namespace Go.Proofs.Ytigjoaejncfmdaa
open Go Go.AM
set_option linter.unusedSimpArgs false
set_option linter.unusedVariables false
set_option maxRecDepth 100000

def rjAdd (acc : List (Int × Int)) (s : Int × Int) : List (Int × Int) :=
  match acc.getLast? with
  | some o => if s.1 ≤ o.2 then acc.set (acc.length - 1) (o.1, s.2) else acc ++ [s]
  | none => acc ++ [s]
def rjL (a : Int) (l : List (Int × Int)) : List (Int × Int) := (l.map (shiftS a)).foldl rjAdd []
theorem rjL_snoc (a : Int) (l : List (Int × Int)) (s : Int × Int) : rjL a (l ++ [s]) = rjAdd (rjL a l) (shiftS a s) := by simp [rjL]
theorem rjAdd_len (acc : List (Int × Int)) (s : Int × Int) : (rjAdd acc s).length ≤ acc.length + 1 ∧ 0 < (rjAdd acc s).length := by
  unfold rjAdd
  split
  · rename_i o ho
    have : 0 < acc.length := by
      rcases Nat.eq_zero_or_pos acc.length with h0 | h0
      · rw [List.eq_nil_of_length_eq_zero h0] at ho; cases ho
      · exact h0
    split <;> simp <;> omega
  · simp
theorem foldl_snoc_ind {P : List (Int × Int) → Prop} (h0 : P []) (hs : ∀ l s, P l → P (l ++ [s])) : ∀ l, P l := by
  intro l
  have : ∀ n, ∀ l : List (Int × Int), l.length = n → P l := by
    intro n
    induction n with
    | zero => intro l h; rw [List.eq_nil_of_length_eq_zero h]; exact h0
    | succ n ih =>
      intro l h
      have hne : l ≠ [] := by intro e; subst e; simp at h
      rw [← List.dropLast_concat_getLast hne]
      exact hs _ _ (ih _ (by simp [h]))
  exact this _ l rfl
theorem rjL_len (a : Int) : ∀ l : List (Int × Int), (rjL a l).length ≤ l.length ∧ (0 < l.length → 0 < (rjL a l).length) := by
  refine foldl_snoc_ind ⟨Nat.zero_le _, fun h => absurd h (by simp)⟩ ?_
  intro l s ih
  have := rjAdd_len (rjL a l) (shiftS a s)
  rw [rjL_snoc, List.length_append]
  simp only [List.length_cons, List.length_nil]
  omega
theorem rj_last (base : List (Int × Int)) {r : List (Int × Int)} (h : 0 < r.length) : (base ++ r)[(base ++ r).length - 1]? = some (r.getLast (List.ne_nil_of_length_pos h)) := by
  rw [List.length_append, List.getElem?_append_right (by omega), show base.length + r.length - 1 - base.length = r.length - 1 by omega, ← List.getLast?_eq_getElem?, last_get h]
theorem rj_join (base : List (Int × Int)) {a : Int} {pre : List (Int × Int)} {s : Int × Int} (h : 0 < (rjL a pre).length) (hs : s.1 - a ≤ ((rjL a pre).getLast (List.ne_nil_of_length_pos h)).2) :
    (base ++ rjL a pre).set ((base ++ rjL a pre).length - 1) (((rjL a pre).getLast (List.ne_nil_of_length_pos h)).1, s.2 + a) = base ++ rjL a (pre ++ [s]) := by
  rw [rjL_snoc, rjAdd, last_get h]
  simp only [shiftS, hs, if_true]
  rw [List.length_append, List.set_append_right _ _ (by omega), show base.length + (rjL a pre).length - 1 - base.length = (rjL a pre).length - 1 by omega]
theorem rj_put (base : List (Int × Int)) {a : Int} {pre : List (Int × Int)} {s : Int × Int} (hs : ∀ h : 0 < (rjL a pre).length, ¬ s.1 - a ≤ ((rjL a pre).getLast (List.ne_nil_of_length_pos h)).2) :
    base ++ rjL a pre ++ [(s.1 - a, s.2 + a)] = base ++ rjL a (pre ++ [s]) := by
  rw [rjL_snoc, rjAdd]
  split
  · rename_i o ho
    have hp : 0 < (rjL a pre).length := by
      rcases Nat.eq_zero_or_pos (rjL a pre).length with h0 | h0
      · rw [List.eq_nil_of_length_eq_zero h0] at ho; cases ho
      · exact h0
    have := hs hp
    rw [last_get hp] at ho
    simp only [Option.some.injEq] at ho
    rw [ho] at this
    rw [if_neg (by simpa [shiftS] using this), List.append_assoc]
    rfl
  · rw [List.append_assoc]; rfl

/-- Spans that ascend and do not touch. -/
def Asc (l : List (Int × Int)) : Prop := l.Pairwise (fun p q => p.2 < q.1) ∧ ∀ s ∈ l, s.1 < s.2
theorem Asc.snoc {l : List (Int × Int)} {s : Int × Int} (h : Asc (l ++ [s])) : Asc l ∧ s.1 < s.2 ∧ ∀ q, l.getLast? = some q → q.2 < s.1 ∧ q.1 < q.2 := by
  obtain ⟨h1, h2⟩ := h
  rw [List.pairwise_append] at h1
  refine ⟨⟨h1.1, fun x hx => h2 x (by simp [hx])⟩, h2 s (by simp), fun q hq => ?_⟩
  have hm := List.mem_of_getLast? hq
  exact ⟨h1.2.2 q hm s (by simp), h2 q (by simp [hm])⟩
theorem join_asc (a : Int) (ha : 0 ≤ a) : ∀ l : List (Int × Int), Asc l → joinL (l.map (shiftS a)) = rjL a l ∧ ∀ o s, (rjL a l).getLast? = some o → l.getLast? = some s → o.2 = s.2 + a := by
  refine foldl_snoc_ind (fun _ => ⟨rfl, fun o s h => by cases h⟩) ?_
  intro l s ih hasc
  obtain ⟨h1, h2, h3⟩ := hasc.snoc
  obtain ⟨i1, i2⟩ := ih h1
  have e1 : joinL ((l ++ [s]).map (shiftS a)) = (joinSt (joinF (l.map (shiftS a))) (shiftS a s)).1 := by
    rw [List.map_append, joinL]
    exact congrArg _ (joinF_snoc _ _)
  have e0 : (joinF (l.map (shiftS a))).1 = rjL a l := i1
  have e2 : joinL ((l ++ [s]).map (shiftS a)) = rjL a (l ++ [s]) := by
    rw [e1, rjL_snoc, joinSt, rjAdd, e0]
    cases ho : (rjL a l).getLast? with
    | none => rfl
    | some o =>
      simp only
      split
      · have hl : ∃ q, l.getLast? = some q := by
          have hne : l ≠ [] := by intro e; subst e; cases ho
          exact ⟨_, List.getLast?_eq_some_getLast hne⟩
        obtain ⟨q, hq⟩ := hl
        have := i2 o q ho hq
        obtain ⟨g1, g2⟩ := h3 q hq
        have : max o.2 (shiftS a s).2 = (shiftS a s).2 := by
          have e : (shiftS a s).2 = s.2 + a := rfl
          rw [e]; omega
        simp only [this]
      · rfl
  refine ⟨e2, fun o q ho hq => ?_⟩
  rw [List.getLast?_append, List.getLast?_singleton, Option.some_or] at hq
  simp only [Option.some.injEq] at hq
  subst hq
  rw [rjL_snoc, rjAdd] at ho
  cases hb : (rjL a l).getLast? with
  | none =>
    rw [hb] at ho
    simp only [List.getLast?_append, List.getLast?_singleton, Option.some_or, Option.some.injEq] at ho
    rw [← ho]; rfl
  | some o' =>
    rw [hb] at ho
    simp only at ho
    split at ho
    · have hne : rjL a l ≠ [] := by intro e; rw [e] at hb; cases hb
      have hpos := List.length_pos_iff.2 hne
      rw [List.getLast?_eq_getElem?, List.length_set, List.getElem?_set_self (by omega)] at ho
      simp only [Option.some.injEq] at ho
      rw [← ho]; rfl
    · simp only [List.getLast?_append, List.getLast?_singleton, Option.some_or, Option.some.injEq] at ho
      rw [← ho]; rfl
theorem levAdd_asc {acc : List (Int × Int)} {lo hi : Int} (h : Asc acc) (h1 : ∀ o, acc.getLast? = some o → o.2 ≤ lo) (h2 : lo < hi) : Asc (levAdd acc lo hi) ∧ ∀ o, (levAdd acc lo hi).getLast? = some o → o.2 ≤ hi := by
  unfold levAdd
  cases ho : acc.getLast? with
  | none =>
    have : acc = [] := List.getLast?_eq_none_iff.1 ho
    subst this
    refine ⟨⟨by simp, fun s hs => by simp at hs; subst hs; exact h2⟩, fun o h => by simp at h; rw [← h]; exact Int.le_refl _⟩
  | some o =>
    have hne : acc ≠ [] := by intro e; rw [e] at ho; cases ho
    have hl := h1 o ho
    have hacc : acc = acc.dropLast ++ [o] := by
      have := List.dropLast_concat_getLast hne
      rw [List.getLast?_eq_some_getLast hne] at ho
      simp only [Option.some.injEq] at ho
      rw [ho] at this
      exact this.symm
    simp only
    split
    · rename_i e
      rw [hacc] at h
      obtain ⟨g1, g2⟩ := h
      rw [List.pairwise_append] at g1
      refine ⟨⟨List.pairwise_append.2 ⟨g1.1, by simp, fun x hx y hy => ?_⟩, fun s hs => ?_⟩, fun q hq => ?_⟩
      · simp at hy; subst hy; exact g1.2.2 x hx o (by simp)
      · rcases List.mem_append.1 hs with hs | hs
        · exact g2 s (by simp [hs])
        · simp at hs; subst hs
          have := g2 o (by simp)
          simp only; omega
      · simp only [List.getLast?_append, List.getLast?_singleton, Option.some_or, Option.some.injEq] at hq
        rw [← hq]; exact Int.le_refl _
    · rename_i e
      obtain ⟨g1, g2⟩ := h
      refine ⟨⟨List.pairwise_append.2 ⟨g1, by simp, fun x hx y hy => ?_⟩, fun s hs => ?_⟩, fun q hq => ?_⟩
      · simp at hy; subst hy
        rw [hacc] at hx
        rcases List.mem_append.1 hx with hx | hx
        · rw [hacc, List.pairwise_append] at g1
          have k1 := g1.2.2 x hx o (by simp)
          have k2 := g2 o (by rw [hacc]; simp)
          simp only; omega
        · simp at hx; subst hx; simp only; omega
      · rcases List.mem_append.1 hs with hs | hs
        · exact g2 s hs
        · simp at hs; subst hs; exact h2
      · simp only [List.getLast?_append, List.getLast?_singleton, Option.some_or, Option.some.injEq] at hq
        rw [← hq]; exact Int.le_refl _
theorem levGo_asc (v : Int) : ∀ (l acc : List (Int × Int)) (p : Option (Int × Int)), okL p l → Asc acc → (∀ o x, acc.getLast? = some o → l.head? = some x → o.2 ≤ x.1) → Asc (levGo v l acc)
  | [], acc, _, _, h, _ => by simpa [levGo] using h
  | [_], acc, _, _, h, _ => by simpa [levGo] using h
  | s :: n :: l, acc, p, hl, h, hb => by
    obtain ⟨k1, k2⟩ := hl
    have hlt : s.1 < n.1 := k2.1.2.2.2 s rfl
    rw [levGo]
    split
    · refine levGo_asc v (n :: l) acc _ k2 h (fun o x ho hx => ?_)
      simp at hx; subst hx
      have := hb o s ho rfl
      omega
    · obtain ⟨g1, g2⟩ := levAdd_asc (hi := n.1) h (fun o ho => hb o s ho rfl) hlt
      refine levGo_asc v (n :: l) _ _ k2 g1 (fun o x ho hx => ?_)
      simp at hx; subst hx
      exact g2 o ho
theorem spans_asc {l : List (Int × Int)} (hs2 : okL none l) (v : Int) : Asc (levGo v l []) := levGo_asc v l [] none hs2 ⟨by simp, fun s hs => by simp at hs⟩ (fun o x h => by cases h)
theorem coverN_len {l : List (Int × Int)} {d a : Int} (hs1 : l.length ≤ 200) (hs2 : okL none l) : ∀ n, (coverN l d a n).length ≤ 200 * n
  | 0 => by simp [coverN]
  | n + 1 => by
    have := coverN_len (d := d) (a := a) hs1 hs2 n
    obtain ⟨h1, _⟩ := spans_bd hs1 hs2 ((n : Int) * areaOf d)
    have h2 := joinL_len ((levGo ((n : Int) * areaOf d) l []).map (shiftS a))
    rw [coverN, List.length_append, coverK]
    simp only [List.length_map] at h2
    omega
theorem rcover_fun (l : List (Int × Int)) (d a : Int) (hg : givenE l d a = 0) (hle : leastN l d ≤ 1000) : Fun Try.prog 17 [.sh 2 (l.map stepC), .lit (.int .i64 d), .lit (.int .i64 a)] (Ret (.sh 2 ((coverN l d a (leastN l d).toNat).map stepC)) []) := by
  obtain ⟨hs1, hs2, hlast, hz, hz1, hz2, hb1, hb2⟩ := givenZ hg
  have hnn := leastN_nn (d := d) hs2 hb1
  refine Fun.of (nt := 71) (rs := [.tmp 6]) Try.func17 rfl rfl rfl rfl rfl ?_
  refine Ev.sr fun K hK => S.o q.as (S.end (hK _ ?_))
  clear hK K
  refine Ev.sr fun K hK => S.o q.as (S.end (hK _ ?_))
  clear hK K
  refine Ev.seq ?_
  refine Ev.sr fun K hK => S.o q.as (S.end (hK _ ?_))
  clear hK K
  refine Ev.block ?_
  refine Ev.weaken (Wk.nown stepC 7 36 2) ?_
  refine Ev.loopU (ι := {k : Nat // (k : Int) ≤ leastN l d}) [0] [0, 1, 2, 6] (fun ⟨k, _⟩ => [(8, .lit (.int .i64 ((k : Int) + 1))), (7, .als 0 0 (coverN l d a k).length)]) (fun ⟨k, _⟩ => [(0, ⟨true, 36, 2, (coverN l d a k).map stepC, true⟩)]) (fun ⟨k, _⟩ => (leastN l d).toNat - k) ⟨0, by omega⟩ (.c (.c (.c (.c .n)))) (keep_c (he := (by first | rfl | exact congrArg _ hcv.symm)) (h := keep_n)) (slots_c (he := (by first | rfl | (congr 2; omega))) (h := (slots_c (he := (by first | rfl | (rw [hcv]; done))) (h := trivial)))) ?_
  rintro ⟨k, hk⟩ R0 hR0
  dsimp only [List.cons_append, List.nil_append, List.length_cons, List.length_nil]
  have hcl := coverN_len (d := d) (a := a) hs1 hs2 k
  refine Ev.seq ?_
  refine Ev.sr fun K hK => S.o q.mv (S.o q.mv (S.o q.mv (S.c0 (hF := rleast_fun _ _ (by omega) hz (fun s hs => (okL_mem hs2 s hs).2)) (h := S.o q.leq (S.end (hK _ ?_))))))
  clear hK K
  refine Ev.cd (fun c1 => ?_) (fun c1 => ?_)
  · first
  | (first | omega | contradiction)
  | refine Ev.skip ?_
    show Ev _ _ _ _
    refine Ev.seq ?_
    refine Ev.block ?_
    refine Ev.sr fun K hK => S.o q.mv (S.o q.mv (S.o q.mv (S.c0 (hF := rlevel_fun _ _ _ (by omega) hz (by omega) (by omega)) (h := S.o q.as (S.end (hK _ ?_))))))
    clear hK K
    rw [show ((k : Int) + 1 - 1) = k by omega]
    obtain ⟨hlen, hin⟩ := spans_bd hs1 hs2 ((k : Int) * areaOf d)
    have hasc := (join_asc a hz1 _ (spans_asc hs2 ((k : Int) * areaOf d))).1
    have hcv : coverN l d a (k + 1) = coverN l d a k ++ rjL a (levGo ((k : Int) * areaOf d) l []) := by rw [coverN, coverK, hasc]
    clear hasc
    generalize hsp : levGo ((k : Int) * areaOf d) l [] = spans at hlen hin hcv ⊢
    refine Ev.sr fun K hK => S.o q.as (S.end (hK _ ?_))
    clear hK K
    refine Ev.block ?_
    refine Ev.loopU (ι := {p : List (Int × Int) × List (Int × Int) // p.1 ++ p.2 = spans}) [0] [0, 1, 2, 6, 8, 9, 12, 13, 14, 15, 16, 19, 20, 21, 22] (fun ⟨(pre, suf), _⟩ => [(10, .lit (.int .i64 ((pre.length : Int)))), (7, .als 0 0 (coverN l d a k ++ rjL a pre).length)]) (fun ⟨(pre, suf), _⟩ => [(0, ⟨true, 36, 2, (coverN l d a k ++ rjL a pre).map stepC, true⟩)]) (fun ⟨(pre, suf), _⟩ => suf.length) ⟨([], spans), rfl⟩ (.c (.c (.c (.c (.c (.c (.c (.c (.c (.c (.c (.c (.c (.c (.c .n))))))))))))))) (keep_c (he := (by first | rfl | (simp [rjL]; done) | (rw [show (((coverN l d a k ++ rjL a pre).length : Int) - 1).toNat = (coverN l d a k ++ rjL a pre).length - 1 by omega]; exact congrArg _ hjo) | exact congrArg _ hpu)) (h := keep_n)) (slots_c (he := (by first | rfl | (congr 2; simp; done))) (h := (slots_c (he := (by first | rfl | (congr 1; simp [rjL]; done) | (rw [← hjo, List.length_set]; done) | (rw [hpu]; done))) (h := trivial)))) ?_
    rintro ⟨⟨pre, suf⟩, hp⟩ R2 hR2
    dsimp only [List.cons_append, List.nil_append, List.length_cons, List.length_nil]
    simp only at hp
    have hpl : pre.length + suf.length = spans.length := by rw [← hp, List.length_append]
    rcases suf with _ | ⟨s, suf⟩
    · rw [List.append_nil] at hp; subst hp; simp only [List.length_nil] at hpl
      refine Ev.seq ?_
      refine Ev.sr fun K hK => S.o q.mv (S.o q.mv (S.o (q.lens am_el25) (S.o q.lss (S.end (hK _ ?_)))))
      clear hK K
      refine Ev.cd (fun c2 => ?_) (fun c2 => ?_)
      · first
      | (first | omega | contradiction)
      | refine Ev.skip ?_
        show Ev _ _ _ _
        refine Ev.seq ?_
        refine Ev.block ?_
        refine Ev.sm (tbs [(0, 0), (0, 0), (2, 3), (3, 7), (4, 15), (0, 0), (6, 63), (0, 0), (0, 0), (9, 384), (10, 896), (11, 1920), (0, 0), (13, 8064), (14, 16383), (0, 0), (16, 65535)]) 16 fun K hK => M.o q.mv (M.o q.mv (M.o (q.ix am_el25 am_cl36 (hl := (by first | exact atig (by omega)))) (M.o (q.fs 0 am_fi36_0 am_cl3) (M.o (q.ls am_ag3) (M.o q.mv (M.o q.sub (M.o q.mv (M.o q.mv (M.o (q.ix am_el25 am_cl36 (hl := (by first | exact atig (by omega)))) (M.o (q.fs 1 am_fi36_1 am_cl3) (M.o (q.ls am_ag3) (M.o q.mv (M.o q.add (M.o (q.bd [_, _] am_ze36 am_pl36) (M.nn [_] (q.al am_ze36) (h := M.end [_, _] (h := S.sv [_, _] true [_] am_in36 am_cl36 (h := S.end (hK _ ?_)))))))))))))))))))
        clear hK K
        obtain ⟨hrl1, hrl2⟩ := rjL_len a pre
        refine Ev.sm (tbs [(0, 0), (1, 1), (2, 3), (3, 7), (4, 15), (3, 7), (3, 7), (7, 71), (8, 199), (9, 487), (10, 999), (11, 2023), (12, 4095), (13, 8191)]) 14 fun K hK => M.o q.mv (M.o q.gtr (M.bd q.mv (fun c3 => ?_) (fun c3 => ?_)))
        · first
        | (first | omega | contradiction)
        | refine M.o (q.fa 0 am_fi36_0 am_cl3) (M.o (q.lv am_ag3) (M.o q.mv (M.o q.mv (M.o (q.lena am_el25) (M.o q.sub (M.o (q.ia am_el25 am_cl36) (M.o (q.fa 1 am_fi36_1 am_cl3) (M.o (q.lx am_ag3 (hl := (by first | exact at_g (by omega)))) (M.o q.leq (M.o q.pt (M.end [_, _] (h := S.end (hK _ ?_)))))))))))))
          clear hK K
          refine Ev.cd (fun c4 => ?_) (fun c4 => ?_)
          · first
          | (first | omega | contradiction)
          | have hjo := rj_join (coverN l d a k) (hrl2 (by omega)) ‹_›
            refine Ev.region_S fun K hK => S.o q.mv (S.o q.mv (S.o (q.lena am_el25) (S.o q.sub (S.o (q.fa 1 am_fi36_1 am_cl3) (S.o (q.lv am_ag3) (S.o (q.ia am_el25 am_cl36) (S.o (q.fa 1 am_fi36_1 am_cl3) (S.sx (⟨_, _⟩ : Int × Int) [_] am_in3 am_cl3 (hl := (by first | exact at_g (by omega))) (h := S.end (hK _ ?_))))))))))
            clear hK K
            show Ev _ _ _ _
            refine Ev.region_S fun K hK => S.o q.mv (S.o q.add (S.o q.as (S.end (hK _ ?_))))
            clear hK K
            refine hR2 _ _ ?_
            refine roundU [0] [0, 1, 2, 6, 8, 9, 12, 13, 14, 15, 16, 19, 20, 21, 22] ⟨(pre ++ [s], suf), by rw [← hp]; simp⟩ ?_ (keep_c (he := (by first | rfl | (simp [rjL]; done) | (rw [show (((coverN l d a k ++ rjL a pre).length : Int) - 1).toNat = (coverN l d a k ++ rjL a pre).length - 1 by omega]; exact congrArg _ hjo) | exact congrArg _ hpu)) (h := keep_n)) (slots_c (he := (by first | rfl | (congr 2; simp; done))) (h := (slots_c (he := (by first | rfl | (congr 1; simp [rjL]; done) | (rw [← hjo, List.length_set]; done) | (rw [hpu]; done))) (h := trivial)))) (.c (.c (.c (.c (.c (.c (.c (.c (.c (.c (.c (.c (.c (.c (.c .n)))))))))))))))
            skip
            all_goals (dsimp only; simp only [List.length_cons]; omega)
          · first
          | (first | omega | contradiction)
          | have hpu := rj_put (coverN l d a k) (a := a) (pre := pre) (s := s) (fun h => by first | assumption | omega)
            refine Ev.region_S fun K hK => S.o q.mv (S.o (q.lvA [_, _] am_ag36 am_cl36) (S.nn (q.bs [[_, _]] true am_el25 am_ze36 am_cl36) (S.ap' [_, _] am_el25 am_ze36 am_cl36 am_by36 (hh := head_own') (hr := (rows_lit [(⟨_, _⟩ : Int × Int)])) (h := S.o q.as (S.end (hK _ ?_))))))
            clear hK K
            show Ev _ _ _ _
            refine Ev.region_S fun K hK => S.o q.mv (S.o q.add (S.o q.as (S.end (hK _ ?_))))
            clear hK K
            refine hR2 _ _ ?_
            refine roundU [122] [0, 1, 2, 6, 8, 9, 12, 13, 14, 15, 16, 19, 20, 21, 22] ⟨(pre ++ [s], suf), by rw [← hp]; simp⟩ ?_ (keep_c (he := (by first | rfl | (simp [rjL]; done) | (rw [show (((coverN l d a k ++ rjL a pre).length : Int) - 1).toNat = (coverN l d a k ++ rjL a pre).length - 1 by omega]; exact congrArg _ hjo) | exact congrArg _ hpu)) (h := keep_n)) (slots_c (he := (by first | rfl | (congr 2; simp; done))) (h := (slots_c (he := (by first | rfl | (congr 1; simp [rjL]; done) | (rw [← hjo, List.length_set]; done) | (rw [hpu]; done))) (h := trivial)))) (.c (.c (.c (.c (.c (.c (.c (.c (.c (.c (.c (.c (.c (.c (.c .n)))))))))))))))
            skip
            all_goals (dsimp only; simp only [List.length_cons]; omega)
        · first
        | (first | omega | contradiction)
        | refine M.sk (M.sk (M.sk (M.sk (M.sk (M.sk (M.sk (M.sk (M.sk (M.sk (M.o q.pf (M.end [_, _] (h := S.end (hK _ ?_)))))))))))))
          clear hK K
          refine Ev.cf ?_
          have hpu := rj_put (coverN l d a k) (a := a) (pre := pre) (s := s) (fun h => by first | assumption | omega)
          refine Ev.region_S fun K hK => S.o q.mv (S.o (q.lvA [_, _] am_ag36 am_cl36) (S.nn (q.bs [[_, _]] true am_el25 am_ze36 am_cl36) (S.ap' [_, _] am_el25 am_ze36 am_cl36 am_by36 (hh := head_own') (hr := (rows_lit [(⟨_, _⟩ : Int × Int)])) (h := S.o q.as (S.end (hK _ ?_))))))
          clear hK K
          show Ev _ _ _ _
          refine Ev.region_S fun K hK => S.o q.mv (S.o q.add (S.o q.as (S.end (hK _ ?_))))
          clear hK K
          refine hR2 _ _ ?_
          refine roundU [122] [0, 1, 2, 6, 8, 9, 12, 13, 14, 15, 16, 19, 20, 21, 22] ⟨(pre ++ [s], suf), by rw [← hp]; simp⟩ ?_ (keep_c (he := (by first | rfl | (simp [rjL]; done) | (rw [show (((coverN l d a k ++ rjL a pre).length : Int) - 1).toNat = (coverN l d a k ++ rjL a pre).length - 1 by omega]; exact congrArg _ hjo) | exact congrArg _ hpu)) (h := keep_n)) (slots_c (he := (by first | rfl | (congr 2; simp; done))) (h := (slots_c (he := (by first | rfl | (congr 1; simp [rjL]; done) | (rw [← hjo, List.length_set]; done) | (rw [hpu]; done))) (h := trivial)))) (.c (.c (.c (.c (.c (.c (.c (.c (.c (.c (.c (.c (.c (.c (.c .n)))))))))))))))
          skip
          all_goals (dsimp only; simp only [List.length_cons]; omega)
      · first
      | (first | omega | contradiction)
      | refine Ev.exit ?_
        refine hR2 _ _ ?_
        show Ev _ _ _ _
        refine Ev.region_S fun K hK => S.o q.mv (S.o q.add (S.o q.as (S.end (hK _ ?_))))
        clear hK K
        refine hR0 _ _ ?_
        refine roundU [0] [0, 1, 2, 6] ⟨k + 1, by omega⟩ ?_ (keep_c (he := (by first | rfl | exact congrArg _ hcv.symm)) (h := keep_n)) (slots_c (he := (by first | rfl | (congr 2; omega))) (h := (slots_c (he := (by first | rfl | (rw [hcv]; done))) (h := trivial)))) (.c (.c (.c (.c .n))))
        skip
        all_goals (dsimp only; omega)
    · simp only [List.length_cons] at hpl
      have hidx : spans[pre.length]? = some s := by rw [← hp]; simp
      obtain ⟨r1, r2, r3, r4⟩ := hin s (by rw [← hp]; simp)
      have hlr := rj_last (coverN l d a k) (r := rjL a pre)
      have hal : (coverN l d a k ++ rjL a pre).length = (coverN l d a k).length + (rjL a pre).length := List.length_append
      refine Ev.seq ?_
      refine Ev.sr fun K hK => S.o q.mv (S.o q.mv (S.o (q.lens am_el25) (S.o q.lss (S.end (hK _ ?_)))))
      clear hK K
      refine Ev.cd (fun c5 => ?_) (fun c5 => ?_)
      · first
      | (first | omega | contradiction)
      | refine Ev.skip ?_
        show Ev _ _ _ _
        refine Ev.seq ?_
        refine Ev.block ?_
        refine Ev.sm (tbs [(0, 0), (0, 0), (2, 3), (3, 7), (4, 15), (0, 0), (6, 63), (0, 0), (0, 0), (9, 384), (10, 896), (11, 1920), (0, 0), (13, 8064), (14, 16383), (0, 0), (16, 65535)]) 16 fun K hK => M.o q.mv (M.o q.mv (M.o (q.ix am_el25 am_cl36 (hl := (by first | exact ati hidx (by omega) | exact ati (hlr (hrl2 (by omega))) (by omega) | exact atig (by omega)))) (M.o (q.fs 0 am_fi36_0 am_cl3) (M.o (q.ls am_ag3) (M.o q.mv (M.o q.sub (M.o q.mv (M.o q.mv (M.o (q.ix am_el25 am_cl36 (hl := (by first | exact ati hidx (by omega) | exact ati (hlr (hrl2 (by omega))) (by omega) | exact atig (by omega)))) (M.o (q.fs 1 am_fi36_1 am_cl3) (M.o (q.ls am_ag3) (M.o q.mv (M.o q.add (M.o (q.bd [_, _] am_ze36 am_pl36) (M.nn [_] (q.al am_ze36) (h := M.end [_, _] (h := S.sv [_, _] true [_] am_in36 am_cl36 (h := S.end (hK _ ?_)))))))))))))))))))
        clear hK K
        obtain ⟨hrl1, hrl2⟩ := rjL_len a pre
        refine Ev.sm (tbs [(0, 0), (1, 1), (2, 3), (3, 7), (4, 15), (3, 7), (3, 7), (7, 71), (8, 199), (9, 487), (10, 999), (11, 2023), (12, 4095), (13, 8191)]) 14 fun K hK => M.o q.mv (M.o q.gtr (M.bd q.mv (fun c6 => ?_) (fun c6 => ?_)))
        · first
        | (first | omega | contradiction)
        | refine M.o (q.fa 0 am_fi36_0 am_cl3) (M.o (q.lv am_ag3) (M.o q.mv (M.o q.mv (M.o (q.lena am_el25) (M.o q.sub (M.o (q.ia am_el25 am_cl36) (M.o (q.fa 1 am_fi36_1 am_cl3) (M.o (q.lx am_ag3 (hl := (by first | exact at_ hidx (by omega) | exact at_ (hlr (hrl2 (by omega))) (by omega) | exact at_g (by omega)))) (M.o q.leq (M.o q.pt (M.end [_, _] (h := S.end (hK _ ?_)))))))))))))
          clear hK K
          refine Ev.cd (fun c7 => ?_) (fun c7 => ?_)
          · first
          | (first | omega | contradiction)
          | have hjo := rj_join (coverN l d a k) (hrl2 (by omega)) ‹_›
            refine Ev.region_S fun K hK => S.o q.mv (S.o q.mv (S.o (q.lena am_el25) (S.o q.sub (S.o (q.fa 1 am_fi36_1 am_cl3) (S.o (q.lv am_ag3) (S.o (q.ia am_el25 am_cl36) (S.o (q.fa 1 am_fi36_1 am_cl3) (S.sx (⟨_, _⟩ : Int × Int) [_] am_in3 am_cl3 (hl := (by first | exact at_ hidx (by omega) | exact at_ (hlr (hrl2 (by omega))) (by omega) | exact at_g (by omega))) (h := S.end (hK _ ?_))))))))))
            clear hK K
            show Ev _ _ _ _
            refine Ev.region_S fun K hK => S.o q.mv (S.o q.add (S.o q.as (S.end (hK _ ?_))))
            clear hK K
            refine hR2 _ _ ?_
            refine roundU [0] [0, 1, 2, 6, 8, 9, 12, 13, 14, 15, 16, 19, 20, 21, 22] ⟨(pre ++ [s], suf), by rw [← hp]; simp⟩ ?_ (keep_c (he := (by first | rfl | (simp [rjL]; done) | (rw [show (((coverN l d a k ++ rjL a pre).length : Int) - 1).toNat = (coverN l d a k ++ rjL a pre).length - 1 by omega]; exact congrArg _ hjo) | exact congrArg _ hpu)) (h := keep_n)) (slots_c (he := (by first | rfl | (congr 2; simp; done))) (h := (slots_c (he := (by first | rfl | (congr 1; simp [rjL]; done) | (rw [← hjo, List.length_set]; done) | (rw [hpu]; done))) (h := trivial)))) (.c (.c (.c (.c (.c (.c (.c (.c (.c (.c (.c (.c (.c (.c (.c .n)))))))))))))))
            skip
            all_goals (dsimp only; simp only [List.length_cons]; omega)
          · first
          | (first | omega | contradiction)
          | have hpu := rj_put (coverN l d a k) (a := a) (pre := pre) (s := s) (fun h => by first | assumption | omega)
            refine Ev.region_S fun K hK => S.o q.mv (S.o (q.lvA [_, _] am_ag36 am_cl36) (S.nn (q.bs [[_, _]] true am_el25 am_ze36 am_cl36) (S.ap' [_, _] am_el25 am_ze36 am_cl36 am_by36 (hh := head_own') (hr := (rows_lit [(⟨_, _⟩ : Int × Int)])) (h := S.o q.as (S.end (hK _ ?_))))))
            clear hK K
            show Ev _ _ _ _
            refine Ev.region_S fun K hK => S.o q.mv (S.o q.add (S.o q.as (S.end (hK _ ?_))))
            clear hK K
            refine hR2 _ _ ?_
            refine roundU [122] [0, 1, 2, 6, 8, 9, 12, 13, 14, 15, 16, 19, 20, 21, 22] ⟨(pre ++ [s], suf), by rw [← hp]; simp⟩ ?_ (keep_c (he := (by first | rfl | (simp [rjL]; done) | (rw [show (((coverN l d a k ++ rjL a pre).length : Int) - 1).toNat = (coverN l d a k ++ rjL a pre).length - 1 by omega]; exact congrArg _ hjo) | exact congrArg _ hpu)) (h := keep_n)) (slots_c (he := (by first | rfl | (congr 2; simp; done))) (h := (slots_c (he := (by first | rfl | (congr 1; simp [rjL]; done) | (rw [← hjo, List.length_set]; done) | (rw [hpu]; done))) (h := trivial)))) (.c (.c (.c (.c (.c (.c (.c (.c (.c (.c (.c (.c (.c (.c (.c .n)))))))))))))))
            skip
            all_goals (dsimp only; simp only [List.length_cons]; omega)
        · first
        | (first | omega | contradiction)
        | refine M.sk (M.sk (M.sk (M.sk (M.sk (M.sk (M.sk (M.sk (M.sk (M.sk (M.o q.pf (M.end [_, _] (h := S.end (hK _ ?_)))))))))))))
          clear hK K
          refine Ev.cf ?_
          have hpu := rj_put (coverN l d a k) (a := a) (pre := pre) (s := s) (fun h => by first | assumption | omega)
          refine Ev.region_S fun K hK => S.o q.mv (S.o (q.lvA [_, _] am_ag36 am_cl36) (S.nn (q.bs [[_, _]] true am_el25 am_ze36 am_cl36) (S.ap' [_, _] am_el25 am_ze36 am_cl36 am_by36 (hh := head_own') (hr := (rows_lit [(⟨_, _⟩ : Int × Int)])) (h := S.o q.as (S.end (hK _ ?_))))))
          clear hK K
          show Ev _ _ _ _
          refine Ev.region_S fun K hK => S.o q.mv (S.o q.add (S.o q.as (S.end (hK _ ?_))))
          clear hK K
          refine hR2 _ _ ?_
          refine roundU [122] [0, 1, 2, 6, 8, 9, 12, 13, 14, 15, 16, 19, 20, 21, 22] ⟨(pre ++ [s], suf), by rw [← hp]; simp⟩ ?_ (keep_c (he := (by first | rfl | (simp [rjL]; done) | (rw [show (((coverN l d a k ++ rjL a pre).length : Int) - 1).toNat = (coverN l d a k ++ rjL a pre).length - 1 by omega]; exact congrArg _ hjo) | exact congrArg _ hpu)) (h := keep_n)) (slots_c (he := (by first | rfl | (congr 2; simp; done))) (h := (slots_c (he := (by first | rfl | (congr 1; simp [rjL]; done) | (rw [← hjo, List.length_set]; done) | (rw [hpu]; done))) (h := trivial)))) (.c (.c (.c (.c (.c (.c (.c (.c (.c (.c (.c (.c (.c (.c (.c .n)))))))))))))))
          skip
          all_goals (dsimp only; simp only [List.length_cons]; omega)
      · first
      | (first | omega | contradiction)
      | refine Ev.exit ?_
        refine hR2 _ _ ?_
        show Ev _ _ _ _
        refine Ev.region_S fun K hK => S.o q.mv (S.o q.add (S.o q.as (S.end (hK _ ?_))))
        clear hK K
        refine hR0 _ _ ?_
        refine roundU [0] [0, 1, 2, 6] ⟨k + 1, by omega⟩ ?_ (keep_c (he := (by first | rfl | exact congrArg _ hcv.symm)) (h := keep_n)) (slots_c (he := (by first | rfl | (congr 2; omega))) (h := (slots_c (he := (by first | rfl | (rw [hcv]; done))) (h := trivial)))) (.c (.c (.c (.c .n))))
        skip
        all_goals (dsimp only; omega)
  · first
  | (first | omega | contradiction)
  | refine Ev.exit ?_
    refine hR0 _ _ ?_
    show Ev _ _ _ _
    refine Ev.sr fun K hK => S.o q.mv (S.o q.as (S.end (hK _ ?_)))
    clear hK K
    refine Ev.weaken (Wk.frz 6 []) ?_
    refine Ev.ret ?_
    refine Ev.ret1 ?_
    refine ⟨?_, rfl⟩
    rw [show (leastN l d).toNat = k by omega]
end Go.Proofs.Ytigjoaejncfmdaa
