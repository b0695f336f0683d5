/-
  The reference: the words of a line.
  Conditions: none.
-/
import Derived.Test.YtnbjmckhongidaaGreatDoorBr2
namespace Go.Proofs.YtnbjmckhongidaaGreatDoor
open Go Go.AM
set_option linter.unusedSimpArgs false
set_option linter.unusedVariables false
set_option maxRecDepth 100000
set_option maxHeartbeats 2000000

theorem split_at {c : UInt8} {r : List UInt8} {k : Nat} (hk : r[k]? = some c) (hn : c ∉ r.take k) : splitG 0 c r = r.take k :: splitG 0 c (r.drop (k + 1)) := by
  obtain ⟨h1, h2⟩ := List.getElem?_eq_some_iff.1 hk
  have e : r = r.take k ++ c :: r.drop (k + 1) := by rw [← h2, List.getElem_cons_drop, List.take_append_drop]
  conv => lhs; rw [e]
  rw [splitG_app 0 _ hn]
  simp
/-- The words so far, where the next one begins, and the place. -/
def WordI (s : List UInt8) (out : List (List UInt8)) (fr i : Nat) : Prop := fr ≤ i ∧ (i ≤ s.length → out ++ splitG 0 32 (s.drop fr) = splitG 0 32 s ∧ (32 : UInt8) ∉ (s.drop fr).take (i - fr)) ∧ (s.length < i → i = s.length + 1 ∧ out = splitG 0 32 s)
theorem wordI_0 (s : List UInt8) : WordI s [] 0 0 := ⟨Nat.le_refl _, fun _ => ⟨rfl, by simp⟩, fun h => by omega⟩
theorem take_drop_eq (s : List UInt8) (fr i : Nat) : (s.take i).drop fr = (s.drop fr).take (i - fr) := by rw [List.drop_take]
theorem wordI_end {s : List UInt8} {out : List (List UInt8)} {fr : Nat} (h : WordI s out fr s.length) : WordI s (out ++ [(s.take s.length).drop fr]) (s.length + 1) (s.length + 1) := by
  obtain ⟨h1, h2, _⟩ := h
  obtain ⟨h3, h4⟩ := h2 (Nat.le_refl _)
  have e : (s.drop fr).take (s.length - fr) = s.drop fr := List.take_of_length_le (by simp)
  rw [e] at h4
  refine ⟨Nat.le_refl _, fun h => by omega, fun _ => ⟨rfl, ?_⟩⟩
  rw [take_drop_eq, e, ← h3, splitG_no 0 h4]
theorem wordI_cut {s : List UInt8} {out : List (List UInt8)} {fr i : Nat} (h : WordI s out fr i) (hi : s[i]? = some 32) : WordI s (out ++ [(s.take i).drop fr]) (i + 1) (i + 1) := by
  obtain ⟨h1, h2, _⟩ := h
  have hil := (List.getElem?_eq_some_iff.1 hi).1
  obtain ⟨h3, h4⟩ := h2 (by omega)
  have hk : (s.drop fr)[i - fr]? = some 32 := by rw [List.getElem?_drop, show fr + (i - fr) = i by omega]; exact hi
  refine ⟨Nat.le_refl _, fun _ => ⟨?_, by simp⟩, fun h => by omega⟩
  rw [take_drop_eq, ← h3, split_at hk h4, List.drop_drop, show fr + (i - fr + 1) = i + 1 by omega]
  simp
theorem wordI_on {s : List UInt8} {out : List (List UInt8)} {fr i : Nat} {c : UInt8} (h : WordI s out fr i) (hi : s[i]? = some c) (hc : c ≠ 32) : WordI s out fr (i + 1) := by
  obtain ⟨h1, h2, _⟩ := h
  have hil := (List.getElem?_eq_some_iff.1 hi).1
  obtain ⟨h3, h4⟩ := h2 (by omega)
  have hk : (s.drop fr)[i - fr]? = some c := by rw [List.getElem?_drop, show fr + (i - fr) = i by omega]; exact hi
  refine ⟨by omega, fun _ => ⟨h3, ?_⟩, fun h => by omega⟩
  rw [show i + 1 - fr = (i - fr) + 1 by omega, List.take_add_one, hk]
  simp only [Option.toList_some, List.mem_append, List.mem_singleton, not_or]
  exact ⟨h4, fun e => hc e.symm⟩


def cutAt (z : List UInt8) (i : Nat) : Prop := i = z.length ∨ z[i]? = some 32
instance (z i) : Decidable (cutAt z i) := by unfold cutAt; infer_instance
def wordN1 (z : List UInt8) (ow : List (List UInt8)) (fr i : Nat) : List (List UInt8) := if cutAt z i then ow ++ [(z.take i).drop fr] else ow
def wordN2 (z : List UInt8) (fr i : Nat) : Nat := if cutAt z i then i + 1 else fr
theorem wordI_next {z : List UInt8} {ow : List (List UInt8)} {fr i : Nat} (h : WordI z ow fr i) (hi : i ≤ z.length) : WordI z (wordN1 z ow fr i) (wordN2 z fr i) (i + 1) := by
  unfold wordN1 wordN2
  by_cases hc : cutAt z i
  · rw [if_pos hc, if_pos hc]
    rcases hc with rfl | hc
    · exact wordI_end h
    · exact wordI_cut h hc
  · rw [if_neg hc, if_neg hc]
    have hl : i < z.length := by
      rcases Nat.lt_or_ge i z.length with h1 | h1
      · exact h1
      · exact absurd (.inl (by omega)) hc
    exact wordI_on h (List.getElem?_eq_getElem hl) fun e => hc (.inr (by rw [List.getElem?_eq_getElem hl, e]))
theorem cutAt_of {z : List UInt8} {i : Nat} (hi : i < z.length) : (((z[(i : Int).toNat]!).toNat : Nat) : Int) = 32 ↔ cutAt z i := by
  have h3 := (atig (l := z) (i := (i : Int)) ⟨by omega, by omega⟩).2
  rw [Int.toNat_natCast] at h3 ⊢
  constructor
  · intro h
    exact .inr (by rw [h3, u8_of (show (z[i]!).toNat = 32 by omega)]; rfl)
  · rintro (h | h)
    · omega
    · rw [h3] at h
      rw [Option.some.inj h]; rfl
theorem words_fun (z : List UInt8) (hz : z.length ≤ 262144) : Fun Tryz.prog 25 [.lit (str z)] (Ret (.sh 1 ((splitG 0 32 z).map strC)) []) := by
  refine Fun.of (nt := 32) (rs := [.tmp 2]) Tryz.func25 rfl rfl rfl rfl rfl ?_
  refine Ev.sr fun K hK => S.o q.as (S.end (hK _ ?_))
  clear hK K
  refine Ev.sr fun K hK => S.o q.as (S.end (hK _ ?_))
  clear hK K
  refine Ev.sr fun K hK => S.o q.as (S.end (hK _ ?_))
  clear hK K
  refine Ev.seq ?_
  refine Ev.sr fun K hK => S.o q.as (S.end (hK _ ?_))
  clear hK K
  refine Ev.block ?_
  refine Ev.weaken (Wk.nown strC 3 9 1) ?_
  refine Ev.loopU (ι := {q : List (List UInt8) × Nat × Nat // WordI z q.1 q.2.1 q.2.2 ∧ q.1.length ≤ q.2.2}) [0] [0, 2] (fun ⟨(ow, fr, i), _⟩ => [(4, .lit (.int .i64 ((fr : Int)))), (5, .lit (.int .i64 ((i : Int)))), (3, .als 0 0 (ow).length)]) (fun ⟨(ow, fr, i), _⟩ => [(0, ⟨true, 9, 1, (ow).map strC, true⟩)]) (fun ⟨(ow, fr, i), _⟩ => z.length + 1 - i) ⟨([], 0, 0), wordI_0 z, Nat.le_refl _⟩ (.c (.c .n)) (keep_c (he := (by first | (rw [wordN1, if_pos hcd]; simp; done) | (rw [wordN1, if_neg (fun h => absurd ((cutAt_of (by omega)).2 h) ‹_›)]; done) | rfl)) (h := keep_n)) (slots_c (he := (by first | (rw [wordN2, if_pos hcd]; rfl) | (rw [wordN2, if_neg (fun h => absurd ((cutAt_of (by omega)).2 h) ‹_›)]; done) | rfl)) (h := (slots_c (he := (by first | rfl | (simp; done))) (h := (slots_c (he := (by first | (rw [wordN1, if_pos hcd]; simp; done) | (rw [wordN1, if_neg (fun h => absurd ((cutAt_of (by omega)).2 h) ‹_›)]; done) | rfl)) (h := trivial)))))) ?_
  rintro ⟨⟨ow, fr, i⟩, hw, hol⟩ R0 hR0
  dsimp only [List.cons_append, List.nil_append, List.length_cons, List.length_nil]
  simp only at hw hol
  by_cases hlt : i ≤ z.length
  rotate_left
  · have hfin := (hw.2.2 (by omega)).2
    refine Ev.seq ?_
    refine Ev.sr fun K hK => S.o q.mv (S.o q.mv (S.o (q.slen am_el9 am_un9) (S.o q.leq (S.end (hK _ ?_)))))
    clear hK K
    refine Ev.cd (fun c1 => ?_) (fun c1 => ?_)
    · first | omega | contradiction
    · first
    | (first | omega | contradiction)
    | refine Ev.exit ?_
      refine hR0 _ _ ?_
      show Ev _ _ _ _
      refine Ev.sr fun K hK => S.o q.mv (S.o q.as (S.end (hK _ ?_)))
      clear hK K
      refine Ev.weaken (Wk.frz 2 []) ?_
      refine Ev.ret ?_
      refine Ev.ret1 ?_
      refine ⟨?_, rfl⟩
      (rw [← hfin]; done)
  · have hfr := hw.1
    have hnx := wordI_next hw hlt
    refine Ev.seq ?_
    refine Ev.sr fun K hK => S.o q.mv (S.o q.mv (S.o (q.slen am_el9 am_un9) (S.o q.leq (S.end (hK _ ?_)))))
    clear hK K
    refine Ev.cd (fun c2 => ?_) (fun c2 => ?_)
    · first
    | (first | omega | contradiction)
    | refine Ev.skip ?_
      show Ev _ _ _ _
      refine Ev.seq ?_
      refine Ev.block ?_
      refine Ev.sr fun K hK => S.o q.mv (S.o q.mv (S.o (q.slen am_el9 am_un9) (S.o q.eql (S.bd q.mv (fun c3 => ?_) (fun c3 => ?_)))))
      · first
      | (first | omega | contradiction)
      | refine S.sk (S.sk (S.sk (S.sk (S.o q.pt (S.end (hK _ ?_))))))
        clear hK K
        refine Ev.ct ?_
        have hcd : cutAt z i := by first | exact .inl (by omega) | exact (cutAt_of (by omega)).1 ‹_›
        refine Ev.sr fun K hK => S.o q.mv (S.o q.mv (S.o q.mv (S.o q.mv (S.o (q.slbo am_el9 am_un9) (S.nn (q.bs [[_]] true am_el57 am_ze9 am_cl9) (S.ap' [_] am_el57 am_ze9 am_cl9 am_by9 (hh := head_own') (hr := (rows_lit [_])) (h := S.o q.as (S.end (hK _ ?_)))))))))
        clear hK K
        refine Ev.region_S fun K hK => S.o q.mv (S.o q.add (S.o q.as (S.end (hK _ ?_))))
        clear hK K
        show Ev _ _ _ _
        refine Ev.region_S fun K hK => S.o q.mv (S.o q.add (S.o q.as (S.end (hK _ ?_))))
        clear hK K
        refine hR0 _ _ ?_
        refine roundU [2] [0, 2] ⟨(wordN1 z ow fr i, wordN2 z fr i, i + 1), hnx, ?_⟩ ?_ (keep_c (he := (by first | (rw [wordN1, if_pos hcd]; simp; done) | (rw [wordN1, if_neg (fun h => absurd ((cutAt_of (by omega)).2 h) ‹_›)]; done) | rfl)) (h := keep_n)) (slots_c (he := (by first | (rw [wordN2, if_pos hcd]; rfl) | (rw [wordN2, if_neg (fun h => absurd ((cutAt_of (by omega)).2 h) ‹_›)]; done) | rfl)) (h := (slots_c (he := (by first | rfl | (simp; done))) (h := (slots_c (he := (by first | (rw [wordN1, if_pos hcd]; simp; done) | (rw [wordN1, if_neg (fun h => absurd ((cutAt_of (by omega)).2 h) ‹_›)]; done) | rfl)) (h := trivial)))))) (.c (.c .n))
        all_goals first | (dsimp only; omega) | (dsimp only; unfold wordN1; split <;> (try simp only [List.length_append, List.length_cons, List.length_nil]) <;> omega)
        all_goals (dsimp only; omega)
      · first
      | (first | omega | contradiction)
      | refine S.o q.mv (S.o q.mv (S.o (q.six am_un9 (hl := (by first | exact atig (by omega)))) (S.o q.eql (S.o q.pf (S.end (hK _ ?_))))))
        clear hK K
        refine Ev.cd (fun c4 => ?_) (fun c4 => ?_)
        · first
        | (first | omega | contradiction)
        | have hcd : cutAt z i := by first | exact .inl (by omega) | exact (cutAt_of (by omega)).1 ‹_›
          refine Ev.sr fun K hK => S.o q.mv (S.o q.mv (S.o q.mv (S.o q.mv (S.o (q.slbo am_el9 am_un9) (S.nn (q.bs [[_]] true am_el57 am_ze9 am_cl9) (S.ap' [_] am_el57 am_ze9 am_cl9 am_by9 (hh := head_own') (hr := (rows_lit [_])) (h := S.o q.as (S.end (hK _ ?_)))))))))
          clear hK K
          refine Ev.region_S fun K hK => S.o q.mv (S.o q.add (S.o q.as (S.end (hK _ ?_))))
          clear hK K
          show Ev _ _ _ _
          refine Ev.region_S fun K hK => S.o q.mv (S.o q.add (S.o q.as (S.end (hK _ ?_))))
          clear hK K
          refine hR0 _ _ ?_
          refine roundU [2] [0, 2] ⟨(wordN1 z ow fr i, wordN2 z fr i, i + 1), hnx, ?_⟩ ?_ (keep_c (he := (by first | (rw [wordN1, if_pos hcd]; simp; done) | (rw [wordN1, if_neg (fun h => absurd ((cutAt_of (by omega)).2 h) ‹_›)]; done) | rfl)) (h := keep_n)) (slots_c (he := (by first | (rw [wordN2, if_pos hcd]; rfl) | (rw [wordN2, if_neg (fun h => absurd ((cutAt_of (by omega)).2 h) ‹_›)]; done) | rfl)) (h := (slots_c (he := (by first | rfl | (simp; done))) (h := (slots_c (he := (by first | (rw [wordN1, if_pos hcd]; simp; done) | (rw [wordN1, if_neg (fun h => absurd ((cutAt_of (by omega)).2 h) ‹_›)]; done) | rfl)) (h := trivial)))))) (.c (.c .n))
          all_goals first | (dsimp only; omega) | (dsimp only; unfold wordN1; split <;> (try simp only [List.length_append, List.length_cons, List.length_nil]) <;> omega)
          all_goals (dsimp only; omega)
        · first
        | (first | omega | contradiction)
        | refine Ev.skip ?_
          show Ev _ _ _ _
          refine Ev.region_S fun K hK => S.o q.mv (S.o q.add (S.o q.as (S.end (hK _ ?_))))
          clear hK K
          refine hR0 _ _ ?_
          refine roundU [0] [0, 2] ⟨(wordN1 z ow fr i, wordN2 z fr i, i + 1), hnx, ?_⟩ ?_ (keep_c (he := (by first | (rw [wordN1, if_pos hcd]; simp; done) | (rw [wordN1, if_neg (fun h => absurd ((cutAt_of (by omega)).2 h) ‹_›)]; done) | rfl)) (h := keep_n)) (slots_c (he := (by first | (rw [wordN2, if_pos hcd]; rfl) | (rw [wordN2, if_neg (fun h => absurd ((cutAt_of (by omega)).2 h) ‹_›)]; done) | rfl)) (h := (slots_c (he := (by first | rfl | (simp; done))) (h := (slots_c (he := (by first | (rw [wordN1, if_pos hcd]; simp; done) | (rw [wordN1, if_neg (fun h => absurd ((cutAt_of (by omega)).2 h) ‹_›)]; done) | rfl)) (h := trivial)))))) (.c (.c .n))
          all_goals first | (dsimp only; omega) | (dsimp only; unfold wordN1; split <;> (try simp only [List.length_append, List.length_cons, List.length_nil]) <;> omega)
          all_goals (dsimp only; omega)
    · first | omega | contradiction
end Go.Proofs.YtnbjmckhongidaaGreatDoor
