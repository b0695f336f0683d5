/-
  The reference: the words of a line.
  Conditions: none.
-/
import Derived.Test.YtddogeicmhbidaaGreatDoorSb3
import Derived.Test.YtddogeicmhbidaaGreatDoorNames
namespace Go.Proofs.YtddogeicmhbidaaGreatDoor
open Go Go.AM
set_option linter.unusedSimpArgs false
set_option linter.unusedVariables false
set_option maxRecDepth 100000
set_option maxHeartbeats 2000000

theorem split_at {c : UInt8} {r : List UInt8} {k : Nat} (hk : r[k]? = some c) (hn : c ∉ r.take k) : splitG 0 c r = r.take k :: splitG 0 c (r.drop (k + 1)) := by
  obtain ⟨h1, h2⟩ := List.getElem?_eq_some_iff.1 hk
  have e : r = r.take k ++ c :: r.drop (k + 1) := by rw [← h2, List.getElem_cons_drop, List.take_append_drop]
  conv => lhs; rw [e]
  rw [splitG_app 0 _ hn]
  simp
/-- The words so far, where the next one begins, and the place. -/
def WordI (s : List UInt8) (out : List (List UInt8)) (fr i : Nat) : Prop := fr ≤ i ∧ (i ≤ s.length → out ++ splitG 0 32 (s.drop fr) = splitG 0 32 s ∧ (32 : UInt8) ∉ (s.drop fr).take (i - fr)) ∧ (s.length < i → i = s.length + 1 ∧ out = splitG 0 32 s)
theorem wordI_0 (s : List UInt8) : WordI s [] 0 0 := ⟨Nat.le_refl _, fun _ => ⟨rfl, by simp⟩, fun h => by omega⟩
theorem take_drop_eq (s : List UInt8) (fr i : Nat) : (s.take i).drop fr = (s.drop fr).take (i - fr) := by rw [List.drop_take]
theorem wordI_end {s : List UInt8} {out : List (List UInt8)} {fr : Nat} (h : WordI s out fr s.length) : WordI s (out ++ [(s.take s.length).drop fr]) (s.length + 1) (s.length + 1) := by
  obtain ⟨h1, h2, _⟩ := h
  obtain ⟨h3, h4⟩ := h2 (Nat.le_refl _)
  have e : (s.drop fr).take (s.length - fr) = s.drop fr := List.take_of_length_le (by simp)
  rw [e] at h4
  refine ⟨Nat.le_refl _, fun h => by omega, fun _ => ⟨rfl, ?_⟩⟩
  rw [take_drop_eq, e, ← h3, splitG_no 0 h4]
theorem wordI_cut {s : List UInt8} {out : List (List UInt8)} {fr i : Nat} (h : WordI s out fr i) (hi : s[i]? = some 32) : WordI s (out ++ [(s.take i).drop fr]) (i + 1) (i + 1) := by
  obtain ⟨h1, h2, _⟩ := h
  have hil := (List.getElem?_eq_some_iff.1 hi).1
  obtain ⟨h3, h4⟩ := h2 (by omega)
  have hk : (s.drop fr)[i - fr]? = some 32 := by rw [List.getElem?_drop, show fr + (i - fr) = i by omega]; exact hi
  refine ⟨Nat.le_refl _, fun _ => ⟨?_, by simp⟩, fun h => by omega⟩
  rw [take_drop_eq, ← h3, split_at hk h4, List.drop_drop, show fr + (i - fr + 1) = i + 1 by omega]
  simp
theorem wordI_on {s : List UInt8} {out : List (List UInt8)} {fr i : Nat} {c : UInt8} (h : WordI s out fr i) (hi : s[i]? = some c) (hc : c ≠ 32) : WordI s out fr (i + 1) := by
  obtain ⟨h1, h2, _⟩ := h
  have hil := (List.getElem?_eq_some_iff.1 hi).1
  obtain ⟨h3, h4⟩ := h2 (by omega)
  have hk : (s.drop fr)[i - fr]? = some c := by rw [List.getElem?_drop, show fr + (i - fr) = i by omega]; exact hi
  refine ⟨by omega, fun _ => ⟨h3, ?_⟩, fun h => by omega⟩
  rw [show i + 1 - fr = (i - fr) + 1 by omega, List.take_add_one, hk]
  simp only [Option.toList_some, List.mem_append, List.mem_singleton, not_or]
  exact ⟨h4, fun e => hc e.symm⟩


def cutAt (z : List UInt8) (i : Nat) : Prop := i = z.length ∨ z[i]? = some 32
instance (z i) : Decidable (cutAt z i) := by unfold cutAt; infer_instance
def wordN1 (z : List UInt8) (ow : List (List UInt8)) (fr i : Nat) : List (List UInt8) := if cutAt z i then ow ++ [(z.take i).drop fr] else ow
def wordN2 (z : List UInt8) (fr i : Nat) : Nat := if cutAt z i then i + 1 else fr
theorem wordI_next {z : List UInt8} {ow : List (List UInt8)} {fr i : Nat} (h : WordI z ow fr i) (hi : i ≤ z.length) : WordI z (wordN1 z ow fr i) (wordN2 z fr i) (i + 1) := by
  unfold wordN1 wordN2
  by_cases hc : cutAt z i
  · rw [if_pos hc, if_pos hc]
    rcases hc with rfl | hc
    · exact wordI_end h
    · exact wordI_cut h hc
  · rw [if_neg hc, if_neg hc]
    have hl : i < z.length := by
      rcases Nat.lt_or_ge i z.length with h1 | h1
      · exact h1
      · exact absurd (.inl (by omega)) hc
    exact wordI_on h (List.getElem?_eq_getElem hl) fun e => hc (.inr (by rw [List.getElem?_eq_getElem hl, e]))
theorem cutAt_of {z : List UInt8} {i : Nat} (hi : i < z.length) : (((z[(i : Int).toNat]!).toNat : Nat) : Int) = 32 ↔ cutAt z i := by
  have h3 := (atig (l := z) (i := (i : Int)) ⟨by omega, by omega⟩).2
  rw [Int.toNat_natCast] at h3 ⊢
  constructor
  · intro h
    exact .inr (by rw [h3, u8_of (show (z[i]!).toNat = 32 by omega)]; rfl)
  · rintro (h | h)
    · omega
    · rw [h3] at h
      rw [Option.some.inj h]; rfl
theorem words_fun (z : List UInt8) (hz : z.length ≤ 262144) : Fun Tryz.prog 66 [.lit (str z)] (Ret (.sh 1 ((splitG 0 32 z).map strC)) []) := by
  refine Fun.of (nt := 32) (rs := [.tmp 2]) Tryz.func66 rfl rfl rfl rfl rfl ?_
  refine Ev.sr fun K hK => S.o q.as (S.end (hK _ ?_))
  clear hK K
  refine Ev.sr fun K hK => S.o q.as (S.end (hK _ ?_))
  clear hK K
  refine Ev.sr fun K hK => S.o q.as (S.end (hK _ ?_))
  clear hK K
  refine Ev.seq ?_
  refine Ev.sr fun K hK => S.o q.as (S.end (hK _ ?_))
  clear hK K
  refine Ev.block ?_
  refine Ev.weaken (Wk.nown strC 3 9 1) ?_
  refine Ev.loopU (ι := {q : List (List UInt8) × Nat × Nat // WordI z q.1 q.2.1 q.2.2 ∧ q.1.length ≤ q.2.2}) [0] [0, 2] (fun ⟨(ow, fr, i), _⟩ => [(4, .lit (.int .i64 ((fr : Int)))), (5, .lit (.int .i64 ((i : Int)))), (3, .als 0 0 (ow).length)]) (fun ⟨(ow, fr, i), _⟩ => [(0, ⟨true, 9, 1, (ow).map strC, true⟩)]) (fun ⟨(ow, fr, i), _⟩ => z.length + 1 - i) ⟨([], 0, 0), wordI_0 z, Nat.le_refl _⟩ (.c (.c .n)) (keep_c (he := (by first | (rw [wordN1, if_pos hcd]; simp; done) | (rw [wordN1, if_neg (fun h => absurd ((cutAt_of (by omega)).2 h) ‹_›)]; done) | rfl)) (h := keep_n)) (slots_c (he := (by first | (rw [wordN2, if_pos hcd]; rfl) | (rw [wordN2, if_neg (fun h => absurd ((cutAt_of (by omega)).2 h) ‹_›)]; done) | rfl)) (h := (slots_c (he := (by first | rfl | (simp; done))) (h := (slots_c (he := (by first | (rw [wordN1, if_pos hcd]; simp; done) | (rw [wordN1, if_neg (fun h => absurd ((cutAt_of (by omega)).2 h) ‹_›)]; done) | rfl)) (h := trivial)))))) ?_
  rintro ⟨⟨ow, fr, i⟩, hw, hol⟩ R0 hR0
  dsimp only [List.cons_append, List.nil_append, List.length_cons, List.length_nil]
  simp only at hw hol
  by_cases hlt : i ≤ z.length
  rotate_left
  · have hfin := (hw.2.2 (by omega)).2
    refine Ev.seq ?_
    refine Ev.sr fun K hK => S.o q.mv (S.o q.mv (S.o (q.slen am_el9 am_un9) (S.o q.leq (S.end (hK _ ?_)))))
    clear hK K
    refine Ev.cd (fun c1 => ?_) (fun c1 => ?_)
    · first | omega | contradiction
    · first
    | (first | omega | contradiction)
    | refine Ev.exit ?_
      refine hR0 _ _ ?_
      show Ev _ _ _ _
      refine Ev.sr fun K hK => S.o q.mv (S.o q.as (S.end (hK _ ?_)))
      clear hK K
      refine Ev.weaken (Wk.frz 2 []) ?_
      refine Ev.ret ?_
      refine Ev.ret1 ?_
      refine ⟨?_, rfl⟩
      (rw [← hfin]; done)
  · have hfr := hw.1
    have hnx := wordI_next hw hlt
    refine Ev.seq ?_
    refine Ev.sr fun K hK => S.o q.mv (S.o q.mv (S.o (q.slen am_el9 am_un9) (S.o q.leq (S.end (hK _ ?_)))))
    clear hK K
    refine Ev.cd (fun c2 => ?_) (fun c2 => ?_)
    · first
    | (first | omega | contradiction)
    | refine Ev.skip ?_
      show Ev _ _ _ _
      refine Ev.seq ?_
      refine Ev.block ?_
      refine Ev.sr fun K hK => S.o q.mv (S.o q.mv (S.o (q.slen am_el9 am_un9) (S.o q.eql (S.bd q.mv (fun c3 => ?_) (fun c3 => ?_)))))
      · first
      | (first | omega | contradiction)
      | refine S.sk (S.sk (S.sk (S.sk (S.o q.pt (S.end (hK _ ?_))))))
        clear hK K
        refine Ev.ct ?_
        have hcd : cutAt z i := by first | exact .inl (by omega) | exact (cutAt_of (by omega)).1 ‹_›
        refine Ev.sr fun K hK => S.o q.mv (S.o q.mv (S.o q.mv (S.o q.mv (S.o (q.slbo am_el9 am_un9) (S.nn (q.bs [[_]] true am_el69 am_ze9 am_cl9) (S.ap' [_] am_el69 am_ze9 am_cl9 am_by9 (hh := head_own') (hr := (rows_lit [_])) (h := S.o q.as (S.end (hK _ ?_)))))))))
        clear hK K
        refine Ev.region_S fun K hK => S.o q.mv (S.o q.add (S.o q.as (S.end (hK _ ?_))))
        clear hK K
        show Ev _ _ _ _
        refine Ev.region_S fun K hK => S.o q.mv (S.o q.add (S.o q.as (S.end (hK _ ?_))))
        clear hK K
        refine hR0 _ _ ?_
        refine roundU [2] [0, 2] ⟨(wordN1 z ow fr i, wordN2 z fr i, i + 1), hnx, ?_⟩ ?_ (keep_c (he := (by first | (rw [wordN1, if_pos hcd]; simp; done) | (rw [wordN1, if_neg (fun h => absurd ((cutAt_of (by omega)).2 h) ‹_›)]; done) | rfl)) (h := keep_n)) (slots_c (he := (by first | (rw [wordN2, if_pos hcd]; rfl) | (rw [wordN2, if_neg (fun h => absurd ((cutAt_of (by omega)).2 h) ‹_›)]; done) | rfl)) (h := (slots_c (he := (by first | rfl | (simp; done))) (h := (slots_c (he := (by first | (rw [wordN1, if_pos hcd]; simp; done) | (rw [wordN1, if_neg (fun h => absurd ((cutAt_of (by omega)).2 h) ‹_›)]; done) | rfl)) (h := trivial)))))) (.c (.c .n))
        all_goals first | (dsimp only; omega) | (dsimp only; unfold wordN1; split <;> (try simp only [List.length_append, List.length_cons, List.length_nil]) <;> omega)
        all_goals (dsimp only; omega)
      · first
      | (first | omega | contradiction)
      | refine S.o q.mv (S.o q.mv (S.o (q.six am_un9 (hl := (by first | exact atig (by omega)))) (S.o q.eql (S.o q.pf (S.end (hK _ ?_))))))
        clear hK K
        refine Ev.cd (fun c4 => ?_) (fun c4 => ?_)
        · first
        | (first | omega | contradiction)
        | have hcd : cutAt z i := by first | exact .inl (by omega) | exact (cutAt_of (by omega)).1 ‹_›
          refine Ev.sr fun K hK => S.o q.mv (S.o q.mv (S.o q.mv (S.o q.mv (S.o (q.slbo am_el9 am_un9) (S.nn (q.bs [[_]] true am_el69 am_ze9 am_cl9) (S.ap' [_] am_el69 am_ze9 am_cl9 am_by9 (hh := head_own') (hr := (rows_lit [_])) (h := S.o q.as (S.end (hK _ ?_)))))))))
          clear hK K
          refine Ev.region_S fun K hK => S.o q.mv (S.o q.add (S.o q.as (S.end (hK _ ?_))))
          clear hK K
          show Ev _ _ _ _
          refine Ev.region_S fun K hK => S.o q.mv (S.o q.add (S.o q.as (S.end (hK _ ?_))))
          clear hK K
          refine hR0 _ _ ?_
          refine roundU [2] [0, 2] ⟨(wordN1 z ow fr i, wordN2 z fr i, i + 1), hnx, ?_⟩ ?_ (keep_c (he := (by first | (rw [wordN1, if_pos hcd]; simp; done) | (rw [wordN1, if_neg (fun h => absurd ((cutAt_of (by omega)).2 h) ‹_›)]; done) | rfl)) (h := keep_n)) (slots_c (he := (by first | (rw [wordN2, if_pos hcd]; rfl) | (rw [wordN2, if_neg (fun h => absurd ((cutAt_of (by omega)).2 h) ‹_›)]; done) | rfl)) (h := (slots_c (he := (by first | rfl | (simp; done))) (h := (slots_c (he := (by first | (rw [wordN1, if_pos hcd]; simp; done) | (rw [wordN1, if_neg (fun h => absurd ((cutAt_of (by omega)).2 h) ‹_›)]; done) | rfl)) (h := trivial)))))) (.c (.c .n))
          all_goals first | (dsimp only; omega) | (dsimp only; unfold wordN1; split <;> (try simp only [List.length_append, List.length_cons, List.length_nil]) <;> omega)
          all_goals (dsimp only; omega)
        · first
        | (first | omega | contradiction)
        | refine Ev.skip ?_
          show Ev _ _ _ _
          refine Ev.region_S fun K hK => S.o q.mv (S.o q.add (S.o q.as (S.end (hK _ ?_))))
          clear hK K
          refine hR0 _ _ ?_
          refine roundU [0] [0, 2] ⟨(wordN1 z ow fr i, wordN2 z fr i, i + 1), hnx, ?_⟩ ?_ (keep_c (he := (by first | (rw [wordN1, if_pos hcd]; simp; done) | (rw [wordN1, if_neg (fun h => absurd ((cutAt_of (by omega)).2 h) ‹_›)]; done) | rfl)) (h := keep_n)) (slots_c (he := (by first | (rw [wordN2, if_pos hcd]; rfl) | (rw [wordN2, if_neg (fun h => absurd ((cutAt_of (by omega)).2 h) ‹_›)]; done) | rfl)) (h := (slots_c (he := (by first | rfl | (simp; done))) (h := (slots_c (he := (by first | (rw [wordN1, if_pos hcd]; simp; done) | (rw [wordN1, if_neg (fun h => absurd ((cutAt_of (by omega)).2 h) ‹_›)]; done) | rfl)) (h := trivial)))))) (.c (.c .n))
          all_goals first | (dsimp only; omega) | (dsimp only; unfold wordN1; split <;> (try simp only [List.length_append, List.length_cons, List.length_nil]) <;> omega)
          all_goals (dsimp only; omega)
    · first | omega | contradiction
end Go.Proofs.YtddogeicmhbidaaGreatDoor
namespace Go.Proofs.YtddogeicmhbidaaGreatDoor
open Go Go.AM
set_option linter.unusedSimpArgs false
set_option linter.unusedVariables false
set_option maxRecDepth 100000
set_option maxHeartbeats 2000000

theorem numV_bd2 {w : List UInt8} (h : allDig w) (hl : w.length ≤ 10) : 0 ≤ numV w ∧ numV w ≤ 9999999999 := by
  obtain ⟨m, h1, h2⟩ := dec_some w 0 h
  rw [numV, h1]
  have h3 : 10 ^ w.length ≤ 10 ^ 10 := Nat.pow_le_pow_right (by decide) hl
  have h4 : (10 : Nat) ^ 10 = 10000000000 := by decide
  simp only [Option.getD_some]
  omega
theorem numV_snoc {w : List UInt8} {b : UInt8} (h : allDig w) (hb : 48 ≤ b.toNat ∧ b.toNat ≤ 57) : numV (w ++ [b]) = 10 * numV w + ((b.toNat : Int) - 48) := by
  obtain ⟨m, h1, _⟩ := dec_some w 0 h
  rw [numV, numV, dec_snoc, h1, Option.bind_some, dig_val hb, Option.map_some, Option.getD_some, Option.getD_some]
  omega
theorem allDig_snoc {w : List UInt8} {b : UInt8} (h : allDig w) (hb : 48 ≤ b.toNat ∧ b.toNat ≤ 57) : allDig (w ++ [b]) := by
  intro x hx
  simp only [List.mem_append, List.mem_singleton] at hx
  rcases hx with hx | rfl
  · exact h x hx
  · exact hb
theorem rnumber_fun (w : List UInt8) (hw : w.length ≤ 1000000) : Fun Tryz.prog 68 [.lit (str w)] (Ret (.tup [.lit (.int .i64 (if numOk w then numV w else 0)), .lit (.bool (decide (numOk w)))]) []) := by
  refine Fun.of (nt := 44) (rs := [.tmp 2, .tmp 3]) Tryz.func68 rfl rfl rfl rfl rfl ?_
  refine Ev.sr fun K hK => S.o q.as (S.o q.as (S.end (hK _ ?_)))
  clear hK K
  refine Ev.seq ?_
  refine Ev.sr fun K hK => S.o q.mv (S.o (q.slen am_el9 am_un9) (S.o q.lss (S.bd q.mv (fun c1 => ?_) (fun c1 => ?_))))
  · first
  | (first | omega | contradiction)
  | refine S.sk (S.sk (S.sk (S.o q.pt (S.o q.mv (S.sk (S.sk (S.sk (S.sk (S.sk (S.sk (S.sk (S.sk (S.o q.pt (S.end (hK _ ?_)))))))))))))))
    clear hK K
    refine Ev.ct ?_
    have hno : ¬ numOk w := by first | exact (fun h => by have := h.1.1; omega) | exact (fun h => by have := h.2.1; omega) | exact numOk_z ‹_› ‹_›
    refine Ev.sr fun K hK => S.o q.as (S.o q.as (S.end (hK _ ?_)))
    clear hK K
    refine Ev.ret ?_
    refine Ev.ret2 ?_
    refine ⟨?_, rfl⟩
    first | (rw [if_neg hno, decide_eq_false hno]; done) | (rw [if_pos hok, decide_eq_true hok]; done)
  · first
  | (first | omega | contradiction)
  | refine S.o q.mv (S.o (q.slen am_el9 am_un9) (S.o q.gtr (S.o q.pf (S.bd q.mv (fun c2 => ?_) (fun c2 => ?_)))))
    · first
    | (first | omega | contradiction)
    | refine S.sk (S.sk (S.sk (S.sk (S.sk (S.sk (S.sk (S.sk (S.o q.pt (S.end (hK _ ?_))))))))))
      clear hK K
      refine Ev.ct ?_
      have hno : ¬ numOk w := by first | exact (fun h => by have := h.1.1; omega) | exact (fun h => by have := h.2.1; omega) | exact numOk_z ‹_› ‹_›
      refine Ev.sr fun K hK => S.o q.as (S.o q.as (S.end (hK _ ?_)))
      clear hK K
      refine Ev.ret ?_
      refine Ev.ret2 ?_
      refine ⟨?_, rfl⟩
      first | (rw [if_neg hno, decide_eq_false hno]; done) | (rw [if_pos hok, decide_eq_true hok]; done)
    · first
    | (first | omega | contradiction)
    | refine S.o q.mv (S.o (q.slen am_el9 am_un9) (S.o q.gtr (S.bd q.mv (fun c3 => ?_) (fun c3 => ?_))))
      · first
      | (first | omega | contradiction)
      | refine S.o q.mv (S.o (q.six am_un9 (hl := (by first | exact atig (by omega)))) (S.o q.eql (S.o q.pt (S.o q.pf (S.end (hK _ ?_))))))
        clear hK K
        refine Ev.cd (fun c4 => ?_) (fun c4 => ?_)
        · first
        | (first | omega | contradiction)
        | have hno : ¬ numOk w := by first | exact (fun h => by have := h.1.1; omega) | exact (fun h => by have := h.2.1; omega) | exact numOk_z ‹_› ‹_›
          refine Ev.sr fun K hK => S.o q.as (S.o q.as (S.end (hK _ ?_)))
          clear hK K
          refine Ev.ret ?_
          refine Ev.ret2 ?_
          refine ⟨?_, rfl⟩
          first | (rw [if_neg hno, decide_eq_false hno]; done) | (rw [if_pos hok, decide_eq_true hok]; done)
        · first
        | (first | omega | contradiction)
        | refine Ev.skip ?_
          show Ev _ _ _ _
          have hz : ¬ (1 : Int) < w.length ∨ ¬ ((w[(0 : Int).toNat]!.toNat : Nat) : Int) = 48 := by first | exact .inl (by omega) | exact .inr ‹_›
          have hl1 : 1 ≤ w.length := by omega
          have hl2 : w.length ≤ 10 := by omega
          refine Ev.sr fun K hK => S.o q.as (S.end (hK _ ?_))
          clear hK K
          refine Ev.seq ?_
          refine Ev.sr fun K hK => S.o q.as (S.end (hK _ ?_))
          clear hK K
          refine Ev.block ?_
          refine Ev.loopU (ι := {q : List UInt8 × List UInt8 // q.1 ++ q.2 = w ∧ allDig q.1}) [] [0] (fun ⟨(pre, suf), _⟩ => [(5, .lit (.int .i64 ((pre.length : Int)))), (4, .lit (.int .i64 (numV pre)))]) (fun ⟨(pre, suf), _⟩ => []) (fun ⟨(pre, suf), _⟩ => suf.length) ⟨([], w), rfl, fun x hx => by cases hx⟩ (.c .n) keep_n (slots_c (he := (by first | rfl | (congr 2; simp; done))) (h := (slots_c (he := (by first | rfl | exact iE (numV_snoc hinv hsd).symm)) (h := trivial)))) ?_
          rintro ⟨⟨pre, suf⟩, hp, hinv⟩ R0 hR0
          dsimp only [List.cons_append, List.nil_append, List.length_cons, List.length_nil]
          simp only at hp hinv
          have hpl : pre.length + suf.length = (w).length := by rw [← hp, List.length_append]
          rcases suf with _ | ⟨s, suf⟩
          · rw [List.append_nil] at hp; subst pre; simp only [List.length_nil] at hpl
            refine Ev.seq ?_
            refine Ev.sr fun K hK => S.o q.mv (S.o q.mv (S.o (q.slen am_el9 am_un9) (S.o q.lss (S.end (hK _ ?_)))))
            clear hK K
            refine Ev.cd (fun c5 => ?_) (fun c5 => ?_)
            · first | omega | contradiction
            · first
            | (first | omega | contradiction)
            | refine Ev.exit ?_
              refine hR0 _ _ ?_
              show Ev _ _ _ _
              have hok : numOk w := numOk_y ⟨by omega, hinv⟩ hl2 hz
              refine Ev.sr fun K hK => S.o q.mv (S.o q.as (S.o q.as (S.end (hK _ ?_))))
              clear hK K
              refine Ev.ret ?_
              refine Ev.ret2 ?_
              refine ⟨?_, rfl⟩
              first | (rw [if_neg hno, decide_eq_false hno]; done) | (rw [if_pos hok, decide_eq_true hok]; done)
          · simp only [List.length_cons] at hpl
            have hidx : (w)[pre.length]? = some s := by rw [← hp]; simp
            refine Ev.seq ?_
            refine Ev.sr fun K hK => S.o q.mv (S.o q.mv (S.o (q.slen am_el9 am_un9) (S.o q.lss (S.end (hK _ ?_)))))
            clear hK K
            refine Ev.cd (fun c6 => ?_) (fun c6 => ?_)
            · first
            | (first | omega | contradiction)
            | refine Ev.skip ?_
              show Ev _ _ _ _
              refine Ev.seq ?_
              refine Ev.block ?_
              refine Ev.seq ?_
              refine Ev.sr fun K hK => S.o q.mv (S.o q.mv (S.o (q.six am_un9 (hl := (by first | exact ati hidx (by omega) | exact atig (by omega)))) (S.c0 (hF := rdigit_fun _) (h := S.o q.not (S.end (hK _ ?_))))))
              clear hK K
              refine Ev.cn (fun c7 => ?_) (fun c7 => ?_)
              · first
              | (first | omega | contradiction)
              | have hno : ¬ numOk w := fun h => by
                  have h1 := h.1.2 s (List.mem_of_getElem? hidx)
                  have h2 : ¬ IsD (s.toNat : Int) := ‹_›
                  exact h2 (by unfold IsD; omega)
                refine Ev.sr fun K hK => S.o q.as (S.o q.as (S.end (hK _ ?_)))
                clear hK K
                refine Ev.ret ?_
                refine hR0 _ _ ?_
                refine Ev.ret2 ?_
                refine ⟨?_, rfl⟩
                first | (rw [if_neg hno, decide_eq_false hno]; done) | (rw [if_pos hok, decide_eq_true hok]; done)
              · first
              | (first | omega | contradiction)
              | refine Ev.skip ?_
                show Ev _ _ _ _
                have hsd : 48 ≤ s.toNat ∧ s.toNat ≤ 57 := by
                  have h2 : IsD (s.toNat : Int) := ‹_›
                  unfold IsD at h2; omega
                obtain ⟨v1, v2⟩ := numV_bd2 hinv (by omega)
                refine Ev.region_S fun K hK => S.o q.mv (S.o q.mul (S.o q.mv (S.o q.mv (S.o (q.six am_un9 (hl := (by first | exact ati hidx (by omega) | exact atig (by omega)))) (S.o q.subb (S.o (q.cvi am_un3 am_us5) (S.o q.add (S.o q.as (S.end (hK _ ?_))))))))))
                clear hK K
                show Ev _ _ _ _
                refine Ev.region_S fun K hK => S.o q.mv (S.o q.add (S.o q.as (S.end (hK _ ?_))))
                clear hK K
                refine hR0 _ _ ?_
                refine roundU [] [0] ⟨(pre ++ [s], suf), by rw [← hp]; simp, ?_⟩ ?_ keep_n (slots_c (he := (by first | rfl | (congr 2; simp; done))) (h := (slots_c (he := (by first | rfl | exact iE (numV_snoc hinv hsd).symm)) (h := trivial)))) (.c .n)
                exact allDig_snoc hinv hsd
                all_goals (dsimp only; simp only [List.length_cons]; omega)
            · first | omega | contradiction
      · first
      | (first | omega | contradiction)
      | refine S.sk (S.sk (S.sk (S.o q.pf (S.o q.pf (S.end (hK _ ?_))))))
        clear hK K
        refine Ev.cf ?_
        refine Ev.skip ?_
        show Ev _ _ _ _
        have hz : ¬ (1 : Int) < w.length ∨ ¬ ((w[(0 : Int).toNat]!.toNat : Nat) : Int) = 48 := by first | exact .inl (by omega) | exact .inr ‹_›
        have hl1 : 1 ≤ w.length := by omega
        have hl2 : w.length ≤ 10 := by omega
        refine Ev.sr fun K hK => S.o q.as (S.end (hK _ ?_))
        clear hK K
        refine Ev.seq ?_
        refine Ev.sr fun K hK => S.o q.as (S.end (hK _ ?_))
        clear hK K
        refine Ev.block ?_
        refine Ev.loopU (ι := {q : List UInt8 × List UInt8 // q.1 ++ q.2 = w ∧ allDig q.1}) [] [0] (fun ⟨(pre, suf), _⟩ => [(5, .lit (.int .i64 ((pre.length : Int)))), (4, .lit (.int .i64 (numV pre)))]) (fun ⟨(pre, suf), _⟩ => []) (fun ⟨(pre, suf), _⟩ => suf.length) ⟨([], w), rfl, fun x hx => by cases hx⟩ (.c .n) keep_n (slots_c (he := (by first | rfl | (congr 2; simp; done))) (h := (slots_c (he := (by first | rfl | exact iE (numV_snoc hinv hsd).symm)) (h := trivial)))) ?_
        rintro ⟨⟨pre, suf⟩, hp, hinv⟩ R0 hR0
        dsimp only [List.cons_append, List.nil_append, List.length_cons, List.length_nil]
        simp only at hp hinv
        have hpl : pre.length + suf.length = (w).length := by rw [← hp, List.length_append]
        rcases suf with _ | ⟨s, suf⟩
        · rw [List.append_nil] at hp; subst pre; simp only [List.length_nil] at hpl
          refine Ev.seq ?_
          refine Ev.sr fun K hK => S.o q.mv (S.o q.mv (S.o (q.slen am_el9 am_un9) (S.o q.lss (S.end (hK _ ?_)))))
          clear hK K
          refine Ev.cd (fun c8 => ?_) (fun c8 => ?_)
          · first | omega | contradiction
          · first
          | (first | omega | contradiction)
          | refine Ev.exit ?_
            refine hR0 _ _ ?_
            show Ev _ _ _ _
            have hok : numOk w := numOk_y ⟨by omega, hinv⟩ hl2 hz
            refine Ev.sr fun K hK => S.o q.mv (S.o q.as (S.o q.as (S.end (hK _ ?_))))
            clear hK K
            refine Ev.ret ?_
            refine Ev.ret2 ?_
            refine ⟨?_, rfl⟩
            first | (rw [if_neg hno, decide_eq_false hno]; done) | (rw [if_pos hok, decide_eq_true hok]; done)
        · simp only [List.length_cons] at hpl
          have hidx : (w)[pre.length]? = some s := by rw [← hp]; simp
          refine Ev.seq ?_
          refine Ev.sr fun K hK => S.o q.mv (S.o q.mv (S.o (q.slen am_el9 am_un9) (S.o q.lss (S.end (hK _ ?_)))))
          clear hK K
          refine Ev.cd (fun c9 => ?_) (fun c9 => ?_)
          · first
          | (first | omega | contradiction)
          | refine Ev.skip ?_
            show Ev _ _ _ _
            refine Ev.seq ?_
            refine Ev.block ?_
            refine Ev.seq ?_
            refine Ev.sr fun K hK => S.o q.mv (S.o q.mv (S.o (q.six am_un9 (hl := (by first | exact ati hidx (by omega) | exact atig (by omega)))) (S.c0 (hF := rdigit_fun _) (h := S.o q.not (S.end (hK _ ?_))))))
            clear hK K
            refine Ev.cn (fun c10 => ?_) (fun c10 => ?_)
            · first
            | (first | omega | contradiction)
            | have hno : ¬ numOk w := fun h => by
                have h1 := h.1.2 s (List.mem_of_getElem? hidx)
                have h2 : ¬ IsD (s.toNat : Int) := ‹_›
                exact h2 (by unfold IsD; omega)
              refine Ev.sr fun K hK => S.o q.as (S.o q.as (S.end (hK _ ?_)))
              clear hK K
              refine Ev.ret ?_
              refine hR0 _ _ ?_
              refine Ev.ret2 ?_
              refine ⟨?_, rfl⟩
              first | (rw [if_neg hno, decide_eq_false hno]; done) | (rw [if_pos hok, decide_eq_true hok]; done)
            · first
            | (first | omega | contradiction)
            | refine Ev.skip ?_
              show Ev _ _ _ _
              have hsd : 48 ≤ s.toNat ∧ s.toNat ≤ 57 := by
                have h2 : IsD (s.toNat : Int) := ‹_›
                unfold IsD at h2; omega
              obtain ⟨v1, v2⟩ := numV_bd2 hinv (by omega)
              refine Ev.region_S fun K hK => S.o q.mv (S.o q.mul (S.o q.mv (S.o q.mv (S.o (q.six am_un9 (hl := (by first | exact ati hidx (by omega) | exact atig (by omega)))) (S.o q.subb (S.o (q.cvi am_un3 am_us5) (S.o q.add (S.o q.as (S.end (hK _ ?_))))))))))
              clear hK K
              show Ev _ _ _ _
              refine Ev.region_S fun K hK => S.o q.mv (S.o q.add (S.o q.as (S.end (hK _ ?_))))
              clear hK K
              refine hR0 _ _ ?_
              refine roundU [] [0] ⟨(pre ++ [s], suf), by rw [← hp]; simp, ?_⟩ ?_ keep_n (slots_c (he := (by first | rfl | (congr 2; simp; done))) (h := (slots_c (he := (by first | rfl | exact iE (numV_snoc hinv hsd).symm)) (h := trivial)))) (.c .n)
              exact allDig_snoc hinv hsd
              all_goals (dsimp only; simp only [List.length_cons]; omega)
          · first | omega | contradiction
end Go.Proofs.YtddogeicmhbidaaGreatDoor
namespace Go.Proofs.YtddogeicmhbidaaGreatDoor
open Go Go.AM
set_option linter.unusedSimpArgs false
set_option linter.unusedVariables false
set_option maxRecDepth 100000
set_option maxHeartbeats 2000000

theorem rread_short (z : List UInt8) (hs : z.length ≤ 262144) (h5 : (splitG 0 32 z).length < 5) : Fun Tryz.prog 40 [.lit (str z)] (Ret (.tup [.agg zeroB.c, .lit (.bool false)]) []) := by
  refine Fun.of (nt := 112) (rs := [.cell 2 49, .tmp 3]) Tryz.func40 rfl rfl rfl rfl rfl ?_
  refine Ev.sr fun K hK => S.nn (q.al am_ze49) (S.o q.as (S.end (hK _ ?_)))
  clear hK K
  refine Ev.sr fun K hK => S.o q.mv (S.c0 (hF := words_fun _ (by omega)) (h := S.o q.as (S.end (hK _ ?_))))
  clear hK K
  refine Ev.seq ?_
  refine Ev.sr fun K hK => S.o q.mv (S.o (q.lens am_el69) (S.o q.lss (S.bd q.mv (fun c1 => ?_) (fun c1 => ?_))))
  · first
  | (first | omega | contradiction)
  | refine S.sk (S.sk (S.sk (S.sk (S.sk (S.o q.pt (S.o q.mv (S.sk (S.sk (S.sk (S.sk (S.sk (S.o q.pt (S.o q.mv (S.sk (S.sk (S.sk (S.sk (S.sk (S.sk (S.o q.pt (S.o q.mv (S.sk (S.sk (S.sk (S.sk (S.sk (S.sk (S.o q.pt (S.end (hK _ ?_))))))))))))))))))))))))))))))
    clear hK K
    refine Ev.ct ?_
    refine Ev.sr fun K hK => S.o (q.bd [_, _, _, _, _] am_ze49 am_pl49) (S.sv [_, _, _, _, _] true [] am_in49 am_cl49 (h := S.o q.as (S.end (hK _ ?_))))
    clear hK K
    refine Ev.weaken (Wk.nshr [[0, 0, 0, 0, 2]] 0 []) ?_
    refine Ev.ret ?_
    refine Ev.retv2 (res_c [_, _, _, _, _] am_ag49 am_cl49 (res_t res_n)) ?_
    refine ⟨?_, rfl⟩
    rfl
  · first
  | (first | omega | contradiction)
  | refine S.o q.mv (S.o (q.ix am_el69 am_cl9 (hl := (by first | exact atig (by omega)))) (S.o (q.ls am_ag9) (S.c0 (hF := risName_fun _ (by omega)) (h := S.o q.not (S.o q.pf (S.bn q.mv (fun c2 => ?_) (fun c2 => ?_)))))))
    · first
    | (first | omega | contradiction)
    | refine S.sk (S.sk (S.sk (S.sk (S.sk (S.o q.pt (S.o q.mv (S.sk (S.sk (S.sk (S.sk (S.sk (S.sk (S.o q.pt (S.o q.mv (S.sk (S.sk (S.sk (S.sk (S.sk (S.sk (S.o q.pt (S.end (hK _ ?_)))))))))))))))))))))))
      clear hK K
      refine Ev.ct ?_
      refine Ev.sr fun K hK => S.o (q.bd [_, _, _, _, _] am_ze49 am_pl49) (S.sv [_, _, _, _, _] true [] am_in49 am_cl49 (h := S.o q.as (S.end (hK _ ?_))))
      clear hK K
      refine Ev.weaken (Wk.nshr [[0, 0, 0, 0, 2]] 0 []) ?_
      refine Ev.ret ?_
      refine Ev.retv2 (res_c [_, _, _, _, _] am_ag49 am_cl49 (res_t res_n)) ?_
      refine ⟨?_, rfl⟩
      rfl
    · first
    | (first | omega | contradiction)
    | refine S.o q.mv (S.o (q.ix am_el69 am_cl9 (hl := (by first | exact atig (by omega)))) (S.o (q.ls am_ag9) (S.o (q.slen am_el9 am_un9) (S.o q.neq (S.o q.pf (S.bn q.mv (fun c3 => ?_) (fun c3 => ?_)))))))
      · first
      | (first | omega | contradiction)
      | refine S.sk (S.sk (S.sk (S.sk (S.sk (S.sk (S.o q.pt (S.o q.mv (S.sk (S.sk (S.sk (S.sk (S.sk (S.sk (S.o q.pt (S.end (hK _ ?_))))))))))))))))
        clear hK K
        refine Ev.ct ?_
        refine Ev.sr fun K hK => S.o (q.bd [_, _, _, _, _] am_ze49 am_pl49) (S.sv [_, _, _, _, _] true [] am_in49 am_cl49 (h := S.o q.as (S.end (hK _ ?_))))
        clear hK K
        refine Ev.weaken (Wk.nshr [[0, 0, 0, 0, 2]] 0 []) ?_
        refine Ev.ret ?_
        refine Ev.retv2 (res_c [_, _, _, _, _] am_ag49 am_cl49 (res_t res_n)) ?_
        refine ⟨?_, rfl⟩
        rfl
      · first
      | (first | omega | contradiction)
      | refine S.o q.mv (S.o (q.ix am_el69 am_cl9 (hl := (by first | exact atig (by omega)))) (S.o (q.ls am_ag9) (S.o (q.six am_un9 (hl := (by first | exact atig (by omega)))) (S.c0 (hF := rdigit_fun _) (h := S.o q.not (S.o q.pf (S.bn q.mv (fun c4 => ?_) (fun c4 => ?_))))))))
        · first
        | (first | omega | contradiction)
        | refine S.sk (S.sk (S.sk (S.sk (S.sk (S.sk (S.o q.pt (S.end (hK _ ?_))))))))
          clear hK K
          refine Ev.ct ?_
          refine Ev.sr fun K hK => S.o (q.bd [_, _, _, _, _] am_ze49 am_pl49) (S.sv [_, _, _, _, _] true [] am_in49 am_cl49 (h := S.o q.as (S.end (hK _ ?_))))
          clear hK K
          refine Ev.weaken (Wk.nshr [[0, 0, 0, 0, 2]] 0 []) ?_
          refine Ev.ret ?_
          refine Ev.retv2 (res_c [_, _, _, _, _] am_ag49 am_cl49 (res_t res_n)) ?_
          refine ⟨?_, rfl⟩
          rfl
        · first
        | (first | omega | contradiction)
        | refine S.o q.mv (S.o (q.ix am_el69 am_cl9 (hl := (by first | exact atig (by omega)))) (S.o (q.ls am_ag9) (S.o (q.six am_un9 (hl := (by first | exact atig (by omega)))) (S.c0 (hF := rdigit_fun _) (h := S.o q.not (S.o q.pf (S.end (hK _ ?_))))))))
          clear hK K
          refine Ev.cn (fun c5 => ?_) (fun c5 => ?_)
          · first
          | (first | omega | contradiction)
          | refine Ev.sr fun K hK => S.o (q.bd [_, _, _, _, _] am_ze49 am_pl49) (S.sv [_, _, _, _, _] true [] am_in49 am_cl49 (h := S.o q.as (S.end (hK _ ?_))))
            clear hK K
            refine Ev.weaken (Wk.nshr [[0, 0, 0, 0, 2]] 0 []) ?_
            refine Ev.ret ?_
            refine Ev.retv2 (res_c [_, _, _, _, _] am_ag49 am_cl49 (res_t res_n)) ?_
            refine ⟨?_, rfl⟩
            rfl
          · first
          | (first | omega | contradiction)
          | refine Ev.skip ?_
            show Ev _ _ _ _
            omega

theorem dig2 {k : List UInt8} (h : k.length = 2) (h0 : IsD ((k[(0 : Int).toNat]!.toNat : Nat) : Int)) (h1 : IsD ((k[(1 : Int).toNat]!.toNat : Nat) : Int)) : digW k := by
  rcases k with _ | ⟨x, _ | ⟨y, _ | ⟨z, k⟩⟩⟩
  · simp at h
  · simp at h
  · have e0 : 48 ≤ x.toNat ∧ x.toNat ≤ 57 := by have h2 : IsD ((x.toNat : Nat) : Int) := h0; unfold IsD at h2; omega
    have e1 : 48 ≤ y.toNat ∧ y.toNat ≤ 57 := by have h2 : IsD ((y.toNat : Nat) : Int) := h1; unfold IsD at h2; omega
    refine ⟨by simp, fun b hb => ?_⟩
    simp only [List.mem_cons, List.not_mem_nil, or_false] at hb
    rcases hb with rfl | rfl
    · exact e0
    · exact e1
  · simp at h
theorem dig2_no {k : List UInt8} (h : k.length = 2) (hd : digW k) : IsD ((k[(0 : Int).toNat]!.toNat : Nat) : Int) ∧ IsD ((k[(1 : Int).toNat]!.toNat : Nat) : Int) := by
  obtain ⟨⟨z1, z2⟩, ⟨z3, z4⟩, _⟩ := codeV_at h hd.2
  unfold IsD
  omega
theorem rread_long (z m a c k d : List UInt8) (r : List (List UInt8)) (hs : z.length ≤ 262144) (hW : splitG 0 32 z = m :: a :: c :: k :: d :: r) : Fun Tryz.prog 40 [.lit (str z)] (Ret (.tup [.agg ((readB z).getD zeroB).c, .lit (.bool (readB z).isSome)]) []) := by
  have hle : ∀ w ∈ splitG 0 32 z, w.length ≤ 262144 := fun w h => by have := split_le w h; omega
  have hn := splitG_len 0 32 z
  have hc0 : Go.Lib.countByte z 32 ≤ z.length := List.count_le_length
  rw [hW] at hle hn
  have hm := hle m (by simp)
  have hk := hle k (by simp)
  have ha := hle a (by simp)
  have hcc := hle c (by simp)
  have hlen : (m :: a :: c :: k :: d :: r).length = r.length + 5 := by simp
  have hdl : (d :: r).length = r.length + 1 := by simp
  have i0 : (m :: a :: c :: k :: d :: r)[0]? = some m := rfl
  have i1 : (m :: a :: c :: k :: d :: r)[1]? = some a := rfl
  have i2 : (m :: a :: c :: k :: d :: r)[2]? = some c := rfl
  have i3 : (m :: a :: c :: k :: d :: r)[3]? = some k := rfl
  refine Fun.of (nt := 112) (rs := [.cell 2 49, .tmp 3]) Tryz.func40 rfl rfl rfl rfl rfl ?_
  refine Ev.sr fun K hK => S.nn (q.al am_ze49) (S.o q.as (S.end (hK _ ?_)))
  clear hK K
  refine Ev.sr fun K hK => S.o q.mv (S.c0 (hF := words_fun _ (by omega)) (h := S.o q.as (S.end (hK _ ?_))))
  clear hK K
  refine Ev.seq ?_
  rw [hW]
  refine Ev.sr fun K hK => S.o q.mv (S.o (q.lens am_el69) (S.o q.lss (S.bd q.mv (fun c1 => ?_) (fun c1 => ?_))))
  · first
  | (first | omega | contradiction)
  | refine S.sk (S.sk (S.sk (S.sk (S.sk (S.o q.pt (S.o q.mv (S.sk (S.sk (S.sk (S.sk (S.sk (S.o q.pt (S.o q.mv (S.sk (S.sk (S.sk (S.sk (S.sk (S.sk (S.o q.pt (S.o q.mv (S.sk (S.sk (S.sk (S.sk (S.sk (S.sk (S.o q.pt (S.end (hK _ ?_))))))))))))))))))))))))))))))
    clear hK K
    refine Ev.ct ?_
    have hno : ¬ lineOk m a c k (d :: r) := by first | exact fun h => absurd h.1 ‹_› | exact (fun h => by have := h.2.1; omega) | exact fun h => absurd (dig2_no h.2.1 h.2.2.1).1 ‹_› | exact fun h => absurd (dig2_no h.2.1 h.2.2.1).2 ‹_›
    have hrd : readB z = none := readB_no hW hno
    refine Ev.sr fun K hK => S.o (q.bd [_, _, _, _, _] am_ze49 am_pl49) (S.sv [_, _, _, _, _] true [] am_in49 am_cl49 (h := S.o q.as (S.end (hK _ ?_))))
    clear hK K
    refine Ev.weaken (Wk.nshr [[0, 0, 0, 0, 2]] 0 []) ?_
    refine Ev.ret ?_
    refine Ev.retv2 (res_c [_, _, _, _, _] am_ag49 am_cl49 (res_t res_n)) ?_
    refine ⟨?_, rfl⟩
    first | rfl | (rw [hrd]; rfl)
  · first
  | (first | omega | contradiction)
  | refine S.o q.mv (S.o (q.ix am_el69 am_cl9 (hl := (by first | exact ati i0 (by omega) | exact ati i1 (by omega) | exact ati i2 (by omega) | exact ati i3 (by omega) | exact atig (by omega)))) (S.o (q.ls am_ag9) (S.c0 (hF := risName_fun _ (by omega)) (h := S.o q.not (S.o q.pf (S.bn q.mv (fun c2 => ?_) (fun c2 => ?_)))))))
    · first
    | (first | omega | contradiction)
    | refine S.sk (S.sk (S.sk (S.sk (S.sk (S.o q.pt (S.o q.mv (S.sk (S.sk (S.sk (S.sk (S.sk (S.sk (S.o q.pt (S.o q.mv (S.sk (S.sk (S.sk (S.sk (S.sk (S.sk (S.o q.pt (S.end (hK _ ?_)))))))))))))))))))))))
      clear hK K
      refine Ev.ct ?_
      have hno : ¬ lineOk m a c k (d :: r) := by first | exact fun h => absurd h.1 ‹_› | exact (fun h => by have := h.2.1; omega) | exact fun h => absurd (dig2_no h.2.1 h.2.2.1).1 ‹_› | exact fun h => absurd (dig2_no h.2.1 h.2.2.1).2 ‹_›
      have hrd : readB z = none := readB_no hW hno
      refine Ev.sr fun K hK => S.o (q.bd [_, _, _, _, _] am_ze49 am_pl49) (S.sv [_, _, _, _, _] true [] am_in49 am_cl49 (h := S.o q.as (S.end (hK _ ?_))))
      clear hK K
      refine Ev.weaken (Wk.nshr [[0, 0, 0, 0, 2]] 0 []) ?_
      refine Ev.ret ?_
      refine Ev.retv2 (res_c [_, _, _, _, _] am_ag49 am_cl49 (res_t res_n)) ?_
      refine ⟨?_, rfl⟩
      first | rfl | (rw [hrd]; rfl)
    · first
    | (first | omega | contradiction)
    | refine S.o q.mv (S.o (q.ix am_el69 am_cl9 (hl := (by first | exact ati i0 (by omega) | exact ati i1 (by omega) | exact ati i2 (by omega) | exact ati i3 (by omega) | exact atig (by omega)))) (S.o (q.ls am_ag9) (S.o (q.slen am_el9 am_un9) (S.o q.neq (S.o q.pf (S.bn q.mv (fun c3 => ?_) (fun c3 => ?_)))))))
      · first
      | (first | omega | contradiction)
      | refine S.sk (S.sk (S.sk (S.sk (S.sk (S.sk (S.o q.pt (S.o q.mv (S.sk (S.sk (S.sk (S.sk (S.sk (S.sk (S.o q.pt (S.end (hK _ ?_))))))))))))))))
        clear hK K
        refine Ev.ct ?_
        have hno : ¬ lineOk m a c k (d :: r) := by first | exact fun h => absurd h.1 ‹_› | exact (fun h => by have := h.2.1; omega) | exact fun h => absurd (dig2_no h.2.1 h.2.2.1).1 ‹_› | exact fun h => absurd (dig2_no h.2.1 h.2.2.1).2 ‹_›
        have hrd : readB z = none := readB_no hW hno
        refine Ev.sr fun K hK => S.o (q.bd [_, _, _, _, _] am_ze49 am_pl49) (S.sv [_, _, _, _, _] true [] am_in49 am_cl49 (h := S.o q.as (S.end (hK _ ?_))))
        clear hK K
        refine Ev.weaken (Wk.nshr [[0, 0, 0, 0, 2]] 0 []) ?_
        refine Ev.ret ?_
        refine Ev.retv2 (res_c [_, _, _, _, _] am_ag49 am_cl49 (res_t res_n)) ?_
        refine ⟨?_, rfl⟩
        first | rfl | (rw [hrd]; rfl)
      · first
      | (first | omega | contradiction)
      | refine S.o q.mv (S.o (q.ix am_el69 am_cl9 (hl := (by first | exact ati i0 (by omega) | exact ati i1 (by omega) | exact ati i2 (by omega) | exact ati i3 (by omega) | exact atig (by omega)))) (S.o (q.ls am_ag9) (S.o (q.six am_un9 (hl := (by first | exact ati i0 (by omega) | exact ati i1 (by omega) | exact ati i2 (by omega) | exact ati i3 (by omega) | exact atig (by omega)))) (S.c0 (hF := rdigit_fun _) (h := S.o q.not (S.o q.pf (S.bn q.mv (fun c4 => ?_) (fun c4 => ?_))))))))
        · first
        | (first | omega | contradiction)
        | refine S.sk (S.sk (S.sk (S.sk (S.sk (S.sk (S.o q.pt (S.end (hK _ ?_))))))))
          clear hK K
          refine Ev.ct ?_
          have hno : ¬ lineOk m a c k (d :: r) := by first | exact fun h => absurd h.1 ‹_› | exact (fun h => by have := h.2.1; omega) | exact fun h => absurd (dig2_no h.2.1 h.2.2.1).1 ‹_› | exact fun h => absurd (dig2_no h.2.1 h.2.2.1).2 ‹_›
          have hrd : readB z = none := readB_no hW hno
          refine Ev.sr fun K hK => S.o (q.bd [_, _, _, _, _] am_ze49 am_pl49) (S.sv [_, _, _, _, _] true [] am_in49 am_cl49 (h := S.o q.as (S.end (hK _ ?_))))
          clear hK K
          refine Ev.weaken (Wk.nshr [[0, 0, 0, 0, 2]] 0 []) ?_
          refine Ev.ret ?_
          refine Ev.retv2 (res_c [_, _, _, _, _] am_ag49 am_cl49 (res_t res_n)) ?_
          refine ⟨?_, rfl⟩
          first | rfl | (rw [hrd]; rfl)
        · first
        | (first | omega | contradiction)
        | refine S.o q.mv (S.o (q.ix am_el69 am_cl9 (hl := (by first | exact ati i0 (by omega) | exact ati i1 (by omega) | exact ati i2 (by omega) | exact ati i3 (by omega) | exact atig (by omega)))) (S.o (q.ls am_ag9) (S.o (q.six am_un9 (hl := (by first | exact ati i0 (by omega) | exact ati i1 (by omega) | exact ati i2 (by omega) | exact ati i3 (by omega) | exact atig (by omega)))) (S.c0 (hF := rdigit_fun _) (h := S.o q.not (S.o q.pf (S.end (hK _ ?_))))))))
          clear hK K
          refine Ev.cn (fun c5 => ?_) (fun c5 => ?_)
          · first
          | (first | omega | contradiction)
          | have hno : ¬ lineOk m a c k (d :: r) := by first | exact fun h => absurd h.1 ‹_› | exact (fun h => by have := h.2.1; omega) | exact fun h => absurd (dig2_no h.2.1 h.2.2.1).1 ‹_› | exact fun h => absurd (dig2_no h.2.1 h.2.2.1).2 ‹_›
            have hrd : readB z = none := readB_no hW hno
            refine Ev.sr fun K hK => S.o (q.bd [_, _, _, _, _] am_ze49 am_pl49) (S.sv [_, _, _, _, _] true [] am_in49 am_cl49 (h := S.o q.as (S.end (hK _ ?_))))
            clear hK K
            refine Ev.weaken (Wk.nshr [[0, 0, 0, 0, 2]] 0 []) ?_
            refine Ev.ret ?_
            refine Ev.retv2 (res_c [_, _, _, _, _] am_ag49 am_cl49 (res_t res_n)) ?_
            refine ⟨?_, rfl⟩
            first | rfl | (rw [hrd]; rfl)
          · first
          | (first | omega | contradiction)
          | refine Ev.skip ?_
            show Ev _ _ _ _
            have hdk : digW k := dig2 (by omega) ‹_› ‹_›
            obtain ⟨⟨z1, z2⟩, ⟨z3, z4⟩, z5⟩ := codeV_at (k := k) (by omega) hdk.2
            refine Ev.sm (tbs [(0, 0), (1, 1), (2, 3), (0, 0), (4, 8), (5, 24), (6, 56), (7, 120), (8, 248), (9, 504), (0, 0), (11, 1024), (12, 3072), (13, 7168), (14, 15360), (15, 31744), (16, 65528), (17, 131071), (0, 0), (19, 524287)]) 19 fun K hK => M.o q.mv (M.o (q.ix am_el69 am_cl9 (hl := (by first | exact ati i0 (by omega) | exact ati i1 (by omega) | exact ati i2 (by omega) | exact ati i3 (by omega) | exact atig (by omega)))) (M.o (q.ls am_ag9) (M.o q.mv (M.o (q.ix am_el69 am_cl9 (hl := (by first | exact ati i0 (by omega) | exact ati i1 (by omega) | exact ati i2 (by omega) | exact ati i3 (by omega) | exact atig (by omega)))) (M.o (q.ls am_ag9) (M.o (q.six am_un9 (hl := (by first | exact ati i0 (by omega) | exact ati i1 (by omega) | exact ati i2 (by omega) | exact ati i3 (by omega) | exact atig (by omega)))) (M.o q.subb (M.o (q.cvi am_un3 am_us5) (M.o q.mul (M.o q.mv (M.o (q.ix am_el69 am_cl9 (hl := (by first | exact ati i0 (by omega) | exact ati i1 (by omega) | exact ati i2 (by omega) | exact ati i3 (by omega) | exact atig (by omega)))) (M.o (q.ls am_ag9) (M.o (q.six am_un9 (hl := (by first | exact ati i0 (by omega) | exact ati i1 (by omega) | exact ati i2 (by omega) | exact ati i3 (by omega) | exact atig (by omega)))) (M.o q.subb (M.o (q.cvi am_un3 am_us5) (M.o q.add (M.o (q.bd [_, _, _, _, _] am_ze49 am_pl49) (M.nn [_] (q.al am_ze49) (h := M.end [_, _] (h := S.sv [_, _, _, _, _] true [_] am_in49 am_cl49 (h := S.end (hK _ ?_))))))))))))))))))))))
            clear hK K
            refine Ev.sr fun K hK => S.o q.as (S.o q.as (S.end (hK _ ?_)))
            clear hK K
            refine Ev.sr fun K hK => S.o q.mv (S.o (q.ix am_el69 am_cl9 (hl := (by first | exact ati i0 (by omega) | exact ati i1 (by omega) | exact ati i2 (by omega) | exact ati i3 (by omega) | exact atig (by omega)))) (S.o (q.ls am_ag9) (S.c0 (hF := rnumber_fun _ (by omega)) (h := S.o q.mv (S.o q.ex (S.o q.ex (S.o (q.fa 1 am_fi49_1 am_cl3) (S.sv [_, _, _, _, _] true [_] am_in3 am_cl3 (h := S.o q.as (S.end (hK _ ?_)))))))))))
            clear hK K
            refine Ev.sr fun K hK => S.o q.mv (S.o (q.ix am_el69 am_cl9 (hl := (by first | exact ati i0 (by omega) | exact ati i1 (by omega) | exact ati i2 (by omega) | exact ati i3 (by omega) | exact atig (by omega)))) (S.o (q.ls am_ag9) (S.c0 (hF := rnumber_fun _ (by omega)) (h := S.o q.mv (S.o q.ex (S.o q.ex (S.o (q.fa 2 am_fi49_2 am_cl3) (S.sv [_, _, _, _, _] true [_] am_in3 am_cl3 (h := S.o q.as (S.end (hK _ ?_)))))))))))
            clear hK K
            refine Ev.seq ?_
            refine Ev.sr fun K hK => S.o q.mv (S.o q.not (S.bn q.mv (fun c6 => ?_) (fun c6 => ?_)))
            · first
            | (first | omega | contradiction)
            | refine S.sk (S.sk (S.o q.pt (S.end (hK _ ?_))))
              clear hK K
              refine Ev.ct ?_
              have hno : ¬ lineOk m a c k (d :: r) := by first | exact fun h => absurd h.2.2.2.1 ‹_› | exact fun h => absurd h.2.2.2.2.1 ‹_›
              have hrd : readB z = none := readB_no hW hno
              refine Ev.sr fun K hK => S.o (q.bd [_, _, _, _, _] am_ze49 am_pl49) (S.sv [_, _, _, _, _] true [_] am_in49 am_cl49 (h := S.o q.as (S.end (hK _ ?_))))
              clear hK K
              refine Ev.weaken (Wk.nshr [[0, 0, 0, 0, 2]] 0 [_]) ?_
              refine Ev.ret ?_
              refine Ev.retv2 (res_c [_, _, _, _, _] am_ag49 am_cl49 (res_t res_n)) ?_
              refine ⟨?_, rfl⟩
              first | rfl | (rw [hrd]; rfl)
            · first
            | (first | omega | contradiction)
            | refine S.o q.mv (S.o q.not (S.o q.pf (S.end (hK _ ?_))))
              clear hK K
              refine Ev.cn (fun c7 => ?_) (fun c7 => ?_)
              · first
              | (first | omega | contradiction)
              | have hno : ¬ lineOk m a c k (d :: r) := by first | exact fun h => absurd h.2.2.2.1 ‹_› | exact fun h => absurd h.2.2.2.2.1 ‹_›
                have hrd : readB z = none := readB_no hW hno
                refine Ev.sr fun K hK => S.o (q.bd [_, _, _, _, _] am_ze49 am_pl49) (S.sv [_, _, _, _, _] true [_] am_in49 am_cl49 (h := S.o q.as (S.end (hK _ ?_))))
                clear hK K
                refine Ev.weaken (Wk.nshr [[0, 0, 0, 0, 2]] 0 [_]) ?_
                refine Ev.ret ?_
                refine Ev.retv2 (res_c [_, _, _, _, _] am_ag49 am_cl49 (res_t res_n)) ?_
                refine ⟨?_, rfl⟩
                first | rfl | (rw [hrd]; rfl)
              · first
              | (first | omega | contradiction)
              | refine Ev.skip ?_
                show Ev _ _ _ _
                refine Ev.seq ?_
                refine Ev.weaken (Wk.nilv (f := intC) 73 4 3 1 [_]) ?_
                have hna : numOk a := ‹_›
                have hnc : numOk c := ‹_›
                rw [if_pos hna, if_pos hnc]
                refine Ev.sr fun K hK => S.o q.as (S.end (hK _ ?_))
                clear hK K
                refine Ev.block ?_
                refine Ev.loopU (ι := {q : List (List UInt8) × List (List UInt8) // q.1 ++ q.2 = (d :: r) ∧ ∀ x ∈ q.1, numOk x}) [73, 77, 0] [2, 4, 5] (fun ⟨(pre, suf), _⟩ => [(8, .lit (.int .i64 ((4 + pre.length : Int))))]) (fun ⟨(pre, suf), _⟩ => [(0, ⟨false, 49, 5, [[.lit (str (m)), .lit (.int .i64 (numV a)), .lit (.int .i64 (numV c)), .lit (.int .i64 (10 * (((k[(0 : Int).toNat]!.toNat : Nat) : Int) - 48) + (((k[(1 : Int).toNat]!.toNat : Nat) : Int) - 48))), .als 1 0 (pre.map numV).length]], false⟩), (1, ⟨true, 3, 1, (pre.map numV).map intC, true⟩), (2, ⟨false, 49, 5, [[.lit (str []), .lit (.int .i64 (0)), .lit (.int .i64 (0)), .lit (.int .i64 (0)), .lit (.slice none 0 0)]], true⟩)]) (fun ⟨(pre, suf), _⟩ => suf.length) ⟨([], d :: r), rfl, fun x hx => by cases hx⟩ (.c (.c (.c .n))) (keep_d (he := (by first | rfl | (simp; done))) (h := (keep_c (he := (by first | rfl | (simp; done))) (h := (keep_c (he := (by first | rfl | (simp; done))) (h := keep_n)))))) (slots_c (he := (by first | rfl | exact iE (by simp only [List.length_append, List.length_singleton]; omega))) (h := trivial)) ?_
                rintro ⟨⟨pre, suf⟩, hp, hinv⟩ R0 hR0
                dsimp only [List.cons_append, List.nil_append, List.length_cons, List.length_nil]
                simp only at hp hinv
                have hpl : pre.length + suf.length = (d :: r).length := by rw [← hp, List.length_append]
                rcases suf with _ | ⟨s, suf⟩
                · rw [List.append_nil] at hp; subst pre; simp only [List.length_nil] at hpl
                  refine Ev.seq ?_
                  refine Ev.sr fun K hK => S.o q.mv (S.o q.mv (S.o (q.lens am_el69) (S.o q.lss (S.end (hK _ ?_)))))
                  clear hK K
                  refine Ev.cd (fun c8 => ?_) (fun c8 => ?_)
                  · first | omega | contradiction
                  · first
                  | (first | omega | contradiction)
                  | refine Ev.exit ?_
                    refine hR0 _ _ ?_
                    show Ev _ _ _ _
                    have hrd : readB z = some _ := readB_of hW ⟨‹IsName m›, by omega, hdk, hna, hnc, by simp, hinv⟩
                    rw [← z5] at hrd
                    refine Ev.sr fun K hK => S.o (q.lvA [_, _, _, _, _] am_ag49 am_cl49) ?_
                    refine SeqL.weaken (Wk.frzA (f := intC) ((d :: r).map numV) 111 4 [_, _]) ?_
                    refine S.sv [_, _, _, _, _] true [_] am_in49 am_cl49 (h := S.o q.as (S.end (hK _ ?_)))
                    clear hK K
                    refine Ev.weaken (Wk.nshr [[0, 0, 0, 0, 2]] 2 [_]) ?_
                    refine Ev.ret ?_
                    refine Ev.retv2 (res_c [_, _, _, _, _] am_ag49 am_cl49 (res_t res_n)) ?_
                    refine ⟨?_, rfl⟩
                    first | rfl | (rw [hrd]; rfl)
                · simp only [List.length_cons] at hpl
                  have hidx : (m :: a :: c :: k :: d :: r)[(4 + (pre.length : Int)).toNat]? = some s := by
                    rw [show (4 + (pre.length : Int)).toNat = pre.length + 4 by omega]
                    show (d :: r)[pre.length]? = some s
                    rw [← hp]; simp
                  have hsl : s.length ≤ 262144 := hle s (by have h : s ∈ d :: r := by rw [← hp]; simp
                                                            simp only [List.mem_cons] at h ⊢; rcases h with h | h <;> simp [h])
                  refine Ev.seq ?_
                  refine Ev.sr fun K hK => S.o q.mv (S.o q.mv (S.o (q.lens am_el69) (S.o q.lss (S.end (hK _ ?_)))))
                  clear hK K
                  refine Ev.cd (fun c9 => ?_) (fun c9 => ?_)
                  · first
                  | (first | omega | contradiction)
                  | refine Ev.skip ?_
                    show Ev _ _ _ _
                    refine Ev.seq ?_
                    refine Ev.block ?_
                    refine Ev.sr fun K hK => S.o q.mv (S.o q.mv (S.o (q.ix am_el69 am_cl9 (hl := (by first | exact ati i0 (by omega) | exact ati i1 (by omega) | exact ati i2 (by omega) | exact ati i3 (by omega) | exact ati hidx (by omega) | exact atig (by omega)))) (S.o (q.ls am_ag9) (S.c0 (hF := rnumber_fun _ (by omega)) (h := S.o q.mv (S.o q.ex (S.o q.ex (S.o q.as (S.o q.as (S.end (hK _ ?_)))))))))))
                    clear hK K
                    refine Ev.seq ?_
                    refine Ev.sr fun K hK => S.o q.mv (S.o q.not (S.end (hK _ ?_)))
                    clear hK K
                    refine Ev.cn (fun c10 => ?_) (fun c10 => ?_)
                    · first
                    | (first | omega | contradiction)
                    | have hno : ¬ lineOk m a c k (d :: r) := fun h => absurd (h.2.2.2.2.2.2 s (by rw [← hp]; simp)) ‹_›
                      have hrd : readB z = none := readB_no hW hno
                      refine Ev.sr fun K hK => S.o (q.bd [_, _, _, _, _] am_ze49 am_pl49) (S.sv [_, _, _, _, _] true [_, _] am_in49 am_cl49 (h := S.o q.as (S.end (hK _ ?_))))
                      clear hK K
                      refine Ev.weaken (Wk.nshr [[0, 0, 0, 0, 2]] 2 [_, _]) ?_
                      refine Ev.ret ?_
                      refine hR0 _ _ ?_
                      refine Ev.retv2 (res_c [_, _, _, _, _] am_ag49 am_cl49 (res_t res_n)) ?_
                      refine ⟨?_, rfl⟩
                      first | rfl | (rw [hrd]; rfl)
                    · first
                    | (first | omega | contradiction)
                    | refine Ev.skip ?_
                      show Ev _ _ _ _
                      rw [if_pos (‹numOk s› : numOk s)]
                      refine Ev.region_S fun K hK => S.o (q.fa 4 am_fi49_4 am_cl47) (S.o (q.lv am_ag47) (S.o q.mv (S.nn (q.bs [[_]] true am_el47 am_ze3 am_cl3) (S.ap' [_, _, _] am_el47 am_ze3 am_cl3 am_by3 (hh := head_own') (hr := (rows_lit [_])) (h := S.o (q.fa 4 am_fi49_4 am_cl47) (S.sv [_, _, _, _, _] false [_, _, _] am_in47 am_cl47 (h := S.end (hK _ ?_))))))))
                      clear hK K
                      show Ev _ _ _ _
                      refine Ev.region_S fun K hK => S.o q.mv (S.o q.add (S.o q.as (S.end (hK _ ?_))))
                      clear hK K
                      refine hR0 _ _ ?_
                      refine roundU [0, 4, 2] [2, 4, 5] ⟨(pre ++ [s], suf), by rw [← hp]; simp, ?_⟩ ?_ (keep_d (he := (by first | rfl | (simp; done))) (h := (keep_c (he := (by first | rfl | (simp; done))) (h := (keep_c (he := (by first | rfl | (simp; done))) (h := keep_n)))))) (slots_c (he := (by first | rfl | exact iE (by simp only [List.length_append, List.length_singleton]; omega))) (h := trivial)) (.c (.c (.c .n)))
                      intro x hx; dsimp only at hx; simp only [List.mem_append, List.mem_singleton] at hx; rcases hx with hx | rfl
                      · exact hinv x hx
                      · assumption
                      all_goals (dsimp only; simp only [List.length_cons]; omega)
                  · first | omega | contradiction
end Go.Proofs.YtddogeicmhbidaaGreatDoor
namespace Go.Proofs.YtddogeicmhbidaaGreatDoor
open Go Go.AM
set_option linter.unusedSimpArgs false
set_option linter.unusedVariables false
set_option maxRecDepth 100000
set_option maxHeartbeats 2000000

theorem rread_none {l : List UInt8} (hs : l.length ≤ 262144) (h : readB l = none) : Fun Tryz.prog 40 [.lit (str l)] (Ret (.tup [.agg zeroB.c, .lit (.bool false)]) []) := by
  by_cases h5 : (splitG 0 32 l).length < 5
  · exact rread_short l hs h5
  · rcases hW : splitG 0 32 l with _ | ⟨m, _ | ⟨a, _ | ⟨c, _ | ⟨k, _ | ⟨d, r⟩⟩⟩⟩⟩
    · exact absurd (by rw [hW]; simp) h5
    · exact absurd (by rw [hW]; simp) h5
    · exact absurd (by rw [hW]; simp) h5
    · exact absurd (by rw [hW]; simp) h5
    · exact absurd (by rw [hW]; simp) h5
    · have h1 := rread_long l m a c k d r hs hW
      rw [h] at h1
      exact h1
theorem rread_some {l : List UInt8} {x : Bar} (hs : l.length ≤ 262144) (h : readB l = some x) : Fun Tryz.prog 40 [.lit (str l)] (Ret (.tup [.agg x.c, .lit (.bool true)]) []) := by
  by_cases h5 : (splitG 0 32 l).length < 5
  · rw [readB_short h5] at h; cases h
  · rcases hW : splitG 0 32 l with _ | ⟨m, _ | ⟨a, _ | ⟨c, _ | ⟨k, _ | ⟨d, r⟩⟩⟩⟩⟩
    · exact absurd (by rw [hW]; simp) h5
    · exact absurd (by rw [hW]; simp) h5
    · exact absurd (by rw [hW]; simp) h5
    · exact absurd (by rw [hW]; simp) h5
    · exact absurd (by rw [hW]; simp) h5
    · have h1 := rread_long l m a c k d r hs hW
      rw [h] at h1
      exact h1
/-- The bars so far, where the line begins, and the place. -/
structure ParI (z : List UInt8) (bs : List Bar) (fr i : Nat) : Prop where
  a : fr ≤ i
  b : i ≤ z.length
  c : readL (splitG 0 10 (z.drop fr)) bs = readR z
  d : (10 : UInt8) ∉ (z.drop fr).take (i - fr)
  e : bs.length ≤ fr
  f : schedW bs
theorem parI_0 (z : List UInt8) : ParI z [] 0 0 := ⟨Nat.le_refl _, Nat.zero_le _, rfl, by simp, Nat.le_refl _, fun x hx => by cases hx⟩
def lineAt (z : List UInt8) (fr i : Nat) : List UInt8 := (z.take i).drop fr
theorem parI_on {z : List UInt8} {bs : List Bar} {fr i : Nat} {c : UInt8} (h : ParI z bs fr i) (hi : z[i]? = some c) (hc : c ≠ 10) : ParI z bs fr (i + 1) := by
  have hil := (List.getElem?_eq_some_iff.1 hi).1
  have hk : (z.drop fr)[i - fr]? = some c := by rw [List.getElem?_drop, show fr + (i - fr) = i by have := h.a; omega]; exact hi
  refine ⟨by have := h.a; omega, by omega, h.c, ?_, h.e, h.f⟩
  rw [show i + 1 - fr = (i - fr) + 1 by have := h.a; omega, List.take_add_one, hk]
  simp only [Option.toList_some, List.mem_append, List.mem_singleton, not_or]
  exact ⟨h.d, fun e => hc e.symm⟩
theorem parI_step {z : List UInt8} {bs : List Bar} {fr i : Nat} (h : ParI z bs fr i) (hi : z[i]? = some 10) : splitG 0 10 (z.drop fr) = lineAt z fr i :: splitG 0 10 (z.drop (i + 1)) := by
  have hk : (z.drop fr)[i - fr]? = some 10 := by rw [List.getElem?_drop, show fr + (i - fr) = i by have := h.a; omega]; exact hi
  rw [split_at hk h.d, List.drop_drop, show fr + (i - fr + 1) = i + 1 by have := h.a; omega, lineAt, take_drop_eq]
theorem parI_cut {z : List UInt8} {bs : List Bar} {fr i : Nat} {x : Bar} (h : ParI z bs fr i) (hi : z[i]? = some 10) (hx : readB (lineAt z fr i) = some x) (hz : z.length ≤ 262144) : ParI z (bs ++ [x]) (i + 1) (i + 1) := by
  have hil := (List.getElem?_eq_some_iff.1 hi).1
  have hc := h.c
  have hne := splitG_ne 0 10 (z.drop (i + 1))
  rw [parI_step h hi, readL, if_neg (fun h => hne h.2), if_neg hne, hx] at hc
  refine ⟨Nat.le_refl _, by omega, hc, by simp, by have := h.e; have := h.a; simp only [List.length_append, List.length_singleton]; omega, fun y hy => ?_⟩
  simp only [List.mem_append, List.mem_singleton] at hy
  rcases hy with hy | rfl
  · exact h.f y hy
  · have h1 := readB_w hx
    have h2 : (lineAt z fr i).length ≤ z.length := by simp only [lineAt, List.length_drop, List.length_take]; omega
    exact ⟨by omega, by omega⟩
theorem parI_bad {z : List UInt8} {bs : List Bar} {fr i : Nat} (h : ParI z bs fr i) (hi : z[i]? = some 10) (hx : readB (lineAt z fr i) = none) : readR z = ([], (bs.length : Int) + 1) := by
  have hc := h.c
  have hne := splitG_ne 0 10 (z.drop (i + 1))
  rw [parI_step h hi, readL, if_neg (fun h => hne h.2), if_neg hne, hx] at hc
  exact hc.symm
theorem parI_last {z : List UInt8} {bs : List Bar} {fr i : Nat} (h : ParI z bs fr i) (hi : i = z.length) : splitG 0 10 (z.drop fr) = [z.drop fr] := by
  have hd := h.d
  rw [hi, List.take_of_length_le (by simp)] at hd
  exact splitG_no 0 hd
theorem parI_end1 {z : List UInt8} {bs : List Bar} {fr i : Nat} (h : ParI z bs fr i) (hi : i = z.length) (hf : fr < z.length) : readR z = ([], (bs.length : Int) + 1) := by
  have hc := h.c
  have hne : z.drop fr ≠ [] := fun e => by have := congrArg List.length e; simp at this; omega
  rw [parI_last h hi, readL, if_neg (fun h => hne h.1), if_pos rfl] at hc
  exact hc.symm
theorem parI_end2 {z : List UInt8} {bs : List Bar} {fr i : Nat} (h : ParI z bs fr i) (hi : i = z.length) (hf : ¬ fr < z.length) : readR z = (bs, 0) := by
  have hc := h.c
  have he : z.drop fr = [] := List.drop_of_length_le (by omega)
  rw [parI_last h hi, he, readL, if_pos ⟨rfl, rfl⟩] at hc
  exact hc.symm
def parB (z : List UInt8) (bs : List Bar) (fr i : Nat) : List Bar := if z[i]? = some 10 then bs ++ (readB (lineAt z fr i)).toList else bs
def parF (z : List UInt8) (fr i : Nat) : Nat := if z[i]? = some 10 then i + 1 else fr
theorem at10 {z : List UInt8} {i : Nat} (hi : i < z.length) : (((z[(i : Int).toNat]!).toNat : Nat) : Int) = 10 ↔ z[i]? = some 10 := by
  have h3 := (atig (l := z) (i := (i : Int)) ⟨by omega, by omega⟩).2
  rw [Int.toNat_natCast] at h3 ⊢
  constructor
  · intro h
    rw [h3, u8_of (show (z[i]!).toNat = 10 by omega)]; rfl
  · intro h
    rw [h3] at h
    rw [Option.some.inj h]; rfl
theorem rParse_fun (z : List UInt8) (hz : z.length ≤ 140737488355328) : Fun Tryz.prog 16 [.lit (str z)] (Ret (.tup [.sh 5 ((parseV z).map Bar.c), .agg [.lit (.int .i64 (parseL z)), .lit (.int .i64 (parseC z))], .lit (.int .i64 (parseE z))]) []) := by
  refine Fun.of (nt := 57) (rs := [.tmp 2, .cell 3 40, .tmp 4]) Tryz.func16 rfl rfl rfl rfl rfl ?_
  refine Ev.sr fun K hK => S.o q.as (S.nn (q.al am_ze40) (S.o q.as (S.end (hK _ ?_))))
  clear hK K
  refine Ev.seq ?_
  refine Ev.sr fun K hK => S.o q.mv (S.o (q.slen am_el9 am_un9) (S.o q.gtr (S.end (hK _ ?_))))
  clear hK K
  refine Ev.cd (fun c1 => ?_) (fun c1 => ?_)
  · first
  | (first | omega | contradiction)
  | obtain ⟨e1, e2, e3, e4⟩ := parse_long (s := z) (by omega)
    rw [e1, e2, e3, e4]
    refine Ev.sr fun K hK => S.o (q.bd [_, _] am_ze40 am_pl40) (S.o q.as (S.sv [_, _] true [] am_in40 am_cl40 (h := S.o q.as (S.end (hK _ ?_)))))
    clear hK K
    refine Ev.weaken (Wk.nsh Bar.c 2 5) ?_
    refine Ev.ret ?_
    refine Ev.retv3 (res_t (res_c [_, _] am_ag40 am_cl40 (res_t res_n))) ?_
    refine ⟨?_, rfl⟩
    first | rfl | (rw [e1, e2, e3, e4]; done) | (rw [e1, e2, e3, e4] <;> rfl)
  · first
  | (first | omega | contradiction)
  | refine Ev.skip ?_
    show Ev _ _ _ _
    refine Ev.sr fun K hK => S.o q.as (S.end (hK _ ?_))
    clear hK K
    have hz2 : z.length ≤ 262144 := by omega
    refine Ev.sr fun K hK => S.o q.as (S.o q.as (S.end (hK _ ?_)))
    clear hK K
    refine Ev.seq ?_
    refine Ev.sr fun K hK => S.o q.as (S.end (hK _ ?_))
    clear hK K
    refine Ev.block ?_
    refine Ev.weaken (Wk.nown Bar.c 5 49 5) ?_
    refine Ev.loopU (ι := {q : List Bar × Nat × Nat // ParI z q.1 q.2.1 q.2.2}) [1, 0] [0, 3] (fun ⟨(bs, fr, i), _⟩ => [(6, .lit (.int .i64 ((fr : Int)))), (7, .lit (.int .i64 (((bs.length : Int) + 1)))), (8, .lit (.int .i64 ((i : Int)))), (5, .als 0 0 (bs).length)]) (fun ⟨(bs, fr, i), _⟩ => [(0, ⟨true, 49, 5, (bs).map Bar.c, true⟩), (1, ⟨false, 40, 2, [[.lit (.int .i64 (0)), .lit (.int .i64 (0))]], true⟩)]) (fun ⟨(bs, fr, i), _⟩ => z.length - i) ⟨([], 0, 0), parI_0 z⟩ (.c (.c .n)) (keep_c (he := (by first | (rw [parB, if_pos hcd, hb]; simp; done) | (rw [parB, if_neg (fun h => absurd ((at10 hlt).2 h) ‹_›)]; done) | rfl)) (h := (keep_c (he := (by first | rfl | (simp; done))) (h := keep_n)))) (slots_c (he := (by first | (rw [parF, if_pos hcd]; rfl) | (rw [parF, if_neg (fun h => absurd ((at10 hlt).2 h) ‹_›)]; done) | rfl)) (h := (slots_c (he := (by first | (rw [parB, if_pos hcd, hb]; simp; done) | (rw [parB, if_neg (fun h => absurd ((at10 hlt).2 h) ‹_›)]; done) | rfl)) (h := (slots_c (he := (by first | rfl | (simp; done))) (h := (slots_c (he := (by first | (rw [parB, if_pos hcd, hb]; simp; done) | (rw [parB, if_neg (fun h => absurd ((at10 hlt).2 h) ‹_›)]; done) | rfl)) (h := trivial)))))))) ?_
    rintro ⟨⟨bs, fr, i⟩, hI⟩ R0 hR0
    dsimp only [List.cons_append, List.nil_append, List.length_cons, List.length_nil]
    simp only at hI
    have hIa := hI.a
    have hIb := hI.b
    have hIe := hI.e
    by_cases hlt : i < z.length
    rotate_left
    · skip
      refine Ev.seq ?_
      refine Ev.sr fun K hK => S.o q.mv (S.o q.mv (S.o (q.slen am_el9 am_un9) (S.o q.lss (S.end (hK _ ?_)))))
      clear hK K
      refine Ev.cd (fun c2 => ?_) (fun c2 => ?_)
      · first | omega | contradiction
      · first
      | (first | omega | contradiction)
      | refine Ev.exit ?_
        refine hR0 _ _ ?_
        show Ev _ _ _ _
        refine Ev.seq ?_
        refine Ev.sr fun K hK => S.o q.mv (S.o q.mv (S.o (q.slen am_el9 am_un9) (S.o q.lss (S.end (hK _ ?_)))))
        clear hK K
        refine Ev.cd (fun c3 => ?_) (fun c3 => ?_)
        · first
        | (first | omega | contradiction)
        | obtain ⟨e1, e2, e3, e4⟩ := parse_bad hz2 (parI_end1 hI (by omega) (by omega)) (by omega)
          refine Ev.sr fun K hK => S.o q.mv (S.o (q.bd [_, _] am_ze40 am_pl40) (S.o q.as (S.sv [_, _] true [_] am_in40 am_cl40 (h := S.o q.as (S.end (hK _ ?_))))))
          clear hK K
          refine Ev.weaken (Wk.nsh Bar.c 2 5) ?_
          refine Ev.ret ?_
          refine Ev.retv3 (res_t (res_c [_, _] am_ag40 am_cl40 (res_t res_n))) ?_
          refine ⟨?_, rfl⟩
          first | rfl | (rw [e1, e2, e3, e4]; done) | (rw [e1, e2, e3, e4] <;> rfl)
        · first
        | (first | omega | contradiction)
        | refine Ev.skip ?_
          show Ev _ _ _ _
          refine Ev.seq ?_
          refine Ev.weaken (Wk.frz 5 [_]) ?_
          have hr := parI_end2 hI (by omega) (by omega)
          have hbl := hI.e
          have hbw := hI.f
          refine Ev.sr fun K hK => S.o q.mv (S.c0 (hF := rschedValid_fun _ (by omega) (by assumption)) (h := S.o q.not (S.end (hK _ ?_))))
          clear hK K
          refine Ev.cn (fun c4 => ?_) (fun c4 => ?_)
          · first
          | (first | omega | contradiction)
          | obtain ⟨e1, e2, e3, e4⟩ := parse_arg hz2 hr ‹¬ okSched bs›
            refine Ev.sr fun K hK => S.o (q.bd [_, _] am_ze40 am_pl40) (S.o q.as (S.sv [_, _] true [] am_in40 am_cl40 (h := S.o q.as (S.end (hK _ ?_)))))
            clear hK K
            refine Ev.weaken (Wk.nsh Bar.c 2 5) ?_
            refine Ev.ret ?_
            refine Ev.retv3 (res_t (res_c [_, _] am_ag40 am_cl40 (res_t res_n))) ?_
            refine ⟨?_, rfl⟩
            first | rfl | (rw [e1, e2, e3, e4]; done) | (rw [e1, e2, e3, e4] <;> rfl)
          · first
          | (first | omega | contradiction)
          | refine Ev.skip ?_
            show Ev _ _ _ _
            obtain ⟨e1, e2, e3, e4⟩ := parse_ok hz2 hr ‹okSched bs›
            refine Ev.sr fun K hK => S.o q.mv (S.o (q.bd [_, _] am_ze40 am_pl40) (S.o q.as (S.sv [_, _] true [] am_in40 am_cl40 (h := S.o q.as (S.end (hK _ ?_))))))
            clear hK K
            refine Ev.ret ?_
            refine Ev.retv3 (res_t (res_c [_, _] am_ag40 am_cl40 (res_t res_n))) ?_
            refine ⟨?_, rfl⟩
            first | rfl | (rw [e1, e2, e3, e4]; done) | (rw [e1, e2, e3, e4] <;> rfl)
    · skip
      refine Ev.seq ?_
      refine Ev.sr fun K hK => S.o q.mv (S.o q.mv (S.o (q.slen am_el9 am_un9) (S.o q.lss (S.end (hK _ ?_)))))
      clear hK K
      refine Ev.cd (fun c5 => ?_) (fun c5 => ?_)
      · first
      | (first | omega | contradiction)
      | refine Ev.skip ?_
        show Ev _ _ _ _
        refine Ev.seq ?_
        refine Ev.block ?_
        refine Ev.seq ?_
        refine Ev.sr fun K hK => S.o q.mv (S.o q.mv (S.o (q.six am_un9 (hl := (by first | exact atig (by omega)))) (S.o q.neq (S.end (hK _ ?_)))))
        clear hK K
        refine Ev.cn (fun c6 => ?_) (fun c6 => ?_)
        · first
        | (first | omega | contradiction)
        | refine Ev.exit ?_
          show Ev _ _ _ _
          refine Ev.region_S fun K hK => S.o q.mv (S.o q.add (S.o q.as (S.end (hK _ ?_))))
          clear hK K
          refine hR0 _ _ ?_
          refine roundU [0, 1] [0, 3] ⟨(parB z bs fr i, parF z fr i, i + 1), ?_⟩ ?_ (keep_c (he := (by first | (rw [parB, if_pos hcd, hb]; simp; done) | (rw [parB, if_neg (fun h => absurd ((at10 hlt).2 h) ‹_›)]; done) | rfl)) (h := (keep_c (he := (by first | rfl | (simp; done))) (h := keep_n)))) (slots_c (he := (by first | (rw [parF, if_pos hcd]; rfl) | (rw [parF, if_neg (fun h => absurd ((at10 hlt).2 h) ‹_›)]; done) | rfl)) (h := (slots_c (he := (by first | (rw [parB, if_pos hcd, hb]; simp; done) | (rw [parB, if_neg (fun h => absurd ((at10 hlt).2 h) ‹_›)]; done) | rfl)) (h := (slots_c (he := (by first | rfl | (simp; done))) (h := (slots_c (he := (by first | (rw [parB, if_pos hcd, hb]; simp; done) | (rw [parB, if_neg (fun h => absurd ((at10 hlt).2 h) ‹_›)]; done) | rfl)) (h := trivial)))))))) (.c (.c .n))
          all_goals first
           | (dsimp only; omega)
           | (dsimp only; rw [parB, parF, if_pos hcd, if_pos hcd, hb]; exact parI_cut hI hcd hb hz2)
           | (dsimp only; rw [parB, parF, if_neg (fun h => absurd ((at10 hlt).2 h) ‹_›), if_neg (fun h => absurd ((at10 hlt).2 h) ‹_›)]; exact parI_on hI (List.getElem?_eq_getElem hlt) (fun e => absurd ((at10 hlt).2 (by rw [List.getElem?_eq_getElem hlt, e])) ‹_›))
          all_goals (dsimp only; omega)
        · first
        | (first | omega | contradiction)
        | refine Ev.skip ?_
          show Ev _ _ _ _
          have hcd : z[i]? = some 10 := (at10 hlt).1 (by omega)
          refine Ev.sr fun K hK => S.o q.mv (S.o q.mv (S.o q.mv (S.o (q.slbo am_el9 am_un9) ?_)))
          rcases hb : readB (lineAt z fr i) with _ | x
          · skip
            refine S.c0 (hF := rread_none (by simp only [lineAt, List.length_drop, List.length_take]; omega) hb) (h := S.o q.mv (S.o q.ex (S.o q.ex (S.nn (q.al am_ze49) (S.sv [_, _, _, _, _] true [_, _] am_in49 am_cl49 (h := S.o q.as (S.end (hK _ ?_))))))))
            clear hK K
            refine Ev.seq ?_
            refine Ev.sr fun K hK => S.o q.mv (S.o q.notf (S.end (hK _ ?_)))
            clear hK K
            refine Ev.ct ?_
            obtain ⟨e1, e2, e3, e4⟩ := parse_bad hz2 (parI_bad hI hcd hb) (by omega)
            refine Ev.sr fun K hK => S.o q.mv (S.o (q.bd [_, _] am_ze40 am_pl40) (S.o q.as (S.sv [_, _] true [_, _] am_in40 am_cl40 (h := S.o q.as (S.end (hK _ ?_))))))
            clear hK K
            refine Ev.weaken (Wk.nsh Bar.c 2 5) ?_
            refine Ev.ret ?_
            refine hR0 _ _ ?_
            refine Ev.retv3 (res_t (res_c [_, _] am_ag40 am_cl40 (res_t res_n))) ?_
            refine ⟨?_, rfl⟩
            first | rfl | (rw [e1, e2, e3, e4]; done) | (rw [e1, e2, e3, e4] <;> rfl)
          · skip
            refine S.c0 (hF := rread_some (by simp only [lineAt, List.length_drop, List.length_take]; omega) hb) (h := S.o q.mv (S.o q.ex (S.o q.ex (S.nn (q.al am_ze49) (S.sv [_, _, _, _, _] true [_, _] am_in49 am_cl49 (h := S.o q.as (S.end (hK _ ?_))))))))
            clear hK K
            refine Ev.seq ?_
            refine Ev.sr fun K hK => S.o q.mv (S.o q.nott (S.end (hK _ ?_)))
            clear hK K
            refine Ev.cf ?_
            refine Ev.skip ?_
            show Ev _ _ _ _
            refine Ev.sr fun K hK => S.o q.mv (S.o (q.lvA [_, _, _, _, _] am_ag49 am_cl49) (S.nn (q.bs [[_, _, _, _, _]] true am_el22 am_ze49 am_cl49) (S.ap' [_, _, _] am_el22 am_ze49 am_cl49 am_by49 (hh := head_own') (hr := (rows_lit [x])) (h := S.o q.as (S.end (hK _ ?_))))))
            clear hK K
            refine Ev.sr fun K hK => S.o q.mv (S.o q.add (S.o q.as (S.end (hK _ ?_))))
            clear hK K
            refine Ev.region_S fun K hK => S.o q.mv (S.o q.add (S.o q.as (S.end (hK _ ?_))))
            clear hK K
            show Ev _ _ _ _
            refine Ev.region_S fun K hK => S.o q.mv (S.o q.add (S.o q.as (S.end (hK _ ?_))))
            clear hK K
            refine hR0 _ _ ?_
            refine roundU [4, 1] [0, 3] ⟨(parB z bs fr i, parF z fr i, i + 1), ?_⟩ ?_ (keep_c (he := (by first | (rw [parB, if_pos hcd, hb]; simp; done) | (rw [parB, if_neg (fun h => absurd ((at10 hlt).2 h) ‹_›)]; done) | rfl)) (h := (keep_c (he := (by first | rfl | (simp; done))) (h := keep_n)))) (slots_c (he := (by first | (rw [parF, if_pos hcd]; rfl) | (rw [parF, if_neg (fun h => absurd ((at10 hlt).2 h) ‹_›)]; done) | rfl)) (h := (slots_c (he := (by first | (rw [parB, if_pos hcd, hb]; simp; done) | (rw [parB, if_neg (fun h => absurd ((at10 hlt).2 h) ‹_›)]; done) | rfl)) (h := (slots_c (he := (by first | rfl | (simp; done))) (h := (slots_c (he := (by first | (rw [parB, if_pos hcd, hb]; simp; done) | (rw [parB, if_neg (fun h => absurd ((at10 hlt).2 h) ‹_›)]; done) | rfl)) (h := trivial)))))))) (.c (.c .n))
            all_goals first
             | (dsimp only; omega)
             | (dsimp only; rw [parB, parF, if_pos hcd, if_pos hcd, hb]; exact parI_cut hI hcd hb hz2)
             | (dsimp only; rw [parB, parF, if_neg (fun h => absurd ((at10 hlt).2 h) ‹_›), if_neg (fun h => absurd ((at10 hlt).2 h) ‹_›)]; exact parI_on hI (List.getElem?_eq_getElem hlt) (fun e => absurd ((at10 hlt).2 (by rw [List.getElem?_eq_getElem hlt, e])) ‹_›))
            all_goals (dsimp only; omega)
      · first | omega | contradiction
end Go.Proofs.YtddogeicmhbidaaGreatDoor
namespace Go.Proofs.YtddogeicmhbidaaGreatDoor
open Go Go.AM
set_option linter.unusedSimpArgs false
set_option linter.unusedVariables false
set_option maxRecDepth 100000
set_option maxHeartbeats 2000000
theorem dig_init {n : Int} (h : 0 ≤ n) : Go.Lib.itoa n = if n = 0 ∧ ([] : List UInt8) = [] then [48] else digZ n ++ [] := by
  by_cases h0 : n = 0
  · subst h0
    rw [if_pos ⟨rfl, rfl⟩, show (0 : Int) = ((0 : Nat) : Int) from rfl, Go.Lib.itoa_nonneg, Go.Lib.decDigits]
    rfl
  · rw [if_neg (fun h => h0 h.1), List.append_nil, digZ, if_neg h0]
theorem dig_step {N m : Int} {out : List UInt8} (h0 : 0 ≤ m) (h : Go.Lib.itoa N = if m = 0 ∧ out = [] then [48] else digZ m ++ out) (hc : 0 < m ∨ out.length < 1) :
    Go.Lib.itoa N = if m / 10 = 0 ∧ [UInt8.ofNat (48 + m % 10).toNat] ++ out = [] then [48] else digZ (m / 10) ++ ([UInt8.ofNat (48 + m % 10).toNat] ++ out) := by
  rw [if_neg (fun h => by simp at h)]
  by_cases hm : 0 < m
  · rw [if_neg (fun h => by omega), digZ_pos hm, List.append_assoc] at h
    exact h
  · obtain rfl : m = 0 := by omega
    obtain rfl : out = [] := List.eq_nil_of_length_eq_zero (by omega)
    rw [if_pos ⟨rfl, rfl⟩] at h
    rw [h]; rfl
theorem dig_end {N m : Int} {out : List UInt8} (h : Go.Lib.itoa N = if m = 0 ∧ out = [] then [48] else digZ m ++ out) (h0 : 0 ≤ m) (h1 : ¬ 0 < m) (h2 : ¬ out.length < 1) : out = Go.Lib.itoa N := by
  obtain rfl : m = 0 := by omega
  rw [if_neg (fun h => by rw [h.2] at h2; exact h2 (by decide))] at h
  rw [h]; rfl
theorem dig_len {N m : Int} {out : List UInt8} (hN : 0 ≤ N ∧ N ≤ 1099511627777) (h : Go.Lib.itoa N = if m = 0 ∧ out = [] then [48] else digZ m ++ out) : out.length ≤ 21 := by
  have h1 := itoa_len hN.1 hN.2
  rw [h] at h1
  split at h1
  · rename_i e; rw [e.2]; decide
  · rw [List.length_append] at h1; omega

theorem rdig_fun (n : Int) (h0 : 0 ≤ n) (h1 : n ≤ 1099511627777) : Fun Tryz.prog 119 [.lit (.int .i64 n), .lit (.int .i64 1)] (Ret (.lit (str (Go.Lib.itoa n))) []) := by
  refine Fun.of (nt := 25) (rs := [.tmp 4]) Tryz.func119 rfl rfl rfl rfl rfl ?_
  refine Ev.sr fun K hK => S.o q.as (S.end (hK _ ?_))
  clear hK K
  refine Ev.sr fun K hK => S.o q.as (S.end (hK _ ?_))
  clear hK K
  refine Ev.seq ?_
  refine Ev.block ?_
  refine Ev.loopU (ι := {q : Int × List UInt8 // 0 ≤ q.1 ∧ q.1 ≤ 1099511627777 ∧ Go.Lib.itoa n = if q.1 = 0 ∧ q.2 = [] then [48] else digZ q.1 ++ q.2}) [] [1, 4] (fun ⟨(m, out), _⟩ => [(0, .lit (.int .i64 (m))), (5, .lit (str (out)))]) (fun ⟨(m, out), _⟩ => []) (fun ⟨(m, out), _⟩ => m.toNat + (1 - out.length)) ⟨(n, []), h0, h1, dig_init h0⟩ (.c (.c .n)) keep_n (slots_c (he := (by first | rfl | (simp; done) | (congr 2; omega))) (h := (slots_c (he := (by first | rfl | (simp; done) | (congr 2; omega))) (h := trivial)))) ?_
  rintro ⟨⟨m, out⟩, hm, hM, hE⟩ R0 hR0
  dsimp only [List.cons_append, List.nil_append, List.length_cons, List.length_nil]
  simp only at hm hM hE
  have hol := dig_len ⟨h0, h1⟩ hE
  refine Ev.seq ?_
  refine Ev.sr fun K hK => S.o q.mv (S.o q.gtr (S.bd q.mv (fun c1 => ?_) (fun c1 => ?_)))
  · first
  | (first | omega | contradiction)
  | refine S.sk (S.sk (S.sk (S.sk (S.o q.pt (S.end (hK _ ?_))))))
    clear hK K
    refine Ev.ct ?_
    refine Ev.skip ?_
    show Ev _ _ _ _
    refine Ev.block ?_
    refine Ev.sr fun K hK => S.o q.mv (S.o q.rem (S.o q.add (S.o (q.cvb am_un5 am_us3) (S.nn (q.bs [[_]] true am_el65 am_ze5 am_cl5) (S.cstr ([UInt8.ofNat (48 + m % 10).toNat]) (by kernel_rfl : Tryz.prog.underlying 65 = some (.slice 5)) (by kernel_rfl : Tryz.prog.underlying 5 = some (.int .u8)) (by kernel_rfl : Tryz.prog.underlying 9 = some .string) (hrows := dig_byte (by omega)) (h := S.o q.mv (S.o q.sadd (S.o q.as (S.end (hK _ ?_))))))))))
    clear hK K
    refine Ev.region_S fun K hK => S.o q.mv (S.o q.quo (S.o q.as (S.end (hK _ ?_))))
    clear hK K
    refine hR0 _ _ ?_
    refine roundU [] [1, 4] ⟨(m / 10, [UInt8.ofNat (48 + m % 10).toNat] ++ out), by dsimp only; omega, by dsimp only; omega, dig_step hm hE (by omega)⟩ ?_ keep_n (slots_c (he := (by first | rfl | (simp; done) | (congr 2; omega))) (h := (slots_c (he := (by first | rfl | (simp; done) | (congr 2; omega))) (h := trivial)))) (.c (.c .n))
    skip
    all_goals (dsimp only; simp only [List.length_cons, List.length_append, List.length_nil]; omega)
  · first
  | (first | omega | contradiction)
  | refine S.o q.mv (S.o (q.slen am_el9 am_un9) (S.o q.mv (S.o q.lss (S.o q.pf (S.end (hK _ ?_))))))
    clear hK K
    refine Ev.cd (fun c2 => ?_) (fun c2 => ?_)
    · first
    | (first | omega | contradiction)
    | refine Ev.skip ?_
      show Ev _ _ _ _
      refine Ev.block ?_
      refine Ev.sr fun K hK => S.o q.mv (S.o q.rem (S.o q.add (S.o (q.cvb am_un5 am_us3) (S.nn (q.bs [[_]] true am_el65 am_ze5 am_cl5) (S.cstr ([UInt8.ofNat (48 + m % 10).toNat]) (by kernel_rfl : Tryz.prog.underlying 65 = some (.slice 5)) (by kernel_rfl : Tryz.prog.underlying 5 = some (.int .u8)) (by kernel_rfl : Tryz.prog.underlying 9 = some .string) (hrows := dig_byte (by omega)) (h := S.o q.mv (S.o q.sadd (S.o q.as (S.end (hK _ ?_))))))))))
      clear hK K
      refine Ev.region_S fun K hK => S.o q.mv (S.o q.quo (S.o q.as (S.end (hK _ ?_))))
      clear hK K
      refine hR0 _ _ ?_
      refine roundU [] [1, 4] ⟨(m / 10, [UInt8.ofNat (48 + m % 10).toNat] ++ out), by dsimp only; omega, by dsimp only; omega, dig_step hm hE (by omega)⟩ ?_ keep_n (slots_c (he := (by first | rfl | (simp; done) | (congr 2; omega))) (h := (slots_c (he := (by first | rfl | (simp; done) | (congr 2; omega))) (h := trivial)))) (.c (.c .n))
      skip
      all_goals (dsimp only; simp only [List.length_cons, List.length_append, List.length_nil]; omega)
    · first
    | (first | omega | contradiction)
    | refine Ev.exit ?_
      refine hR0 _ _ ?_
      show Ev _ _ _ _
      refine Ev.sr fun K hK => S.o q.mv (S.o q.as (S.end (hK _ ?_)))
      clear hK K
      refine Ev.ret ?_
      refine Ev.ret1 ?_
      refine ⟨?_, rfl⟩
      (rw [dig_end hE hm (by omega) (by omega)]; done)
theorem format_fun (n : Int) (h0 : 0 ≤ n) (h1 : n ≤ 1099511627777) : Fun Tryz.prog 95 [.lit (.int .i64 n), .lit (.int .i64 0)] (Ret (.lit (str (Go.Lib.itoa n))) []) := by
  have hil := itoa_len h0 h1
  refine Fun.of (nt := 36) (rs := [.tmp 4]) Tryz.func95 rfl rfl rfl rfl rfl ?_
  refine Ev.sr fun K hK => S.o q.as (S.end (hK _ ?_))
  clear hK K
  refine Ev.sr fun K hK => S.o q.as (S.end (hK _ ?_))
  clear hK K
  refine Ev.seq ?_
  refine Ev.sr fun K hK => S.o q.mv (S.o q.lss (S.end (hK _ ?_)))
  clear hK K
  refine Ev.cd (fun c1 => ?_) (fun c1 => ?_)
  · first
  | (first | omega | contradiction)
  | omega
  · first
  | (first | omega | contradiction)
  | refine Ev.skip ?_
    show Ev _ _ _ _
    refine Ev.sr fun K hK => S.o q.mv (S.o q.mv (S.o q.add (S.c0 (hF := rdig_fun _ (by omega) (by omega)) (h := S.o q.as (S.end (hK _ ?_))))))
    clear hK K
    refine Ev.seq ?_
    refine Ev.sr fun K hK => S.o q.mv (S.o q.eql (S.end (hK _ ?_)))
    clear hK K
    refine Ev.cd (fun c2 => ?_) (fun c2 => ?_)
    · first
    | (first | omega | contradiction)
    | refine Ev.sr fun K hK => S.o q.mv (S.o q.mv (S.o q.sadd (S.o q.as (S.end (hK _ ?_)))))
      clear hK K
      refine Ev.ret ?_
      refine Ev.ret1 ?_
      refine ⟨?_, rfl⟩
      rfl
    · first
    | (first | omega | contradiction)
    | refine Ev.skip ?_
      show Ev _ _ _ _
      omega
theorem integer_fun (n : Int) (h0 : 0 ≤ n) (h1 : n ≤ 1099511627777) : Fun Tryz.prog 60 [.lit (.int .i64 n)] (Ret (.lit (str (Go.Lib.itoa n))) []) := by
  refine Fun.of (nt := 5) (rs := [.tmp 2]) Tryz.func60 rfl rfl rfl rfl rfl ?_
  refine Ev.sr fun K hK => S.o q.as (S.end (hK _ ?_))
  clear hK K
  refine Ev.sr fun K hK => S.o q.mv (S.c0 (hF := format_fun _ (by omega) (by omega)) (h := S.o q.as (S.end (hK _ ?_))))
  clear hK K
  refine Ev.ret ?_
  refine Ev.ret1 ?_
  refine ⟨?_, rfl⟩
  rfl

def dimT (l : List Int) : List UInt8 := (l.map fun d => 32 :: Go.Lib.itoa d).flatten
theorem dimT_snoc (l : List Int) (d : Int) : dimT (l ++ [d]) = dimT l ++ [32] ++ Go.Lib.itoa d := by simp [dimT]
theorem line_eq (b : Bar) : b.mark ++ [32] ++ Go.Lib.itoa b.size ++ [32] ++ Go.Lib.itoa b.count ++ [32] ++ code2 b.code ++ dimT b.dims = joinS [32] (lineW b) := by
  have h : ∀ l : List Int, sepcat [32] (l.map Go.Lib.itoa) = dimT l := by
    intro l
    simp only [sepcat, dimT, List.map_map]
    rfl
  show _ = b.mark ++ sepcat [32] (Go.Lib.itoa b.size :: Go.Lib.itoa b.count :: code2 b.code :: b.dims.map Go.Lib.itoa)
  rw [← h]
  simp [sepcat]
theorem dimT_len : ∀ l : List Int, (∀ d ∈ l, 0 ≤ d ∧ d ≤ 1099511627777) → (dimT l).length ≤ 22 * l.length := by
  refine snoc_ind (fun _ => by simp [dimT]) ?_
  intro l s ih h
  have := ih fun b hb => h b (by simp [hb])
  have := itoa_len (h s (by simp)).1 (h s (by simp)).2
  rw [dimT_snoc, List.length_append, List.length_append, List.length_append, List.length_singleton, List.length_singleton, Nat.mul_add]
  omega
theorem rLine_fun (b : Bar) (hb : okBar b) : Fun Tryz.prog 37 [.agg b.c] (Ret (.lit (str (joinS [32] (lineW b)))) []) := by
  have h1 := (isName_len hb.1).2
  have h2 := size_bd hb.2.1
  have h3 := hb.2.2.1
  have h4 := hb.2.2.2.1
  have h5 := okBar_code hb
  have h6 := hb.2.2.2.2.2.1
  have h7 := (dims_eq b.code).2.2.1
  have l1 := itoa_len (N := b.size) (by omega) (by omega)
  have l2 := itoa_len (N := b.count) (by omega) (by omega)
  have l3 := itoa_len (N := b.code) (by omega) (by omega)
  have l4 : (code2 b.code).length ≤ 22 := by
    unfold code2
    split
    · simp only [List.length_append, List.length_cons, List.length_nil]; omega
    · omega
  have hdd : ∀ d ∈ b.dims, 0 ≤ d ∧ d ≤ 1099511627777 := fun d hd => by
    have := dims_in hb.2.2.2.2.2.2 hd
    omega
  refine Fun.of (nt := 46) (rs := [.tmp 2]) Tryz.func37 rfl rfl rfl rfl rfl ?_
  refine Ev.sr fun K hK => S.nn (q.bx [_, _, _, _, _] true) (S.o q.as (S.end (hK _ ?_)))
  clear hK K
  refine Ev.sr fun K hK => S.o (q.fa 3 am_fi49_3 am_cl3) (S.o (q.lv am_ag3) (S.c0 (hF := integer_fun _ (by omega) (by omega)) (h := S.o q.as (S.end (hK _ ?_)))))
  clear hK K
  refine Ev.seq ?_
  refine Ev.sr fun K hK => S.o (q.fa 3 am_fi49_3 am_cl3) (S.o (q.lv am_ag3) (S.o q.lss (S.end (hK _ ?_))))
  clear hK K
  refine Ev.cd (fun c1 => ?_) (fun c1 => ?_)
  · first
  | (first | omega | contradiction)
  | refine Ev.region_S fun K hK => S.o q.mv (S.o q.sadd (S.o q.as (S.end (hK _ ?_))))
    clear hK K
    show Ev _ _ _ _
    first | rw [← code2_lo ‹b.code < 10›] | rw [← code2_hi ‹¬ b.code < 10›]
    refine Ev.sm (tbs [(0, 0), (1, 1), (2, 3), (0, 0), (4, 8), (5, 24), (6, 63), (7, 127), (0, 0), (9, 256), (10, 824), (11, 2047), (12, 4095), (0, 0), (14, 16383), (15, 32767)]) 15 fun K hK => M.o (q.fa 0 am_fi49_0 am_cl9) (M.o (q.lv am_ag9) (M.o q.sadd (M.o (q.fa 1 am_fi49_1 am_cl3) (M.o (q.lv am_ag3) (M.c0 (hF := integer_fun _ (by omega) (by omega)) (h := M.o q.sadd (M.o q.sadd (M.o (q.fa 2 am_fi49_2 am_cl3) (M.o (q.lv am_ag3) (M.c0 (hF := integer_fun _ (by omega) (by omega)) (h := M.o q.sadd (M.o q.sadd (M.o q.mv (M.o q.sadd (M.end [_] (h := S.o q.as (S.end (hK _ ?_))))))))))))))))))
    clear hK K
    refine Ev.seq ?_
    refine Ev.sr fun K hK => S.o q.as (S.end (hK _ ?_))
    clear hK K
    refine Ev.block ?_
    refine Ev.loopU (ι := {p : List (Int) × List (Int) // p.1 ++ p.2 = b.dims ∧ True}) [0] [1, 2] (fun ⟨(pre, suf), _⟩ => [(5, .lit (.int .i64 ((pre.length : Int)))), (4, .lit (str ((b.mark ++ [32] ++ Go.Lib.itoa b.size ++ [32] ++ Go.Lib.itoa b.count ++ [32] ++ code2 b.code) ++ dimT pre)))]) (fun ⟨(pre, suf), _⟩ => [(0, ⟨false, 49, 5, [[.lit (str (b.mark)), .lit (.int .i64 (b.size)), .lit (.int .i64 (b.count)), .lit (.int .i64 (b.code)), .sh 1 ((b.dims).map intC)]], true⟩)]) (fun ⟨(pre, suf), _⟩ => suf.length) ⟨([], b.dims), rfl, trivial⟩ (.c (.c .n)) (keep_c (he := (by first | rfl | (simp; done))) (h := keep_n)) (slots_c (he := (by first | rfl | (congr 2; simp; done))) (h := (slots_c (he := (by first | rfl | (rw [dimT_snoc]; simp only [List.append_assoc]; done) | (simp [dimT]; done))) (h := trivial)))) ?_
    rintro ⟨⟨pre, suf⟩, hp, hinv⟩ R0 hR0
    dsimp only [List.cons_append, List.nil_append, List.length_cons, List.length_nil]
    simp only at hp hinv
    have hpl : pre.length + suf.length = (b.dims).length := by rw [← hp, List.length_append]
    rcases suf with _ | ⟨s, suf⟩
    · rw [List.append_nil] at hp; rw [hp]; simp only [List.length_nil] at hpl
      refine Ev.seq ?_
      refine Ev.sr fun K hK => S.o q.mv (S.o (q.fa 4 am_fi49_4 am_cl47) (S.o (q.lv am_ag47) (S.o (q.lens am_el47) (S.o q.lss (S.end (hK _ ?_))))))
      clear hK K
      refine Ev.cd (fun c2 => ?_) (fun c2 => ?_)
      · first | omega | contradiction
      · first
      | (first | omega | contradiction)
      | refine Ev.exit ?_
        refine hR0 _ _ ?_
        show Ev _ _ _ _
        refine Ev.sr fun K hK => S.o q.mv (S.o q.as (S.end (hK _ ?_)))
        clear hK K
        refine Ev.ret ?_
        refine Ev.ret1 ?_
        refine ⟨?_, rfl⟩
        (rw [← line_eq]; done)
    · simp only [List.length_cons] at hpl
      have hidx : b.dims[pre.length]? = some s := by rw [← hp]; simp
      obtain ⟨g1, g2⟩ := hdd s (by rw [← hp]; simp)
      have g3 := itoa_len g1 g2
      have g4 := dimT_len pre (fun d hd => hdd d (by rw [← hp]; simp [hd]))
      refine Ev.seq ?_
      refine Ev.sr fun K hK => S.o q.mv (S.o (q.fa 4 am_fi49_4 am_cl47) (S.o (q.lv am_ag47) (S.o (q.lens am_el47) (S.o q.lss (S.end (hK _ ?_))))))
      clear hK K
      refine Ev.cd (fun c3 => ?_) (fun c3 => ?_)
      · first
      | (first | omega | contradiction)
      | refine Ev.skip ?_
        show Ev _ _ _ _
        refine Ev.seq ?_
        refine Ev.block ?_
        refine Ev.region_S fun K hK => S.o q.mv (S.o q.sadd (S.o (q.fa 4 am_fi49_4 am_cl47) (S.o (q.lv am_ag47) (S.o q.mv (S.o (q.ix am_el47 am_cl3 (hl := (by first | exact ati hidx (by omega) | exact atig (by omega)))) (S.o (q.ls am_ag3) (S.c0 (hF := integer_fun _ (by omega) (by omega)) (h := S.o q.sadd (S.o q.as (S.end (hK _ ?_)))))))))))
        clear hK K
        show Ev _ _ _ _
        refine Ev.region_S fun K hK => S.o q.mv (S.o q.add (S.o q.as (S.end (hK _ ?_))))
        clear hK K
        refine hR0 _ _ ?_
        refine roundU [0] [1, 2] ⟨(pre ++ [s], suf), by rw [← hp]; simp, ?_⟩ ?_ (keep_c (he := (by first | rfl | (simp; done))) (h := keep_n)) (slots_c (he := (by first | rfl | (congr 2; simp; done))) (h := (slots_c (he := (by first | rfl | (rw [dimT_snoc]; simp only [List.append_assoc]; done) | (simp [dimT]; done))) (h := trivial)))) (.c (.c .n))
        trivial
        all_goals (dsimp only; simp only [List.length_cons]; omega)
      · first | omega | contradiction
  · first
  | (first | omega | contradiction)
  | refine Ev.skip ?_
    show Ev _ _ _ _
    first | rw [← code2_lo ‹b.code < 10›] | rw [← code2_hi ‹¬ b.code < 10›]
    refine Ev.sm (tbs [(0, 0), (1, 1), (2, 3), (0, 0), (4, 8), (5, 24), (6, 63), (7, 127), (0, 0), (9, 256), (10, 824), (11, 2047), (12, 4095), (0, 0), (14, 16383), (15, 32767)]) 15 fun K hK => M.o (q.fa 0 am_fi49_0 am_cl9) (M.o (q.lv am_ag9) (M.o q.sadd (M.o (q.fa 1 am_fi49_1 am_cl3) (M.o (q.lv am_ag3) (M.c0 (hF := integer_fun _ (by omega) (by omega)) (h := M.o q.sadd (M.o q.sadd (M.o (q.fa 2 am_fi49_2 am_cl3) (M.o (q.lv am_ag3) (M.c0 (hF := integer_fun _ (by omega) (by omega)) (h := M.o q.sadd (M.o q.sadd (M.o q.mv (M.o q.sadd (M.end [_] (h := S.o q.as (S.end (hK _ ?_))))))))))))))))))
    clear hK K
    refine Ev.seq ?_
    refine Ev.sr fun K hK => S.o q.as (S.end (hK _ ?_))
    clear hK K
    refine Ev.block ?_
    refine Ev.loopU (ι := {p : List (Int) × List (Int) // p.1 ++ p.2 = b.dims ∧ True}) [0] [1, 2] (fun ⟨(pre, suf), _⟩ => [(5, .lit (.int .i64 ((pre.length : Int)))), (4, .lit (str ((b.mark ++ [32] ++ Go.Lib.itoa b.size ++ [32] ++ Go.Lib.itoa b.count ++ [32] ++ code2 b.code) ++ dimT pre)))]) (fun ⟨(pre, suf), _⟩ => [(0, ⟨false, 49, 5, [[.lit (str (b.mark)), .lit (.int .i64 (b.size)), .lit (.int .i64 (b.count)), .lit (.int .i64 (b.code)), .sh 1 ((b.dims).map intC)]], true⟩)]) (fun ⟨(pre, suf), _⟩ => suf.length) ⟨([], b.dims), rfl, trivial⟩ (.c (.c .n)) (keep_c (he := (by first | rfl | (simp; done))) (h := keep_n)) (slots_c (he := (by first | rfl | (congr 2; simp; done))) (h := (slots_c (he := (by first | rfl | (rw [dimT_snoc]; simp only [List.append_assoc]; done) | (simp [dimT]; done))) (h := trivial)))) ?_
    rintro ⟨⟨pre, suf⟩, hp, hinv⟩ R0 hR0
    dsimp only [List.cons_append, List.nil_append, List.length_cons, List.length_nil]
    simp only at hp hinv
    have hpl : pre.length + suf.length = (b.dims).length := by rw [← hp, List.length_append]
    rcases suf with _ | ⟨s, suf⟩
    · rw [List.append_nil] at hp; rw [hp]; simp only [List.length_nil] at hpl
      refine Ev.seq ?_
      refine Ev.sr fun K hK => S.o q.mv (S.o (q.fa 4 am_fi49_4 am_cl47) (S.o (q.lv am_ag47) (S.o (q.lens am_el47) (S.o q.lss (S.end (hK _ ?_))))))
      clear hK K
      refine Ev.cd (fun c4 => ?_) (fun c4 => ?_)
      · first | omega | contradiction
      · first
      | (first | omega | contradiction)
      | refine Ev.exit ?_
        refine hR0 _ _ ?_
        show Ev _ _ _ _
        refine Ev.sr fun K hK => S.o q.mv (S.o q.as (S.end (hK _ ?_)))
        clear hK K
        refine Ev.ret ?_
        refine Ev.ret1 ?_
        refine ⟨?_, rfl⟩
        (rw [← line_eq]; done)
    · simp only [List.length_cons] at hpl
      have hidx : b.dims[pre.length]? = some s := by rw [← hp]; simp
      obtain ⟨g1, g2⟩ := hdd s (by rw [← hp]; simp)
      have g3 := itoa_len g1 g2
      have g4 := dimT_len pre (fun d hd => hdd d (by rw [← hp]; simp [hd]))
      refine Ev.seq ?_
      refine Ev.sr fun K hK => S.o q.mv (S.o (q.fa 4 am_fi49_4 am_cl47) (S.o (q.lv am_ag47) (S.o (q.lens am_el47) (S.o q.lss (S.end (hK _ ?_))))))
      clear hK K
      refine Ev.cd (fun c5 => ?_) (fun c5 => ?_)
      · first
      | (first | omega | contradiction)
      | refine Ev.skip ?_
        show Ev _ _ _ _
        refine Ev.seq ?_
        refine Ev.block ?_
        refine Ev.region_S fun K hK => S.o q.mv (S.o q.sadd (S.o (q.fa 4 am_fi49_4 am_cl47) (S.o (q.lv am_ag47) (S.o q.mv (S.o (q.ix am_el47 am_cl3 (hl := (by first | exact ati hidx (by omega) | exact atig (by omega)))) (S.o (q.ls am_ag3) (S.c0 (hF := integer_fun _ (by omega) (by omega)) (h := S.o q.sadd (S.o q.as (S.end (hK _ ?_)))))))))))
        clear hK K
        show Ev _ _ _ _
        refine Ev.region_S fun K hK => S.o q.mv (S.o q.add (S.o q.as (S.end (hK _ ?_))))
        clear hK K
        refine hR0 _ _ ?_
        refine roundU [0] [1, 2] ⟨(pre ++ [s], suf), by rw [← hp]; simp, ?_⟩ ?_ (keep_c (he := (by first | rfl | (simp; done))) (h := keep_n)) (slots_c (he := (by first | rfl | (congr 2; simp; done))) (h := (slots_c (he := (by first | rfl | (rw [dimT_snoc]; simp only [List.append_assoc]; done) | (simp [dimT]; done))) (h := trivial)))) (.c (.c .n))
        trivial
        all_goals (dsimp only; simp only [List.length_cons]; omega)
      · first | omega | contradiction
end Go.Proofs.YtddogeicmhbidaaGreatDoor
