/-
  curtail.Cover.
  Conditions: none.
-/
import Derived.Test.YtigjoaejncfmdaaB5
namespace Go.Proofs.Ytigjoaejncfmdaa
open Go Go.AM
set_option linter.unusedSimpArgs false
set_option linter.unusedVariables false
set_option maxRecDepth 100000

def shiftS (a : Int) (s : Int × Int) : Int × Int := (s.1 - a, s.2 + a)
def shR (a : Int) (pre suf : List (Int × Int)) : List (Int × Int) := pre.map (shiftS a) ++ suf
theorem shR_len (a : Int) (pre suf : List (Int × Int)) : (shR a pre suf).length = pre.length + suf.length := by simp [shR]
theorem shR_get (a : Int) (pre suf : List (Int × Int)) (s : Int × Int) : (shR a pre (s :: suf))[pre.length]? = some s := by
  rw [shR, List.getElem?_append_right (by simp)]; simp
theorem shR_set (a : Int) (pre suf : List (Int × Int)) (s : Int × Int) (x : Int × Int) : (shR a pre (s :: suf)).set pre.length x = pre.map (shiftS a) ++ x :: suf := by
  rw [shR, List.set_append_right _ _ (by simp)]; simp
theorem shR_set2 (a : Int) (pre suf : List (Int × Int)) (s x : Int × Int) : ((shR a pre (s :: suf)).set pre.length x).set pre.length (s.1 - a, s.2 + a) = shR a (pre ++ [s]) suf := by
  rw [List.set_set, shR_set]; simp [shR, shiftS]
theorem shR_get2 (a : Int) (pre suf : List (Int × Int)) (s x : Int × Int) : ((shR a pre (s :: suf)).set pre.length x)[pre.length]? = some x := by
  rw [shR_set, List.getElem?_append_right (by simp)]; simp
def coverK (l : List (Int × Int)) (d a : Int) (k : Nat) : List (Int × Int) := joinL ((levGo ((k : Int) * areaOf d) l []).map (shiftS a))
def coverN (l : List (Int × Int)) (d a : Int) : Nat → List (Int × Int)
  | 0 => []
  | n + 1 => coverN l d a n ++ coverK l d a n
theorem coverN_mono (l : List (Int × Int)) (d a : Int) {m n : Nat} (h : m ≤ n) : (coverN l d a m).length ≤ (coverN l d a n).length := by
  induction n with
  | zero => rw [show m = 0 by omega]; exact Nat.le_refl _
  | succ n ih =>
    rcases Nat.lt_or_ge m (n + 1) with h1 | h1
    · have := ih (by omega)
      rw [coverN, List.length_append]; omega
    · rw [show m = n + 1 by omega]; exact Nat.le_refl _
theorem joinL_len (l : List (Int × Int)) : (joinL l).length ≤ l.length := by have := joinF_len l; unfold joinL; omega
def coverE (l : List (Int × Int)) (d a : Int) : Int := if givenE l d a = 0 then (if leastN l d ≤ 1000 then (if (coverN l d a (leastN l d).toNat).length ≤ 1000 then 0 else 4) else 4) else givenE l d a
def coverV (l : List (Int × Int)) (d a : Int) : List (Int × Int) := if coverE l d a = 0 then coverN l d a (leastN l d).toNat else []
theorem coverE1 {l : List (Int × Int)} {d a : Int} (h : ¬ givenE l d a = 0) : coverE l d a = givenE l d a ∧ coverV l d a = [] := by
  have e : coverE l d a = givenE l d a := if_neg h
  exact ⟨e, if_neg (by rw [e]; exact h)⟩
theorem coverE2 {l : List (Int × Int)} {d a : Int} (h : givenE l d a = 0) (h2 : ¬ leastN l d ≤ 1000) : coverE l d a = 4 ∧ coverV l d a = [] := by
  have e : coverE l d a = 4 := by rw [coverE, if_pos h, if_neg h2]
  exact ⟨e, if_neg (by rw [e]; decide)⟩
theorem coverE3 {l : List (Int × Int)} {d a : Int} (h : givenE l d a = 0) (h2 : leastN l d ≤ 1000) (h3 : ¬ (coverN l d a (leastN l d).toNat).length ≤ 1000) : coverE l d a = 4 ∧ coverV l d a = [] := by
  have e : coverE l d a = 4 := by rw [coverE, if_pos h, if_pos h2, if_neg h3]
  exact ⟨e, if_neg (by rw [e]; decide)⟩
theorem coverE4 {l : List (Int × Int)} {d a : Int} (h : givenE l d a = 0) (h2 : leastN l d ≤ 1000) (h3 : (coverN l d a (leastN l d).toNat).length ≤ 1000) : coverE l d a = 0 ∧ coverV l d a = coverN l d a (leastN l d).toNat := by
  have e : coverE l d a = 0 := by rw [coverE, if_pos h, if_pos h2, if_pos h3]
  exact ⟨e, if_pos e⟩
theorem cover_fun (l : List (Int × Int)) (d a : Int) : Fun Try.prog 12 [.sh 2 (l.map stepC), .lit (.int .i64 d), .lit (.int .i64 a)] (Ret (.tup [.sh 2 ((coverV l d a).map stepC), .lit (.int .i64 (coverE l d a))]) []) := by
  refine Fun.of (nt := 72) (rs := [.tmp 6, .tmp 7]) Try.func12 rfl rfl rfl rfl rfl ?_
  refine Ev.sr fun K hK => S.o q.as (S.o q.as (S.end (hK _ ?_)))
  clear hK K
  refine Ev.sr fun K hK => S.o q.mv (S.o q.mv (S.o q.mv (S.c0 (hF := given_fun _ _ _) (h := S.o q.mv (S.o q.ex (S.o q.ex (S.o q.as (S.o q.as (S.end (hK _ ?_))))))))))
  clear hK K
  refine Ev.seq ?_
  refine Ev.sr fun K hK => S.o q.mv (S.o q.neq (S.end (hK _ ?_)))
  clear hK K
  refine Ev.cn (fun c1 => ?_) (fun c1 => ?_)
  · first
  | (first | omega | contradiction)
  | refine Ev.sr fun K hK => S.o q.mv (S.o q.as (S.o q.as (S.end (hK _ ?_))))
    clear hK K
    refine Ev.weaken (Wk.nsh stepC 6 2) ?_
    refine Ev.ret ?_
    refine Ev.ret2 ?_
    refine ⟨?_, rfl⟩
    first
     | (obtain ⟨e1, e2⟩ := coverE1 ‹¬ givenE l d a = 0›; rw [e1, e2]; done)
     | (obtain ⟨e1, e2⟩ := coverE2 ‹givenE l d a = 0› (by omega); rw [e1, e2]; done)
     | (obtain ⟨e1, e2⟩ := coverE3 ‹givenE l d a = 0› (by omega) (by have := coverN_mono l d a (show k + 1 ≤ (leastN l d).toNat by omega); omega); rw [e1, e2]; done)
     | (obtain rfl : k = (leastN l d).toNat := by omega
        obtain ⟨e1, e2⟩ := coverE4 ‹givenE l d a = 0› (by omega) hkl; rw [e1, e2]; done)
  · first
  | (first | omega | contradiction)
  | refine Ev.skip ?_
    show Ev _ _ _ _
    obtain ⟨hs1, hs2, hlast, hz, hz1, hz2, hb1, hb2⟩ := givenZ ‹_›
    rw [show givenA l d a = areaOf d from if_pos ‹_›]
    have hnn := leastN_nn (d := d) hs2 hb1
    have hln : leastN l d = (most l 0 + areaOf d - 1) / areaOf d := rfl
    refine Ev.sr fun K hK => S.o q.mv (S.o q.mv (S.c0 (hF := count_fun _ _ (by omega) (by omega) (fun s hs => (okL_mem hs2 s hs).2) (by omega)) (h := S.o q.as (S.end (hK _ ?_)))))
    clear hK K
    refine Ev.seq ?_
    refine Ev.sr fun K hK => S.o q.mv (S.o q.gtr (S.end (hK _ ?_)))
    clear hK K
    refine Ev.cd (fun c2 => ?_) (fun c2 => ?_)
    · first
    | (first | omega | contradiction)
    | refine Ev.sr fun K hK => S.o q.as (S.o q.as (S.end (hK _ ?_)))
      clear hK K
      refine Ev.weaken (Wk.nsh stepC 6 2) ?_
      refine Ev.ret ?_
      refine Ev.ret2 ?_
      refine ⟨?_, rfl⟩
      first
       | (obtain ⟨e1, e2⟩ := coverE1 ‹¬ givenE l d a = 0›; rw [e1, e2]; done)
       | (obtain ⟨e1, e2⟩ := coverE2 ‹givenE l d a = 0› (by omega); rw [e1, e2]; done)
       | (obtain ⟨e1, e2⟩ := coverE3 ‹givenE l d a = 0› (by omega) (by have := coverN_mono l d a (show k + 1 ≤ (leastN l d).toNat by omega); omega); rw [e1, e2]; done)
       | (obtain rfl : k = (leastN l d).toNat := by omega
          obtain ⟨e1, e2⟩ := coverE4 ‹givenE l d a = 0› (by omega) hkl; rw [e1, e2]; done)
    · first
    | (first | omega | contradiction)
    | refine Ev.skip ?_
      show Ev _ _ _ _
      refine Ev.sr fun K hK => S.o q.as (S.end (hK _ ?_))
      clear hK K
      refine Ev.seq ?_
      refine Ev.sr fun K hK => S.o q.mv (S.o q.mv (S.end (hK _ ?_)))
      clear hK K
      refine Ev.block ?_
      refine Ev.weaken (Wk.nown stepC 11 36 2) ?_
      refine Ev.loopU (ι := {k : Nat // (k : Int) ≤ leastN l d ∧ (coverN l d a k).length ≤ 1000}) [0] [0, 2, 8, 30] (fun ⟨k, _⟩ => [(31, .lit (.int .i64 ((k : Int)))), (11, .als 0 0 (coverN l d a k).length)]) (fun ⟨k, _⟩ => [(0, ⟨true, 36, 2, (coverN l d a k).map stepC, true⟩)]) (fun ⟨k, _⟩ => (leastN l d).toNat - k) ⟨0, by omega, by simp [coverN]⟩ (.c (.c (.c (.c .n)))) (keep_c (he := (by first | rfl)) (h := keep_n)) (slots_c (he := (by first | rfl | (congr 2; omega))) (h := (slots_c (he := (by first | rfl)) (h := trivial)))) ?_
      rintro ⟨k, hk, hkl⟩ R0 hR0
      dsimp only [List.cons_append, List.nil_append, List.length_cons, List.length_nil]
      have hmk := mul_bd (k := (k : Int)) (K := leastN l d) (A := 125664) (by omega) hk (show 0 ≤ areaOf d by omega) hb2
      obtain ⟨hm1, hm2⟩ := hmk
      refine Ev.sr fun K hK => S.o q.lss (S.end (hK _ ?_))
      clear hK K
      refine Ev.ud (fun c3 => ?_) (fun c3 => ?_)
      · first
      | (first | omega | contradiction)
      | refine Ev.seq ?_
        refine Ev.block ?_
        refine Ev.sr fun K hK => S.o q.mv (S.o q.as (S.end (hK _ ?_)))
        clear hK K
        refine Ev.sr fun K hK => S.o q.mv (S.o q.mv (S.o q.mv (S.o (q.mul (h1 := by omega) (h2 := by omega)) (S.c1 (hF := level_fun _ _ (by omega) hlast (by omega)) (h := S.o q.as (S.end (hK _ ?_)))))))
        clear hK K
        refine Ev.seq ?_
        obtain ⟨hlen, hin⟩ := spans_bd hs1 hs2 ((k : Int) * areaOf d)
        generalize hsp : levGo ((k : Int) * areaOf d) l [] = spans at hlen hin ⊢
        refine Ev.sr fun K hK => S.o q.mv (S.o (q.lena am_el25) (S.o q.mv (S.end (hK _ ?_))))
        clear hK K
        refine Ev.block ?_
        refine Ev.loopU (ι := {p : List (Int × Int) × List (Int × Int) // p.1 ++ p.2 = spans}) [0, 1] [0, 2, 8, 11, 12, 30, 31, 32, 33, 34, 35, 36, 37, 38, 39, 40] (fun ⟨(pre, suf), _⟩ => [(41, .lit (.int .i64 ((pre.length : Int)))), (13, .als 1 0 (shR a pre suf).length)]) (fun ⟨(pre, suf), _⟩ => [(0, ⟨true, 36, 2, (coverN l d a k).map stepC, true⟩), (1, ⟨true, 36, 2, (shR a pre suf).map stepC, true⟩)]) (fun ⟨(pre, suf), _⟩ => suf.length) ⟨([], spans), rfl⟩ (.c (.c (.c (.c (.c (.c (.c (.c (.c (.c (.c (.c (.c (.c (.c (.c .n)))))))))))))))) (keep_c (he := rfl) (h := (keep_c (he := (by first | rfl | exact congrArg _ (shR_set2 a pre suf s _))) (h := keep_n)))) (slots_c (he := (by first | rfl | (congr 2; simp; done))) (h := (slots_c (he := (by first | rfl | (congr 1; rw [shR_len, shR_len]; simp; omega) | (congr 1; simp [shR_len]; omega))) (h := trivial)))) ?_
        rintro ⟨⟨pre, suf⟩, hp⟩ R2 hR2
        dsimp only [List.cons_append, List.nil_append, List.length_cons, List.length_nil]
        simp only at hp
        have hpl : pre.length + suf.length = spans.length := by rw [← hp, List.length_append]
        rcases suf with _ | ⟨s, suf⟩
        · rw [List.append_nil] at hp; simp only [List.length_nil] at hpl
          refine Ev.sr fun K hK => S.o q.lss (S.end (hK _ ?_))
          clear hK K
          refine Ev.ud (fun c4 => ?_) (fun c4 => ?_)
          · first
          | (first | omega | contradiction)
          | refine Ev.seq ?_
            refine Ev.block ?_
            refine Ev.sr fun K hK => S.o q.mv (S.o q.as (S.end (hK _ ?_)))
            clear hK K
            refine Ev.sr fun K hK => S.o q.mv (S.o q.mv (S.o (q.ia am_el25 am_cl36) (S.o (q.fa 0 am_fi36_0 am_cl3) (S.o (q.lx am_ag3 (hl := (by first | exact at_g (by omega)))) (S.o q.mv (S.o q.sub (S.o (q.ia am_el25 am_cl36) (S.o (q.fa 0 am_fi36_0 am_cl3) (S.sx (⟨_, _⟩ : Int × Int) [_] am_in3 am_cl3 (hl := (by first | exact at_g (by omega))) (h := S.end (hK _ ?_)))))))))))
            clear hK K
            refine Ev.region_S fun K hK => S.o q.mv (S.o q.mv (S.o (q.ia am_el25 am_cl36) (S.o (q.fa 1 am_fi36_1 am_cl3) (S.o (q.lx am_ag3 (hl := (by first | exact at_g (by omega)))) (S.o q.mv (S.o q.add (S.o (q.ia am_el25 am_cl36) (S.o (q.fa 1 am_fi36_1 am_cl3) (S.sx (⟨_, _⟩ : Int × Int) [_] am_in3 am_cl3 (hl := (by first | exact at_g (by omega))) (h := S.end (hK _ ?_)))))))))))
            clear hK K
            show Ev _ _ _ _
            refine Ev.region_S fun K hK => S.o q.add (S.o q.mv (S.end (hK _ ?_)))
            clear hK K
            refine hR2 _ _ ?_
            refine roundU [0, 1] [0, 2, 8, 11, 12, 30, 31, 32, 33, 34, 35, 36, 37, 38, 39, 40] ⟨(pre ++ [s], suf), by rw [← hp]; simp⟩ ?_ (keep_c (he := rfl) (h := (keep_c (he := (by first | rfl | exact congrArg _ (shR_set2 a pre suf s _))) (h := keep_n)))) (slots_c (he := (by first | rfl | (congr 2; simp; done))) (h := (slots_c (he := (by first | rfl | (congr 1; rw [shR_len, shR_len]; simp; omega) | (congr 1; simp [shR_len]; omega))) (h := trivial)))) (.c (.c (.c (.c (.c (.c (.c (.c (.c (.c (.c (.c (.c (.c (.c (.c .n))))))))))))))))
            skip
            all_goals (dsimp only; simp only [List.length_cons]; omega)
          · first
          | (first | omega | contradiction)
          | refine Ev.exit ?_
            refine hR2 _ _ ?_
            show Ev _ _ _ _
            have hjl := joinL_len (shR a pre [])
            have hcv : coverN l d a (k + 1) = coverN l d a k ++ joinL (shR a pre []) := by rw [coverN, coverK, hsp, shR, List.append_nil, hp]
            have hsl := shR_len a pre []
            simp only [List.length_nil] at hsl
            refine Ev.sr fun K hK => S.o q.mv (S.o q.mv (S.cR [1] _ [_, _] (hob := (keep_c (he := rfl) (h := keep_n))) (hF := joined_fun _ (by omega)) (hn' := below1 (by decide)) (h := S.ap' [_] am_el25 am_ze36 am_cl36 am_by36 (hh := head_own') (hr := rows_part) (h := S.o q.as (S.end (hK _ ?_))))))
            clear hK K
            rw [← hcv]
            refine Ev.sr fun K hK => S.o q.mv (S.o (q.lena am_el25) (S.o q.gtr (S.end (hK _ ?_))))
            clear hK K
            refine Ev.cd (fun c5 => ?_) (fun c5 => ?_)
            · first
            | (first | omega | contradiction)
            | refine Ev.sr fun K hK => S.o q.as (S.o q.as (S.end (hK _ ?_)))
              clear hK K
              refine Ev.weaken (Wk.nsh stepC 6 2) ?_
              refine Ev.ret ?_
              refine hR0 _ _ ?_
              refine Ev.ret2 ?_
              refine ⟨?_, rfl⟩
              have hmo := coverN_mono l d a (show k + 1 ≤ (leastN l d).toNat by omega)
              obtain ⟨e1, e2⟩ := coverE3 ‹givenE l d a = 0› (by omega) (by omega)
              rw [e1, e2]
            · first
            | (first | omega | contradiction)
            | refine Ev.skip ?_
              show Ev _ _ _ _
              refine Ev.region_S fun K hK => S.o q.add (S.o q.mv (S.end (hK _ ?_)))
              clear hK K
              refine hR0 _ _ ?_
              refine roundU [2] [0, 2, 8, 30] ⟨k + 1, by omega, ?_⟩ ?_ (keep_c (he := (by first | rfl)) (h := keep_n)) (slots_c (he := (by first | rfl | (congr 2; omega))) (h := (slots_c (he := (by first | rfl)) (h := trivial)))) (.c (.c (.c (.c .n))))
              · omega
              all_goals (dsimp only; omega)
        · simp only [List.length_cons] at hpl
          have hsl := shR_len a pre (s :: suf)
          simp only [List.length_cons] at hsl
          have hidx := shR_get a pre suf s
          have hidx2 := shR_get2 a pre suf s (s.1 - a, s.2)
          obtain ⟨r1, r2, r3, r4⟩ := hin s (by rw [← hp]; simp)
          refine Ev.sr fun K hK => S.o q.lss (S.end (hK _ ?_))
          clear hK K
          refine Ev.ud (fun c6 => ?_) (fun c6 => ?_)
          · first
          | (first | omega | contradiction)
          | refine Ev.seq ?_
            refine Ev.block ?_
            refine Ev.sr fun K hK => S.o q.mv (S.o q.as (S.end (hK _ ?_)))
            clear hK K
            refine Ev.sr fun K hK => S.o q.mv (S.o q.mv (S.o (q.ia am_el25 am_cl36) (S.o (q.fa 0 am_fi36_0 am_cl3) (S.o (q.lx am_ag3 (hl := (by first | exact at_ hidx (by omega) | exact at_ hidx2 (by omega) | exact at_g (by omega)))) (S.o q.mv (S.o q.sub (S.o (q.ia am_el25 am_cl36) (S.o (q.fa 0 am_fi36_0 am_cl3) (S.sx (⟨_, _⟩ : Int × Int) [_] am_in3 am_cl3 (hl := (by first | exact at_ hidx (by omega) | exact at_ hidx2 (by omega) | exact at_g (by omega))) (h := S.end (hK _ ?_)))))))))))
            clear hK K
            refine Ev.region_S fun K hK => S.o q.mv (S.o q.mv (S.o (q.ia am_el25 am_cl36) (S.o (q.fa 1 am_fi36_1 am_cl3) (S.o (q.lx am_ag3 (hl := (by first | exact at_ hidx (by omega) | exact at_ hidx2 (by omega) | exact at_g (by omega)))) (S.o q.mv (S.o q.add (S.o (q.ia am_el25 am_cl36) (S.o (q.fa 1 am_fi36_1 am_cl3) (S.sx (⟨_, _⟩ : Int × Int) [_] am_in3 am_cl3 (hl := (by first | exact at_ hidx (by omega) | exact at_ hidx2 (by omega) | exact at_g (by omega))) (h := S.end (hK _ ?_)))))))))))
            clear hK K
            show Ev _ _ _ _
            refine Ev.region_S fun K hK => S.o q.add (S.o q.mv (S.end (hK _ ?_)))
            clear hK K
            refine hR2 _ _ ?_
            refine roundU [0, 1] [0, 2, 8, 11, 12, 30, 31, 32, 33, 34, 35, 36, 37, 38, 39, 40] ⟨(pre ++ [s], suf), by rw [← hp]; simp⟩ ?_ (keep_c (he := rfl) (h := (keep_c (he := (by first | rfl | exact congrArg _ (shR_set2 a pre suf s _))) (h := keep_n)))) (slots_c (he := (by first | rfl | (congr 2; simp; done))) (h := (slots_c (he := (by first | rfl | (congr 1; rw [shR_len, shR_len]; simp; omega) | (congr 1; simp [shR_len]; omega))) (h := trivial)))) (.c (.c (.c (.c (.c (.c (.c (.c (.c (.c (.c (.c (.c (.c (.c (.c .n))))))))))))))))
            skip
            all_goals (dsimp only; simp only [List.length_cons]; omega)
          · first
          | (first | omega | contradiction)
          | refine Ev.exit ?_
            refine hR2 _ _ ?_
            show Ev _ _ _ _
            have hjl := joinL_len (shR a pre [])
            have hcv : coverN l d a (k + 1) = coverN l d a k ++ joinL (shR a pre []) := by rw [coverN, coverK, hsp, shR, List.append_nil, hp]
            have hsl := shR_len a pre []
            simp only [List.length_nil] at hsl
            refine Ev.sr fun K hK => S.o q.mv (S.o q.mv (S.cR [1] _ [_, _] (hob := (keep_c (he := rfl) (h := keep_n))) (hF := joined_fun _ (by omega)) (hn' := below1 (by decide)) (h := S.ap' [_] am_el25 am_ze36 am_cl36 am_by36 (hh := head_own') (hr := rows_part) (h := S.o q.as (S.end (hK _ ?_))))))
            clear hK K
            rw [← hcv]
            refine Ev.sr fun K hK => S.o q.mv (S.o (q.lena am_el25) (S.o q.gtr (S.end (hK _ ?_))))
            clear hK K
            refine Ev.cd (fun c7 => ?_) (fun c7 => ?_)
            · first
            | (first | omega | contradiction)
            | refine Ev.sr fun K hK => S.o q.as (S.o q.as (S.end (hK _ ?_)))
              clear hK K
              refine Ev.weaken (Wk.nsh stepC 6 2) ?_
              refine Ev.ret ?_
              refine hR0 _ _ ?_
              refine Ev.ret2 ?_
              refine ⟨?_, rfl⟩
              first
               | (obtain ⟨e1, e2⟩ := coverE1 ‹¬ givenE l d a = 0›; rw [e1, e2]; done)
               | (obtain ⟨e1, e2⟩ := coverE2 ‹givenE l d a = 0› (by omega); rw [e1, e2]; done)
               | (obtain ⟨e1, e2⟩ := coverE3 ‹givenE l d a = 0› (by omega) (by have := coverN_mono l d a (show k + 1 ≤ (leastN l d).toNat by omega); omega); rw [e1, e2]; done)
               | (obtain rfl : k = (leastN l d).toNat := by omega
                  obtain ⟨e1, e2⟩ := coverE4 ‹givenE l d a = 0› (by omega) hkl; rw [e1, e2]; done)
            · first
            | (first | omega | contradiction)
            | refine Ev.skip ?_
              show Ev _ _ _ _
              refine Ev.region_S fun K hK => S.o q.add (S.o q.mv (S.end (hK _ ?_)))
              clear hK K
              refine hR0 _ _ ?_
              refine roundU [2] [0, 2, 8, 30] ⟨k + 1, by omega, ?_⟩ ?_ (keep_c (he := (by first | rfl)) (h := keep_n)) (slots_c (he := (by first | rfl | (congr 2; omega))) (h := (slots_c (he := (by first | rfl)) (h := trivial)))) (.c (.c (.c (.c .n))))
              · omega
              all_goals (dsimp only; omega)
      · first
      | (first | omega | contradiction)
      | refine Ev.exit ?_
        refine hR0 _ _ ?_
        show Ev _ _ _ _
        refine Ev.sr fun K hK => S.o q.mv (S.o q.as (S.o q.as (S.end (hK _ ?_))))
        clear hK K
        refine Ev.weaken (Wk.frz 6 []) ?_
        refine Ev.ret ?_
        refine Ev.ret2 ?_
        refine ⟨?_, rfl⟩
        first
         | (obtain ⟨e1, e2⟩ := coverE1 ‹¬ givenE l d a = 0›; rw [e1, e2]; done)
         | (obtain ⟨e1, e2⟩ := coverE2 ‹givenE l d a = 0› (by omega); rw [e1, e2]; done)
         | (obtain ⟨e1, e2⟩ := coverE3 ‹givenE l d a = 0› (by omega) (by have := coverN_mono l d a (show k + 1 ≤ (leastN l d).toNat by omega); omega); rw [e1, e2]; done)
         | (obtain rfl : k = (leastN l d).toNat := by omega
            obtain ⟨e1, e2⟩ := coverE4 ‹givenE l d a = 0› (by omega) hkl; rw [e1, e2]; done)
end Go.Proofs.Ytigjoaejncfmdaa
