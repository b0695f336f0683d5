/-
  curtail.Bound.
  Conditions: none.
-/
import Derived.Test.YtigjoaejncfmdaaB3
namespace Go.Proofs.Ytigjoaejncfmdaa
open Go Go.AM
set_option linter.unusedSimpArgs false
set_option linter.unusedVariables false
set_option maxRecDepth 100000

def InR (s : Int × Int) : Prop := -1048576 ≤ s.1 ∧ s.1 ≤ 1048576 ∧ -1048576 ≤ s.2 ∧ s.2 ≤ 1048576
theorem levAdd_len (acc : List (Int × Int)) (lo hi : Int) : (levAdd acc lo hi).length ≤ acc.length + 1 := by
  unfold levAdd
  split
  · split
    · simp
    · simp
  · simp
theorem levAdd_in {acc : List (Int × Int)} {lo hi : Int} (h : ∀ s ∈ acc, InR s) (h1 : -1048576 ≤ lo ∧ lo ≤ 1048576) (h2 : -1048576 ≤ hi ∧ hi ≤ 1048576) : ∀ s ∈ levAdd acc lo hi, InR s := by
  unfold levAdd
  split
  · rename_i o ho
    have hm := h o (List.mem_of_getLast? ho)
    split
    · intro s hs
      rcases List.mem_append.1 hs with hs | hs
      · exact h s (List.dropLast_subset _ hs)
      · simp at hs; subst hs; exact ⟨hm.1, hm.2.1, h2.1, h2.2⟩
    · intro s hs
      rcases List.mem_append.1 hs with hs | hs
      · exact h s hs
      · simp at hs; subst hs; exact ⟨h1.1, h1.2, h2.1, h2.2⟩
  · intro s hs
    rcases List.mem_append.1 hs with hs | hs
    · exact h s hs
    · simp at hs; subst hs; exact ⟨h1.1, h1.2, h2.1, h2.2⟩
theorem levGo_len (v : Int) : ∀ (l acc : List (Int × Int)), (levGo v l acc).length ≤ acc.length + l.length
  | [], acc => by simp [levGo]
  | [_], acc => by simp [levGo]
  | s :: n :: l, acc => by
    rw [levGo]
    have := levGo_len v (n :: l) (if s.2 ≤ v then acc else levAdd acc s.1 n.1)
    have h2 := levAdd_len acc s.1 n.1
    split at this <;> simp only [List.length_cons] at * <;> split <;> first | omega | (simp_all; omega)
theorem levGo_in (v : Int) : ∀ (l acc : List (Int × Int)), (∀ s ∈ l, Place s.1) → (∀ s ∈ acc, InR s) → ∀ s ∈ levGo v l acc, InR s
  | [], acc, _, h => by simpa [levGo] using h
  | [_], acc, _, h => by simpa [levGo] using h
  | s :: n :: l, acc, hl, h => by
    rw [levGo]
    refine levGo_in v (n :: l) _ (fun x hx => hl x (by simp [hx])) ?_
    split
    · exact h
    · exact levAdd_in h (hl s (by simp)) (hl n (by simp))
theorem spans_bd {l : List (Int × Int)} (hs1 : l.length ≤ 200) (hs2 : okL none l) (v : Int) : (levGo v l []).length ≤ 200 ∧ ∀ s ∈ levGo v l [], InR s := by
  refine ⟨Nat.le_trans (levGo_len v l []) (by simpa using hs1), levGo_in v l [] (fun s hs => (okL_mem hs2 s hs).1) (fun s hs => by simp at hs)⟩

def bGo (a : Int) : Option (Int × Int) → List (Int × Int) → Int → Int
  | _, [], sum => sum
  | none, s :: l, sum => bGo a (some s) l (sum + (s.2 - s.1))
  | some p, s :: l, sum => bGo a (some s) l (sum + (s.2 - s.1) + min (s.1 - p.2) (2 * a))
def boundK (l : List (Int × Int)) (d a : Int) (k : Nat) (sum : Int) : Int := bGo a none (levGo ((k : Int) * areaOf d) l []) (sum + 2 * a)
def boundN (l : List (Int × Int)) (d a : Int) : Nat → Int
  | 0 => 0
  | n + 1 => boundK l d a n (boundN l d a n)
theorem bGo_bd {a : Int} (ha1 : 0 ≤ a) (ha2 : a ≤ 1048576) : ∀ (l : List (Int × Int)) (p : Option (Int × Int)) (sum : Int), (∀ s ∈ l, InR s) → (∀ s, p = some s → InR s) →
    sum - 4194304 * l.length ≤ bGo a p l sum ∧ bGo a p l sum ≤ sum + 4194304 * l.length
  | [], p, sum, _, _ => by cases p <;> simp [bGo]
  | s :: l, none, sum, h, _ => by
    have := bGo_bd ha1 ha2 l (some s) (sum + (s.2 - s.1)) (fun x hx => h x (by simp [hx])) (fun x hx => by cases hx; exact h s (by simp))
    have hs := h s (by simp)
    unfold InR at hs
    rw [bGo]
    simp only [List.length_cons]
    omega
  | s :: l, some p, sum, h, hp => by
    have := bGo_bd ha1 ha2 l (some s) (sum + (s.2 - s.1) + min (s.1 - p.2) (2 * a)) (fun x hx => h x (by simp [hx])) (fun x hx => by cases hx; exact h s (by simp))
    have hs := h s (by simp)
    have hpp := hp p rfl
    unfold InR at hs hpp
    rw [bGo]
    simp only [List.length_cons]
    omega
theorem boundN_bd {l : List (Int × Int)} {d a : Int} (hs1 : l.length ≤ 200) (hs2 : okL none l) (ha1 : 0 ≤ a) (ha2 : a ≤ 1048576) : ∀ n : Nat, -1073741824 * (n : Int) ≤ boundN l d a n ∧ boundN l d a n ≤ 1073741824 * n
  | 0 => by simp [boundN]
  | n + 1 => by
    have h := boundN_bd (d := d) hs1 hs2 ha1 ha2 n
    obtain ⟨h1, h2⟩ := spans_bd hs1 hs2 ((n : Int) * areaOf d)
    have h3 := bGo_bd ha1 ha2 (levGo ((n : Int) * areaOf d) l []) none (boundN l d a n + 2 * a) h2 (fun s hs => by cases hs)
    rw [boundN, boundK]
    omega
def boundE (l : List (Int × Int)) (d a : Int) : Int := if givenE l d a = 0 then (if leastN l d ≤ 1000 then 0 else 4) else givenE l d a
def boundV (l : List (Int × Int)) (d a : Int) : Int := if givenE l d a = 0 ∧ leastN l d ≤ 1000 then boundN l d a (leastN l d).toNat else 0
theorem most_nn {l : List (Int × Int)} (hs2 : okL none l) : 0 ≤ most l 0 ∧ most l 0 ≤ 1099511627776 := most_bd l (fun s hs => (okL_mem hs2 s hs).2) 0 (by omega) (by omega)
theorem leastN_nn {l : List (Int × Int)} {d : Int} (hs2 : okL none l) (h : 28 ≤ areaOf d) : 0 ≤ leastN l d := Int.ediv_nonneg (by have := most_nn hs2; omega) (by omega)
theorem last_get {pre : List (Int × Int)} (h : 0 < pre.length) : pre.getLast? = some (pre.getLast (List.ne_nil_of_length_pos h)) := List.getLast?_eq_some_getLast _
theorem pre_last {pre suf l : List (Int × Int)} (hp : pre ++ suf = l) (h : 0 < pre.length) : l[pre.length - 1]? = some (pre.getLast (List.ne_nil_of_length_pos h)) := by
  rw [← hp, List.getElem?_append_left (by omega), ← List.getLast?_eq_getElem?, last_get h]
theorem bound_fun (l : List (Int × Int)) (d a : Int) : Fun Try.prog 13 [.sh 2 (l.map stepC), .lit (.int .i64 d), .lit (.int .i64 a)] (Ret (.tup [.lit (.int .i64 (boundV l d a)), .lit (.int .i64 (boundE l d a))]) []) := by
  refine Fun.of (nt := 77) (rs := [.tmp 6, .tmp 7]) Try.func13 rfl rfl rfl rfl rfl ?_
  refine Ev.sr fun K hK => S.o q.as (S.o q.as (S.end (hK _ ?_)))
  clear hK K
  refine Ev.sr fun K hK => S.o q.mv (S.o q.mv (S.o q.mv (S.c0 (hF := given_fun _ _ _) (h := S.o q.mv (S.o q.ex (S.o q.ex (S.o q.as (S.o q.as (S.end (hK _ ?_))))))))))
  clear hK K
  refine Ev.seq ?_
  refine Ev.sr fun K hK => S.o q.mv (S.o q.neq (S.end (hK _ ?_)))
  clear hK K
  refine Ev.cn (fun c1 => ?_) (fun c1 => ?_)
  · first
  | (first | omega | contradiction)
  | refine Ev.sr fun K hK => S.o q.mv (S.o q.as (S.o q.as (S.end (hK _ ?_))))
    clear hK K
    refine Ev.ret ?_
    refine Ev.ret2 ?_
    refine ⟨?_, rfl⟩
    first
     | (rw [boundV, boundE, if_neg (fun h => absurd h.1 ‹_›), if_neg ‹_›]; done)
     | (rw [boundV, boundE, if_neg (fun h => absurd h.2 (by omega)), if_pos ‹_›, if_neg (by omega)]; done)
     | (rw [boundV, boundE, if_pos ⟨‹_›, by omega⟩, if_pos ‹_›, if_pos (by omega), show (leastN l d).toNat = k by omega]; done)
  · first
  | (first | omega | contradiction)
  | refine Ev.skip ?_
    show Ev _ _ _ _
    obtain ⟨hs1, hs2, hlast, hz, hz1, hz2, hb1, hb2⟩ := givenZ ‹_›
    rw [show givenA l d a = areaOf d from if_pos ‹_›]
    have hnn := leastN_nn (d := d) hs2 hb1
    have hln : leastN l d = (most l 0 + areaOf d - 1) / areaOf d := rfl
    refine Ev.sr fun K hK => S.o q.mv (S.o q.mv (S.c0 (hF := count_fun _ _ (by omega) (by omega) (fun s hs => (okL_mem hs2 s hs).2) (by omega)) (h := S.o q.as (S.end (hK _ ?_)))))
    clear hK K
    refine Ev.seq ?_
    refine Ev.sr fun K hK => S.o q.mv (S.o q.gtr (S.end (hK _ ?_)))
    clear hK K
    refine Ev.cd (fun c2 => ?_) (fun c2 => ?_)
    · first
    | (first | omega | contradiction)
    | refine Ev.sr fun K hK => S.o q.as (S.o q.as (S.end (hK _ ?_)))
      clear hK K
      refine Ev.ret ?_
      refine Ev.ret2 ?_
      refine ⟨?_, rfl⟩
      first
       | (rw [boundV, boundE, if_neg (fun h => absurd h.1 ‹_›), if_neg ‹_›]; done)
       | (rw [boundV, boundE, if_neg (fun h => absurd h.2 (by omega)), if_pos ‹_›, if_neg (by omega)]; done)
       | (rw [boundV, boundE, if_pos ⟨‹_›, by omega⟩, if_pos ‹_›, if_pos (by omega), show (leastN l d).toNat = k by omega]; done)
    · first
    | (first | omega | contradiction)
    | refine Ev.skip ?_
      show Ev _ _ _ _
      refine Ev.sr fun K hK => S.o q.as (S.end (hK _ ?_))
      clear hK K
      refine Ev.seq ?_
      refine Ev.sr fun K hK => S.o q.mv (S.o q.mv (S.end (hK _ ?_)))
      clear hK K
      refine Ev.block ?_
      refine Ev.loopU (ι := {k : Nat // (k : Int) ≤ leastN l d}) [] [0, 2, 6, 7, 8, 31] (fun ⟨k, _⟩ => [(32, .lit (.int .i64 ((k : Int)))), (11, .lit (.int .i64 (boundN l d a k)))]) (fun ⟨k, _⟩ => []) (fun ⟨k, _⟩ => (leastN l d).toNat - k) ⟨0, by omega⟩ (.c (.c (.c (.c (.c (.c .n)))))) keep_n (slots_c (he := (by first | rfl | (simp; done) | (congr 2; omega))) (h := (slots_c (he := (by first | rfl | (congr 2; rw [boundN, boundK, hsp, hs0]; exact hfin))) (h := trivial)))) ?_
      rintro ⟨k, hk⟩ R0 hR0
      dsimp only [List.cons_append, List.nil_append, List.length_cons, List.length_nil]
      have hmk := mul_bd (k := (k : Int)) (K := leastN l d) (A := 125664) (by omega) hk (show 0 ≤ areaOf d by omega) hb2
      obtain ⟨hm1, hm2⟩ := hmk
      obtain ⟨bk1, bk2⟩ := boundN_bd (d := d) hs1 hs2 hz1 hz2 k
      refine Ev.sr fun K hK => S.o q.lss (S.end (hK _ ?_))
      clear hK K
      refine Ev.ud (fun c3 => ?_) (fun c3 => ?_)
      · first
      | (first | omega | contradiction)
      | refine Ev.seq ?_
        refine Ev.block ?_
        refine Ev.sr fun K hK => S.o q.mv (S.o q.as (S.end (hK _ ?_)))
        clear hK K
        refine Ev.sr fun K hK => S.o q.mv (S.o q.mv (S.o q.mv (S.o (q.mul (h1 := by omega) (h2 := by omega)) (S.c1 (hF := level_fun _ _ (by omega) hlast (by omega)) (h := SeqL.weaken (Wk.frz 39 []) (S.o q.as (S.end (hK _ ?_))))))))
        clear hK K
        obtain ⟨hlen, hin⟩ := spans_bd hs1 hs2 ((k : Int) * areaOf d)
        generalize hsp : levGo ((k : Int) * areaOf d) l [] = spans at hlen hin ⊢
        refine Ev.sr fun K hK => S.o q.mv (S.o q.mv (S.o q.mul (S.o q.add (S.o q.as (S.end (hK _ ?_))))))
        clear hK K
        generalize hs0 : boundN l d a k + 2 * a = s0
        refine Ev.sr fun K hK => S.o q.mv (S.o (q.lens am_el25) (S.o q.mv (S.end (hK _ ?_))))
        clear hK K
        refine Ev.block ?_
        refine Ev.loopU (ι := {p : (List (Int × Int) × List (Int × Int)) × Int // p.1.1 ++ p.1.2 = spans ∧ bGo a none spans s0 = bGo a p.1.1.getLast? p.1.2 p.2 ∧ s0 - 4194304 * p.1.1.length ≤ p.2 ∧ p.2 ≤ s0 + 4194304 * p.1.1.length}) [] [0, 2, 6, 7, 8, 12, 13, 31, 32, 33, 34, 35, 36, 37, 38, 39, 40, 41, 42, 43, 44, 45] (fun ⟨((pre, suf), sum), _⟩ => [(46, .lit (.int .i64 ((pre.length : Int)))), (11, .lit (.int .i64 (sum)))]) (fun ⟨((pre, suf), sum), _⟩ => []) (fun ⟨((pre, suf), sum), _⟩ => suf.length) ⟨(([], spans), s0), rfl, rfl, by simp, by simp⟩ (.c (.c (.c (.c (.c (.c (.c (.c (.c (.c (.c (.c (.c (.c (.c (.c (.c (.c (.c (.c (.c (.c .n)))))))))))))))))))))) keep_n (slots_c (he := (by first | rfl | (simp; done) | (congr 2; omega))) (h := (slots_c (he := (by first | rfl | (simp; done) | (congr 2; omega))) (h := trivial)))) ?_
        rintro ⟨⟨⟨pre, suf⟩, sum⟩, hp, hok, hsm1, hsm2⟩ R2 hR2
        dsimp only [List.cons_append, List.nil_append, List.length_cons, List.length_nil]
        simp only at hp hok hsm1 hsm2
        have hpl : pre.length + suf.length = spans.length := by rw [← hp, List.length_append]
        rcases suf with _ | ⟨s, suf⟩
        · rw [List.append_nil] at hp; simp only [List.length_nil] at hpl
          have hfin : sum = bGo a none spans s0 := by rw [hok]; cases pre.getLast? <;> rfl
          refine Ev.sr fun K hK => S.o q.lss (S.end (hK _ ?_))
          clear hK K
          refine Ev.ud (fun c4 => ?_) (fun c4 => ?_)
          · first
          | (first | omega | contradiction)
          | refine Ev.seq ?_
            refine Ev.block ?_
            refine Ev.sr fun K hK => S.o q.mv (S.o (q.ix am_el25 am_cl36 (hl := (by first | exact atig (by omega)))) (S.o (q.lsA [_, _] am_ag36 am_cl36) (S.nn (q.al am_ze36) (S.o q.as (S.sv [_, _] true [] am_in36 am_cl36 (h := S.end (hK _ ?_)))))))
            clear hK K
            refine Ev.sr fun K hK => S.o q.mv (S.o (q.fa 1 am_fi36_1 am_cl3) (S.o (q.lv am_ag3) (S.o (q.fa 0 am_fi36_0 am_cl3) (S.o (q.lv am_ag3) (S.o q.sub (S.o q.add (S.o q.as (S.end (hK _ ?_)))))))))
            clear hK K
            refine Ev.sr fun K hK => S.o q.mv (S.o q.gtr (S.end (hK _ ?_)))
            clear hK K
            refine Ev.cd (fun c5 => ?_) (fun c5 => ?_)
            · first
            | (first | omega | contradiction)
            | obtain ⟨q1, q2, q3, q4⟩ := hlr (by omega)
              refine Ev.region_M (tbs [(0, 0), (0, 0), (2, 2), (0, 0), (0, 0), (5, 16), (6, 56), (7, 120), (8, 248), (9, 510), (0, 0), (11, 1024), (12, 4094), (13, 8191), (14, 16383)]) 14 fun K hK => M.o q.mv (M.o (q.fa 0 am_fi36_0 am_cl3) (M.o (q.lv am_ag3) (M.o q.mv (M.o q.mv (M.o q.sub (M.o (q.ix am_el25 am_cl36 (hl := (by first | exact atig (by omega)))) (M.o (q.fs 1 am_fi36_1 am_cl3) (M.o (q.ls am_ag3) (M.o q.sub (M.o q.mv (M.o q.mul (M.o q.min (M.o q.add (M.end [_] (h := S.o q.as (S.end (hK _ ?_)))))))))))))))))
              clear hK K
              show Ev _ _ _ _
              refine Ev.region_S fun K hK => S.o q.add (S.o q.mv (S.end (hK _ ?_)))
              clear hK K
              refine hR2 _ _ ?_
              refine roundU [] [0, 2, 6, 7, 8, 12, 13, 31, 32, 33, 34, 35, 36, 37, 38, 39, 40, 41, 42, 43, 44, 45] ⟨((pre ++ [s], suf), _), by rw [← hp]; simp, ?_, ?_, ?_⟩ ?_ keep_n (slots_c (he := (by first | rfl | (simp; done) | (congr 2; omega))) (h := (slots_c (he := (by first | rfl | (simp; done) | (congr 2; omega))) (h := trivial)))) (.c (.c (.c (.c (.c (.c (.c (.c (.c (.c (.c (.c (.c (.c (.c (.c (.c (.c (.c (.c (.c (.c .n))))))))))))))))))))))
              · rw [List.getLast?_append, List.getLast?_singleton, Option.some_or, hok]
                first
                 | (rw [last_get (by omega), bGo]; first | done | (congr 1; done) | (congr 1; omega))
                 | (rw [show pre = [] from List.eq_nil_of_length_eq_zero (by omega)]; rw [List.getLast?_nil, bGo]; first | done | (congr 1; done) | (congr 1; omega))
              all_goals (simp only [List.length_append, List.length_cons, List.length_nil]; omega)
            · first
            | (first | omega | contradiction)
            | refine Ev.skip ?_
              show Ev _ _ _ _
              refine Ev.region_S fun K hK => S.o q.add (S.o q.mv (S.end (hK _ ?_)))
              clear hK K
              refine hR2 _ _ ?_
              refine roundU [] [0, 2, 6, 7, 8, 12, 13, 31, 32, 33, 34, 35, 36, 37, 38, 39, 40, 41, 42, 43, 44, 45] ⟨((pre ++ [s], suf), _), by rw [← hp]; simp, ?_, ?_, ?_⟩ ?_ keep_n (slots_c (he := (by first | rfl | (simp; done) | (congr 2; omega))) (h := (slots_c (he := (by first | rfl | (simp; done) | (congr 2; omega))) (h := trivial)))) (.c (.c (.c (.c (.c (.c (.c (.c (.c (.c (.c (.c (.c (.c (.c (.c (.c (.c (.c (.c (.c (.c .n))))))))))))))))))))))
              · rw [List.getLast?_append, List.getLast?_singleton, Option.some_or, hok]
                first
                 | (rw [last_get (by omega), bGo]; first | done | (congr 1; done) | (congr 1; omega))
                 | (rw [show pre = [] from List.eq_nil_of_length_eq_zero (by omega)]; rw [List.getLast?_nil, bGo]; first | done | (congr 1; done) | (congr 1; omega))
              all_goals (simp only [List.length_append, List.length_cons, List.length_nil]; omega)
          · first
          | (first | omega | contradiction)
          | refine Ev.exit ?_
            refine hR2 _ _ ?_
            show Ev _ _ _ _
            refine Ev.region_S fun K hK => S.o q.add (S.o q.mv (S.end (hK _ ?_)))
            clear hK K
            refine hR0 _ _ ?_
            refine roundU [] [0, 2, 6, 7, 8, 31] ⟨k + 1, by omega⟩ ?_ keep_n (slots_c (he := (by first | rfl | (simp; done) | (congr 2; omega))) (h := (slots_c (he := (by first | rfl | (congr 2; rw [boundN, boundK, hsp, hs0]; exact hfin))) (h := trivial)))) (.c (.c (.c (.c (.c (.c .n))))))
            skip
            all_goals (dsimp only; omega)
        · simp only [List.length_cons] at hpl
          have hidx : spans[pre.length]? = some s := by rw [← hp]; simp
          obtain ⟨r1, r2, r3, r4⟩ := hin s (List.mem_of_getElem? hidx)
          have hlst := pre_last hp
          have hlr : ∀ h : 0 < pre.length, InR (pre.getLast (List.ne_nil_of_length_pos h)) := fun h => hin _ (List.mem_of_getElem? (pre_last hp h))
          refine Ev.sr fun K hK => S.o q.lss (S.end (hK _ ?_))
          clear hK K
          refine Ev.ud (fun c6 => ?_) (fun c6 => ?_)
          · first
          | (first | omega | contradiction)
          | refine Ev.seq ?_
            refine Ev.block ?_
            refine Ev.sr fun K hK => S.o q.mv (S.o (q.ix am_el25 am_cl36 (hl := (by first | exact ati hidx (by omega) | exact ati (hlst (by omega)) (by omega) | exact atig (by omega)))) (S.o (q.lsA [_, _] am_ag36 am_cl36) (S.nn (q.al am_ze36) (S.o q.as (S.sv [_, _] true [] am_in36 am_cl36 (h := S.end (hK _ ?_)))))))
            clear hK K
            refine Ev.sr fun K hK => S.o q.mv (S.o (q.fa 1 am_fi36_1 am_cl3) (S.o (q.lv am_ag3) (S.o (q.fa 0 am_fi36_0 am_cl3) (S.o (q.lv am_ag3) (S.o q.sub (S.o q.add (S.o q.as (S.end (hK _ ?_)))))))))
            clear hK K
            refine Ev.sr fun K hK => S.o q.mv (S.o q.gtr (S.end (hK _ ?_)))
            clear hK K
            refine Ev.cd (fun c7 => ?_) (fun c7 => ?_)
            · first
            | (first | omega | contradiction)
            | obtain ⟨q1, q2, q3, q4⟩ := hlr (by omega)
              refine Ev.region_M (tbs [(0, 0), (0, 0), (2, 2), (0, 0), (0, 0), (5, 16), (6, 56), (7, 120), (8, 248), (9, 510), (0, 0), (11, 1024), (12, 4094), (13, 8191), (14, 16383)]) 14 fun K hK => M.o q.mv (M.o (q.fa 0 am_fi36_0 am_cl3) (M.o (q.lv am_ag3) (M.o q.mv (M.o q.mv (M.o q.sub (M.o (q.ix am_el25 am_cl36 (hl := (by first | exact ati hidx (by omega) | exact ati (hlst (by omega)) (by omega) | exact atig (by omega)))) (M.o (q.fs 1 am_fi36_1 am_cl3) (M.o (q.ls am_ag3) (M.o q.sub (M.o q.mv (M.o q.mul (M.o q.min (M.o q.add (M.end [_] (h := S.o q.as (S.end (hK _ ?_)))))))))))))))))
              clear hK K
              show Ev _ _ _ _
              refine Ev.region_S fun K hK => S.o q.add (S.o q.mv (S.end (hK _ ?_)))
              clear hK K
              refine hR2 _ _ ?_
              refine roundU [] [0, 2, 6, 7, 8, 12, 13, 31, 32, 33, 34, 35, 36, 37, 38, 39, 40, 41, 42, 43, 44, 45] ⟨((pre ++ [s], suf), _), by rw [← hp]; simp, ?_, ?_, ?_⟩ ?_ keep_n (slots_c (he := (by first | rfl | (simp; done) | (congr 2; omega))) (h := (slots_c (he := (by first | rfl | (simp; done) | (congr 2; omega))) (h := trivial)))) (.c (.c (.c (.c (.c (.c (.c (.c (.c (.c (.c (.c (.c (.c (.c (.c (.c (.c (.c (.c (.c (.c .n))))))))))))))))))))))
              · rw [List.getLast?_append, List.getLast?_singleton, Option.some_or, hok]
                first
                 | (rw [last_get (by omega), bGo]; first | done | (congr 1; done) | (congr 1; omega))
                 | (rw [show pre = [] from List.eq_nil_of_length_eq_zero (by omega)]; rw [List.getLast?_nil, bGo]; first | done | (congr 1; done) | (congr 1; omega))
              all_goals (simp only [List.length_append, List.length_cons, List.length_nil]; omega)
            · first
            | (first | omega | contradiction)
            | refine Ev.skip ?_
              show Ev _ _ _ _
              refine Ev.region_S fun K hK => S.o q.add (S.o q.mv (S.end (hK _ ?_)))
              clear hK K
              refine hR2 _ _ ?_
              refine roundU [] [0, 2, 6, 7, 8, 12, 13, 31, 32, 33, 34, 35, 36, 37, 38, 39, 40, 41, 42, 43, 44, 45] ⟨((pre ++ [s], suf), _), by rw [← hp]; simp, ?_, ?_, ?_⟩ ?_ keep_n (slots_c (he := (by first | rfl | (simp; done) | (congr 2; omega))) (h := (slots_c (he := (by first | rfl | (simp; done) | (congr 2; omega))) (h := trivial)))) (.c (.c (.c (.c (.c (.c (.c (.c (.c (.c (.c (.c (.c (.c (.c (.c (.c (.c (.c (.c (.c (.c .n))))))))))))))))))))))
              · rw [List.getLast?_append, List.getLast?_singleton, Option.some_or, hok]
                first
                 | (rw [last_get (by omega), bGo]; first | done | (congr 1; done) | (congr 1; omega))
                 | (rw [show pre = [] from List.eq_nil_of_length_eq_zero (by omega)]; rw [List.getLast?_nil, bGo]; first | done | (congr 1; done) | (congr 1; omega))
              all_goals (simp only [List.length_append, List.length_cons, List.length_nil]; omega)
          · first
          | (first | omega | contradiction)
          | refine Ev.exit ?_
            refine hR2 _ _ ?_
            show Ev _ _ _ _
            refine Ev.region_S fun K hK => S.o q.add (S.o q.mv (S.end (hK _ ?_)))
            clear hK K
            refine hR0 _ _ ?_
            refine roundU [] [0, 2, 6, 7, 8, 31] ⟨k + 1, by omega⟩ ?_ keep_n (slots_c (he := (by first | rfl | (simp; done) | (congr 2; omega))) (h := (slots_c (he := (by first | rfl | (congr 2; rw [boundN, boundK, hsp, hs0]; exact hfin))) (h := trivial)))) (.c (.c (.c (.c (.c (.c .n))))))
            skip
            all_goals (dsimp only; omega)
      · first
      | (first | omega | contradiction)
      | refine Ev.exit ?_
        refine hR0 _ _ ?_
        show Ev _ _ _ _
        refine Ev.sr fun K hK => S.o q.mv (S.o q.as (S.o q.as (S.end (hK _ ?_))))
        clear hK K
        refine Ev.ret ?_
        refine Ev.ret2 ?_
        refine ⟨?_, rfl⟩
        first
         | (rw [boundV, boundE, if_neg (fun h => absurd h.1 ‹_›), if_neg ‹_›]; done)
         | (rw [boundV, boundE, if_neg (fun h => absurd h.2 (by omega)), if_pos ‹_›, if_neg (by omega)]; done)
         | (rw [boundV, boundE, if_pos ⟨‹_›, by omega⟩, if_pos ‹_›, if_pos (by omega), show (leastN l d).toNat = k by omega]; done)
end Go.Proofs.Ytigjoaejncfmdaa
