/-
  curtail.Least, Level; ref28.Least, Level.
  Conditions: none.
-/
import Derived.Test.YtigjoaejncfmdaaB2
namespace Go.Proofs.Ytigjoaejncfmdaa
open Go Go.AM
set_option linter.unusedSimpArgs false
set_option linter.unusedVariables false
set_option maxRecDepth 100000

theorem size_bd {d : Int} (h : d ∈ sizes) : 0 ≤ d ∧ d ≤ 1000 := by
  simp only [sizes, List.mem_cons, List.not_mem_nil, or_false] at h
  omega
theorem givenZ {l : List (Int × Int)} {d a : Int} (h : givenE l d a = 0) : l.length ≤ 200 ∧ okL none l ∧ lastOK l ∧ d ∈ sizes ∧ 0 ≤ a ∧ a ≤ 1048576 ∧ 28 ≤ areaOf d ∧ areaOf d ≤ 125664 := by
  obtain ⟨h1, h2, h3⟩ := givenE_zero h
  exact ⟨h1.1, h1.2, h3, h2.1, h2.2.1, h2.2.2, area_bd h2.1⟩
def leastV (l : List (Int × Int)) (d : Int) : Int := if givenE l d 0 = 0 then leastN l d else 0
theorem Least_fun (l : List (Int × Int)) (d : Int) : Fun Try.prog 19 [.sh 2 (l.map stepC), .lit (.int .i64 d)] (Ret (.tup [.lit (.int .i64 (leastV l d)), .lit (.int .i64 (givenE l d 0))]) []) := by
  refine Fun.of (nt := 20) (rs := [.tmp 4, .tmp 5]) Try.func19 rfl rfl rfl rfl rfl ?_
  refine Ev.sr fun K hK => S.o q.as (S.o q.as (S.end (hK _ ?_)))
  clear hK K
  refine Ev.sr fun K hK => S.o q.mv (S.o q.mv (S.c0 (hF := given_fun _ _ _) (h := S.o q.mv (S.o q.ex (S.o q.ex (S.o q.as (S.o q.as (S.end (hK _ ?_)))))))))
  clear hK K
  refine Ev.seq ?_
  refine Ev.sr fun K hK => S.o q.mv (S.o q.neq (S.end (hK _ ?_)))
  clear hK K
  refine Ev.cn (fun c1 => ?_) (fun c1 => ?_)
  · first
  | (first | omega | contradiction)
  | refine Ev.sr fun K hK => S.o q.mv (S.o q.as (S.o q.as (S.end (hK _ ?_))))
    clear hK K
    refine Ev.ret ?_
    refine Ev.ret2 ?_
    refine ⟨?_, rfl⟩
    first
     | (rw [leastV, if_neg ‹_›]; done)
     | (rw [leastV, if_pos ‹_›, leastN, ‹givenE l d 0 = 0›]; done)
  · first
  | (first | omega | contradiction)
  | refine Ev.skip ?_
    show Ev _ _ _ _
    obtain ⟨hs1, hs2, hlast, hz, hz1, hz2, hb1, hb2⟩ := givenZ ‹_›
    have hga : ∀ a, givenE l d a = 0 → givenA l d a = areaOf d := fun a h => if_pos h
    rw [hga _ ‹_›]
    refine Ev.sr fun K hK => S.o q.mv (S.o q.mv (S.c0 (hF := count_fun _ _ (by omega) (by omega) (fun s hs => (okL_mem hs2 s hs).2) (by omega)) (h := S.o q.as (S.o q.as (S.end (hK _ ?_))))))
    clear hK K
    refine Ev.ret ?_
    refine Ev.ret2 ?_
    refine ⟨?_, rfl⟩
    first
     | (rw [leastV, if_neg ‹_›]; done)
     | (rw [leastV, if_pos ‹_›, leastN, ‹givenE l d 0 = 0›]; done)

def levelV (l : List (Int × Int)) (d k : Int) : List (Int × Int) := if givenE l d 0 = 0 ∧ 1 ≤ k ∧ k ≤ 1000 then levGo ((k - 1) * areaOf d) l [] else []
def levelE (l : List (Int × Int)) (d k : Int) : Int := if givenE l d 0 = 0 then (if 1 ≤ k ∧ k ≤ 1000 then 0 else 2) else givenE l d 0
theorem mul_bd {k a K A : Int} (h1 : 0 ≤ k) (h2 : k ≤ K) (h3 : 0 ≤ a) (h4 : a ≤ A) : 0 ≤ k * a ∧ k * a ≤ K * A := ⟨Int.mul_nonneg h1 h3, Int.mul_le_mul h2 h4 h3 (by omega)⟩
theorem Level_fun (l : List (Int × Int)) (d k : Int) : Fun Try.prog 20 [.sh 2 (l.map stepC), .lit (.int .i64 d), .lit (.int .i64 k)] (Ret (.tup [.sh 2 ((levelV l d k).map stepC), .lit (.int .i64 (levelE l d k))]) []) := by
  refine Fun.of (nt := 31) (rs := [.tmp 6, .tmp 7]) Try.func20 rfl rfl rfl rfl rfl ?_
  refine Ev.sr fun K hK => S.o q.as (S.o q.as (S.end (hK _ ?_)))
  clear hK K
  refine Ev.sr fun K hK => S.o q.mv (S.o q.mv (S.c0 (hF := given_fun _ _ _) (h := S.o q.mv (S.o q.ex (S.o q.ex (S.o q.as (S.o q.as (S.end (hK _ ?_)))))))))
  clear hK K
  refine Ev.seq ?_
  refine Ev.sr fun K hK => S.o q.mv (S.o q.neq (S.end (hK _ ?_)))
  clear hK K
  refine Ev.cn (fun c1 => ?_) (fun c1 => ?_)
  · first
  | (first | omega | contradiction)
  | refine Ev.sr fun K hK => S.o q.mv (S.o q.as (S.o q.as (S.end (hK _ ?_))))
    clear hK K
    refine Ev.weaken (Wk.nsh stepC 6 2) ?_
    refine Ev.ret ?_
    refine Ev.ret2 ?_
    refine ⟨?_, rfl⟩
    first
     | (rw [levelV, levelE, if_neg (fun h => absurd h.1 ‹_›), if_neg ‹_›]; done)
     | (rw [levelV, levelE, if_neg (by omega), if_pos ‹_›, if_neg (by omega)]; done)
     | (rw [levelV, levelE, if_pos ⟨‹_›, by omega, by omega⟩, if_pos ‹_›, if_pos ⟨by omega, by omega⟩]; done)
  · first
  | (first | omega | contradiction)
  | refine Ev.skip ?_
    show Ev _ _ _ _
    refine Ev.seq ?_
    refine Ev.sr fun K hK => S.o q.mv (S.o q.lss (S.bd q.mv (fun c2 => ?_) (fun c2 => ?_)))
    · first
    | (first | omega | contradiction)
    | refine S.sk (S.sk (S.o q.pt (S.end (hK _ ?_))))
      clear hK K
      refine Ev.ct ?_
      refine Ev.sr fun K hK => S.o q.as (S.o q.as (S.end (hK _ ?_)))
      clear hK K
      refine Ev.weaken (Wk.nsh stepC 6 2) ?_
      refine Ev.ret ?_
      refine Ev.ret2 ?_
      refine ⟨?_, rfl⟩
      first
       | (rw [levelV, levelE, if_neg (fun h => absurd h.1 ‹_›), if_neg ‹_›]; done)
       | (rw [levelV, levelE, if_neg (by omega), if_pos ‹_›, if_neg (by omega)]; done)
       | (rw [levelV, levelE, if_pos ⟨‹_›, by omega, by omega⟩, if_pos ‹_›, if_pos ⟨by omega, by omega⟩]; done)
    · first
    | (first | omega | contradiction)
    | refine S.o q.mv (S.o q.gtr (S.o q.pf (S.end (hK _ ?_))))
      clear hK K
      refine Ev.cd (fun c3 => ?_) (fun c3 => ?_)
      · first
      | (first | omega | contradiction)
      | refine Ev.sr fun K hK => S.o q.as (S.o q.as (S.end (hK _ ?_)))
        clear hK K
        refine Ev.weaken (Wk.nsh stepC 6 2) ?_
        refine Ev.ret ?_
        refine Ev.ret2 ?_
        refine ⟨?_, rfl⟩
        first
         | (rw [levelV, levelE, if_neg (fun h => absurd h.1 ‹_›), if_neg ‹_›]; done)
         | (rw [levelV, levelE, if_neg (by omega), if_pos ‹_›, if_neg (by omega)]; done)
         | (rw [levelV, levelE, if_pos ⟨‹_›, by omega, by omega⟩, if_pos ‹_›, if_pos ⟨by omega, by omega⟩]; done)
      · first
      | (first | omega | contradiction)
      | refine Ev.skip ?_
        show Ev _ _ _ _
        obtain ⟨hs1, hs2, hlast, hz, hz1, hz2, hb1, hb2⟩ := givenZ ‹_›
        have hga : ∀ a, givenE l d a = 0 → givenA l d a = areaOf d := fun a h => if_pos h
        rw [hga _ ‹_›]
        have hm := mul_bd (K := 1000) (A := 125664) (show 0 ≤ k - 1 by omega) (by omega) (show 0 ≤ areaOf d by omega) hb2
        obtain ⟨hm1, hm2⟩ := hm
        refine Ev.sr fun K hK => S.o q.mv (S.o q.mv (S.o q.sub (S.o q.mv (S.o (q.mul (h1 := by omega) (h2 := by omega)) (S.c1 (hF := level_fun _ _ (by omega) hlast (by assumption)) (h := S.o q.as (S.o q.as (S.end (hK _ ?_)))))))))
        clear hK K
        refine Ev.weaken (Wk.frz 6 []) ?_
        refine Ev.ret ?_
        refine Ev.ret2 ?_
        refine ⟨?_, rfl⟩
        first
         | (rw [levelV, levelE, if_neg (fun h => absurd h.1 ‹_›), if_neg ‹_›]; done)
         | (rw [levelV, levelE, if_neg (by omega), if_pos ‹_›, if_neg (by omega)]; done)
         | (rw [levelV, levelE, if_pos ⟨‹_›, by omega, by omega⟩, if_pos ‹_›, if_pos ⟨by omega, by omega⟩]; done)

theorem divmax (m v a : Int) (ha : 1 ≤ a) : (max m v + a - 1) / a = max ((m + a - 1) / a) ((v + a - 1) / a) := by
  rw [Int.max_def, Int.max_def]
  split
  · rename_i h
    have := Int.ediv_le_ediv (show 0 < a by omega) (show m + a - 1 ≤ v + a - 1 by omega)
    rw [if_pos this]
  · rename_i h
    have := Int.ediv_le_ediv (show 0 < a by omega) (show v + a - 1 ≤ m + a - 1 by omega)
    split
    · omega
    · rfl
theorem div0 (a : Int) (ha : 1 ≤ a) : (0 + a - 1) / a = 0 := by
  rw [show 0 + a - 1 = a - 1 by omega]
  exact Int.ediv_eq_zero_of_lt (by omega) (by omega)
theorem rleast_fun (l : List (Int × Int)) (d : Int) (hlen : l.length ≤ 200) (hd : d ∈ sizes) (hl : ∀ s ∈ l, 0 ≤ s.2 ∧ s.2 ≤ 1099511627776) :
    Fun Try.prog 15 [.sh 2 (l.map stepC), .lit (.int .i64 d)] (Ret (.lit (.int .i64 (leastN l d))) []) := by
  obtain ⟨hd1, hd2⟩ := size_bd hd
  obtain ⟨hb1, hb2⟩ := area_bd hd
  refine Fun.of (nt := 32) (rs := [.tmp 4]) Try.func15 rfl rfl rfl rfl rfl ?_
  refine Ev.sr fun K hK => S.o q.as (S.end (hK _ ?_))
  clear hK K
  refine Ev.sr fun K hK => S.o q.mv (S.c0 (hF := rarea_fun _ (by omega) (by omega)) (h := S.o q.as (S.end (hK _ ?_))))
  clear hK K
  refine Ev.sr fun K hK => S.o q.as (S.end (hK _ ?_))
  clear hK K
  refine Ev.seq ?_
  refine Ev.sr fun K hK => S.o q.as (S.end (hK _ ?_))
  clear hK K
  refine Ev.block ?_
  refine Ev.loopU (ι := {p : List (Int × Int) × List (Int × Int) // p.1 ++ p.2 = l ∧ (True)}) [] [0, 4, 5] (fun ⟨(pre, suf), _⟩ => [(7, .lit (.int .i64 ((pre.length : Int)))), (6, .lit (.int .i64 ((most pre 0 + areaOf d - 1) / areaOf d)))]) (fun ⟨(pre, suf), _⟩ => []) (fun ⟨(pre, suf), _⟩ => suf.length) ⟨([], l), rfl, trivial⟩ (.c (.c (.c .n))) keep_n (slots_c (he := (by first | rfl | (simp; done))) (h := (slots_c (he := (by first | (congr 2; exact (div0 _ (by omega)).symm) | (congr 2; rw [most_append, divmax _ _ _ (by omega)]; omega))) (h := trivial)))) ?_
  rintro ⟨⟨pre, suf⟩, hp, hinv⟩ R0 hR0
  dsimp only [List.cons_append, List.nil_append, List.length_cons, List.length_nil]
  simp only at hp hinv
  rcases suf with _ | ⟨s, suf⟩
  · rw [List.append_nil] at hp; subst hp
    refine Ev.seq ?_
    refine Ev.sr fun K hK => S.o q.mv (S.o q.mv (S.o (q.lens am_el22) (S.o q.lss (S.end (hK _ ?_)))))
    clear hK K
    refine Ev.cd (fun c1 => ?_) (fun c1 => ?_)
    · first
    | (first | omega | contradiction)
    | refine Ev.skip ?_
      show Ev _ _ _ _
      refine Ev.seq ?_
      refine Ev.block ?_
      refine Ev.sr fun K hK => S.o q.mv (S.o q.mv (S.o (q.ix am_el22 am_cl57 (hl := (by first | exact atig (by omega)))) (S.o (q.fs 1 am_fi57_1 am_cl3) (S.o (q.ls am_ag3) (S.o q.mv (S.o q.add (S.o q.sub (S.o q.mv (S.o q.quo (S.o q.as (S.end (hK _ ?_))))))))))))
      clear hK K
      refine Ev.sr fun K hK => S.o q.mv (S.o q.mv (S.o q.gtr (S.end (hK _ ?_))))
      clear hK K
      refine Ev.cd (fun c2 => ?_) (fun c2 => ?_)
      · first
      | (first | omega | contradiction)
      | refine Ev.region_S fun K hK => S.o q.mv (S.o q.as (S.end (hK _ ?_)))
        clear hK K
        show Ev _ _ _ _
        refine Ev.region_S fun K hK => S.o q.mv (S.o q.add (S.o q.as (S.end (hK _ ?_))))
        clear hK K
        refine hR0 _ _ ?_
        refine roundU [] [0, 4, 5] ⟨(pre ++ [s], suf), by rw [← hp]; simp, ?_⟩ ?_ keep_n (slots_c (he := (by first | rfl | (simp; done))) (h := (slots_c (he := (by first | (congr 2; exact (div0 _ (by omega)).symm) | (congr 2; rw [most_append, divmax _ _ _ (by omega)]; omega))) (h := trivial)))) (.c (.c (.c .n)))
        trivial
        all_goals (simp only [List.length_cons]; omega)
      · first
      | (first | omega | contradiction)
      | refine Ev.skip ?_
        show Ev _ _ _ _
        refine Ev.region_S fun K hK => S.o q.mv (S.o q.add (S.o q.as (S.end (hK _ ?_))))
        clear hK K
        refine hR0 _ _ ?_
        refine roundU [] [0, 4, 5] ⟨(pre ++ [s], suf), by rw [← hp]; simp, ?_⟩ ?_ keep_n (slots_c (he := (by first | rfl | (simp; done))) (h := (slots_c (he := (by first | (congr 2; exact (div0 _ (by omega)).symm) | (congr 2; rw [most_append, divmax _ _ _ (by omega)]; omega))) (h := trivial)))) (.c (.c (.c .n)))
        trivial
        all_goals (simp only [List.length_cons]; omega)
    · first
    | (first | omega | contradiction)
    | refine Ev.exit ?_
      refine hR0 _ _ ?_
      show Ev _ _ _ _
      refine Ev.sr fun K hK => S.o q.mv (S.o q.as (S.end (hK _ ?_)))
      clear hK K
      refine Ev.ret ?_
      refine Ev.ret1 ?_
      refine ⟨?_, rfl⟩
      rfl
  · have hlt : (pre.length : Int) < (l).length := by rw [← hp, List.length_append, List.length_cons]; omega
    have hidx : (l)[pre.length]? = some s := by rw [← hp]; simp
    obtain ⟨hv1, hv2⟩ := hl s (List.mem_of_getElem? hidx)
    have hq : 0 ≤ (s.2 + areaOf d - 1) / areaOf d := Int.ediv_nonneg (by omega) (by omega)
    refine Ev.seq ?_
    refine Ev.sr fun K hK => S.o q.mv (S.o q.mv (S.o (q.lens am_el22) (S.o q.lss (S.end (hK _ ?_)))))
    clear hK K
    refine Ev.cd (fun c3 => ?_) (fun c3 => ?_)
    · first
    | (first | omega | contradiction)
    | refine Ev.skip ?_
      show Ev _ _ _ _
      refine Ev.seq ?_
      refine Ev.block ?_
      refine Ev.sr fun K hK => S.o q.mv (S.o q.mv (S.o (q.ix am_el22 am_cl57 (hl := (by first | exact ati hidx (by omega) | exact atig (by omega)))) (S.o (q.fs 1 am_fi57_1 am_cl3) (S.o (q.ls am_ag3) (S.o q.mv (S.o q.add (S.o q.sub (S.o q.mv (S.o q.quo (S.o q.as (S.end (hK _ ?_))))))))))))
      clear hK K
      refine Ev.sr fun K hK => S.o q.mv (S.o q.mv (S.o q.gtr (S.end (hK _ ?_))))
      clear hK K
      refine Ev.cd (fun c4 => ?_) (fun c4 => ?_)
      · first
      | (first | omega | contradiction)
      | refine Ev.region_S fun K hK => S.o q.mv (S.o q.as (S.end (hK _ ?_)))
        clear hK K
        show Ev _ _ _ _
        refine Ev.region_S fun K hK => S.o q.mv (S.o q.add (S.o q.as (S.end (hK _ ?_))))
        clear hK K
        refine hR0 _ _ ?_
        refine roundU [] [0, 4, 5] ⟨(pre ++ [s], suf), by rw [← hp]; simp, ?_⟩ ?_ keep_n (slots_c (he := (by first | rfl | (simp; done))) (h := (slots_c (he := (by first | (congr 2; exact (div0 _ (by omega)).symm) | (congr 2; rw [most_append, divmax _ _ _ (by omega)]; omega))) (h := trivial)))) (.c (.c (.c .n)))
        trivial
        all_goals (simp only [List.length_cons]; omega)
      · first
      | (first | omega | contradiction)
      | refine Ev.skip ?_
        show Ev _ _ _ _
        refine Ev.region_S fun K hK => S.o q.mv (S.o q.add (S.o q.as (S.end (hK _ ?_))))
        clear hK K
        refine hR0 _ _ ?_
        refine roundU [] [0, 4, 5] ⟨(pre ++ [s], suf), by rw [← hp]; simp, ?_⟩ ?_ keep_n (slots_c (he := (by first | rfl | (simp; done))) (h := (slots_c (he := (by first | (congr 2; exact (div0 _ (by omega)).symm) | (congr 2; rw [most_append, divmax _ _ _ (by omega)]; omega))) (h := trivial)))) (.c (.c (.c .n)))
        trivial
        all_goals (simp only [List.length_cons]; omega)
    · first
    | (first | omega | contradiction)
    | refine Ev.exit ?_
      refine hR0 _ _ ?_
      show Ev _ _ _ _
      refine Ev.sr fun K hK => S.o q.mv (S.o q.as (S.end (hK _ ?_)))
      clear hK K
      refine Ev.ret ?_
      refine Ev.ret1 ?_
      refine ⟨?_, rfl⟩
      rfl

theorem levGo_short (v : Int) (suf : List (Int × Int)) (acc : List (Int × Int)) (h : suf.length ≤ 1) : levGo v suf acc = acc := by
  rcases suf with _ | ⟨a, _ | ⟨b, suf⟩⟩
  · rfl
  · rfl
  · simp at h
theorem levAdd_eq {acc : List (Int × Int)} {lo hi : Int} (h : 0 < acc.length) (he : (acc.getLast (List.ne_nil_of_length_pos h)).2 = lo) : levAdd acc lo hi = acc.set ((acc.length : Int) - 1).toNat ((acc.getLast (List.ne_nil_of_length_pos h)).1, hi) := by
  have hne := List.ne_nil_of_length_pos h
  obtain ⟨a, o, rfl⟩ : ∃ a o, acc = a ++ [o] := ⟨acc.dropLast, acc.getLast hne, (List.dropLast_concat_getLast hne).symm⟩
  simp only [List.getLast_concat] at he ⊢
  rw [levAdd, List.getLast?_concat]
  simp only [he, if_true, List.dropLast_concat]
  rw [show (((a ++ [o]).length : Int) - 1).toNat = a.length by simp, List.set_append_right _ _ (Nat.le_refl _), Nat.sub_self]
  rfl
theorem levAdd_ne {acc : List (Int × Int)} {lo hi : Int} (h : 0 < acc.length) (he : ¬ (acc.getLast (List.ne_nil_of_length_pos h)).2 = lo) : levAdd acc lo hi = acc ++ [(lo, hi)] := by
  rw [levAdd, List.getLast?_eq_some_getLast (List.ne_nil_of_length_pos h)]
  simp only [he, if_false]
theorem levAdd_nil {acc : List (Int × Int)} {lo hi : Int} (h : acc.length = 0) : levAdd acc lo hi = acc ++ [(lo, hi)] := by
  rw [List.eq_nil_of_length_eq_zero h]; rfl
theorem rlevel_fun (l : List (Int × Int)) (d k : Int) (hlen : l.length ≤ 200) (hd : d ∈ sizes) (hk1 : 1 ≤ k) (hk2 : k ≤ 1000) :
    Fun Try.prog 21 [.sh 2 (l.map stepC), .lit (.int .i64 d), .lit (.int .i64 k)] (Ret (.sh 2 ((levGo ((k - 1) * areaOf d) l []).map stepC)) []) := by
  obtain ⟨hd1, hd2⟩ := size_bd hd
  obtain ⟨hb1, hb2⟩ := area_bd hd
  have hm := mul_bd (K := 1000) (A := 125664) (show 0 ≤ k - 1 by omega) (by omega) (show 0 ≤ areaOf d by omega) hb2
  obtain ⟨hm1, hm2⟩ := hm
  generalize hv : (k - 1) * areaOf d = v at hm1 hm2
  refine Fun.of (nt := 75) (rs := [.tmp 6]) Try.func21 rfl rfl rfl rfl rfl ?_
  refine Ev.sr fun K hK => S.o q.as (S.end (hK _ ?_))
  clear hK K
  refine Ev.sr fun K hK => S.o q.mv (S.c0 (hF := rarea_fun _ (by omega) (by omega)) (h := S.o q.as (S.end (hK _ ?_))))
  clear hK K
  refine Ev.sr fun K hK => S.o q.as (S.end (hK _ ?_))
  clear hK K
  refine Ev.seq ?_
  refine Ev.sr fun K hK => S.o q.as (S.end (hK _ ?_))
  clear hK K
  refine Ev.block ?_
  refine Ev.weaken (Wk.nown stepC 8 36 2) ?_
  refine Ev.loopU (ι := {p : (List (Int × Int) × List (Int × Int)) × List (Int × Int) // p.1.1 ++ p.1.2 = l ∧ levGo v l [] = levGo v p.1.2 p.2 ∧ p.2.length ≤ p.1.1.length}) [0] [0, 2, 6, 7] (fun ⟨((pre, suf), acc), _⟩ => [(9, .lit (.int .i64 ((pre.length : Int)))), (8, .als 0 0 (acc).length)]) (fun ⟨((pre, suf), acc), _⟩ => [(0, ⟨true, 36, 2, (acc).map stepC, true⟩)]) (fun ⟨((pre, suf), acc), _⟩ => suf.length) ⟨(([], l), []), rfl, rfl, Nat.le_refl _⟩ (.c (.c (.c (.c .n)))) (keep_c (he := (by first | rfl | (simp; done))) (h := keep_n)) (slots_c (he := (by first | rfl | (simp; done) | (congr 2; omega))) (h := (slots_c (he := (by first | rfl | (simp; done) | (congr 2; omega))) (h := trivial)))) ?_
  rintro ⟨⟨⟨pre, suf⟩, acc⟩, hp, hok, hac⟩ R0 hR0
  dsimp only [List.cons_append, List.nil_append, List.length_cons, List.length_nil]
  simp only at hp hok hac
  by_cases hsh : suf.length ≤ 1
  have hpl : pre.length + suf.length = l.length := by rw [← hp, List.length_append]
  rotate_left
  rcases suf with _ | ⟨s, _ | ⟨nx, suf⟩⟩
  exact absurd (Nat.zero_le _) hsh
  exact absurd (Nat.le_refl _) hsh
  have hpl : pre.length + (suf.length + 2) = l.length := by rw [← hp, List.length_append]; rfl
  have hidx : l[pre.length]? = some s := by rw [← hp]; simp
  have hnext : l[pre.length + 1]? = some nx := by rw [← hp]; simp
  have hlast : ∀ h : 0 < acc.length, acc[acc.length - 1]? = some (acc.getLast (List.ne_nil_of_length_pos h)) := fun h => by rw [← List.getLast?_eq_getElem?, List.getLast?_eq_some_getLast]
  · skip
    refine Ev.seq ?_
    refine Ev.sr fun K hK => S.o q.mv (S.o q.add (S.o q.mv (S.o (q.lens am_el22) (S.o q.lss (S.end (hK _ ?_))))))
    clear hK K
    refine Ev.cd (fun c1 => ?_) (fun c1 => ?_)
    · first
    | (first | omega | contradiction)
    | refine Ev.skip ?_
      show Ev _ _ _ _
      refine Ev.seq ?_
      refine Ev.block ?_
      refine Ev.seq ?_
      refine Ev.sr fun K hK => S.o q.mv (S.o q.mv (S.o (q.ix am_el22 am_cl57 (hl := (by first | exact ati hidx (by omega) | exact ati hnext (by omega) | exact ati (hlast (by omega)) (by omega) | exact atig (by omega)))) (S.o (q.fs 1 am_fi57_1 am_cl3) (S.o (q.ls am_ag3) (S.o q.mv (S.o q.sub (S.o q.mv (S.o (q.mul (h1 := by omega) (h2 := by omega)) (S.o q.leq (S.end (hK _ ?_)))))))))))
      clear hK K
      refine Ev.cd (fun c2 => ?_) (fun c2 => ?_)
      · first
      | (first | omega | contradiction)
      | refine Ev.exit ?_
        show Ev _ _ _ _
        refine Ev.region_S fun K hK => S.o q.mv (S.o q.add (S.o q.as (S.end (hK _ ?_))))
        clear hK K
        refine hR0 _ _ ?_
        refine roundU [0] [0, 2, 6, 7] ⟨((pre ++ [s], nx :: suf), _), by rw [← hp]; simp, ?_, ?_⟩ ?_ (keep_c (he := (by first | rfl | (simp; done))) (h := keep_n)) (slots_c (he := (by first | rfl | (simp; done) | (congr 2; omega))) (h := (slots_c (he := (by first | rfl | (simp; done) | (congr 2; omega))) (h := trivial)))) (.c (.c (.c (.c .n))))
        · first
          | (rw [hok, levGo, if_pos (by omega)]; done)
          | (rw [hok, levGo, if_neg (by omega), levAdd_eq (by omega) ‹_›]; done)
          | (rw [hok, levGo, if_neg (by omega), levAdd_ne (by omega) ‹_›]; done)
          | (rw [hok, levGo, if_neg (by omega), levAdd_nil (by omega)]; done)
        all_goals (simp only [List.length_set, List.length_append, List.length_cons, List.length_nil]; omega)
      · first
      | (first | omega | contradiction)
      | refine Ev.skip ?_
        show Ev _ _ _ _
        refine Ev.sr fun K hK => S.o q.mv (S.o (q.lena am_el25) (S.o q.as (S.end (hK _ ?_))))
        clear hK K
        refine Ev.sm (tbs [(0, 0), (1, 1), (2, 3), (3, 7), (3, 7), (5, 23), (6, 63), (7, 127), (8, 255), (3, 7), (3, 7), (11, 1543), (12, 3591), (13, 7687), (14, 16383), (15, 32767)]) 16 fun K hK => M.o q.mv (M.o q.gtr (M.bd q.mv (fun c3 => ?_) (fun c3 => ?_)))
        · first
        | (first | omega | contradiction)
        | refine M.o q.mv (M.o q.mv (M.o q.sub (M.o (q.ia am_el25 am_cl36) (M.o (q.fa 1 am_fi36_1 am_cl3) (M.o (q.lx am_ag3 (hl := (by first | exact at_ hidx (by omega) | exact at_ hnext (by omega) | exact at_ (hlast (by omega)) (by omega) | exact at_g (by omega)))) (M.o q.mv (M.o q.mv (M.o (q.ix am_el22 am_cl57 (hl := (by first | exact ati hidx (by omega) | exact ati hnext (by omega) | exact ati (hlast (by omega)) (by omega) | exact atig (by omega)))) (M.o (q.fs 0 am_fi57_0 am_cl3) (M.o (q.ls am_ag3) (M.o q.eql (M.o q.pt (M.end [_] (h := S.end (hK _ ?_)))))))))))))))
          clear hK K
          refine Ev.cd (fun c4 => ?_) (fun c4 => ?_)
          · first
          | (first | omega | contradiction)
          | refine Ev.region_S fun K hK => S.o q.mv (S.o q.mv (S.o q.sub (S.o q.mv (S.o q.mv (S.o q.add (S.o (q.ix am_el22 am_cl57 (hl := (by first | exact ati hidx (by omega) | exact ati hnext (by omega) | exact ati (hlast (by omega)) (by omega) | exact atig (by omega)))) (S.o (q.fs 0 am_fi57_0 am_cl3) (S.o (q.ls am_ag3) (S.o (q.ia am_el25 am_cl36) (S.o (q.fa 1 am_fi36_1 am_cl3) (S.sx (⟨_, _⟩ : Int × Int) [] am_in3 am_cl3 (hl := (by first | exact at_ hidx (by omega) | exact at_ hnext (by omega) | exact at_ (hlast (by omega)) (by omega) | exact at_g (by omega))) (h := S.end (hK _ ?_)))))))))))))
            clear hK K
            show Ev _ _ _ _
            refine Ev.region_S fun K hK => S.o q.mv (S.o q.add (S.o q.as (S.end (hK _ ?_))))
            clear hK K
            refine hR0 _ _ ?_
            refine roundU [0] [0, 2, 6, 7] ⟨((pre ++ [s], nx :: suf), _), by rw [← hp]; simp, ?_, ?_⟩ ?_ (keep_c (he := (by first | rfl | (simp; done))) (h := keep_n)) (slots_c (he := (by first | rfl | (simp; done) | (congr 2; omega))) (h := (slots_c (he := (by first | rfl | (simp; done) | (congr 2; omega))) (h := trivial)))) (.c (.c (.c (.c .n))))
            · first
              | (rw [hok, levGo, if_pos (by omega)]; done)
              | (rw [hok, levGo, if_neg (by omega), levAdd_eq (by omega) ‹_›]; done)
              | (rw [hok, levGo, if_neg (by omega), levAdd_ne (by omega) ‹_›]; done)
              | (rw [hok, levGo, if_neg (by omega), levAdd_nil (by omega)]; done)
            all_goals (simp only [List.length_set, List.length_append, List.length_cons, List.length_nil]; omega)
          · first
          | (first | omega | contradiction)
          | refine Ev.region_M (tbs [(0, 0), (0, 0), (0, 0), (3, 6), (4, 14), (5, 30), (0, 0), (0, 0), (8, 128), (9, 448), (10, 960), (11, 1984), (12, 4094), (13, 8190), (14, 16383), (15, 32767)]) 14 fun K hK => M.o q.mv (M.o q.mv (M.o q.mv (M.o (q.ix am_el22 am_cl57 (hl := (by first | exact ati hidx (by omega) | exact ati hnext (by omega) | exact ati (hlast (by omega)) (by omega) | exact atig (by omega)))) (M.o (q.fs 0 am_fi57_0 am_cl3) (M.o (q.ls am_ag3) (M.o q.mv (M.o q.mv (M.o q.add (M.o (q.ix am_el22 am_cl57 (hl := (by first | exact ati hidx (by omega) | exact ati hnext (by omega) | exact ati (hlast (by omega)) (by omega) | exact atig (by omega)))) (M.o (q.fs 0 am_fi57_0 am_cl3) (M.o (q.ls am_ag3) (M.o (q.bd [_, _] am_ze36 am_pl36) (M.nn [_] (q.bs [[_, _]] true am_el25 am_ze36 am_cl36) (h := M.end [_, _] (h := S.ap' [_] am_el25 am_ze36 am_cl36 am_by36 (hh := head_own') (hr := (rows_lit [(⟨_, _⟩ : Int × Int)])) (h := S.o q.as (S.end (hK _ ?_))))))))))))))))))
            clear hK K
            show Ev _ _ _ _
            refine Ev.region_S fun K hK => S.o q.mv (S.o q.add (S.o q.as (S.end (hK _ ?_))))
            clear hK K
            refine hR0 _ _ ?_
            refine roundU [121] [0, 2, 6, 7] ⟨((pre ++ [s], nx :: suf), _), by rw [← hp]; simp, ?_, ?_⟩ ?_ (keep_c (he := (by first | rfl | (simp; done))) (h := keep_n)) (slots_c (he := (by first | rfl | (simp; done) | (congr 2; omega))) (h := (slots_c (he := (by first | rfl | (simp; done) | (congr 2; omega))) (h := trivial)))) (.c (.c (.c (.c .n))))
            · first
              | (rw [hok, levGo, if_pos (by omega)]; done)
              | (rw [hok, levGo, if_neg (by omega), levAdd_eq (by omega) ‹_›]; done)
              | (rw [hok, levGo, if_neg (by omega), levAdd_ne (by omega) ‹_›]; done)
              | (rw [hok, levGo, if_neg (by omega), levAdd_nil (by omega)]; done)
            all_goals (simp only [List.length_set, List.length_append, List.length_cons, List.length_nil]; omega)
        · first
        | (first | omega | contradiction)
        | refine M.sk (M.sk (M.sk (M.sk (M.sk (M.sk (M.sk (M.sk (M.sk (M.sk (M.sk (M.sk (M.o q.pf (M.end [_] (h := S.end (hK _ ?_)))))))))))))))
          clear hK K
          refine Ev.cf ?_
          refine Ev.region_M (tbs [(0, 0), (0, 0), (0, 0), (3, 6), (4, 14), (5, 30), (0, 0), (0, 0), (8, 128), (9, 448), (10, 960), (11, 1984), (12, 4094), (13, 8190), (14, 16383), (15, 32767)]) 14 fun K hK => M.o q.mv (M.o q.mv (M.o q.mv (M.o (q.ix am_el22 am_cl57 (hl := (by first | exact ati hidx (by omega) | exact ati hnext (by omega) | exact ati (hlast (by omega)) (by omega) | exact atig (by omega)))) (M.o (q.fs 0 am_fi57_0 am_cl3) (M.o (q.ls am_ag3) (M.o q.mv (M.o q.mv (M.o q.add (M.o (q.ix am_el22 am_cl57 (hl := (by first | exact ati hidx (by omega) | exact ati hnext (by omega) | exact ati (hlast (by omega)) (by omega) | exact atig (by omega)))) (M.o (q.fs 0 am_fi57_0 am_cl3) (M.o (q.ls am_ag3) (M.o (q.bd [_, _] am_ze36 am_pl36) (M.nn [_] (q.bs [[_, _]] true am_el25 am_ze36 am_cl36) (h := M.end [_, _] (h := S.ap' [_] am_el25 am_ze36 am_cl36 am_by36 (hh := head_own') (hr := (rows_lit [(⟨_, _⟩ : Int × Int)])) (h := S.o q.as (S.end (hK _ ?_))))))))))))))))))
          clear hK K
          show Ev _ _ _ _
          refine Ev.region_S fun K hK => S.o q.mv (S.o q.add (S.o q.as (S.end (hK _ ?_))))
          clear hK K
          refine hR0 _ _ ?_
          refine roundU [121] [0, 2, 6, 7] ⟨((pre ++ [s], nx :: suf), _), by rw [← hp]; simp, ?_, ?_⟩ ?_ (keep_c (he := (by first | rfl | (simp; done))) (h := keep_n)) (slots_c (he := (by first | rfl | (simp; done) | (congr 2; omega))) (h := (slots_c (he := (by first | rfl | (simp; done) | (congr 2; omega))) (h := trivial)))) (.c (.c (.c (.c .n))))
          · first
            | (rw [hok, levGo, if_pos (by omega)]; done)
            | (rw [hok, levGo, if_neg (by omega), levAdd_eq (by omega) ‹_›]; done)
            | (rw [hok, levGo, if_neg (by omega), levAdd_ne (by omega) ‹_›]; done)
            | (rw [hok, levGo, if_neg (by omega), levAdd_nil (by omega)]; done)
          all_goals (simp only [List.length_set, List.length_append, List.length_cons, List.length_nil]; omega)
    · first
    | (first | omega | contradiction)
    | refine Ev.exit ?_
      refine hR0 _ _ ?_
      show Ev _ _ _ _
      refine Ev.sr fun K hK => S.o q.mv (S.o q.as (S.end (hK _ ?_)))
      clear hK K
      refine Ev.weaken (Wk.frz 6 []) ?_
      refine Ev.ret ?_
      refine Ev.ret1 ?_
      refine ⟨?_, rfl⟩
      rw [hok, levGo_short _ _ _ hsh]
  · skip
    refine Ev.seq ?_
    refine Ev.sr fun K hK => S.o q.mv (S.o q.add (S.o q.mv (S.o (q.lens am_el22) (S.o q.lss (S.end (hK _ ?_))))))
    clear hK K
    refine Ev.cd (fun c5 => ?_) (fun c5 => ?_)
    · first
    | (first | omega | contradiction)
    | refine Ev.skip ?_
      show Ev _ _ _ _
      refine Ev.seq ?_
      refine Ev.block ?_
      refine Ev.seq ?_
      refine Ev.sr fun K hK => S.o q.mv (S.o q.mv (S.o (q.ix am_el22 am_cl57 (hl := (by first | exact atig (by omega)))) (S.o (q.fs 1 am_fi57_1 am_cl3) (S.o (q.ls am_ag3) (S.o q.mv (S.o q.sub (S.o q.mv (S.o (q.mul (h1 := by omega) (h2 := by omega)) (S.o q.leq (S.end (hK _ ?_)))))))))))
      clear hK K
      refine Ev.cd (fun c6 => ?_) (fun c6 => ?_)
      · first
      | (first | omega | contradiction)
      | refine Ev.exit ?_
        show Ev _ _ _ _
        refine Ev.region_S fun K hK => S.o q.mv (S.o q.add (S.o q.as (S.end (hK _ ?_))))
        clear hK K
        refine hR0 _ _ ?_
        refine roundU [0] [0, 2, 6, 7] ⟨((pre ++ [s], nx :: suf), _), by rw [← hp]; simp, ?_, ?_⟩ ?_ (keep_c (he := (by first | rfl | (simp; done))) (h := keep_n)) (slots_c (he := (by first | rfl | (simp; done) | (congr 2; omega))) (h := (slots_c (he := (by first | rfl | (simp; done) | (congr 2; omega))) (h := trivial)))) (.c (.c (.c (.c .n))))
        · first
          | (rw [hok, levGo, if_pos (by omega)]; done)
          | (rw [hok, levGo, if_neg (by omega), levAdd_eq (by omega) ‹_›]; done)
          | (rw [hok, levGo, if_neg (by omega), levAdd_ne (by omega) ‹_›]; done)
          | (rw [hok, levGo, if_neg (by omega), levAdd_nil (by omega)]; done)
        all_goals (simp only [List.length_set, List.length_append, List.length_cons, List.length_nil]; omega)
      · first
      | (first | omega | contradiction)
      | refine Ev.skip ?_
        show Ev _ _ _ _
        refine Ev.sr fun K hK => S.o q.mv (S.o (q.lena am_el25) (S.o q.as (S.end (hK _ ?_))))
        clear hK K
        refine Ev.sm (tbs [(0, 0), (1, 1), (2, 3), (3, 7), (3, 7), (5, 23), (6, 63), (7, 127), (8, 255), (3, 7), (3, 7), (11, 1543), (12, 3591), (13, 7687), (14, 16383), (15, 32767)]) 16 fun K hK => M.o q.mv (M.o q.gtr (M.bd q.mv (fun c7 => ?_) (fun c7 => ?_)))
        · first
        | (first | omega | contradiction)
        | refine M.o q.mv (M.o q.mv (M.o q.sub (M.o (q.ia am_el25 am_cl36) (M.o (q.fa 1 am_fi36_1 am_cl3) (M.o (q.lx am_ag3 (hl := (by first | exact at_g (by omega)))) (M.o q.mv (M.o q.mv (M.o (q.ix am_el22 am_cl57 (hl := (by first | exact atig (by omega)))) (M.o (q.fs 0 am_fi57_0 am_cl3) (M.o (q.ls am_ag3) (M.o q.eql (M.o q.pt (M.end [_] (h := S.end (hK _ ?_)))))))))))))))
          clear hK K
          refine Ev.cd (fun c8 => ?_) (fun c8 => ?_)
          · first
          | (first | omega | contradiction)
          | refine Ev.region_S fun K hK => S.o q.mv (S.o q.mv (S.o q.sub (S.o q.mv (S.o q.mv (S.o q.add (S.o (q.ix am_el22 am_cl57 (hl := (by first | exact atig (by omega)))) (S.o (q.fs 0 am_fi57_0 am_cl3) (S.o (q.ls am_ag3) (S.o (q.ia am_el25 am_cl36) (S.o (q.fa 1 am_fi36_1 am_cl3) (S.sx (⟨_, _⟩ : Int × Int) [] am_in3 am_cl3 (hl := (by first | exact at_g (by omega))) (h := S.end (hK _ ?_)))))))))))))
            clear hK K
            show Ev _ _ _ _
            refine Ev.region_S fun K hK => S.o q.mv (S.o q.add (S.o q.as (S.end (hK _ ?_))))
            clear hK K
            refine hR0 _ _ ?_
            refine roundU [0] [0, 2, 6, 7] ⟨((pre ++ [s], nx :: suf), _), by rw [← hp]; simp, ?_, ?_⟩ ?_ (keep_c (he := (by first | rfl | (simp; done))) (h := keep_n)) (slots_c (he := (by first | rfl | (simp; done) | (congr 2; omega))) (h := (slots_c (he := (by first | rfl | (simp; done) | (congr 2; omega))) (h := trivial)))) (.c (.c (.c (.c .n))))
            · first
              | (rw [hok, levGo, if_pos (by omega)]; done)
              | (rw [hok, levGo, if_neg (by omega), levAdd_eq (by omega) ‹_›]; done)
              | (rw [hok, levGo, if_neg (by omega), levAdd_ne (by omega) ‹_›]; done)
              | (rw [hok, levGo, if_neg (by omega), levAdd_nil (by omega)]; done)
            all_goals (simp only [List.length_set, List.length_append, List.length_cons, List.length_nil]; omega)
          · first
          | (first | omega | contradiction)
          | refine Ev.region_M (tbs [(0, 0), (0, 0), (0, 0), (3, 6), (4, 14), (5, 30), (0, 0), (0, 0), (8, 128), (9, 448), (10, 960), (11, 1984), (12, 4094), (13, 8190), (14, 16383), (15, 32767)]) 14 fun K hK => M.o q.mv (M.o q.mv (M.o q.mv (M.o (q.ix am_el22 am_cl57 (hl := (by first | exact atig (by omega)))) (M.o (q.fs 0 am_fi57_0 am_cl3) (M.o (q.ls am_ag3) (M.o q.mv (M.o q.mv (M.o q.add (M.o (q.ix am_el22 am_cl57 (hl := (by first | exact atig (by omega)))) (M.o (q.fs 0 am_fi57_0 am_cl3) (M.o (q.ls am_ag3) (M.o (q.bd [_, _] am_ze36 am_pl36) (M.nn [_] (q.bs [[_, _]] true am_el25 am_ze36 am_cl36) (h := M.end [_, _] (h := S.ap' [_] am_el25 am_ze36 am_cl36 am_by36 (hh := head_own') (hr := (rows_lit [(⟨_, _⟩ : Int × Int)])) (h := S.o q.as (S.end (hK _ ?_))))))))))))))))))
            clear hK K
            show Ev _ _ _ _
            refine Ev.region_S fun K hK => S.o q.mv (S.o q.add (S.o q.as (S.end (hK _ ?_))))
            clear hK K
            refine hR0 _ _ ?_
            refine roundU [121] [0, 2, 6, 7] ⟨((pre ++ [s], nx :: suf), _), by rw [← hp]; simp, ?_, ?_⟩ ?_ (keep_c (he := (by first | rfl | (simp; done))) (h := keep_n)) (slots_c (he := (by first | rfl | (simp; done) | (congr 2; omega))) (h := (slots_c (he := (by first | rfl | (simp; done) | (congr 2; omega))) (h := trivial)))) (.c (.c (.c (.c .n))))
            · first
              | (rw [hok, levGo, if_pos (by omega)]; done)
              | (rw [hok, levGo, if_neg (by omega), levAdd_eq (by omega) ‹_›]; done)
              | (rw [hok, levGo, if_neg (by omega), levAdd_ne (by omega) ‹_›]; done)
              | (rw [hok, levGo, if_neg (by omega), levAdd_nil (by omega)]; done)
            all_goals (simp only [List.length_set, List.length_append, List.length_cons, List.length_nil]; omega)
        · first
        | (first | omega | contradiction)
        | refine M.sk (M.sk (M.sk (M.sk (M.sk (M.sk (M.sk (M.sk (M.sk (M.sk (M.sk (M.sk (M.o q.pf (M.end [_] (h := S.end (hK _ ?_)))))))))))))))
          clear hK K
          refine Ev.cf ?_
          refine Ev.region_M (tbs [(0, 0), (0, 0), (0, 0), (3, 6), (4, 14), (5, 30), (0, 0), (0, 0), (8, 128), (9, 448), (10, 960), (11, 1984), (12, 4094), (13, 8190), (14, 16383), (15, 32767)]) 14 fun K hK => M.o q.mv (M.o q.mv (M.o q.mv (M.o (q.ix am_el22 am_cl57 (hl := (by first | exact atig (by omega)))) (M.o (q.fs 0 am_fi57_0 am_cl3) (M.o (q.ls am_ag3) (M.o q.mv (M.o q.mv (M.o q.add (M.o (q.ix am_el22 am_cl57 (hl := (by first | exact atig (by omega)))) (M.o (q.fs 0 am_fi57_0 am_cl3) (M.o (q.ls am_ag3) (M.o (q.bd [_, _] am_ze36 am_pl36) (M.nn [_] (q.bs [[_, _]] true am_el25 am_ze36 am_cl36) (h := M.end [_, _] (h := S.ap' [_] am_el25 am_ze36 am_cl36 am_by36 (hh := head_own') (hr := (rows_lit [(⟨_, _⟩ : Int × Int)])) (h := S.o q.as (S.end (hK _ ?_))))))))))))))))))
          clear hK K
          show Ev _ _ _ _
          refine Ev.region_S fun K hK => S.o q.mv (S.o q.add (S.o q.as (S.end (hK _ ?_))))
          clear hK K
          refine hR0 _ _ ?_
          refine roundU [121] [0, 2, 6, 7] ⟨((pre ++ [s], nx :: suf), _), by rw [← hp]; simp, ?_, ?_⟩ ?_ (keep_c (he := (by first | rfl | (simp; done))) (h := keep_n)) (slots_c (he := (by first | rfl | (simp; done) | (congr 2; omega))) (h := (slots_c (he := (by first | rfl | (simp; done) | (congr 2; omega))) (h := trivial)))) (.c (.c (.c (.c .n))))
          · first
            | (rw [hok, levGo, if_pos (by omega)]; done)
            | (rw [hok, levGo, if_neg (by omega), levAdd_eq (by omega) ‹_›]; done)
            | (rw [hok, levGo, if_neg (by omega), levAdd_ne (by omega) ‹_›]; done)
            | (rw [hok, levGo, if_neg (by omega), levAdd_nil (by omega)]; done)
          all_goals (simp only [List.length_set, List.length_append, List.length_cons, List.length_nil]; omega)
    · first
    | (first | omega | contradiction)
    | refine Ev.exit ?_
      refine hR0 _ _ ?_
      show Ev _ _ _ _
      refine Ev.sr fun K hK => S.o q.mv (S.o q.as (S.end (hK _ ?_)))
      clear hK K
      refine Ev.weaken (Wk.frz 6 []) ?_
      refine Ev.ret ?_
      refine Ev.ret1 ?_
      refine ⟨?_, rfl⟩
      rw [hok, levGo_short _ _ _ hsh]
end Go.Proofs.Ytigjoaejncfmdaa
