/-
  Short orders: the reference.
  Conditions: none.
-/
import Derived.Test.YtckahagagfmpbaaSo3
namespace Go.Proofs.Ytckahagagfmpbaa
open Go Go.AM
set_option linter.unusedSimpArgs false
set_option linter.unusedVariables false
set_option maxRecDepth 100000
set_option maxHeartbeats 1000000

theorem rNumber_fun (l : List (Int × Int)) (n : Int) (hok : ∀ b ∈ l, okPc b) (hn : l.length ≤ 400) : Fun Try.prog 49 [.sh 2 (l.map pairC), .lit (.int .i64 n)] (Ret (.lit (.int .i64 (skCnt l n))) []) := by
  refine Fun.of (nt := 28) (rs := [.tmp 4]) Try.func49 rfl rfl rfl rfl rfl ?_
  refine Ev.sr fun K hK => S.o q.as (S.end (hK _ ?_))
  clear hK K
  refine Ev.sr fun K hK => S.o q.as (S.end (hK _ ?_))
  clear hK K
  refine Ev.seq ?_
  refine Ev.sr fun K hK => S.o q.as (S.end (hK _ ?_))
  clear hK K
  refine Ev.block ?_
  refine Ev.loopU (ι := {p : List (Int × Int) × List (Int × Int) // p.1 ++ p.2 = l ∧ True}) [] [0, 1, 4] (fun ⟨(pre, suf), _⟩ => [(6, .lit (.int .i64 ((pre.length : Int)))), (5, .lit (.int .i64 (skCnt pre n)))]) (fun ⟨(pre, suf), _⟩ => []) (fun ⟨(pre, suf), _⟩ => suf.length) ⟨([], l), rfl, trivial⟩ (.c (.c (.c .n))) keep_n (slots_c (he := (by first | rfl | (congr 2; simp; done))) (h := (slots_c (he := (by first | rfl | exact iE (by rw [skCnt_snoc, if_pos (by first | assumption | omega)]) | exact iE (by rw [skCnt_snoc, if_neg (by first | assumption | omega), Int.add_zero]))) (h := trivial)))) ?_
  rintro ⟨⟨pre, suf⟩, hp, hinv⟩ R0 hR0
  dsimp only [List.cons_append, List.nil_append, List.length_cons, List.length_nil]
  simp only at hp hinv
  have hpl : pre.length + suf.length = (l).length := by rw [← hp, List.length_append]
  rcases suf with _ | ⟨s, suf⟩
  · rw [List.append_nil] at hp; simp only [List.length_nil] at hpl
    refine Ev.seq ?_
    refine Ev.sr fun K hK => S.o q.mv (S.o q.mv (S.o (q.lens am_el23) (S.o q.lss (S.end (hK _ ?_)))))
    clear hK K
    refine Ev.cd (fun c1 => ?_) (fun c1 => ?_)
    · first
    | (first | omega | contradiction)
    | refine Ev.skip ?_
      show Ev _ _ _ _
      refine Ev.seq ?_
      refine Ev.block ?_
      refine Ev.sr fun K hK => S.o q.mv (S.o q.mv (S.o (q.ix am_el23 am_cl40 (hl := (by first | exact atig (by omega)))) (S.o (q.fs 0 am_fi40_0 am_cl3) (S.o (q.ls am_ag3) (S.o q.mv (S.o q.eql (S.end (hK _ ?_))))))))
      clear hK K
      refine Ev.cd (fun c2 => ?_) (fun c2 => ?_)
      · first
      | (first | omega | contradiction)
      | refine Ev.region_S fun K hK => S.o q.mv (S.o q.mv (S.o q.mv (S.o (q.ix am_el23 am_cl40 (hl := (by first | exact atig (by omega)))) (S.o (q.fs 1 am_fi40_1 am_cl3) (S.o (q.ls am_ag3) (S.o q.add (S.o q.as (S.end (hK _ ?_)))))))))
        clear hK K
        show Ev _ _ _ _
        refine Ev.region_S fun K hK => S.o q.mv (S.o q.add (S.o q.as (S.end (hK _ ?_))))
        clear hK K
        refine hR0 _ _ ?_
        refine roundU [] [0, 1, 4] ⟨(pre ++ [(sx, sy)], suf), by rw [← hp]; simp, ?_⟩ ?_ keep_n (slots_c (he := (by first | rfl | (congr 2; simp; done))) (h := (slots_c (he := (by first | rfl | exact iE (by rw [skCnt_snoc, if_pos (by first | assumption | omega)]) | exact iE (by rw [skCnt_snoc, if_neg (by first | assumption | omega), Int.add_zero]))) (h := trivial)))) (.c (.c (.c .n)))
        trivial
        all_goals (dsimp only; simp only [List.length_cons]; omega)
      · first
      | (first | omega | contradiction)
      | refine Ev.skip ?_
        show Ev _ _ _ _
        refine Ev.region_S fun K hK => S.o q.mv (S.o q.add (S.o q.as (S.end (hK _ ?_))))
        clear hK K
        refine hR0 _ _ ?_
        refine roundU [] [0, 1, 4] ⟨(pre ++ [(sx, sy)], suf), by rw [← hp]; simp, ?_⟩ ?_ keep_n (slots_c (he := (by first | rfl | (congr 2; simp; done))) (h := (slots_c (he := (by first | rfl | exact iE (by rw [skCnt_snoc, if_pos (by first | assumption | omega)]) | exact iE (by rw [skCnt_snoc, if_neg (by first | assumption | omega), Int.add_zero]))) (h := trivial)))) (.c (.c (.c .n)))
        trivial
        all_goals (dsimp only; simp only [List.length_cons]; omega)
    · first
    | (first | omega | contradiction)
    | refine Ev.exit ?_
      refine hR0 _ _ ?_
      show Ev _ _ _ _
      refine Ev.sr fun K hK => S.o q.mv (S.o q.as (S.end (hK _ ?_)))
      clear hK K
      refine Ev.ret ?_
      refine Ev.ret1 ?_
      refine ⟨?_, rfl⟩
      (rw [← hp]; done)
  · simp only [List.length_cons] at hpl
    have hidx : l[pre.length]? = some s := by rw [← hp]; simp
    obtain ⟨sx, sy⟩ := s
    obtain ⟨g1, g2, g3, g4⟩ := hok (sx, sy) (by rw [← hp]; simp)
    simp only at g1 g2 g3 g4
    have hpb := skCnt_bd n pre (fun b hb => hok b (by rw [← hp]; simp [hb]))
    refine Ev.seq ?_
    refine Ev.sr fun K hK => S.o q.mv (S.o q.mv (S.o (q.lens am_el23) (S.o q.lss (S.end (hK _ ?_)))))
    clear hK K
    refine Ev.cd (fun c3 => ?_) (fun c3 => ?_)
    · first
    | (first | omega | contradiction)
    | refine Ev.skip ?_
      show Ev _ _ _ _
      refine Ev.seq ?_
      refine Ev.block ?_
      refine Ev.sr fun K hK => S.o q.mv (S.o q.mv (S.o (q.ix am_el23 am_cl40 (hl := (by first | exact ati hidx (by omega) | exact atig (by omega)))) (S.o (q.fs 0 am_fi40_0 am_cl3) (S.o (q.ls am_ag3) (S.o q.mv (S.o q.eql (S.end (hK _ ?_))))))))
      clear hK K
      refine Ev.cd (fun c4 => ?_) (fun c4 => ?_)
      · first
      | (first | omega | contradiction)
      | refine Ev.region_S fun K hK => S.o q.mv (S.o q.mv (S.o q.mv (S.o (q.ix am_el23 am_cl40 (hl := (by first | exact ati hidx (by omega) | exact atig (by omega)))) (S.o (q.fs 1 am_fi40_1 am_cl3) (S.o (q.ls am_ag3) (S.o q.add (S.o q.as (S.end (hK _ ?_)))))))))
        clear hK K
        show Ev _ _ _ _
        refine Ev.region_S fun K hK => S.o q.mv (S.o q.add (S.o q.as (S.end (hK _ ?_))))
        clear hK K
        refine hR0 _ _ ?_
        refine roundU [] [0, 1, 4] ⟨(pre ++ [(sx, sy)], suf), by rw [← hp]; simp, ?_⟩ ?_ keep_n (slots_c (he := (by first | rfl | (congr 2; simp; done))) (h := (slots_c (he := (by first | rfl | exact iE (by rw [skCnt_snoc, if_pos (by first | assumption | omega)]) | exact iE (by rw [skCnt_snoc, if_neg (by first | assumption | omega), Int.add_zero]))) (h := trivial)))) (.c (.c (.c .n)))
        trivial
        all_goals (dsimp only; simp only [List.length_cons]; omega)
      · first
      | (first | omega | contradiction)
      | refine Ev.skip ?_
        show Ev _ _ _ _
        refine Ev.region_S fun K hK => S.o q.mv (S.o q.add (S.o q.as (S.end (hK _ ?_))))
        clear hK K
        refine hR0 _ _ ?_
        refine roundU [] [0, 1, 4] ⟨(pre ++ [(sx, sy)], suf), by rw [← hp]; simp, ?_⟩ ?_ keep_n (slots_c (he := (by first | rfl | (congr 2; simp; done))) (h := (slots_c (he := (by first | rfl | exact iE (by rw [skCnt_snoc, if_pos (by first | assumption | omega)]) | exact iE (by rw [skCnt_snoc, if_neg (by first | assumption | omega), Int.add_zero]))) (h := trivial)))) (.c (.c (.c .n)))
        trivial
        all_goals (dsimp only; simp only [List.length_cons]; omega)
    · first
    | (first | omega | contradiction)
    | refine Ev.exit ?_
      refine hR0 _ _ ?_
      show Ev _ _ _ _
      refine Ev.sr fun K hK => S.o q.mv (S.o q.as (S.end (hK _ ?_)))
      clear hK K
      refine Ev.ret ?_
      refine Ev.ret1 ?_
      refine ⟨?_, rfl⟩
      (rw [← hp]; done)
theorem rnext_fun (l : List (Int × Int)) (below : Int) (hlen : l.length ≤ 140737488355328) : Fun Try.prog 48 [.sh 2 (l.map pairC), .lit (.int .i64 below)] (Ret (.lit (.int .i64 (skMax l below))) []) := by
  refine Fun.of (nt := 35) (rs := [.tmp 4]) Try.func48 rfl rfl rfl rfl rfl ?_
  refine Ev.sr fun K hK => S.o q.as (S.end (hK _ ?_))
  clear hK K
  refine Ev.sr fun K hK => S.o q.as (S.end (hK _ ?_))
  clear hK K
  refine Ev.seq ?_
  refine Ev.sr fun K hK => S.o q.as (S.end (hK _ ?_))
  clear hK K
  refine Ev.block ?_
  refine Ev.loopU (ι := {p : List (Int × Int) × List (Int × Int) // p.1 ++ p.2 = l ∧ True}) [] [0, 1, 4] (fun ⟨(pre, suf), _⟩ => [(6, .lit (.int .i64 ((pre.length : Int)))), (5, .lit (.int .i64 (skMax pre below)))]) (fun ⟨(pre, suf), _⟩ => []) (fun ⟨(pre, suf), _⟩ => suf.length) ⟨([], l), rfl, trivial⟩ (.c (.c (.c .n))) keep_n (slots_c (he := (by first | rfl | (congr 2; simp; done))) (h := (slots_c (he := (by first | rfl | exact iE (by rw [skMax_snoc, if_pos (by simp only; omega)]) | exact iE (by rw [skMax_snoc, if_neg (by simp only; omega)]))) (h := trivial)))) ?_
  rintro ⟨⟨pre, suf⟩, hp, hinv⟩ R0 hR0
  dsimp only [List.cons_append, List.nil_append, List.length_cons, List.length_nil]
  simp only at hp hinv
  have hpl : pre.length + suf.length = (l).length := by rw [← hp, List.length_append]
  rcases suf with _ | ⟨s, suf⟩
  · rw [List.append_nil] at hp; simp only [List.length_nil] at hpl
    refine Ev.seq ?_
    refine Ev.sr fun K hK => S.o q.mv (S.o q.mv (S.o (q.lens am_el23) (S.o q.lss (S.end (hK _ ?_)))))
    clear hK K
    refine Ev.cd (fun c1 => ?_) (fun c1 => ?_)
    · first
    | (first | omega | contradiction)
    | refine Ev.skip ?_
      show Ev _ _ _ _
      refine Ev.seq ?_
      refine Ev.block ?_
      refine Ev.sr fun K hK => S.o q.mv (S.o q.mv (S.o (q.ix am_el23 am_cl40 (hl := (by first | exact atig (by omega)))) (S.o (q.fs 0 am_fi40_0 am_cl3) (S.o (q.ls am_ag3) (S.o q.mv (S.o q.lss (S.bd q.mv (fun c2 => ?_) (fun c2 => ?_))))))))
      · first
      | (first | omega | contradiction)
      | refine S.o q.mv (S.o q.mv (S.o (q.ix am_el23 am_cl40 (hl := (by first | exact atig (by omega)))) (S.o (q.fs 0 am_fi40_0 am_cl3) (S.o (q.ls am_ag3) (S.o q.mv (S.o q.gtr (S.o q.pt (S.end (hK _ ?_)))))))))
        clear hK K
        refine Ev.cd (fun c3 => ?_) (fun c3 => ?_)
        · first
        | (first | omega | contradiction)
        | refine Ev.region_S fun K hK => S.o q.mv (S.o q.mv (S.o (q.ix am_el23 am_cl40 (hl := (by first | exact atig (by omega)))) (S.o (q.fs 0 am_fi40_0 am_cl3) (S.o (q.ls am_ag3) (S.o q.as (S.end (hK _ ?_)))))))
          clear hK K
          show Ev _ _ _ _
          refine Ev.region_S fun K hK => S.o q.mv (S.o q.add (S.o q.as (S.end (hK _ ?_))))
          clear hK K
          refine hR0 _ _ ?_
          refine roundU [] [0, 1, 4] ⟨(pre ++ [(sx, sy)], suf), by rw [← hp]; simp, ?_⟩ ?_ keep_n (slots_c (he := (by first | rfl | (congr 2; simp; done))) (h := (slots_c (he := (by first | rfl | exact iE (by rw [skMax_snoc, if_pos (by simp only; omega)]) | exact iE (by rw [skMax_snoc, if_neg (by simp only; omega)]))) (h := trivial)))) (.c (.c (.c .n)))
          trivial
          all_goals (dsimp only; simp only [List.length_cons]; omega)
        · first
        | (first | omega | contradiction)
        | refine Ev.skip ?_
          show Ev _ _ _ _
          refine Ev.region_S fun K hK => S.o q.mv (S.o q.add (S.o q.as (S.end (hK _ ?_))))
          clear hK K
          refine hR0 _ _ ?_
          refine roundU [] [0, 1, 4] ⟨(pre ++ [(sx, sy)], suf), by rw [← hp]; simp, ?_⟩ ?_ keep_n (slots_c (he := (by first | rfl | (congr 2; simp; done))) (h := (slots_c (he := (by first | rfl | exact iE (by rw [skMax_snoc, if_pos (by simp only; omega)]) | exact iE (by rw [skMax_snoc, if_neg (by simp only; omega)]))) (h := trivial)))) (.c (.c (.c .n)))
          trivial
          all_goals (dsimp only; simp only [List.length_cons]; omega)
      · first
      | (first | omega | contradiction)
      | refine S.sk (S.sk (S.sk (S.sk (S.sk (S.sk (S.sk (S.o q.pf (S.end (hK _ ?_)))))))))
        clear hK K
        refine Ev.cf ?_
        refine Ev.skip ?_
        show Ev _ _ _ _
        refine Ev.region_S fun K hK => S.o q.mv (S.o q.add (S.o q.as (S.end (hK _ ?_))))
        clear hK K
        refine hR0 _ _ ?_
        refine roundU [] [0, 1, 4] ⟨(pre ++ [(sx, sy)], suf), by rw [← hp]; simp, ?_⟩ ?_ keep_n (slots_c (he := (by first | rfl | (congr 2; simp; done))) (h := (slots_c (he := (by first | rfl | exact iE (by rw [skMax_snoc, if_pos (by simp only; omega)]) | exact iE (by rw [skMax_snoc, if_neg (by simp only; omega)]))) (h := trivial)))) (.c (.c (.c .n)))
        trivial
        all_goals (dsimp only; simp only [List.length_cons]; omega)
    · first
    | (first | omega | contradiction)
    | refine Ev.exit ?_
      refine hR0 _ _ ?_
      show Ev _ _ _ _
      refine Ev.sr fun K hK => S.o q.mv (S.o q.as (S.end (hK _ ?_)))
      clear hK K
      refine Ev.ret ?_
      refine Ev.ret1 ?_
      refine ⟨?_, rfl⟩
      (rw [← hp]; done)
  · simp only [List.length_cons] at hpl
    have hidx : l[pre.length]? = some s := by rw [← hp]; simp
    obtain ⟨sx, sy⟩ := s
    refine Ev.seq ?_
    refine Ev.sr fun K hK => S.o q.mv (S.o q.mv (S.o (q.lens am_el23) (S.o q.lss (S.end (hK _ ?_)))))
    clear hK K
    refine Ev.cd (fun c4 => ?_) (fun c4 => ?_)
    · first
    | (first | omega | contradiction)
    | refine Ev.skip ?_
      show Ev _ _ _ _
      refine Ev.seq ?_
      refine Ev.block ?_
      refine Ev.sr fun K hK => S.o q.mv (S.o q.mv (S.o (q.ix am_el23 am_cl40 (hl := (by first | exact ati hidx (by omega) | exact atig (by omega)))) (S.o (q.fs 0 am_fi40_0 am_cl3) (S.o (q.ls am_ag3) (S.o q.mv (S.o q.lss (S.bd q.mv (fun c5 => ?_) (fun c5 => ?_))))))))
      · first
      | (first | omega | contradiction)
      | refine S.o q.mv (S.o q.mv (S.o (q.ix am_el23 am_cl40 (hl := (by first | exact ati hidx (by omega) | exact atig (by omega)))) (S.o (q.fs 0 am_fi40_0 am_cl3) (S.o (q.ls am_ag3) (S.o q.mv (S.o q.gtr (S.o q.pt (S.end (hK _ ?_)))))))))
        clear hK K
        refine Ev.cd (fun c6 => ?_) (fun c6 => ?_)
        · first
        | (first | omega | contradiction)
        | refine Ev.region_S fun K hK => S.o q.mv (S.o q.mv (S.o (q.ix am_el23 am_cl40 (hl := (by first | exact ati hidx (by omega) | exact atig (by omega)))) (S.o (q.fs 0 am_fi40_0 am_cl3) (S.o (q.ls am_ag3) (S.o q.as (S.end (hK _ ?_)))))))
          clear hK K
          show Ev _ _ _ _
          refine Ev.region_S fun K hK => S.o q.mv (S.o q.add (S.o q.as (S.end (hK _ ?_))))
          clear hK K
          refine hR0 _ _ ?_
          refine roundU [] [0, 1, 4] ⟨(pre ++ [(sx, sy)], suf), by rw [← hp]; simp, ?_⟩ ?_ keep_n (slots_c (he := (by first | rfl | (congr 2; simp; done))) (h := (slots_c (he := (by first | rfl | exact iE (by rw [skMax_snoc, if_pos (by simp only; omega)]) | exact iE (by rw [skMax_snoc, if_neg (by simp only; omega)]))) (h := trivial)))) (.c (.c (.c .n)))
          trivial
          all_goals (dsimp only; simp only [List.length_cons]; omega)
        · first
        | (first | omega | contradiction)
        | refine Ev.skip ?_
          show Ev _ _ _ _
          refine Ev.region_S fun K hK => S.o q.mv (S.o q.add (S.o q.as (S.end (hK _ ?_))))
          clear hK K
          refine hR0 _ _ ?_
          refine roundU [] [0, 1, 4] ⟨(pre ++ [(sx, sy)], suf), by rw [← hp]; simp, ?_⟩ ?_ keep_n (slots_c (he := (by first | rfl | (congr 2; simp; done))) (h := (slots_c (he := (by first | rfl | exact iE (by rw [skMax_snoc, if_pos (by simp only; omega)]) | exact iE (by rw [skMax_snoc, if_neg (by simp only; omega)]))) (h := trivial)))) (.c (.c (.c .n)))
          trivial
          all_goals (dsimp only; simp only [List.length_cons]; omega)
      · first
      | (first | omega | contradiction)
      | refine S.sk (S.sk (S.sk (S.sk (S.sk (S.sk (S.sk (S.o q.pf (S.end (hK _ ?_)))))))))
        clear hK K
        refine Ev.cf ?_
        refine Ev.skip ?_
        show Ev _ _ _ _
        refine Ev.region_S fun K hK => S.o q.mv (S.o q.add (S.o q.as (S.end (hK _ ?_))))
        clear hK K
        refine hR0 _ _ ?_
        refine roundU [] [0, 1, 4] ⟨(pre ++ [(sx, sy)], suf), by rw [← hp]; simp, ?_⟩ ?_ keep_n (slots_c (he := (by first | rfl | (congr 2; simp; done))) (h := (slots_c (he := (by first | rfl | exact iE (by rw [skMax_snoc, if_pos (by simp only; omega)]) | exact iE (by rw [skMax_snoc, if_neg (by simp only; omega)]))) (h := trivial)))) (.c (.c (.c .n)))
        trivial
        all_goals (dsimp only; simp only [List.length_cons]; omega)
    · first
    | (first | omega | contradiction)
    | refine Ev.exit ?_
      refine hR0 _ _ ?_
      show Ev _ _ _ _
      refine Ev.sr fun K hK => S.o q.mv (S.o q.as (S.end (hK _ ?_)))
      clear hK K
      refine Ev.ret ?_
      refine Ev.ret1 ?_
      refine ⟨?_, rfl⟩
      (rw [← hp]; done)

theorem skAt_next {l : List (Int × Int)} {below : Int} {dn : List (Int × Int)} (hz : ¬ skMax l below = 0) (h : dn ++ skAt l below = skP l) : (dn ++ [(skMax l below, skCnt l (skMax l below))] ++ skAt l (skMax l below) = skP l) ∧ (skMax l below, skCnt l (skMax l below)) ∈ skP l := by
  rw [skAt_cons hz] at h
  exact ⟨by simpa using h, by rw [← h]; simp⟩
theorem skAt_s1 (l : List (Int × Int)) : ([] : List (Int × Int)) ++ skAt l 1048577 = skP l := by rw [List.nil_append, skP]
theorem skAt_s2 : (0 : Int) ≤ 1048577 := by omega
theorem skAt_start (l : List (Int × Int)) : (([] : List (Int × Int)), (1048577 : Int)).1 ++ skAt l (([] : List (Int × Int)), (1048577 : Int)).2 = skP l ∧ 0 ≤ (([] : List (Int × Int)), (1048577 : Int)).2 ∧ (([] : List (Int × Int)), (1048577 : Int)).2 ≤ 1048577 ∧ ∀ p ∈ (([] : List (Int × Int)), (1048577 : Int)).1, p.2 ≤ 1000000 := ⟨skAt_s1 l, skAt_s2, Int.le_refl _, fun p hp => by simp at hp⟩
theorem rShort_fun (l : List (Int × Int)) (hok : ∀ b ∈ l, okPc b) (hn : l.length ≤ 400) : Fun Try.prog 27 [.sh 2 (l.map pairC)] (Ret (.tup [.sh 2 ((shV l).map pairC), .lit (.int .i64 (shE l))]) []) := by
  have hpl2 := skP_len hok
  refine Fun.of (nt := 26) (rs := [.tmp 2, .tmp 3]) Try.func27 rfl rfl rfl rfl rfl ?_
  refine Ev.sr fun K hK => S.o q.as (S.o q.as (S.end (hK _ ?_)))
  clear hK K
  refine Ev.sr fun K hK => S.o q.as (S.end (hK _ ?_))
  clear hK K
  refine Ev.seq ?_
  refine Ev.sr fun K hK => S.o q.mv (S.c0 (hF := rnext_fun _ _ (by omega)) (h := S.o q.as (S.end (hK _ ?_))))
  clear hK K
  refine Ev.block ?_
  refine Ev.weaken (Wk.nown pairC 4 40 2) ?_
  refine Ev.loopU (ι := {q : List (Int × Int) × Int // q.1 ++ skAt l q.2 = skP l ∧ 0 ≤ q.2 ∧ q.2 ≤ 1048577 ∧ ∀ p ∈ q.1, p.2 ≤ 1000000}) [0] [0] (fun ⟨(dn, below), _⟩ => [(5, .lit (.int .i64 (skMax l below))), (4, .als 0 0 (dn).length)]) (fun ⟨(dn, below), _⟩ => [(0, ⟨true, 40, 2, (dn).map pairC, true⟩)]) (fun ⟨(dn, below), _⟩ => (skMax l below).toNat) ⟨([], 1048577), skAt_start l⟩ (.c .n) (keep_c (he := (by first | rfl | (simp [pairC]; done))) (h := keep_n)) (slots_c (he := (by first | rfl | (congr 2; simp; done))) (h := (slots_c (he := (by first | rfl | (simp; done) | (congr 2; omega))) (h := trivial)))) ?_
  rintro ⟨⟨dn, below⟩, hdn, hb0, hb1, hdg⟩ R0 hR0
  dsimp only [List.cons_append, List.nil_append, List.length_cons, List.length_nil]
  simp only at hdn hb0 hb1 hdg
  obtain ⟨hm0, hm1, hm2⟩ := skMax_spec below l
  obtain ⟨hm3, hm4, hm5⟩ := skMax_spec (skMax l below) l
  have hdl : dn.length ≤ 400 := by have := congrArg List.length hdn; rw [List.length_append] at this; omega
  refine Ev.seq ?_
  refine Ev.sr fun K hK => S.o q.mv (S.o q.gtr (S.end (hK _ ?_)))
  clear hK K
  refine Ev.cd (fun c1 => ?_) (fun c1 => ?_)
  · first
  | (first | omega | contradiction)
  | refine Ev.skip ?_
    show Ev _ _ _ _
    refine Ev.seq ?_
    refine Ev.block ?_
    have hnx := skAt_next (show ¬ skMax l below = 0 by omega) hdn
    have hcb := skCnt_bd (skMax l below) l hok
    refine Ev.sr fun K hK => S.o q.mv (S.o q.mv (S.c0 (hF := rNumber_fun _ _ hok (by omega)) (h := S.o q.as (S.end (hK _ ?_)))))
    clear hK K
    refine Ev.seq ?_
    refine Ev.sr fun K hK => S.o q.mv (S.o q.gtr (S.end (hK _ ?_)))
    clear hK K
    refine Ev.cd (fun c2 => ?_) (fun c2 => ?_)
    · first
    | (first | omega | contradiction)
    | refine Ev.sr fun K hK => S.o q.as (S.o q.as (S.end (hK _ ?_)))
      clear hK K
      refine Ev.weaken (Wk.nsh pairC 2 2) ?_
      refine Ev.ret ?_
      refine hR0 _ _ ?_
      refine Ev.ret2 ?_
      refine ⟨?_, rfl⟩
      first
       | (rw [(shV_bad hnx.2 (by simp only; omega)).1, (shV_bad hnx.2 (by simp only; omega)).2]; done)
       | (have he : dn = skP l := by rw [skAt_nil (by omega), List.append_nil] at hdn; exact hdn
          have hg := shV_good (he ▸ hdg); rw [hg.1, hg.2, he]; done)
    · first
    | (first | omega | contradiction)
    | refine Ev.skip ?_
      show Ev _ _ _ _
      refine Ev.region_S fun K hK => S.o q.mv (S.o q.mv (S.o q.mv (S.o (q.bd [_, _] am_ze40 am_pl40) (S.nn (q.bs [[_, _]] true am_el23 am_ze40 am_cl40) (S.ap' [_] am_el23 am_ze40 am_cl40 am_by40 (hh := head_own') (hr := (rows_lit [(⟨_, _⟩ : Int × Int)])) (h := S.o q.as (S.end (hK _ ?_))))))))
      clear hK K
      show Ev _ _ _ _
      refine Ev.region_S fun K hK => S.o q.mv (S.o q.mv (S.c0 (hF := rnext_fun _ _ (by omega)) (h := S.o q.as (S.end (hK _ ?_)))))
      clear hK K
      refine hR0 _ _ ?_
      refine roundU [2] [0] ⟨(dn ++ [(skMax l below, skCnt l (skMax l below))], skMax l below), hnx.1, hm0, (by have := (hm1 (by omega)).2; omega), ?_⟩ ?_ (keep_c (he := (by first | rfl | (simp [pairC]; done))) (h := keep_n)) (slots_c (he := (by first | rfl | (congr 2; simp; done))) (h := (slots_c (he := (by first | rfl | (simp; done) | (congr 2; omega))) (h := trivial)))) (.c .n)
      intro p hp; simp only [List.mem_append, List.mem_singleton] at hp; rcases hp with hp | rfl
      · exact hdg p hp
      · simp only; omega
      all_goals (dsimp only; by_cases hz : skMax l (skMax l below) = 0 <;> first | omega | (have := (hm4 hz).2; omega))
  · first
  | (first | omega | contradiction)
  | refine Ev.exit ?_
    refine hR0 _ _ ?_
    show Ev _ _ _ _
    refine Ev.sr fun K hK => S.o q.mv (S.o q.as (S.o q.as (S.end (hK _ ?_))))
    clear hK K
    refine Ev.weaken (Wk.frz 2 []) ?_
    refine Ev.ret ?_
    refine Ev.ret2 ?_
    refine ⟨?_, rfl⟩
    first
     | (rw [(shV_bad hnx.2 (by simp only; omega)).1, (shV_bad hnx.2 (by simp only; omega)).2]; done)
     | (have he : dn = skP l := by rw [skAt_nil (by omega), List.append_nil] at hdn; exact hdn
        have hg := shV_good (he ▸ hdg); rw [hg.1, hg.2, he]; done)
end Go.Proofs.Ytckahagagfmpbaa
