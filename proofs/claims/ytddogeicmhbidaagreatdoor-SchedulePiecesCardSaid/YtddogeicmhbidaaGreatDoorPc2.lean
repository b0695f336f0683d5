/-
  The pieces of a size: the reference.
  Conditions: none.
-/
import Derived.Test.YtddogeicmhbidaaGreatDoorPc1
import Derived.Test.YtddogeicmhbidaaGreatDoorRbend
import Derived.Test.YtddogeicmhbidaaGreatDoorSched
namespace Go.Proofs.YtddogeicmhbidaaGreatDoor
open Go Go.AM
set_option linter.unusedSimpArgs false
set_option linter.unusedVariables false
set_option maxRecDepth 100000

theorem okPre {l pre suf : List Bar} {s : Bar} (h : ∀ b ∈ l, okBar b) (hp : pre ++ s :: suf = l) : ∀ b ∈ pre ++ [s], okBar b := fun b hb => h b (by rw [← hp]; simp only [List.mem_append, List.mem_cons, List.not_mem_nil, or_false] at hb ⊢; rcases hb with hb | hb <;> simp [hb])
theorem pc_zero {l : List Bar} (hok : ∀ b ∈ l, okBar b) (d : Int) : pcCnt l d 0 = 0 := pcCnt_no fun ⟨b, hb, _, h⟩ => by have := cutOf_bd (hok b hb); omega
theorem pc_skip {l : List Bar} {s : Bar} {d below : Int} (hok : ∀ b ∈ l ++ [s], okBar b) (h : ¬ s.size = d ∨ below ≤ cutOf s ∨ cutOf s < pcMax l d below) : pcMax l d below = pcMax (l ++ [s]) d below ∧ pcCnt l d (pcMax l d below) = pcCnt (l ++ [s]) d (pcMax (l ++ [s]) d below) := by
  have e : pcMax (l ++ [s]) d below = pcMax l d below := by rw [pcMax_snoc, if_neg (by omega)]
  have hc := cutOf_bd (hok s (by simp))
  obtain ⟨h0, h1, _⟩ := pcMax_spec d below l
  refine ⟨e.symm, ?_⟩
  rw [e, pcCnt_snoc, if_neg ?_, Int.add_zero]
  rintro ⟨e1, e2⟩
  by_cases hz : pcMax l d below = 0
  · omega
  · have := (h1 hz).2; omega
theorem pc_new {l : List Bar} {s : Bar} {d below : Int} (h1 : s.size = d) (h2 : cutOf s < below) (h3 : pcMax l d below < cutOf s) : cutOf s = pcMax (l ++ [s]) d below ∧ 0 + s.count = pcCnt (l ++ [s]) d (pcMax (l ++ [s]) d below) := by
  have e : pcMax (l ++ [s]) d below = cutOf s := by rw [pcMax_snoc, if_pos ⟨h1, h2, h3⟩]
  refine ⟨e.symm, ?_⟩
  rw [e, pcCnt_snoc, if_pos ⟨h1, rfl⟩, pcCnt_no]
  rintro ⟨b, hb, h4, h5⟩
  have := (pcMax_spec d below l).2.2 b hb h4 (by omega)
  omega
theorem pc_more {l : List Bar} {s : Bar} {d below : Int} (h1 : s.size = d) (h2 : cutOf s < below) (h3 : cutOf s = pcMax l d below) : pcMax l d below = pcMax (l ++ [s]) d below ∧ pcCnt l d (pcMax l d below) + s.count = pcCnt (l ++ [s]) d (pcMax (l ++ [s]) d below) := by
  have e : pcMax (l ++ [s]) d below = pcMax l d below := by rw [pcMax_snoc, if_neg (by omega)]
  refine ⟨e.symm, ?_⟩
  rw [e, pcCnt_snoc, if_pos ⟨h1, h3⟩]
theorem pcAt_next {l : List Bar} {d below : Int} {dn : List (Int × Int)} (hz : ¬ pcMax l d below = 0) (h : dn ++ pcAt l d below = pcP l d) : dn ++ [(pcMax l d below, pcCnt l d (pcMax l d below))] ++ pcAt l d (pcMax l d below) = pcP l d := by
  rw [pcAt_cons hz] at h
  simpa using h
theorem pcAt_s1 (l : List Bar) (d : Int) : ([] : List (Int × Int)) ++ pcAt l d 1048577 = pcP l d := by rw [List.nil_append, pcP]
theorem pcAt_s2 : (0 : Int) ≤ 1048577 := by omega
theorem pcAt_start (l : List Bar) (d : Int) : (([] : List (Int × Int)), (1048577 : Int)).1 ++ pcAt l d (([] : List (Int × Int)), (1048577 : Int)).2 = pcP l d ∧ 0 ≤ (([] : List (Int × Int)), (1048577 : Int)).2 ∧ (([] : List (Int × Int)), (1048577 : Int)).2 ≤ 1048577 ∧ (([] : List (Int × Int)), (1048577 : Int)).1.length ≤ 60 := ⟨pcAt_s1 l d, pcAt_s2, Int.le_refl _, Nat.zero_le _⟩
theorem rpieces_fun (l : List Bar) (d : Int) (hok : okSched l) : Fun Tryz.prog 12 [.sh 5 (l.map Bar.c), .lit (.int .i64 d)] (Ret (.sh 2 ((pcP l d).map pairC)) []) := by
  have hll := hok.1
  have hlo := hok.2.1
  refine Fun.of (nt := 60) (rs := [.tmp 4]) Tryz.func12 rfl rfl rfl rfl rfl ?_
  refine Ev.sr fun K hK => S.o q.as (S.end (hK _ ?_))
  clear hK K
  refine Ev.sr fun K hK => S.o q.as (S.end (hK _ ?_))
  clear hK K
  refine Ev.sr fun K hK => S.o q.as (S.end (hK _ ?_))
  clear hK K
  refine Ev.block ?_
  refine Ev.weaken (Wk.nown pairC 5 33 2) ?_
  refine Ev.loopU (ι := {q : List (Int × Int) × Int // q.1 ++ pcAt l d q.2 = pcP l d ∧ 0 ≤ q.2 ∧ q.2 ≤ 1048577 ∧ q.1.length ≤ 60}) [0] [0, 1] (fun ⟨(dn, below), _⟩ => [(6, .lit (.int .i64 (below))), (5, .als 0 0 (dn).length)]) (fun ⟨(dn, below), _⟩ => [(0, ⟨true, 33, 2, (dn).map pairC, true⟩)]) (fun ⟨(dn, below), _⟩ => below.toNat) ⟨([], 1048577), pcAt_start l d⟩ (.c (.c .n)) (keep_c (he := (by first | rfl | (simp; done))) (h := keep_n)) (slots_c (he := (by first | rfl)) (h := (slots_c (he := (by first | rfl | (congr 1; simp; done))) (h := trivial)))) ?_
  rintro ⟨⟨dn, below⟩, hdn, hb0, hb1, hdl⟩ R0 hR0
  dsimp only [List.cons_append, List.nil_append, List.length_cons, List.length_nil]
  simp only at hdn hb0 hb1 hdl
  refine Ev.block ?_
  refine Ev.sr fun K hK => S.o q.as (S.o q.as (S.end (hK _ ?_)))
  clear hK K
  refine Ev.seq ?_
  refine Ev.sr fun K hK => S.o q.as (S.end (hK _ ?_))
  clear hK K
  refine Ev.block ?_
  refine Ev.loopU (ι := {p : List (Bar) × List (Bar) // p.1 ++ p.2 = l ∧ True}) [0] [0, 1, 6] (fun ⟨(pre, suf), _⟩ => [(9, .lit (.int .i64 ((pre.length : Int)))), (7, .lit (.int .i64 (pcMax pre d below))), (8, .lit (.int .i64 (pcCnt pre d (pcMax pre d below)))), (5, .als 0 0 (dn).length)]) (fun ⟨(pre, suf), _⟩ => [(0, ⟨true, 33, 2, (dn).map pairC, true⟩)]) (fun ⟨(pre, suf), _⟩ => suf.length) ⟨([], l), rfl, trivial⟩ (.c (.c (.c .n))) (keep_c (he := (by first | rfl | (simp; done))) (h := keep_n)) (slots_c (he := (by first | rfl | (congr 2; simp; done))) (h := (slots_c (he := (by first | rfl | exact iE (pc_new (by omega) (by omega) (by omega)).1 | exact iE (pc_more (by omega) (by omega) (by omega)).1 | exact iE (pc_skip hpo (by omega)).1)) (h := (slots_c (he := (by first | rfl | exact iE (pc_zero hlo d).symm | exact iE (pc_new (by omega) (by omega) (by omega)).2 | exact iE (pc_more (by omega) (by omega) (by omega)).2 | exact iE (pc_skip hpo (by omega)).2)) (h := (slots_c (he := (by first | rfl | (simp; done) | (congr 2; omega))) (h := trivial)))))))) ?_
  rintro ⟨⟨pre, suf⟩, hp, hinv⟩ R2 hR2
  dsimp only [List.cons_append, List.nil_append, List.length_cons, List.length_nil]
  simp only at hp hinv
  have hpl : pre.length + suf.length = (l).length := by rw [← hp, List.length_append]
  rcases suf with _ | ⟨s, suf⟩
  · rw [List.append_nil] at hp; subst pre; simp only [List.length_nil] at hpl
    obtain ⟨hm0, hm1, hm2⟩ := pcMax_spec d below l
    have hmb : ¬ pcMax l d below = 0 → pcMax l d below < below := fun h => (hm1 h).2
    have hdl2 : ¬ pcMax l d below = 0 → (dn ++ [(pcMax l d below, pcCnt l d (pcMax l d below))]).length ≤ 60 := fun h => by
      have h1 := pcP_len hlo d
      rw [← pcAt_next h hdn] at h1
      simp only [List.length_append] at h1 ⊢
      omega
    refine Ev.seq ?_
    refine Ev.sr fun K hK => S.o q.mv (S.o q.mv (S.o (q.lens am_el22) (S.o q.lss (S.end (hK _ ?_)))))
    clear hK K
    refine Ev.cd (fun c1 => ?_) (fun c1 => ?_)
    · first
    | (first | omega | contradiction)
    | refine Ev.skip ?_
      show Ev _ _ _ _
      refine Ev.seq ?_
      refine Ev.block ?_
      refine Ev.sr fun K hK => S.o q.mv (S.o q.mv (S.o (q.ix am_el22 am_cl49 (hl := (by first | exact atig (by omega)))) (S.o (q.lsA [_, _, _, _, _] am_ag49 am_cl49) (S.c0 (hF := rcut_fun s hsok) (h := S.o q.as (S.end (hK _ ?_)))))))
      clear hK K
      refine Ev.seq ?_
      refine Ev.sr fun K hK => S.o q.mv (S.o q.mv (S.o (q.ix am_el22 am_cl49 (hl := (by first | exact atig (by omega)))) (S.o (q.fs 1 am_fi49_1 am_cl3) (S.o (q.ls am_ag3) (S.o q.mv (S.o q.neq (S.bn q.mv (fun c2 => ?_) (fun c2 => ?_))))))))
      · first
      | (first | omega | contradiction)
      | refine S.sk (S.sk (S.sk (S.o q.pt (S.o q.mv (S.sk (S.sk (S.sk (S.o q.pt (S.end (hK _ ?_))))))))))
        clear hK K
        refine Ev.ct ?_
        refine Ev.exit ?_
        show Ev _ _ _ _
        refine Ev.region_S fun K hK => S.o q.mv (S.o q.add (S.o q.as (S.end (hK _ ?_))))
        clear hK K
        refine hR2 _ _ ?_
        refine roundU [0] [0, 1, 6] ⟨(pre ++ [s], suf), by rw [← hp]; simp, ?_⟩ ?_ (keep_c (he := (by first | rfl | (simp; done))) (h := keep_n)) (slots_c (he := (by first | rfl | (congr 2; simp; done))) (h := (slots_c (he := (by first | rfl | exact iE (pc_new (by omega) (by omega) (by omega)).1 | exact iE (pc_more (by omega) (by omega) (by omega)).1 | exact iE (pc_skip hpo (by omega)).1)) (h := (slots_c (he := (by first | rfl | exact iE (pc_zero hlo d).symm | exact iE (pc_new (by omega) (by omega) (by omega)).2 | exact iE (pc_more (by omega) (by omega) (by omega)).2 | exact iE (pc_skip hpo (by omega)).2)) (h := (slots_c (he := (by first | rfl | (simp; done) | (congr 2; omega))) (h := trivial)))))))) (.c (.c (.c .n)))
        trivial
        all_goals (dsimp only; simp only [List.length_cons]; omega)
      · first
      | (first | omega | contradiction)
      | refine S.o q.mv (S.o q.mv (S.o q.geq (S.o q.pf (S.bd q.mv (fun c3 => ?_) (fun c3 => ?_)))))
        · first
        | (first | omega | contradiction)
        | refine S.sk (S.sk (S.sk (S.o q.pt (S.end (hK _ ?_)))))
          clear hK K
          refine Ev.ct ?_
          refine Ev.exit ?_
          show Ev _ _ _ _
          refine Ev.region_S fun K hK => S.o q.mv (S.o q.add (S.o q.as (S.end (hK _ ?_))))
          clear hK K
          refine hR2 _ _ ?_
          refine roundU [0] [0, 1, 6] ⟨(pre ++ [s], suf), by rw [← hp]; simp, ?_⟩ ?_ (keep_c (he := (by first | rfl | (simp; done))) (h := keep_n)) (slots_c (he := (by first | rfl | (congr 2; simp; done))) (h := (slots_c (he := (by first | rfl | exact iE (pc_new (by omega) (by omega) (by omega)).1 | exact iE (pc_more (by omega) (by omega) (by omega)).1 | exact iE (pc_skip hpo (by omega)).1)) (h := (slots_c (he := (by first | rfl | exact iE (pc_zero hlo d).symm | exact iE (pc_new (by omega) (by omega) (by omega)).2 | exact iE (pc_more (by omega) (by omega) (by omega)).2 | exact iE (pc_skip hpo (by omega)).2)) (h := (slots_c (he := (by first | rfl | (simp; done) | (congr 2; omega))) (h := trivial)))))))) (.c (.c (.c .n)))
          trivial
          all_goals (dsimp only; simp only [List.length_cons]; omega)
        · first
        | (first | omega | contradiction)
        | refine S.o q.mv (S.o q.mv (S.o q.lss (S.o q.pf (S.end (hK _ ?_)))))
          clear hK K
          refine Ev.cd (fun c4 => ?_) (fun c4 => ?_)
          · first
          | (first | omega | contradiction)
          | refine Ev.exit ?_
            show Ev _ _ _ _
            refine Ev.region_S fun K hK => S.o q.mv (S.o q.add (S.o q.as (S.end (hK _ ?_))))
            clear hK K
            refine hR2 _ _ ?_
            refine roundU [0] [0, 1, 6] ⟨(pre ++ [s], suf), by rw [← hp]; simp, ?_⟩ ?_ (keep_c (he := (by first | rfl | (simp; done))) (h := keep_n)) (slots_c (he := (by first | rfl | (congr 2; simp; done))) (h := (slots_c (he := (by first | rfl | exact iE (pc_new (by omega) (by omega) (by omega)).1 | exact iE (pc_more (by omega) (by omega) (by omega)).1 | exact iE (pc_skip hpo (by omega)).1)) (h := (slots_c (he := (by first | rfl | exact iE (pc_zero hlo d).symm | exact iE (pc_new (by omega) (by omega) (by omega)).2 | exact iE (pc_more (by omega) (by omega) (by omega)).2 | exact iE (pc_skip hpo (by omega)).2)) (h := (slots_c (he := (by first | rfl | (simp; done) | (congr 2; omega))) (h := trivial)))))))) (.c (.c (.c .n)))
            trivial
            all_goals (dsimp only; simp only [List.length_cons]; omega)
          · first
          | (first | omega | contradiction)
          | refine Ev.skip ?_
            show Ev _ _ _ _
            refine Ev.seq ?_
            refine Ev.sr fun K hK => S.o q.mv (S.o q.mv (S.o q.gtr (S.end (hK _ ?_))))
            clear hK K
            refine Ev.cd (fun c5 => ?_) (fun c5 => ?_)
            · first
            | (first | omega | contradiction)
            | refine Ev.region_S fun K hK => S.o q.mv (S.o q.as (S.o q.as (S.end (hK _ ?_))))
              clear hK K
              show Ev _ _ _ _
              refine Ev.region_S fun K hK => S.o q.mv (S.o q.mv (S.o q.mv (S.o (q.ix am_el22 am_cl49 (hl := (by first | exact atig (by omega)))) (S.o (q.fs 2 am_fi49_2 am_cl3) (S.o (q.ls am_ag3) (S.o q.add (S.o q.as (S.end (hK _ ?_)))))))))
              clear hK K
              show Ev _ _ _ _
              refine Ev.region_S fun K hK => S.o q.mv (S.o q.add (S.o q.as (S.end (hK _ ?_))))
              clear hK K
              refine hR2 _ _ ?_
              refine roundU [0] [0, 1, 6] ⟨(pre ++ [s], suf), by rw [← hp]; simp, ?_⟩ ?_ (keep_c (he := (by first | rfl | (simp; done))) (h := keep_n)) (slots_c (he := (by first | rfl | (congr 2; simp; done))) (h := (slots_c (he := (by first | rfl | exact iE (pc_new (by omega) (by omega) (by omega)).1 | exact iE (pc_more (by omega) (by omega) (by omega)).1 | exact iE (pc_skip hpo (by omega)).1)) (h := (slots_c (he := (by first | rfl | exact iE (pc_zero hlo d).symm | exact iE (pc_new (by omega) (by omega) (by omega)).2 | exact iE (pc_more (by omega) (by omega) (by omega)).2 | exact iE (pc_skip hpo (by omega)).2)) (h := (slots_c (he := (by first | rfl | (simp; done) | (congr 2; omega))) (h := trivial)))))))) (.c (.c (.c .n)))
              trivial
              all_goals (dsimp only; simp only [List.length_cons]; omega)
            · first
            | (first | omega | contradiction)
            | refine Ev.skip ?_
              show Ev _ _ _ _
              refine Ev.region_S fun K hK => S.o q.mv (S.o q.mv (S.o q.mv (S.o (q.ix am_el22 am_cl49 (hl := (by first | exact atig (by omega)))) (S.o (q.fs 2 am_fi49_2 am_cl3) (S.o (q.ls am_ag3) (S.o q.add (S.o q.as (S.end (hK _ ?_)))))))))
              clear hK K
              show Ev _ _ _ _
              refine Ev.region_S fun K hK => S.o q.mv (S.o q.add (S.o q.as (S.end (hK _ ?_))))
              clear hK K
              refine hR2 _ _ ?_
              refine roundU [0] [0, 1, 6] ⟨(pre ++ [s], suf), by rw [← hp]; simp, ?_⟩ ?_ (keep_c (he := (by first | rfl | (simp; done))) (h := keep_n)) (slots_c (he := (by first | rfl | (congr 2; simp; done))) (h := (slots_c (he := (by first | rfl | exact iE (pc_new (by omega) (by omega) (by omega)).1 | exact iE (pc_more (by omega) (by omega) (by omega)).1 | exact iE (pc_skip hpo (by omega)).1)) (h := (slots_c (he := (by first | rfl | exact iE (pc_zero hlo d).symm | exact iE (pc_new (by omega) (by omega) (by omega)).2 | exact iE (pc_more (by omega) (by omega) (by omega)).2 | exact iE (pc_skip hpo (by omega)).2)) (h := (slots_c (he := (by first | rfl | (simp; done) | (congr 2; omega))) (h := trivial)))))))) (.c (.c (.c .n)))
              trivial
              all_goals (dsimp only; simp only [List.length_cons]; omega)
    · first
    | (first | omega | contradiction)
    | refine Ev.exit ?_
      refine hR2 _ _ ?_
      show Ev _ _ _ _
      refine Ev.seq ?_
      refine Ev.sr fun K hK => S.o q.mv (S.o q.eql (S.end (hK _ ?_)))
      clear hK K
      refine Ev.cd (fun c6 => ?_) (fun c6 => ?_)
      · first
      | (first | omega | contradiction)
      | refine Ev.sr fun K hK => S.o q.mv (S.o q.as (S.end (hK _ ?_)))
        clear hK K
        refine Ev.weaken (Wk.frz 4 []) ?_
        refine Ev.ret ?_
        refine hR0 _ _ ?_
        refine Ev.ret1 ?_
        refine ⟨?_, rfl⟩
        (rw [show dn = pcP l d by rw [← hdn, pcAt_nil ‹_›, List.append_nil]]; done)
      · first
      | (first | omega | contradiction)
      | refine Ev.skip ?_
        show Ev _ _ _ _
        refine Ev.sr fun K hK => S.o q.mv (S.o q.mv (S.o q.mv (S.o (q.bd [_, _] am_ze33 am_pl33) (S.nn (q.bs [[_, _]] true am_el25 am_ze33 am_cl33) (S.ap' [_] am_el25 am_ze33 am_cl33 am_by33 (hh := head_own') (hr := (rows_lit [(⟨_, _⟩ : Int × Int)])) (h := S.o q.as (S.end (hK _ ?_))))))))
        clear hK K
        refine Ev.region_S fun K hK => S.o q.mv (S.o q.as (S.end (hK _ ?_)))
        clear hK K
        refine hR0 _ _ ?_
        refine roundU [2] [0, 1] ⟨(dn ++ [(pcMax l d below, pcCnt l d (pcMax l d below))], pcMax l d below), pcAt_next ‹_› hdn, by omega, by omega, hdl2 ‹_›⟩ ?_ (keep_c (he := (by first | rfl | (simp; done))) (h := keep_n)) (slots_c (he := (by first | rfl)) (h := (slots_c (he := (by first | rfl | (congr 1; simp; done))) (h := trivial)))) (.c (.c .n))
        skip
        all_goals (dsimp only; omega)
  · simp only [List.length_cons] at hpl
    have hidx : (l)[pre.length]? = some s := by rw [← hp]; simp
    have hsok : okBar s := hlo s (by rw [← hp]; simp)
    have hpo := okPre hlo hp
    have hcb := pcCnt_bd d (pcMax pre d below) pre (fun b hb => hpo b (by simp [hb]))
    have hsc := hsok.2.2.1
    have hsc2 := hsok.2.2.2.1
    have hcut := cutOf_bd hsok
    refine Ev.seq ?_
    refine Ev.sr fun K hK => S.o q.mv (S.o q.mv (S.o (q.lens am_el22) (S.o q.lss (S.end (hK _ ?_)))))
    clear hK K
    refine Ev.cd (fun c7 => ?_) (fun c7 => ?_)
    · first
    | (first | omega | contradiction)
    | refine Ev.skip ?_
      show Ev _ _ _ _
      refine Ev.seq ?_
      refine Ev.block ?_
      refine Ev.sr fun K hK => S.o q.mv (S.o q.mv (S.o (q.ix am_el22 am_cl49 (hl := (by first | exact ati hidx (by omega) | exact atig (by omega)))) (S.o (q.lsA [_, _, _, _, _] am_ag49 am_cl49) (S.c0 (hF := rcut_fun s hsok) (h := S.o q.as (S.end (hK _ ?_)))))))
      clear hK K
      refine Ev.seq ?_
      refine Ev.sr fun K hK => S.o q.mv (S.o q.mv (S.o (q.ix am_el22 am_cl49 (hl := (by first | exact ati hidx (by omega) | exact atig (by omega)))) (S.o (q.fs 1 am_fi49_1 am_cl3) (S.o (q.ls am_ag3) (S.o q.mv (S.o q.neq (S.bn q.mv (fun c8 => ?_) (fun c8 => ?_))))))))
      · first
      | (first | omega | contradiction)
      | refine S.sk (S.sk (S.sk (S.o q.pt (S.o q.mv (S.sk (S.sk (S.sk (S.o q.pt (S.end (hK _ ?_))))))))))
        clear hK K
        refine Ev.ct ?_
        refine Ev.exit ?_
        show Ev _ _ _ _
        refine Ev.region_S fun K hK => S.o q.mv (S.o q.add (S.o q.as (S.end (hK _ ?_))))
        clear hK K
        refine hR2 _ _ ?_
        refine roundU [0] [0, 1, 6] ⟨(pre ++ [s], suf), by rw [← hp]; simp, ?_⟩ ?_ (keep_c (he := (by first | rfl | (simp; done))) (h := keep_n)) (slots_c (he := (by first | rfl | (congr 2; simp; done))) (h := (slots_c (he := (by first | rfl | exact iE (pc_new (by omega) (by omega) (by omega)).1 | exact iE (pc_more (by omega) (by omega) (by omega)).1 | exact iE (pc_skip hpo (by omega)).1)) (h := (slots_c (he := (by first | rfl | exact iE (pc_zero hlo d).symm | exact iE (pc_new (by omega) (by omega) (by omega)).2 | exact iE (pc_more (by omega) (by omega) (by omega)).2 | exact iE (pc_skip hpo (by omega)).2)) (h := (slots_c (he := (by first | rfl | (simp; done) | (congr 2; omega))) (h := trivial)))))))) (.c (.c (.c .n)))
        trivial
        all_goals (dsimp only; simp only [List.length_cons]; omega)
      · first
      | (first | omega | contradiction)
      | refine S.o q.mv (S.o q.mv (S.o q.geq (S.o q.pf (S.bd q.mv (fun c9 => ?_) (fun c9 => ?_)))))
        · first
        | (first | omega | contradiction)
        | refine S.sk (S.sk (S.sk (S.o q.pt (S.end (hK _ ?_)))))
          clear hK K
          refine Ev.ct ?_
          refine Ev.exit ?_
          show Ev _ _ _ _
          refine Ev.region_S fun K hK => S.o q.mv (S.o q.add (S.o q.as (S.end (hK _ ?_))))
          clear hK K
          refine hR2 _ _ ?_
          refine roundU [0] [0, 1, 6] ⟨(pre ++ [s], suf), by rw [← hp]; simp, ?_⟩ ?_ (keep_c (he := (by first | rfl | (simp; done))) (h := keep_n)) (slots_c (he := (by first | rfl | (congr 2; simp; done))) (h := (slots_c (he := (by first | rfl | exact iE (pc_new (by omega) (by omega) (by omega)).1 | exact iE (pc_more (by omega) (by omega) (by omega)).1 | exact iE (pc_skip hpo (by omega)).1)) (h := (slots_c (he := (by first | rfl | exact iE (pc_zero hlo d).symm | exact iE (pc_new (by omega) (by omega) (by omega)).2 | exact iE (pc_more (by omega) (by omega) (by omega)).2 | exact iE (pc_skip hpo (by omega)).2)) (h := (slots_c (he := (by first | rfl | (simp; done) | (congr 2; omega))) (h := trivial)))))))) (.c (.c (.c .n)))
          trivial
          all_goals (dsimp only; simp only [List.length_cons]; omega)
        · first
        | (first | omega | contradiction)
        | refine S.o q.mv (S.o q.mv (S.o q.lss (S.o q.pf (S.end (hK _ ?_)))))
          clear hK K
          refine Ev.cd (fun c10 => ?_) (fun c10 => ?_)
          · first
          | (first | omega | contradiction)
          | refine Ev.exit ?_
            show Ev _ _ _ _
            refine Ev.region_S fun K hK => S.o q.mv (S.o q.add (S.o q.as (S.end (hK _ ?_))))
            clear hK K
            refine hR2 _ _ ?_
            refine roundU [0] [0, 1, 6] ⟨(pre ++ [s], suf), by rw [← hp]; simp, ?_⟩ ?_ (keep_c (he := (by first | rfl | (simp; done))) (h := keep_n)) (slots_c (he := (by first | rfl | (congr 2; simp; done))) (h := (slots_c (he := (by first | rfl | exact iE (pc_new (by omega) (by omega) (by omega)).1 | exact iE (pc_more (by omega) (by omega) (by omega)).1 | exact iE (pc_skip hpo (by omega)).1)) (h := (slots_c (he := (by first | rfl | exact iE (pc_zero hlo d).symm | exact iE (pc_new (by omega) (by omega) (by omega)).2 | exact iE (pc_more (by omega) (by omega) (by omega)).2 | exact iE (pc_skip hpo (by omega)).2)) (h := (slots_c (he := (by first | rfl | (simp; done) | (congr 2; omega))) (h := trivial)))))))) (.c (.c (.c .n)))
            trivial
            all_goals (dsimp only; simp only [List.length_cons]; omega)
          · first
          | (first | omega | contradiction)
          | refine Ev.skip ?_
            show Ev _ _ _ _
            refine Ev.seq ?_
            refine Ev.sr fun K hK => S.o q.mv (S.o q.mv (S.o q.gtr (S.end (hK _ ?_))))
            clear hK K
            refine Ev.cd (fun c11 => ?_) (fun c11 => ?_)
            · first
            | (first | omega | contradiction)
            | refine Ev.region_S fun K hK => S.o q.mv (S.o q.as (S.o q.as (S.end (hK _ ?_))))
              clear hK K
              show Ev _ _ _ _
              refine Ev.region_S fun K hK => S.o q.mv (S.o q.mv (S.o q.mv (S.o (q.ix am_el22 am_cl49 (hl := (by first | exact ati hidx (by omega) | exact atig (by omega)))) (S.o (q.fs 2 am_fi49_2 am_cl3) (S.o (q.ls am_ag3) (S.o q.add (S.o q.as (S.end (hK _ ?_)))))))))
              clear hK K
              show Ev _ _ _ _
              refine Ev.region_S fun K hK => S.o q.mv (S.o q.add (S.o q.as (S.end (hK _ ?_))))
              clear hK K
              refine hR2 _ _ ?_
              refine roundU [0] [0, 1, 6] ⟨(pre ++ [s], suf), by rw [← hp]; simp, ?_⟩ ?_ (keep_c (he := (by first | rfl | (simp; done))) (h := keep_n)) (slots_c (he := (by first | rfl | (congr 2; simp; done))) (h := (slots_c (he := (by first | rfl | exact iE (pc_new (by omega) (by omega) (by omega)).1 | exact iE (pc_more (by omega) (by omega) (by omega)).1 | exact iE (pc_skip hpo (by omega)).1)) (h := (slots_c (he := (by first | rfl | exact iE (pc_zero hlo d).symm | exact iE (pc_new (by omega) (by omega) (by omega)).2 | exact iE (pc_more (by omega) (by omega) (by omega)).2 | exact iE (pc_skip hpo (by omega)).2)) (h := (slots_c (he := (by first | rfl | (simp; done) | (congr 2; omega))) (h := trivial)))))))) (.c (.c (.c .n)))
              trivial
              all_goals (dsimp only; simp only [List.length_cons]; omega)
            · first
            | (first | omega | contradiction)
            | refine Ev.skip ?_
              show Ev _ _ _ _
              refine Ev.region_S fun K hK => S.o q.mv (S.o q.mv (S.o q.mv (S.o (q.ix am_el22 am_cl49 (hl := (by first | exact ati hidx (by omega) | exact atig (by omega)))) (S.o (q.fs 2 am_fi49_2 am_cl3) (S.o (q.ls am_ag3) (S.o q.add (S.o q.as (S.end (hK _ ?_)))))))))
              clear hK K
              show Ev _ _ _ _
              refine Ev.region_S fun K hK => S.o q.mv (S.o q.add (S.o q.as (S.end (hK _ ?_))))
              clear hK K
              refine hR2 _ _ ?_
              refine roundU [0] [0, 1, 6] ⟨(pre ++ [s], suf), by rw [← hp]; simp, ?_⟩ ?_ (keep_c (he := (by first | rfl | (simp; done))) (h := keep_n)) (slots_c (he := (by first | rfl | (congr 2; simp; done))) (h := (slots_c (he := (by first | rfl | exact iE (pc_new (by omega) (by omega) (by omega)).1 | exact iE (pc_more (by omega) (by omega) (by omega)).1 | exact iE (pc_skip hpo (by omega)).1)) (h := (slots_c (he := (by first | rfl | exact iE (pc_zero hlo d).symm | exact iE (pc_new (by omega) (by omega) (by omega)).2 | exact iE (pc_more (by omega) (by omega) (by omega)).2 | exact iE (pc_skip hpo (by omega)).2)) (h := (slots_c (he := (by first | rfl | (simp; done) | (congr 2; omega))) (h := trivial)))))))) (.c (.c (.c .n)))
              trivial
              all_goals (dsimp only; simp only [List.length_cons]; omega)
    · first
    | (first | omega | contradiction)
    | refine Ev.exit ?_
      refine hR2 _ _ ?_
      show Ev _ _ _ _
      refine Ev.seq ?_
      refine Ev.sr fun K hK => S.o q.mv (S.o q.eql (S.end (hK _ ?_)))
      clear hK K
      refine Ev.cd (fun c12 => ?_) (fun c12 => ?_)
      · first
      | (first | omega | contradiction)
      | refine Ev.sr fun K hK => S.o q.mv (S.o q.as (S.end (hK _ ?_)))
        clear hK K
        refine Ev.weaken (Wk.frz 4 []) ?_
        refine Ev.ret ?_
        refine hR0 _ _ ?_
        refine Ev.ret1 ?_
        refine ⟨?_, rfl⟩
        (rw [show dn = pcP l d by rw [← hdn, pcAt_nil ‹_›, List.append_nil]]; done)
      · first
      | (first | omega | contradiction)
      | refine Ev.skip ?_
        show Ev _ _ _ _
        refine Ev.sr fun K hK => S.o q.mv (S.o q.mv (S.o q.mv (S.o (q.bd [_, _] am_ze33 am_pl33) (S.nn (q.bs [[_, _]] true am_el25 am_ze33 am_cl33) (S.ap' [_] am_el25 am_ze33 am_cl33 am_by33 (hh := head_own') (hr := (rows_lit [(⟨_, _⟩ : Int × Int)])) (h := S.o q.as (S.end (hK _ ?_))))))))
        clear hK K
        refine Ev.region_S fun K hK => S.o q.mv (S.o q.as (S.end (hK _ ?_)))
        clear hK K
        refine hR0 _ _ ?_
        refine roundU [2] [0, 1] ⟨(dn ++ [(pcMax l d below, pcCnt l d (pcMax l d below))], pcMax l d below), pcAt_next ‹_› hdn, by omega, by omega, hdl2 ‹_›⟩ ?_ (keep_c (he := (by first | rfl | (simp; done))) (h := keep_n)) (slots_c (he := (by first | rfl)) (h := (slots_c (he := (by first | rfl | (congr 1; simp; done))) (h := trivial)))) (.c (.c .n))
        skip
        all_goals (dsimp only; omega)
end Go.Proofs.YtddogeicmhbidaaGreatDoor
