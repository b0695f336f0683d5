/-
  The law StockLists, walked.
  Conditions: none.
-/
import Derived.Test.YtckahagagfmpbaaRp2
namespace Go.Proofs.Ytckahagagfmpbaa
open Go Go.AM
set_option linter.unusedSimpArgs false
set_option linter.unusedVariables false
set_option maxRecDepth 100000
set_option maxHeartbeats 1000000

theorem rPieces_fun (l : List (Int × Int)) (hok : okOrd l) : Fun Try.prog 32 [.sh 2 (l.map pairC)] (Ret (.lit (.int .i64 (numP l))) []) := by
  have hll := hok.1
  refine Fun.of (nt := 19) (rs := [.tmp 2]) Try.func32 rfl rfl rfl rfl rfl ?_
  refine Ev.sr fun K hK => S.o q.as (S.end (hK _ ?_))
  clear hK K
  refine Ev.sr fun K hK => S.o q.as (S.end (hK _ ?_))
  clear hK K
  refine Ev.seq ?_
  refine Ev.sr fun K hK => S.o q.as (S.end (hK _ ?_))
  clear hK K
  refine Ev.block ?_
  refine Ev.loopU (ι := {p : List (Int × Int) × List (Int × Int) // p.1 ++ p.2 = l ∧ True}) [] [0, 2] (fun ⟨(pre, suf), _⟩ => [(4, .lit (.int .i64 ((pre.length : Int)))), (3, .lit (.int .i64 (numP pre)))]) (fun ⟨(pre, suf), _⟩ => []) (fun ⟨(pre, suf), _⟩ => suf.length) ⟨([], l), rfl, trivial⟩ (.c (.c .n)) keep_n (slots_c (he := (by first | rfl | (congr 2; simp; done))) (h := (slots_c (he := (by first | rfl | exact iE (by rw [numP_snoc]))) (h := trivial)))) ?_
  rintro ⟨⟨pre, suf⟩, hp, hinv⟩ R0 hR0
  dsimp only [List.cons_append, List.nil_append, List.length_cons, List.length_nil]
  simp only at hp hinv
  have hpl : pre.length + suf.length = (l).length := by rw [← hp, List.length_append]
  rcases suf with _ | ⟨s, suf⟩
  · rw [List.append_nil] at hp; simp only [List.length_nil] at hpl
    refine Ev.seq ?_
    refine Ev.sr fun K hK => S.o q.mv (S.o q.mv (S.o (q.lens am_el23) (S.o q.lss (S.end (hK _ ?_)))))
    clear hK K
    refine Ev.cd (fun c1 => ?_) (fun c1 => ?_)
    · first
    | (first | omega | contradiction)
    | refine Ev.skip ?_
      show Ev _ _ _ _
      refine Ev.seq ?_
      refine Ev.block ?_
      refine Ev.region_S fun K hK => S.o q.mv (S.o q.mv (S.o q.mv (S.o (q.ix am_el23 am_cl40 (hl := (by first | exact atig (by omega)))) (S.o (q.fs 1 am_fi40_1 am_cl3) (S.o (q.ls am_ag3) (S.o q.add (S.o q.as (S.end (hK _ ?_)))))))))
      clear hK K
      show Ev _ _ _ _
      refine Ev.region_S fun K hK => S.o q.mv (S.o q.add (S.o q.as (S.end (hK _ ?_))))
      clear hK K
      refine hR0 _ _ ?_
      refine roundU [] [0, 2] ⟨(pre ++ [(sx, sy)], suf), by rw [← hp]; simp, ?_⟩ ?_ keep_n (slots_c (he := (by first | rfl | (congr 2; simp; done))) (h := (slots_c (he := (by first | rfl | exact iE (by rw [numP_snoc]))) (h := trivial)))) (.c (.c .n))
      trivial
      all_goals (dsimp only; simp only [List.length_cons]; omega)
    · first
    | (first | omega | contradiction)
    | refine Ev.exit ?_
      refine hR0 _ _ ?_
      show Ev _ _ _ _
      refine Ev.sr fun K hK => S.o q.mv (S.o q.as (S.end (hK _ ?_)))
      clear hK K
      refine Ev.ret ?_
      refine Ev.ret1 ?_
      refine ⟨?_, rfl⟩
      (rw [← hp]; done)
  · simp only [List.length_cons] at hpl
    have hidx : l[pre.length]? = some s := by rw [← hp]; simp
    obtain ⟨sx, sy⟩ := s
    obtain ⟨g1, g2, g3, g4⟩ := hok.2 (sx, sy) (by rw [← hp]; simp)
    simp only at g1 g2 g3 g4
    obtain ⟨t1, t2⟩ := numP_bd pre (fun x hx => hok.2 x (by rw [← hp]; simp [hx]))
    refine Ev.seq ?_
    refine Ev.sr fun K hK => S.o q.mv (S.o q.mv (S.o (q.lens am_el23) (S.o q.lss (S.end (hK _ ?_)))))
    clear hK K
    refine Ev.cd (fun c2 => ?_) (fun c2 => ?_)
    · first
    | (first | omega | contradiction)
    | refine Ev.skip ?_
      show Ev _ _ _ _
      refine Ev.seq ?_
      refine Ev.block ?_
      refine Ev.region_S fun K hK => S.o q.mv (S.o q.mv (S.o q.mv (S.o (q.ix am_el23 am_cl40 (hl := (by first | exact ati hidx (by omega) | exact atig (by omega)))) (S.o (q.fs 1 am_fi40_1 am_cl3) (S.o (q.ls am_ag3) (S.o q.add (S.o q.as (S.end (hK _ ?_)))))))))
      clear hK K
      show Ev _ _ _ _
      refine Ev.region_S fun K hK => S.o q.mv (S.o q.add (S.o q.as (S.end (hK _ ?_))))
      clear hK K
      refine hR0 _ _ ?_
      refine roundU [] [0, 2] ⟨(pre ++ [(sx, sy)], suf), by rw [← hp]; simp, ?_⟩ ?_ keep_n (slots_c (he := (by first | rfl | (congr 2; simp; done))) (h := (slots_c (he := (by first | rfl | exact iE (by rw [numP_snoc]))) (h := trivial)))) (.c (.c .n))
      trivial
      all_goals (dsimp only; simp only [List.length_cons]; omega)
    · first
    | (first | omega | contradiction)
    | refine Ev.exit ?_
      refine hR0 _ _ ?_
      show Ev _ _ _ _
      refine Ev.sr fun K hK => S.o q.mv (S.o q.as (S.end (hK _ ?_)))
      clear hK K
      refine Ev.ret ?_
      refine Ev.ret1 ?_
      refine ⟨?_, rfl⟩
      (rw [← hp]; done)

theorem rList_fun (l : List (Int × Int)) (hok : okOrd l) (hnm : numP l ≤ 1000) : Fun Try.prog 34 [.sh 2 (l.map pairC)] (Ret (.sh 1 ((listP l).map intC)) []) := by
  have hll := hok.1
  refine Fun.of (nt := 30) (rs := [.tmp 2]) Try.func34 rfl rfl rfl rfl rfl ?_
  refine Ev.sr fun K hK => S.o q.as (S.end (hK _ ?_))
  clear hK K
  refine Ev.sr fun K hK => S.o q.as (S.end (hK _ ?_))
  clear hK K
  refine Ev.seq ?_
  refine Ev.sr fun K hK => S.o q.as (S.end (hK _ ?_))
  clear hK K
  refine Ev.block ?_
  refine Ev.weaken (Wk.nown intC 3 3 1) ?_
  refine Ev.loopU (ι := {p : List (Int × Int) × List (Int × Int) // p.1 ++ p.2 = l ∧ True}) [0] [0, 2] (fun ⟨(pre, suf), _⟩ => [(4, .lit (.int .i64 ((pre.length : Int)))), (3, .als 0 0 (listP pre).length)]) (fun ⟨(pre, suf), _⟩ => [(0, ⟨true, 3, 1, (listP pre).map intC, true⟩)]) (fun ⟨(pre, suf), _⟩ => suf.length) ⟨([], l), rfl, trivial⟩ (.c (.c .n)) (keep_c (he := (by first | rfl | (rw [listP_snoc, show k = sy.toNat by omega]; done))) (h := keep_n)) (slots_c (he := (by first | rfl | (congr 2; simp; done))) (h := (slots_c (he := (by first | rfl | (rw [listP_snoc, show k = sy.toNat by omega]; done))) (h := trivial)))) ?_
  rintro ⟨⟨pre, suf⟩, hp, hinv⟩ R0 hR0
  dsimp only [List.cons_append, List.nil_append, List.length_cons, List.length_nil]
  simp only at hp hinv
  have hpl : pre.length + suf.length = (l).length := by rw [← hp, List.length_append]
  rcases suf with _ | ⟨s, suf⟩
  · rw [List.append_nil] at hp; simp only [List.length_nil] at hpl
    refine Ev.seq ?_
    refine Ev.sr fun K hK => S.o q.mv (S.o q.mv (S.o (q.lens am_el23) (S.o q.lss (S.end (hK _ ?_)))))
    clear hK K
    refine Ev.cd (fun c1 => ?_) (fun c1 => ?_)
    · first
    | (first | omega | contradiction)
    | refine Ev.skip ?_
      show Ev _ _ _ _
      refine Ev.seq ?_
      refine Ev.block ?_
      refine Ev.sr fun K hK => S.o q.as (S.end (hK _ ?_))
      clear hK K
      refine Ev.block ?_
      refine Ev.loopU (ι := {k : Nat // k ≤ sy.toNat}) [0] [0, 2, 4, 6, 7, 8, 9] (fun ⟨k, _⟩ => [(5, .lit (.int .i64 ((k : Int)))), (3, .als 0 0 ((listP pre ++ List.replicate k sx)).length)]) (fun ⟨k, _⟩ => [(0, ⟨true, 3, 1, ((listP pre ++ List.replicate k sx)).map intC, true⟩)]) (fun ⟨k, _⟩ => sy.toNat - k) ⟨0, Nat.zero_le _⟩ (.c (.c (.c (.c (.c (.c (.c .n))))))) (keep_c (he := (by first | rfl | (simp; done) | (simp [List.replicate_succ', intC]; done))) (h := keep_n)) (slots_c (he := (by first | rfl | (simp; done))) (h := (slots_c (he := (by first | rfl | (simp; done) | (congr 1; simp; omega))) (h := trivial)))) ?_
      rintro ⟨k, hk⟩ R2 hR2
      dsimp only [List.cons_append, List.nil_append, List.length_cons, List.length_nil]
      have hrl : (listP pre ++ List.replicate k sx).length = (listP pre).length + k := by rw [List.length_append, List.length_replicate]
      have hb7 : (List.replicate k sx).length = k := List.length_replicate
      have hb8 : (listP pre).length ≤ 1000 := by omega
      have hb9 : (listP pre ++ List.replicate k sx).length ≤ 2001 := by rw [hrl]; omega
      refine Ev.seq ?_
      refine Ev.sr fun K hK => S.o q.mv (S.o q.mv (S.o q.mv (S.o (q.ix am_el23 am_cl40 (hl := (by first | exact ati hidx (by omega) | exact atig (by omega)))) (S.o (q.fs 1 am_fi40_1 am_cl3) (S.o (q.ls am_ag3) (S.o q.lss (S.end (hK _ ?_))))))))
      clear hK K
      refine Ev.cd (fun c2 => ?_) (fun c2 => ?_)
      · first
      | (first | omega | contradiction)
      | refine Ev.skip ?_
        show Ev _ _ _ _
        refine Ev.seq ?_
        refine Ev.block ?_
        refine Ev.region_S fun K hK => S.o q.mv (S.o q.mv (S.o q.mv (S.o (q.ix am_el23 am_cl40 (hl := (by first | exact ati hidx (by omega) | exact atig (by omega)))) (S.o (q.fs 0 am_fi40_0 am_cl3) (S.o (q.ls am_ag3) (S.nn (q.bs [[_]] true am_el52 am_ze3 am_cl3) (S.ap' [_] am_el52 am_ze3 am_cl3 am_by3 (hh := head_own') (hr := (rows_lit [sx])) (h := S.o q.as (S.end (hK _ ?_))))))))))
        clear hK K
        show Ev _ _ _ _
        refine Ev.region_S fun K hK => S.o q.mv (S.o q.add (S.o q.as (S.end (hK _ ?_))))
        clear hK K
        refine hR2 _ _ ?_
        refine roundU [2] [0, 2, 4, 6, 7, 8, 9] ⟨k + 1, by omega⟩ ?_ (keep_c (he := (by first | rfl | (simp; done) | (simp [List.replicate_succ', intC]; done))) (h := keep_n)) (slots_c (he := (by first | rfl | (simp; done))) (h := (slots_c (he := (by first | rfl | (simp; done) | (congr 1; simp; omega))) (h := trivial)))) (.c (.c (.c (.c (.c (.c (.c .n)))))))
        skip
        all_goals (dsimp only; omega)
      · first
      | (first | omega | contradiction)
      | refine Ev.exit ?_
        refine hR2 _ _ ?_
        show Ev _ _ _ _
        refine Ev.region_S fun K hK => S.o q.mv (S.o q.add (S.o q.as (S.end (hK _ ?_))))
        clear hK K
        refine hR0 _ _ ?_
        refine roundU [0] [0, 2] ⟨(pre ++ [(sx, sy)], suf), by rw [← hp]; simp, ?_⟩ ?_ (keep_c (he := (by first | rfl | (rw [listP_snoc, show k = sy.toNat by omega]; done))) (h := keep_n)) (slots_c (he := (by first | rfl | (congr 2; simp; done))) (h := (slots_c (he := (by first | rfl | (rw [listP_snoc, show k = sy.toNat by omega]; done))) (h := trivial)))) (.c (.c .n))
        trivial
        all_goals (dsimp only; simp only [List.length_cons]; omega)
    · first
    | (first | omega | contradiction)
    | refine Ev.exit ?_
      refine hR0 _ _ ?_
      show Ev _ _ _ _
      refine Ev.sr fun K hK => S.o q.mv (S.o q.as (S.end (hK _ ?_)))
      clear hK K
      refine Ev.weaken (Wk.frz 2 []) ?_
      refine Ev.ret ?_
      refine Ev.ret1 ?_
      refine ⟨?_, rfl⟩
      (rw [← hp]; done)
  · simp only [List.length_cons] at hpl
    have hidx : l[pre.length]? = some s := by rw [← hp]; simp
    obtain ⟨sx, sy⟩ := s
    obtain ⟨g1, g2, g3, g4⟩ := hok.2 (sx, sy) (by rw [← hp]; simp)
    simp only at g1 g2 g3 g4
    obtain ⟨t1, t2⟩ := numP_bd pre (fun x hx => hok.2 x (by rw [← hp]; simp [hx]))
    obtain ⟨t3, t4⟩ := numP_cut hok.2 hp
    simp only at t4
    have t5 := listP_len pre (fun x hx => hok.2 x (by rw [← hp]; simp [hx]))
    refine Ev.seq ?_
    refine Ev.sr fun K hK => S.o q.mv (S.o q.mv (S.o (q.lens am_el23) (S.o q.lss (S.end (hK _ ?_)))))
    clear hK K
    refine Ev.cd (fun c3 => ?_) (fun c3 => ?_)
    · first
    | (first | omega | contradiction)
    | refine Ev.skip ?_
      show Ev _ _ _ _
      refine Ev.seq ?_
      refine Ev.block ?_
      refine Ev.sr fun K hK => S.o q.as (S.end (hK _ ?_))
      clear hK K
      refine Ev.block ?_
      refine Ev.loopU (ι := {k : Nat // k ≤ sy.toNat}) [0] [0, 2, 4, 6, 7, 8, 9] (fun ⟨k, _⟩ => [(5, .lit (.int .i64 ((k : Int)))), (3, .als 0 0 ((listP pre ++ List.replicate k sx)).length)]) (fun ⟨k, _⟩ => [(0, ⟨true, 3, 1, ((listP pre ++ List.replicate k sx)).map intC, true⟩)]) (fun ⟨k, _⟩ => sy.toNat - k) ⟨0, Nat.zero_le _⟩ (.c (.c (.c (.c (.c (.c (.c .n))))))) (keep_c (he := (by first | rfl | (simp; done) | (simp [List.replicate_succ', intC]; done))) (h := keep_n)) (slots_c (he := (by first | rfl | (simp; done))) (h := (slots_c (he := (by first | rfl | (simp; done) | (congr 1; simp; omega))) (h := trivial)))) ?_
      rintro ⟨k, hk⟩ R2 hR2
      dsimp only [List.cons_append, List.nil_append, List.length_cons, List.length_nil]
      have hrl : (listP pre ++ List.replicate k sx).length = (listP pre).length + k := by rw [List.length_append, List.length_replicate]
      have hb7 : (List.replicate k sx).length = k := List.length_replicate
      have hb8 : (listP pre).length ≤ 1000 := by omega
      have hb9 : (listP pre ++ List.replicate k sx).length ≤ 2001 := by rw [hrl]; omega
      refine Ev.seq ?_
      refine Ev.sr fun K hK => S.o q.mv (S.o q.mv (S.o q.mv (S.o (q.ix am_el23 am_cl40 (hl := (by first | exact ati hidx (by omega) | exact ati hidx (by omega) | exact atig (by omega)))) (S.o (q.fs 1 am_fi40_1 am_cl3) (S.o (q.ls am_ag3) (S.o q.lss (S.end (hK _ ?_))))))))
      clear hK K
      refine Ev.cd (fun c4 => ?_) (fun c4 => ?_)
      · first
      | (first | omega | contradiction)
      | refine Ev.skip ?_
        show Ev _ _ _ _
        refine Ev.seq ?_
        refine Ev.block ?_
        refine Ev.region_S fun K hK => S.o q.mv (S.o q.mv (S.o q.mv (S.o (q.ix am_el23 am_cl40 (hl := (by first | exact ati hidx (by omega) | exact ati hidx (by omega) | exact atig (by omega)))) (S.o (q.fs 0 am_fi40_0 am_cl3) (S.o (q.ls am_ag3) (S.nn (q.bs [[_]] true am_el52 am_ze3 am_cl3) (S.ap' [_] am_el52 am_ze3 am_cl3 am_by3 (hh := head_own') (hr := (rows_lit [sx])) (h := S.o q.as (S.end (hK _ ?_))))))))))
        clear hK K
        show Ev _ _ _ _
        refine Ev.region_S fun K hK => S.o q.mv (S.o q.add (S.o q.as (S.end (hK _ ?_))))
        clear hK K
        refine hR2 _ _ ?_
        refine roundU [2] [0, 2, 4, 6, 7, 8, 9] ⟨k + 1, by omega⟩ ?_ (keep_c (he := (by first | rfl | (simp; done) | (simp [List.replicate_succ', intC]; done))) (h := keep_n)) (slots_c (he := (by first | rfl | (simp; done))) (h := (slots_c (he := (by first | rfl | (simp; done) | (congr 1; simp; omega))) (h := trivial)))) (.c (.c (.c (.c (.c (.c (.c .n)))))))
        skip
        all_goals (dsimp only; omega)
      · first
      | (first | omega | contradiction)
      | refine Ev.exit ?_
        refine hR2 _ _ ?_
        show Ev _ _ _ _
        refine Ev.region_S fun K hK => S.o q.mv (S.o q.add (S.o q.as (S.end (hK _ ?_))))
        clear hK K
        refine hR0 _ _ ?_
        refine roundU [0] [0, 2] ⟨(pre ++ [(sx, sy)], suf), by rw [← hp]; simp, ?_⟩ ?_ (keep_c (he := (by first | rfl | (rw [listP_snoc, show k = sy.toNat by omega]; done))) (h := keep_n)) (slots_c (he := (by first | rfl | (congr 2; simp; done))) (h := (slots_c (he := (by first | rfl | (rw [listP_snoc, show k = sy.toNat by omega]; done))) (h := trivial)))) (.c (.c .n))
        trivial
        all_goals (dsimp only; simp only [List.length_cons]; omega)
    · first
    | (first | omega | contradiction)
    | refine Ev.exit ?_
      refine hR0 _ _ ?_
      show Ev _ _ _ _
      refine Ev.sr fun K hK => S.o q.mv (S.o q.as (S.end (hK _ ?_)))
      clear hK K
      refine Ev.weaken (Wk.frz 2 []) ?_
      refine Ev.ret ?_
      refine Ev.ret1 ?_
      refine ⟨?_, rfl⟩
      (rw [← hp]; done)

theorem eqInts_fun (a b : List Int) (ha : a.length ≤ 140737488355328) (hb : b.length ≤ 140737488355328) : Fun Try.prog 33 [.sh 1 (a.map intC), .sh 1 (b.map intC)] (Ret (.lit (.bool (decide (a = b)))) []) := by
  refine Fun.of (nt := 26) (rs := [.tmp 4]) Try.func33 rfl rfl rfl rfl rfl ?_
  refine Ev.sr fun K hK => S.o q.as (S.end (hK _ ?_))
  clear hK K
  refine Ev.seq ?_
  refine Ev.sr fun K hK => S.o q.mv (S.o (q.lens am_el52) (S.o q.mv (S.o (q.lens am_el52) (S.o q.neq (S.end (hK _ ?_))))))
  clear hK K
  refine Ev.cn (fun c1 => ?_) (fun c1 => ?_)
  · first
  | (first | omega | contradiction)
  | refine Ev.sr fun K hK => S.o q.as (S.end (hK _ ?_))
    clear hK K
    refine Ev.ret ?_
    refine Ev.ret1 ?_
    refine ⟨?_, rfl⟩
    first
     | exact bF (fun h => by subst h; omega)
     | exact bF (fun h => by subst h; rw [hidx] at hidx2; simp only [Option.some.injEq] at hidx2; omega)
     | exact bT (hinv.symm.trans (List.take_of_length_le (by omega)))
  · first
  | (first | omega | contradiction)
  | refine Ev.skip ?_
    show Ev _ _ _ _
    refine Ev.seq ?_
    refine Ev.sr fun K hK => S.o q.mv (S.o (q.lens am_el52) (S.o q.mv (S.end (hK _ ?_))))
    clear hK K
    refine Ev.block ?_
    refine Ev.loopU (ι := {q : List Int × List Int // q.1 ++ q.2 = a ∧ b.take q.1.length = q.1}) [] [0, 1, 12] (fun ⟨(pre, suf), _⟩ => [(13, .lit (.int .i64 ((pre.length : Int))))]) (fun ⟨(pre, suf), _⟩ => []) (fun ⟨(pre, suf), _⟩ => suf.length) ⟨([], a), rfl, rfl⟩ (.c (.c (.c .n))) keep_n (slots_c (he := (by first | rfl | (simp; done) | (congr 2; omega))) (h := trivial)) ?_
    rintro ⟨⟨pre, suf⟩, hp, hinv⟩ R0 hR0
    dsimp only [List.cons_append, List.nil_append, List.length_cons, List.length_nil]
    simp only at hp hinv
    have hpl : pre.length + suf.length = (a).length := by rw [← hp, List.length_append]
    rcases suf with _ | ⟨s, suf⟩
    · rw [List.append_nil] at hp; subst hp; simp only [List.length_nil] at hpl
      refine Ev.sr fun K hK => S.o q.lss (S.end (hK _ ?_))
      clear hK K
      refine Ev.ud (fun c2 => ?_) (fun c2 => ?_)
      · first
      | (first | omega | contradiction)
      | refine Ev.seq ?_
        refine Ev.block ?_
        refine Ev.sr fun K hK => S.o q.mv (S.o q.as (S.end (hK _ ?_)))
        clear hK K
        refine Ev.sm (tbs [(0, 0), (0, 0), (2, 3), (3, 7), (0, 0), (0, 0), (6, 48), (7, 112), (8, 255)]) 9 fun K hK => M.o q.mv (M.o q.mv (M.o (q.ix am_el52 am_cl3 (hl := (by first | exact atig (by omega)))) (M.o (q.ls am_ag3) (M.o q.mv (M.o q.mv (M.o (q.ix am_el52 am_cl3 (hl := (by first | exact atig (by omega)))) (M.o (q.ls am_ag3) (M.o q.neq (M.end [] (h := S.end (hK _ ?_)))))))))))
        clear hK K
        refine Ev.cn (fun c3 => ?_) (fun c3 => ?_)
        · first
        | (first | omega | contradiction)
        | refine Ev.sr fun K hK => S.o q.as (S.end (hK _ ?_))
          clear hK K
          refine Ev.ret ?_
          refine hR0 _ _ ?_
          refine Ev.ret1 ?_
          refine ⟨?_, rfl⟩
          first
           | exact bF (fun h => by subst h; omega)
           | exact bF (fun h => by subst h; rw [hidx] at hidx2; simp only [Option.some.injEq] at hidx2; omega)
           | exact bT (hinv.symm.trans (List.take_of_length_le (by omega)))
        · first
        | (first | omega | contradiction)
        | refine Ev.skip ?_
          show Ev _ _ _ _
          refine Ev.region_S fun K hK => S.o q.add (S.o q.mv (S.end (hK _ ?_)))
          clear hK K
          refine hR0 _ _ ?_
          refine roundU [] [0, 1, 12] ⟨(pre ++ [s], suf), by rw [← hp]; simp, ?_⟩ ?_ keep_n (slots_c (he := (by first | rfl | (simp; done) | (congr 2; omega))) (h := trivial)) (.c (.c (.c .n)))
          simp only [List.length_append, List.length_cons, List.length_nil, Nat.zero_add]
          rw [List.take_add_one, hinv, hidx2]
          simp only [Option.toList_some, List.append_cancel_left_eq, List.cons.injEq, and_true]
          omega
          all_goals (dsimp only; simp only [List.length_cons]; omega)
      · first
      | (first | omega | contradiction)
      | refine Ev.exit ?_
        refine hR0 _ _ ?_
        show Ev _ _ _ _
        refine Ev.sr fun K hK => S.o q.as (S.end (hK _ ?_))
        clear hK K
        refine Ev.ret ?_
        refine Ev.ret1 ?_
        refine ⟨?_, rfl⟩
        first
         | exact bF (fun h => by subst h; omega)
         | exact bF (fun h => by subst h; rw [hidx] at hidx2; simp only [Option.some.injEq] at hidx2; omega)
         | exact bT (hinv.symm.trans (List.take_of_length_le (by omega)))
    · simp only [List.length_cons] at hpl
      have hidx : (a)[pre.length]? = some s := by rw [← hp]; simp
      obtain ⟨s2, hidx2⟩ : ∃ s2, b[pre.length]? = some s2 := ⟨_, List.getElem?_eq_getElem (by omega)⟩
      refine Ev.sr fun K hK => S.o q.lss (S.end (hK _ ?_))
      clear hK K
      refine Ev.ud (fun c4 => ?_) (fun c4 => ?_)
      · first
      | (first | omega | contradiction)
      | refine Ev.seq ?_
        refine Ev.block ?_
        refine Ev.sr fun K hK => S.o q.mv (S.o q.as (S.end (hK _ ?_)))
        clear hK K
        refine Ev.sm (tbs [(0, 0), (0, 0), (2, 3), (3, 7), (0, 0), (0, 0), (6, 48), (7, 112), (8, 255)]) 9 fun K hK => M.o q.mv (M.o q.mv (M.o (q.ix am_el52 am_cl3 (hl := (by first | exact ati hidx (by omega) | exact ati hidx2 (by omega) | exact atig (by omega)))) (M.o (q.ls am_ag3) (M.o q.mv (M.o q.mv (M.o (q.ix am_el52 am_cl3 (hl := (by first | exact ati hidx (by omega) | exact ati hidx2 (by omega) | exact atig (by omega)))) (M.o (q.ls am_ag3) (M.o q.neq (M.end [] (h := S.end (hK _ ?_)))))))))))
        clear hK K
        refine Ev.cn (fun c5 => ?_) (fun c5 => ?_)
        · first
        | (first | omega | contradiction)
        | refine Ev.sr fun K hK => S.o q.as (S.end (hK _ ?_))
          clear hK K
          refine Ev.ret ?_
          refine hR0 _ _ ?_
          refine Ev.ret1 ?_
          refine ⟨?_, rfl⟩
          first
           | exact bF (fun h => by subst h; omega)
           | exact bF (fun h => by subst h; rw [hidx] at hidx2; simp only [Option.some.injEq] at hidx2; omega)
           | exact bT (hinv.symm.trans (List.take_of_length_le (by omega)))
        · first
        | (first | omega | contradiction)
        | refine Ev.skip ?_
          show Ev _ _ _ _
          refine Ev.region_S fun K hK => S.o q.add (S.o q.mv (S.end (hK _ ?_)))
          clear hK K
          refine hR0 _ _ ?_
          refine roundU [] [0, 1, 12] ⟨(pre ++ [s], suf), by rw [← hp]; simp, ?_⟩ ?_ keep_n (slots_c (he := (by first | rfl | (simp; done) | (congr 2; omega))) (h := trivial)) (.c (.c (.c .n)))
          simp only [List.length_append, List.length_cons, List.length_nil, Nat.zero_add]
          rw [List.take_add_one, hinv, hidx2]
          simp only [Option.toList_some, List.append_cancel_left_eq, List.cons.injEq, and_true]
          omega
          all_goals (dsimp only; simp only [List.length_cons]; omega)
      · first
      | (first | omega | contradiction)
      | refine Ev.exit ?_
        refine hR0 _ _ ?_
        show Ev _ _ _ _
        refine Ev.sr fun K hK => S.o q.as (S.end (hK _ ?_))
        clear hK K
        refine Ev.ret ?_
        refine Ev.ret1 ?_
        refine ⟨?_, rfl⟩
        first
         | exact bF (fun h => by subst h; omega)
         | exact bF (fun h => by subst h; rw [hidx] at hidx2; simp only [Option.some.injEq] at hidx2; omega)
         | exact bT (hinv.symm.trans (List.take_of_length_le (by omega)))

theorem lsV_len (l : List (Int × Int)) : (lsV l).length ≤ 1000 := by
  unfold lsV
  split
  · rename_i h
    split
    · have := listP_len l h.2; omega
    · simp
  · simp
theorem lists_law (l : List (Int × Int)) (hl : l.length ≤ 140737488355328) : Fun Try.prog 7 [.sh 2 (l.map pairC)] (Ret (.lit (.bool true)) []) := by
  have hll := lsV_len l
  refine Fun.of (nt := 46) (rs := [.tmp 2]) Try.func7 rfl rfl rfl rfl rfl ?_
  refine Ev.sr fun K hK => S.o q.as (S.end (hK _ ?_))
  clear hK K
  refine Ev.seq ?_
  refine Ev.sr fun K hK => S.c0 (hF := awake_fun) (h := S.o q.nott (S.end (hK _ ?_)))
  clear hK K
  refine Ev.cf ?_
  refine Ev.skip ?_
  show Ev _ _ _ _
  refine Ev.seq ?_
  refine Ev.sr fun K hK => S.o q.mv (S.nn (q.bs [[_]] true am_el59 am_ze23 am_cl23) (S.c0 (hF := few_fun [l] (by simp) (fun x hx => by simp only [List.mem_cons, List.not_mem_nil, or_false] at hx; first | (rcases hx with rfl | rfl <;> assumption) | (subst hx; assumption))) (h := S.o q.not (S.end (hK _ ?_)))))
  clear hK K
  refine Ev.cn (fun c1 => ?_) (fun c1 => ?_)
  · first
  | (first | omega | contradiction)
  | refine Ev.sr fun K hK => S.o q.as (S.end (hK _ ?_))
    clear hK K
    refine Ev.ret ?_
    refine Ev.ret1 ?_
    refine ⟨?_, rfl⟩
    first | rfl | exact lawT rfl | exact lawT (by omega) | exact lawT (by assumption) | (exfalso; omega) | contradiction | (exfalso; simp_all; done) | (exfalso; simp at *; done)
  · first
  | (first | omega | contradiction)
  | refine Ev.skip ?_
    show Ev _ _ _ _
    refine Ev.sr fun K hK => S.o q.mv (S.c0 (hF := stList_fun _ (by omega)) (h := S.o q.mv (S.o q.ex (S.o q.ex (S.o q.as (S.o q.as (S.end (hK _ ?_))))))))
    clear hK K
    refine Ev.seq ?_
    refine Ev.block ?_
    refine Ev.sr fun K hK => S.o q.mv (S.c0 (hF := rorder_fun _ (by omega)) (h := S.o q.not (S.o q.as (S.end (hK _ ?_)))))
    clear hK K
    refine Ev.cn (fun c2 => ?_) (fun c2 => ?_)
    · first
    | (first | omega | contradiction)
    | have e1 : (lsV l).length = 0 := by rw [show lsV l = [] from if_neg ‹_›]; rfl
      have e2 : lsE l = 1 := if_neg ‹_›
      refine Ev.sr fun K hK => S.o q.mv (S.o (q.lens am_el52) (S.o q.eql (S.bd q.mv (fun c3 => ?_) (fun c3 => ?_))))
      · first
      | (first | omega | contradiction)
      | refine S.o q.mv (S.o q.eql (S.o q.pt (S.o q.as (S.end (hK _ ?_)))))
        clear hK K
        refine Ev.ret ?_
        refine Ev.ret1 ?_
        refine ⟨?_, rfl⟩
        first | rfl | exact lawT rfl | exact lawT (by omega) | exact lawT (by assumption) | (exfalso; omega) | contradiction | (exfalso; simp_all; done) | (exfalso; simp at *; done)
      · first
      | (first | omega | contradiction)
      | refine S.sk (S.sk (S.o q.pf (S.o q.as (S.end (hK _ ?_)))))
        clear hK K
        refine Ev.ret ?_
        refine Ev.ret1 ?_
        refine ⟨?_, rfl⟩
        first | rfl | exact lawT rfl | exact lawT (by omega) | exact lawT (by assumption) | (exfalso; omega) | contradiction | (exfalso; simp_all; done) | (exfalso; simp at *; done)
    · first
    | (first | omega | contradiction)
    | have hok : okOrd l := ‹_›
      refine Ev.sr fun K hK => S.o q.mv (S.c0 (hF := rPieces_fun _ (by assumption)) (h := S.o q.gtr (S.o q.as (S.end (hK _ ?_)))))
      clear hK K
      refine Ev.cd (fun c4 => ?_) (fun c4 => ?_)
      · first
      | (first | omega | contradiction)
      | have hn : ¬ numP l ≤ 1000 := by omega
        have e1 : (lsV l).length = 0 := by rw [show lsV l = [] from (if_pos hok).trans (if_neg hn)]; rfl
        have e2 : lsE l = 4 := (if_pos hok).trans (if_neg hn)
        refine Ev.sr fun K hK => S.o q.mv (S.o (q.lens am_el52) (S.o q.eql (S.bd q.mv (fun c5 => ?_) (fun c5 => ?_))))
        · first
        | (first | omega | contradiction)
        | refine S.o q.mv (S.o q.eql (S.o q.pt (S.o q.as (S.end (hK _ ?_)))))
          clear hK K
          refine Ev.ret ?_
          refine Ev.ret1 ?_
          refine ⟨?_, rfl⟩
          first | rfl | exact lawT rfl | exact lawT (by omega) | exact lawT (by assumption) | (exfalso; omega) | contradiction | (exfalso; simp_all; done) | (exfalso; simp at *; done)
        · first
        | (first | omega | contradiction)
        | refine S.sk (S.sk (S.o q.pf (S.o q.as (S.end (hK _ ?_)))))
          clear hK K
          refine Ev.ret ?_
          refine Ev.ret1 ?_
          refine ⟨?_, rfl⟩
          first | rfl | exact lawT rfl | exact lawT (by omega) | exact lawT (by assumption) | (exfalso; omega) | contradiction | (exfalso; simp_all; done) | (exfalso; simp at *; done)
      · first
      | (first | omega | contradiction)
      | refine Ev.skip ?_
        show Ev _ _ _ _
        have hn : numP l ≤ 1000 := by omega
        have e1 : lsV l = listP l := (if_pos hok).trans (if_pos hn)
        have e2 : lsE l = 0 := (if_pos hok).trans (if_pos hn)
        have e3 := listP_len l hok.2
        refine Ev.sr fun K hK => S.o q.mv (S.o q.mv (S.c0 (hF := rList_fun _ hok (by omega)) (h := S.c0 (hF := eqInts_fun _ _ (by omega) (by omega)) (h := S.bd q.mv (fun c6 => ?_) (fun c6 => ?_)))))
        · first
        | (first | omega | contradiction)
        | refine S.o q.mv (S.o q.eql (S.o q.pt (S.o q.as (S.end (hK _ ?_)))))
          clear hK K
          refine Ev.ret ?_
          refine Ev.ret1 ?_
          refine ⟨?_, rfl⟩
          first | rfl | exact lawT rfl | exact lawT (by omega) | exact lawT (by assumption) | (exfalso; omega) | contradiction | (exfalso; simp_all; done) | (exfalso; simp at *; done)
        · first
        | (first | omega | contradiction)
        | refine S.sk (S.sk (S.o q.pf (S.o q.as (S.end (hK _ ?_)))))
          clear hK K
          refine Ev.ret ?_
          refine Ev.ret1 ?_
          refine ⟨?_, rfl⟩
          first | rfl | exact lawT rfl | exact lawT (by omega) | exact lawT (by assumption) | (exfalso; omega) | contradiction | (exfalso; simp_all; done) | (exfalso; simp at *; done)
end Go.Proofs.Ytckahagagfmpbaa
