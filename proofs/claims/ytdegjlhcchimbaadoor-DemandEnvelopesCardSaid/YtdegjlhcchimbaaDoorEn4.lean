/-
  The reference: Text.
  Conditions: none.
-/
import Derived.Test.YtdegjlhcchimbaaDoorEn1
import Derived.Test.YtdegjlhcchimbaaDoorDm6
namespace Go.Proofs.YtdegjlhcchimbaaDoor
open Go Go.AM
set_option linter.unusedSimpArgs false
set_option linter.unusedVariables false
set_option maxRecDepth 100000
set_option maxHeartbeats 2000000
theorem decimal_all : ∀ (k : Nat) (n : Int), n.natAbs < k → okI n → Fun Tryd.prog 36 [.lit (.int .i64 n)] (Ret (.lit (str (Go.Lib.itoa n))) []) := by
  refine Nat.rec (fun n h => absurd h (Nat.not_lt_zero _)) (fun k ih n hn hok => ?_)
  unfold okI at hok
  have hil := itoa_le (n := n) hok
  refine Fun.of (nt := 35) (rs := [.tmp 2]) Tryd.func36 rfl rfl rfl rfl rfl ?_
  refine Ev.sr fun K hK => S.o q.as (S.end (hK _ ?_))
  clear hK K
  refine Ev.seq ?_
  refine Ev.sr fun K hK => S.o q.mv (S.o q.lss (S.end (hK _ ?_)))
  clear hK K
  refine Ev.cd (fun c1 => ?_) (fun c1 => ?_)
  · first
  | (first | omega | contradiction)
  | refine Ev.seq ?_
    refine Ev.sr fun K hK => S.o q.mv (S.o q.gtr (S.end (hK _ ?_)))
    clear hK K
    refine Ev.cd (fun c2 => ?_) (fun c2 => ?_)
    · first
    | (first | omega | contradiction)
    | rw [dec_n1 (show n < 0 by omega) (show -10 < n by omega)]
      refine Ev.sr fun K hK => S.o q.mv (S.o q.sub (S.o (q.cv32 am_un21 am_us3) (S.o (q.rstr am_un9 am_us21) (S.o q.sadd (S.o q.as (S.end (hK _ ?_)))))))
      clear hK K
      refine Ev.ret ?_
      refine Ev.ret1 ?_
      refine ⟨?_, rfl⟩
      rfl
    · first
    | (first | omega | contradiction)
    | refine Ev.skip ?_
      show Ev _ _ _ _
      have hq : okI (-(-n / 10)) := by unfold okI; omega
      have hql := itoa_le hq
      rw [dec_n2' (show n ≤ -10 by omega)]
      refine Ev.sr fun K hK => S.o q.mv (S.o q.quoN (S.c0 (hF := ih (-(-n / 10)) (by omega) hq) (h := S.o q.mv (S.o q.remN (S.o q.sub (S.o (q.cv32 am_un21 am_us3) (S.o (q.rstr am_un9 am_us21) (S.o q.sadd (S.o q.as (S.end (hK _ ?_)))))))))))
      clear hK K
      refine Ev.ret ?_
      refine Ev.ret1 ?_
      refine ⟨?_, rfl⟩
      rfl
  · first
  | (first | omega | contradiction)
  | refine Ev.skip ?_
    show Ev _ _ _ _
    refine Ev.sr fun K hK => S.o q.mv (S.o q.rem (S.o q.add (S.o (q.cv32 am_un21 am_us3) (S.o (q.rstr am_un9 am_us21) (S.o q.as (S.end (hK _ ?_)))))))
    clear hK K
    refine Ev.seq ?_
    refine Ev.sr fun K hK => S.o q.mv (S.o q.geq (S.end (hK _ ?_)))
    clear hK K
    refine Ev.cd (fun c3 => ?_) (fun c3 => ?_)
    · first
    | (first | omega | contradiction)
    | have hq : okI (n / 10) := by unfold okI; omega
      have hql := itoa_le hq
      rw [dec_p2 (show 10 ≤ n by omega)]
      refine Ev.sr fun K hK => S.o q.mv (S.o q.quo (S.c0 (hF := ih (n / 10) (by omega) hq) (h := S.o q.mv (S.o q.sadd (S.o q.as (S.end (hK _ ?_)))))))
      clear hK K
      refine Ev.ret ?_
      refine Ev.ret1 ?_
      refine ⟨?_, rfl⟩
      rfl
    · first
    | (first | omega | contradiction)
    | refine Ev.skip ?_
      show Ev _ _ _ _
      rw [dec_p1 (show 0 ≤ n by omega) (show n < 10 by omega)]
      refine Ev.sr fun K hK => S.o q.mv (S.o q.as (S.end (hK _ ?_)))
      clear hK K
      refine Ev.ret ?_
      refine Ev.ret1 ?_
      refine ⟨?_, rfl⟩
      rfl
theorem decimal_fun (n : Int) (h : okI n) : Fun Tryd.prog 36 [.lit (.int .i64 n)] (Ret (.lit (str (Go.Lib.itoa n))) []) := decimal_all (n.natAbs + 1) n (by omega) h
theorem headT_eq (d : Dem) (a : List UInt8) : a ++ [100, 101, 109, 97, 110, 100, 32] ++ d.name ++ [32, 121, 32] ++ Go.Lib.itoa d.zone.ly ++ [32] ++ Go.Lib.itoa d.zone.hy ++ [32, 122, 32] ++ Go.Lib.itoa d.zone.lz ++ [32] ++ Go.Lib.itoa d.zone.hz = a ++ headT d := by simp [headT, numsT]
theorem rText_fun (l : List Dem) (hok : okDems l) : Fun Tryd.prog 12 [.sh 8 (l.map Dem.c)] (Ret (.lit (str (textL l))) []) := by
  have hl20 := hok.1
  refine Fun.of (nt := 79) (rs := [.tmp 2]) Tryd.func12 rfl rfl rfl rfl rfl ?_
  refine Ev.sr fun K hK => S.o q.as (S.end (hK _ ?_))
  clear hK K
  refine Ev.sr fun K hK => S.o q.as (S.end (hK _ ?_))
  clear hK K
  refine Ev.seq ?_
  refine Ev.sr fun K hK => S.o q.as (S.end (hK _ ?_))
  clear hK K
  refine Ev.block ?_
  refine Ev.loopU (ι := {p : List (Dem) × List (Dem) // p.1 ++ p.2 = l ∧ True}) [] [0, 2] (fun ⟨(pre, suf), _⟩ => [(4, .lit (.int .i64 ((pre.length : Int)))), (3, .lit (str (textL pre)))]) (fun ⟨(pre, suf), _⟩ => []) (fun ⟨(pre, suf), _⟩ => suf.length) ⟨([], l), rfl, trivial⟩ (.c (.c .n)) keep_n (slots_c (he := (by first | rfl | (congr 2; simp; done))) (h := (slots_c (he := (by first | rfl | (rw [textL_snoc]; simp only [List.append_assoc]; done))) (h := trivial)))) ?_
  rintro ⟨⟨pre, suf⟩, hp, hinv⟩ R0 hR0
  dsimp only [List.cons_append, List.nil_append, List.length_cons, List.length_nil]
  simp only at hp hinv
  have hpl : pre.length + suf.length = (l).length := by rw [← hp, List.length_append]
  rcases suf with _ | ⟨s, suf⟩
  · rw [List.append_nil] at hp; simp only [List.length_nil] at hpl
    subst hp
    refine Ev.seq ?_
    refine Ev.sr fun K hK => S.o q.mv (S.o q.mv (S.o (q.lens am_el22) (S.o q.lss (S.end (hK _ ?_)))))
    clear hK K
    refine Ev.cd (fun c1 => ?_) (fun c1 => ?_)
    · first | omega | contradiction | (exfalso; simp at *; done)
    · first
    | (first | omega | contradiction)
    | refine Ev.exit ?_
      refine hR0 _ _ ?_
      show Ev _ _ _ _
      refine Ev.sr fun K hK => S.o q.mv (S.o q.as (S.end (hK _ ?_)))
      clear hK K
      refine Ev.ret ?_
      refine Ev.ret1 ?_
      refine ⟨?_, rfl⟩
      rfl
  · simp only [List.length_cons] at hpl
    have hidx : l[pre.length]? = some s := by rw [← hp]; simp
    have hds : okDem s := hok.2.1 s (by rw [← hp]; simp)
    obtain ⟨z1, z2, z3, z4⟩ := zone_okI hds.2.1
    have hnl := (isName_len hds.1).2
    have hsl := hds.2.2.1
    have htl := textL_len pre (fun d hd => hok.2.1 d (by rw [← hp]; simp [hd]))
    have hhl := headT_len hds
    have k1 := itoa_le z1
    have k2 := itoa_le z2
    have k3 := itoa_le z3
    have k4 := itoa_le z4
    have hsl4 := stepsT_len s.steps hds.2.2.2.1
    refine Ev.seq ?_
    refine Ev.sr fun K hK => S.o q.mv (S.o q.mv (S.o (q.lens am_el22) (S.o q.lss (S.end (hK _ ?_)))))
    clear hK K
    refine Ev.cd (fun c2 => ?_) (fun c2 => ?_)
    · first
    | (first | omega | contradiction)
    | refine Ev.skip ?_
      show Ev _ _ _ _
      refine Ev.seq ?_
      refine Ev.block ?_
      refine Ev.sr fun K hK => S.o q.mv (S.o q.mv (S.o (q.ix am_el22 am_cl48 (hl := (by first | exact ati hidx (by omega) | exact atig (by omega)))) (S.o (q.lsA [_, _, _, _, _, _, _, _] am_ag48 am_cl48) (S.nn (q.al am_ze48) (S.sv [_, _, _, _, _, _, _, _] true [] am_in48 am_cl48 (h := S.end (hK _ ?_)))))))
      clear hK K
      refine Ev.sm (tbs [(0, 0), (1, 1), (0, 0), (3, 4), (4, 15), (5, 31), (0, 0), (7, 64), (8, 192), (9, 448), (10, 960), (11, 2047), (12, 4095), (0, 0), (14, 8192), (15, 24576), (16, 57344), (17, 124864), (18, 262143), (19, 524287), (0, 0), (21, 1048576), (22, 3145728), (23, 7340032), (24, 15984576), (25, 33554431), (26, 67108863), (0, 0), (28, 134217728), (29, 402653184), (30, 939524096), (31, 2046027712), (32, 4294967295), (33, 8589934591)]) 33 fun K hK => M.o q.mv (M.o q.sadd (M.o (q.fa 0 am_fi48_0 am_cl9) (M.o (q.lv am_ag9) (M.o q.sadd (M.o q.sadd (M.o (q.fa 1 am_fi48_1 am_cl26) (M.o (q.fa 1 am_fi26_0 am_cl24) (M.o (q.fa 2 am_fi24_1 am_cl3) (M.o (q.lv am_ag3) (M.c0 (hF := decimal_fun s.zone.ly z1) (h := M.o q.sadd (M.o q.sadd (M.o (q.fa 1 am_fi48_1 am_cl26) (M.o (q.fa 4 am_fi26_1 am_cl24) (M.o (q.fa 5 am_fi24_1 am_cl3) (M.o (q.lv am_ag3) (M.c0 (hF := decimal_fun s.zone.hy z2) (h := M.o q.sadd (M.o q.sadd (M.o (q.fa 1 am_fi48_1 am_cl26) (M.o (q.fa 1 am_fi26_0 am_cl24) (M.o (q.fa 3 am_fi24_2 am_cl3) (M.o (q.lv am_ag3) (M.c0 (hF := decimal_fun s.zone.lz z3) (h := M.o q.sadd (M.o q.sadd (M.o (q.fa 1 am_fi48_1 am_cl26) (M.o (q.fa 4 am_fi26_1 am_cl24) (M.o (q.fa 6 am_fi24_2 am_cl3) (M.o (q.lv am_ag3) (M.c0 (hF := decimal_fun s.zone.hz z4) (h := M.o q.sadd (M.end [_] (h := S.o q.as (S.end (hK _ ?_))))))))))))))))))))))))))))))))))))
      clear hK K
      refine Ev.seq ?_
      refine Ev.sr fun K hK => S.o q.as (S.end (hK _ ?_))
      clear hK K
      refine Ev.block ?_
      refine Ev.loopU (ι := {p : List (Int × Int) × List (Int × Int) // p.1 ++ p.2 = s.steps}) [0] [0, 2, 4, 5, 7, 8, 9, 10, 13, 14, 15, 16, 17, 18, 19, 20, 21, 22, 23, 24, 25, 26, 27, 28, 29, 30, 31, 32, 33, 34, 35, 36, 37, 38, 39, 40, 41, 42, 43, 44, 45, 46, 47, 48, 49] (fun ⟨(pre2, suf2), _⟩ => [(6, .lit (.int .i64 ((pre2.length : Int)))), (3, .lit (str (textL pre ++ headT s ++ stepsT pre2)))]) (fun ⟨(pre2, suf2), _⟩ => [(0, ⟨false, 48, 8, [[.lit (str (s.name)), .lit (.int .i64 (s.zone.lx)), .lit (.int .i64 (s.zone.ly)), .lit (.int .i64 (s.zone.lz)), .lit (.int .i64 (s.zone.hx)), .lit (.int .i64 (s.zone.hy)), .lit (.int .i64 (s.zone.hz)), .sh 2 ((s.steps).map pairC)]], true⟩)]) (fun ⟨(pre2, suf2), _⟩ => suf2.length) ⟨([], s.steps), rfl⟩ (.c (.c (.c (.c (.c (.c (.c (.c (.c (.c (.c (.c (.c (.c (.c (.c (.c (.c (.c (.c (.c (.c (.c (.c (.c (.c (.c (.c (.c (.c (.c (.c (.c (.c (.c (.c (.c (.c (.c (.c (.c (.c (.c (.c (.c .n))))))))))))))))))))))))))))))))))))))))))))) (keep_c (he := (by first | rfl | (simp; done))) (h := keep_n)) (slots_c (he := (by first | rfl | (congr 2; simp; done))) (h := (slots_c (he := (by first | rfl | (rw [stepsT_snoc]; simp [numsT]; done) | (simp [stepsT, headT, numsT]; done))) (h := trivial)))) ?_
      rintro ⟨⟨pre2, suf2⟩, hp2⟩ R2 hR2
      dsimp only [List.cons_append, List.nil_append, List.length_cons, List.length_nil]
      simp only at hp2
      have hpl2 : pre2.length + suf2.length = s.steps.length := by rw [← hp2, List.length_append]
      rcases suf2 with _ | ⟨⟨qx, qy⟩, suf2⟩
      · rw [List.append_nil] at hp2; simp only [List.length_nil] at hpl2
        subst hp2
        refine Ev.seq ?_
        refine Ev.sr fun K hK => S.o q.mv (S.o (q.fa 7 am_fi48_2 am_cl29) (S.o (q.lv am_ag29) (S.o (q.lens am_el29) (S.o q.lss (S.end (hK _ ?_))))))
        clear hK K
        refine Ev.cd (fun c3 => ?_) (fun c3 => ?_)
        · first | omega | contradiction | (exfalso; simp at *; done)
        · first
        | (first | omega | contradiction)
        | refine Ev.exit ?_
          refine hR2 _ _ ?_
          show Ev _ _ _ _
          refine Ev.region_S fun K hK => S.o q.mv (S.o q.sadd (S.o q.as (S.end (hK _ ?_))))
          clear hK K
          show Ev _ _ _ _
          refine Ev.region_S fun K hK => S.o q.mv (S.o q.add (S.o q.as (S.end (hK _ ?_))))
          clear hK K
          refine hR0 _ _ ?_
          refine roundU [] [0, 2] ⟨(pre ++ [s], suf), by rw [← hp]; simp, ?_⟩ ?_ keep_n (slots_c (he := (by first | rfl | (congr 2; simp; done))) (h := (slots_c (he := (by first | rfl | (rw [textL_snoc]; simp only [List.append_assoc]; done))) (h := trivial)))) (.c (.c .n))
          trivial
          all_goals (dsimp only; simp only [List.length_cons]; omega)
      · simp only [List.length_cons] at hpl2
        have hidx2 : s.steps[pre2.length]? = some (qx, qy) := by rw [← hp2]; simp
        obtain ⟨q1, q2⟩ := stp_okI (hds.2.2.2.1 (qx, qy) (by rw [← hp2]; simp))
        simp only at q1 q2
        have hsl3 := stepsT_len pre2 (fun x hx => hds.2.2.2.1 x (by rw [← hp2]; simp [hx]))
        have k5 := itoa_le q1
        have k6 := itoa_le q2
        refine Ev.seq ?_
        refine Ev.sr fun K hK => S.o q.mv (S.o (q.fa 7 am_fi48_2 am_cl29) (S.o (q.lv am_ag29) (S.o (q.lens am_el29) (S.o q.lss (S.end (hK _ ?_))))))
        clear hK K
        refine Ev.cd (fun c4 => ?_) (fun c4 => ?_)
        · first
        | (first | omega | contradiction)
        | refine Ev.skip ?_
          show Ev _ _ _ _
          refine Ev.seq ?_
          refine Ev.block ?_
          refine Ev.region_M (tbs [(0, 0), (1, 1), (0, 0), (3, 4), (0, 0), (5, 28), (6, 60), (7, 124), (8, 252), (9, 511), (10, 1023), (0, 0), (12, 2048), (0, 0), (14, 14336), (15, 30720), (16, 63488), (17, 129532), (18, 262143), (19, 524287)]) 19 fun K hK => M.o q.mv (M.o q.sadd (M.o (q.fa 7 am_fi48_2 am_cl29) (M.o (q.lv am_ag29) (M.o q.mv (M.o (q.ix am_el29 am_cl39 (hl := (by first | exact ati hidx (by omega) | exact ati hidx2 (by omega) | exact atig (by omega)))) (M.o (q.fs 0 am_fi39_0 am_cl3) (M.o (q.ls am_ag3) (M.c0 (hF := decimal_fun qx q1) (h := M.o q.sadd (M.o q.sadd (M.o (q.fa 7 am_fi48_2 am_cl29) (M.o (q.lv am_ag29) (M.o q.mv (M.o (q.ix am_el29 am_cl39 (hl := (by first | exact ati hidx (by omega) | exact ati hidx2 (by omega) | exact atig (by omega)))) (M.o (q.fs 1 am_fi39_1 am_cl3) (M.o (q.ls am_ag3) (M.c0 (hF := decimal_fun qy q2) (h := M.o q.sadd (M.end [_] (h := S.o q.as (S.end (hK _ ?_))))))))))))))))))))))
          clear hK K
          show Ev _ _ _ _
          refine Ev.region_S fun K hK => S.o q.mv (S.o q.add (S.o q.as (S.end (hK _ ?_))))
          clear hK K
          refine hR2 _ _ ?_
          refine roundU [0] [0, 2, 4, 5, 7, 8, 9, 10, 13, 14, 15, 16, 17, 18, 19, 20, 21, 22, 23, 24, 25, 26, 27, 28, 29, 30, 31, 32, 33, 34, 35, 36, 37, 38, 39, 40, 41, 42, 43, 44, 45, 46, 47, 48, 49] ⟨(pre2 ++ [(qx, qy)], suf2), by rw [← hp2]; simp⟩ ?_ (keep_c (he := (by first | rfl | (simp; done))) (h := keep_n)) (slots_c (he := (by first | rfl | (congr 2; simp; done))) (h := (slots_c (he := (by first | rfl | (rw [stepsT_snoc]; simp [numsT]; done) | (simp [stepsT, headT, numsT]; done))) (h := trivial)))) (.c (.c (.c (.c (.c (.c (.c (.c (.c (.c (.c (.c (.c (.c (.c (.c (.c (.c (.c (.c (.c (.c (.c (.c (.c (.c (.c (.c (.c (.c (.c (.c (.c (.c (.c (.c (.c (.c (.c (.c (.c (.c (.c (.c (.c .n)))))))))))))))))))))))))))))))))))))))))))))
          skip
          all_goals (dsimp only; simp only [List.length_cons]; omega)
        · first | omega | contradiction | (exfalso; simp at *; done)
    · first | omega | contradiction | (exfalso; simp at *; done)
end Go.Proofs.YtdegjlhcchimbaaDoor
