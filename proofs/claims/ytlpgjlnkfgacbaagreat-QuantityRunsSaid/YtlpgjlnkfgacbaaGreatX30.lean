/-
  Part 30 of the proof: functions walked on the abstract machine.
  Conditions: none.
-/
import Derived.Test.YtlpgjlnkfgacbaaGreatX29
set_option linter.unusedSimpArgs false
set_option linter.unusedVariables false
set_option maxRecDepth 100000
set_option maxHeartbeats 1000000
namespace Go.Proofs.YtlpgjlnkfgacbaaGreat
open Go Go.AM
theorem w_l2 {x : Det} (h : x.w) : x.l := ⟨h.1.1, ⟨h.1.2.1, h.1.2.2⟩, h.2.1.1, h.2.2.1.1, h.2.2.2.1, h.2.2.2.2.1⟩
theorem det_bad2 {x : Det} (h : ¬ detOK x) : detV x (laidT x.bars x.runs) = 0 ∧ detE x = 1 := ⟨if_neg h, if_neg h⟩
theorem det_good2 {x : Det} (h : detOK x) : detV x (laidT x.bars x.runs) = laidT x.bars x.runs ∧ detE x = 0 := ⟨if_pos h, if_pos h⟩
theorem det_E0 {x : Det} (h : detE x = 0) : detOK x := by
  unfold detE at h
  split at h
  · assumption
  cases h
theorem runs_bad (x : Det) (r : Rn) (hw : x.w) (hrm : r.mark.length ≤ 140737488355328) (hd : ¬ detOK x) : Fun Tryz.prog 3 [.agg x.c, .agg r.c] (Ret (bL true) []) := by
  have hl := w_l2 hw; have f1 := Laid_fun x hw; rw [(det_bad2 hd).1, (det_bad2 hd).2] at f1; obtain ⟨hw1, ⟨hw2, hw2b⟩, ⟨hw3, hw3b⟩, hw4, hw5, hw6⟩ := id hw; refine Fun.of (nt := 151) (rs := [.tmp 4]) Tryz.func3 rfl rfl rfl rfl rfl (Ev.sr fun _ k=>S.nn (q.bx _ true) (S.nn (q.bx _ true) (S.o q.as (S.e k (Ev.seq (Ev.sr fun _ k=>S.c0 (hF := awake_fun) (h := S.o q.nott (S.e k (Ev.cf (Ev.skip (Ev.seq (Ev.sr fun _ k=>S.o (q.lvA _ am_ag34 am_cl34) (S.c0 (hF := smDet_fun x hl) (h := S.o q.not (S.bn q.mv (fun c1 => ?_) (fun c1 => ?_))))))))))))))))
  · refine S.s2 (S.s2 (S.o q.pt (S.o q.mv (S.s2 (S.sk (S.o q.pt (S.e k (Ev.ct (Ev.sr fun _ k=>S.o q.as (S.e k (Ev.ret (Ev.p1 ?_)))))))))))); rfl
  refine S.o (q.fa 0 am_fi40_0 am_cl9) (S.o (q.lv am_ag9) (S.o (q.slen am_el9 am_un9) (S.o q.gtr (S.o q.pf (S.bd q.mv (fun c2 => ?_) (fun c2 => ?_))))))
  · refine S.s2 (S.sk (S.o q.pt (S.e k (Ev.ct (Ev.sr fun _ k=>S.o q.as (S.e k (Ev.ret (Ev.p1 ?_)))))))); rfl
  refine S.o (q.fa 9 am_fi40_4 am_cl3) (S.o (q.lv am_ag3) (S.o q.gtr (S.o q.pf (S.e k (Ev.cd (fun c3 => ?_) (fun c3 => ?_))))))
  · refine Ev.sr fun _ k=>S.o q.as (S.e k (Ev.ret (Ev.p1 ?_))); rfl
  refine Ev.skip (Ev.sr fun _ k=>S.o (q.lvA _ am_ag34 am_cl34) (S.c0 (hF := f1) (h := S.o q.mv (S.o q.ex (S.o q.ex (S.o q.as (S.o q.as (S.e k (Ev.seq (Ev.sr fun _ k=>S.o q.mv (S.o q.neq (S.e k (Ev.cn (fun c4 => ?_) (fun c4 => ?_))))))))))))))
  · refine Ev.sr fun _ k=>S.o q.mv (S.o q.eql (S.o q.as (S.e k (Ev.ret (Ev.p1 ?_))))); rfl
  omega
theorem runs_good (x : Det) (r : Rn) (hw : x.w) (hrm : r.mark.length ≤ 140737488355328) (hd : detOK x) : Fun Tryz.prog 3 [.agg x.c, .agg r.c] (Ret (bL true) []) := by
  have hl := w_l2 hw; have f1 := Laid_fun x hw; rw [(det_good2 hd).1, (det_good2 hd).2] at f1; have f2 := Laid_fun x.bare (bare_w hw); rw [(det_good2 (bare_ok hd)).1, (det_good2 (bare_ok hd)).2, show laidT x.bare.bars x.bare.runs = 0 from bare_T _] at f2; have f3 := share_fun x hw; have f4 := volume_fun x.mem.bs x.mem.hs hw.1.2.1 hw.1.2.2; have hsh := fun h => sh_ok hd (x := x) h; have hnb := laidT_bd hd.1.2.1; have hmore := fun h : detE (x.more r) = 0 => more_ok (r := r) hd (det_E0 h)
  have hme : detE (x.more r) = 0 ∨ detE (x.more r) = 1 := by unfold detE; split; exact .inl rfl; exact .inr rfl
  have hmv : detE (x.more r) = 0 → detV (x.more r) (laidT (x.more r).bars (x.more r).runs) = laidT x.bars (x.runs ++ [r]) := fun h => if_pos (det_E0 h); obtain ⟨hw1, ⟨hw2, hw2b⟩, ⟨hw3, hw3b⟩, hw4, hw5, hw6⟩ := id hw; obtain ⟨N, hN⟩ : ∃ N, N = laidT x.bars x.runs := ⟨_, rfl⟩; obtain ⟨R1, hR1⟩ : ∃ R, R = shR x := ⟨_, rfl⟩; obtain ⟨E1, hE1⟩ : ∃ E, E = detE (x.more r) := ⟨_, rfl⟩; obtain ⟨M1, hM1⟩ : ∃ M, M = detV (x.more r) (laidT (x.more r).bars (x.more r).runs) := ⟨_, rfl⟩; have f5 := fun h => Laid_fun (x.more r) (more_w hw h hrm); rw [← hN] at f1 hsh hmore hnb; rw [← hR1] at f3 hsh; rw [← hE1, ← hM1] at f5; rw [← hE1] at hmore hme hmv; rw [← hM1] at hmv; clear hN hR1 hE1 hM1; obtain ⟨⟨R2, R3⟩, R4⟩ := R1
  dsimp only at f3 hsh
  refine Fun.of (nt := 151) (rs := [.tmp 4]) Tryz.func3 rfl rfl rfl rfl rfl (Ev.sr fun _ k=>S.nn (q.bx _ true) (S.nn (q.bx _ true) (S.o q.as (S.e k (Ev.seq (Ev.sr fun _ k=>S.c0 (hF := awake_fun) (h := S.o q.nott (S.e k (Ev.cf (Ev.skip (Ev.seq (Ev.sr fun _ k=>S.o (q.lvA _ am_ag34 am_cl34) (S.c0 (hF := smDet_fun x hl) (h := S.o q.not (S.bn q.mv (fun c1 => ?_) (fun c1 => ?_))))))))))))))))
  · refine S.s2 (S.s2 (S.o q.pt (S.o q.mv (S.s2 (S.sk (S.o q.pt (S.e k (Ev.ct (Ev.sr fun _ k=>S.o q.as (S.e k (Ev.ret (Ev.p1 ?_)))))))))))); rfl
  refine S.o (q.fa 0 am_fi40_0 am_cl9) (S.o (q.lv am_ag9) (S.o (q.slen am_el9 am_un9) (S.o q.gtr (S.o q.pf (S.bd q.mv (fun c2 => ?_) (fun c2 => ?_))))))
  · refine S.s2 (S.sk (S.o q.pt (S.e k (Ev.ct (Ev.sr fun _ k=>S.o q.as (S.e k (Ev.ret (Ev.p1 ?_)))))))); rfl
  refine S.o (q.fa 9 am_fi40_4 am_cl3) (S.o (q.lv am_ag3) (S.o q.gtr (S.o q.pf (S.e k (Ev.cd (fun c3 => ?_) (fun c3 => ?_))))))
  · refine Ev.sr fun _ k=>S.o q.as (S.e k (Ev.ret (Ev.p1 ?_))); rfl
  refine Ev.skip ?_; obtain ⟨u1, u2, u3, u4, u5, u6, u7⟩ := sm_copy ‹smDet x›; refine Ev.sr fun _ k=>S.o (q.lvA _ am_ag34 am_cl34) (S.c0 (hF := f1) (h := S.o q.mv (S.o q.ex (S.o q.ex (S.o q.as (S.o q.as (S.e k (Ev.seq (Ev.sr fun _ k=>S.o q.mv (S.o q.neq (S.e k (Ev.cn (fun c4 => ?_) (fun c4 => ?_)))))))))))))
  · omega
  refine Ev.skip (Ev.sr fun _ k=>S.o (q.lvA _ am_ag34 am_cl34) (S.c0 (hF := copy25_fun x hw u1 u2 u3 u4 u5 u6 u7) (h := S.nn (q.al am_ze34) (S.sv _ true [_, _] am_in34 am_cl34 (h := S.e k (Ev.sr fun _ k=>S.o (q.fa 7 am_fi34_2 am_cl28) (S.sv _ true [_, _] am_in28 am_cl28 (h := S.o (q.fa 8 am_fi34_3 am_cl29) (S.sv _ true [_, _] am_in29 am_cl29 (h := S.e k (Ev.seq (Ev.weaken (Wk.nilv (f := Rn.c) 2 7 40 10 [_, _]) (Ev.weaken (Wk.nilv (f := pairC) 2 8 131 2 [_, _, _]) (Ev.sr fun _ k=>S.o (q.lvA _ am_ag34 am_cl34) (SeqL.weaken (Wk.frzA (f := Rn.c) ([] : List Rn) 53 7 [_, _, _, _]) (SeqL.weaken (Wk.frzA (f := pairC) ([] : List (Int × Int)) 53 8 [_, _, _]) (S.c0 (hF := f2) (h := S.o q.mv (S.o q.ex (S.o q.ex (S.o q.as (S.o q.as (S.e k (Ev.sr fun _ k=>S.o q.mv (S.o q.neq (S.bn q.mv (fun c5 => ?_) (fun c5 => ?_)))))))))))))))))))))))))))
  · omega
  refine S.o q.mv (S.o q.neq (S.o q.pf (S.e k (Ev.cn (fun c6 => ?_) (fun c6 => ?_)))))
  · omega
  refine Ev.skip (Ev.seq (Ev.sr fun _ k=>S.o (q.lvA _ am_ag34 am_cl34) (S.c0 (hF := f3) (h := S.o q.mv (S.o q.ex (S.o q.ex (S.nn (q.al am_ze48) (S.sv _ true [_, _, _] am_in48 am_cl48 (h := S.o q.as (S.e k (Ev.sr fun _ k=>S.o q.mv (S.o q.eql (S.e k (Ev.cd (fun c7 => ?_) (fun c7 => ?_)))))))))))))))
  · obtain ⟨V, g1, g2, g3, g4, g5⟩ := hsh ‹_›; rw [g1, g2] at f4; obtain ⟨A, hA⟩ := Int.eq_ofNat_of_zero_le hnb.1; have ftm := times_fun A V (by omega) g4 g3; subst hA
    injection g5 with g6 g7
    injection g6 with g8 g9
    have g10 : R2 = ((A / Nat.gcd A V : Nat) : Int) := g8; have g11 : R3 = ((V / Nat.gcd A V : Nat) : Int) := g9; subst g10 g11; clear g8 g9; refine Ev.sr fun _ k=>S.o (q.fa 0 am_fi34_0 am_cl26) (S.o (q.fa 1 am_fi26_1 am_cl24) (S.o (q.lvA _ am_ag24 am_cl24) (S.c0 (hF := f4) (h := S.o q.mv (S.o q.ex (S.o q.ex (S.o q.as (S.o q.as (S.e k (Ev.sr fun _ k=>S.o (q.lvA _ am_ag48 am_cl48) (S.o q.mv (S.o (q.bd _ am_ze48 am_pl48) (S.c0 (hF := ftm) (h := S.o q.mv (S.o q.ex (S.o q.ex (S.nn (q.al am_ze48) (S.sv _ true [_, _, _, _] am_in48 am_cl48 (h := S.o q.as (S.e k (Ev.sr fun _ k=>S.o q.mv (S.o q.neq (S.bn q.mv (fun c8 => ?_) (fun c8 => ?_))))))))))))))))))))))))
    · omega
    refine S.o q.mv (S.o q.eql (S.bd q.mv (fun c9 => ?_) (fun c9 => ?_)))
    · refine S.o (q.lvA _ am_ag48 am_cl48) (S.o q.mv (S.o (q.bd _ am_ze48 am_pl48) (S.o (q.sneq am_eq48 (am_sq48 _ _ _ _)) (S.o q.pt (S.o q.pf (S.e k (Ev.c (fun c10 => ?_) (fun c10 => ?_))))))))
      · refine Ev.sr fun _ k=>S.o q.as (S.e k (Ev.ret (Ev.p1 ?_)))
        exfalso; simp at *
      refine Ev.skip ?_; clear hsh; refine Ev.sr fun _ k=>S.o (q.lvA _ am_ag34 am_cl34) (S.c1g (hF := copy25o_fun x hw u1 u2 u3 u4 u5 u6 u7) (h := S.nn (q.al am_ze34) (S.sv _ false [_, _, _, _, _, _] am_in34 am_cl34 (h := S.e k (Ev.sr fun _ k=>S.o (q.fa 7 am_fi34_2 am_cl28) (S.o (q.lv am_ag28) (S.o (q.lvA _ am_ag40 am_cl40) (S.nn (q.bs [[_, _, _, _, _, _, _, _, _, _]] true am_el28 am_ze40 am_cl40) (S.ap' [_, _, _, _, _, _, _] am_el28 am_ze40 am_cl40 am_by40 (hh := head_own') (hr := (rows_lit [r])) (h := S.o (q.fa 7 am_fi34_2 am_cl28) (S.sv _ false [_, _, _, _, _, _, _] am_in28 am_cl28 (h := S.e k (Ev.sr fun _ k=>S.o (q.lvA _ am_ag34 am_cl34) (SeqL.weaken (Wk.frzA (f := Rn.c) (x.runs ++ [r]) 105 7 [_, _, _, _, _, _, _]) (S.c0 (hF := f5 u4) (h := S.o q.mv (S.o q.ex (S.o q.ex (S.o q.as (S.o q.as (S.e k (Ev.seq (Ev.sr fun _ k=>S.o q.mv (S.o q.neq (S.e k (Ev.cn (fun c11 => ?_) (fun c11 => ?_)))))))))))))))))))))))))))
      · refine Ev.sr fun _ k=>S.o q.mv (S.o q.eql (S.o q.as (S.e k (Ev.ret (Ev.p1 ?_))))); exact lawT (by omega)
      refine Ev.skip ?_; obtain ⟨k1, k2, k3, k4, k5⟩ := hmore (by omega); have f6 := find_fun x.bars r.mark hw2 hw2b; rw [(find_t k1 k2).1, (find_t k1 k2).2] at f6; have hlg := line_get k2; rw [← show lineM x r = lineOf x.bars r.mark from rfl] at hlg; have f7 := barMass_fun (lineM x r) (hw2b _ (List.mem_of_getElem? hlg)); rw [okV_in k3, okE_in k3] at f7; obtain ⟨b1, b2, b3, b4⟩ := runs_eq ((hmv (by omega)).trans k5) k4 k3; obtain ⟨b0, hb0⟩ : ∃ b, b = lineM x r := ⟨_, rfl⟩; rw [← hb0] at hlg f7 b1 b3 b4; refine Ev.sr fun _ k=>S.o (q.fa 6 am_fi34_1 am_cl27) (S.o (q.lv am_ag27) (S.o (q.fa 0 am_fi40_0 am_cl9) (S.o (q.lv am_ag9) (S.c0 (hF := f6) (h := S.o q.mv (S.o q.ex (S.o q.ex (S.o q.as (S.o q.as (S.e k (Ev.seq (Ev.sr fun _ k=>S.o q.mv (S.o q.neq (S.e k (Ev.cn (fun c12 => ?_) (fun c12 => ?_))))))))))))))))
      · omega
      refine Ev.skip (Ev.sr fun _ k=>S.o (q.fa 6 am_fi34_1 am_cl27) (S.o (q.lv am_ag27) (S.o q.mv (S.o (q.ix am_el27 am_cl58 (hl := (by exact ati hlg (by omega)))) (S.o (q.lsA _ am_ag58 am_cl58) (S.c0 (hF := f7) (h := S.o q.mv (S.o q.ex (S.o q.ex (S.o q.as (S.o q.as (S.e k (Ev.sm (tbs [(0, 0), (1, 1), (2, 3), (3, 7), (3, 7), (5, 31), (3, 7), (7, 71), (3, 7), (9, 455), (10, 967), (11, 1991), (12, 4095), (3, 7), (3, 7), (15, 16391), (16, 57351), (17, 131071), (18, 262143), (19, 524287)]) 19 fun _ k=>M.o q.mv (M.o q.eql (M.bd q.mv (fun c13 => ?_) (fun c13 => ?_))))))))))))))))
      · refine M.o q.mv (M.o q.mv (M.o q.sub (M.o (q.fa 6 am_fi34_1 am_cl27) (M.o (q.lv am_ag27) (M.o q.mv (M.o (q.ix am_el27 am_cl58 (hl := (by exact ati hlg (by omega)))) (M.o (q.fs 2 am_fi58_2 am_cl3) (M.o (q.ls am_ag3) (M.o q.mul (M.o q.mv (M.o (q.fa 9 am_fi40_4 am_cl3) (M.o (q.lv am_ag3) (M.o q.mul (M.o q.eql (M.o q.pt (M.end [_, _, _, _, _, _, _] (h := S.o q.as (S.e k (Ev.ret (Ev.p1 ?_)))))))))))))))))))); exact lawT (by omega)
      omega
    omega
  refine Ev.skip ?_; clear hsh; refine Ev.sr fun _ k=>S.o (q.lvA _ am_ag34 am_cl34) (S.c1g (hF := copy25o_fun x hw u1 u2 u3 u4 u5 u6 u7) (h := S.nn (q.al am_ze34) (S.sv _ false [_, _, _, _, _] am_in34 am_cl34 (h := S.e k (Ev.sr fun _ k=>S.o (q.fa 7 am_fi34_2 am_cl28) (S.o (q.lv am_ag28) (S.o (q.lvA _ am_ag40 am_cl40) (S.nn (q.bs [[_, _, _, _, _, _, _, _, _, _]] true am_el28 am_ze40 am_cl40) (S.ap' [_, _, _, _, _, _] am_el28 am_ze40 am_cl40 am_by40 (hh := head_own') (hr := (rows_lit [r])) (h := S.o (q.fa 7 am_fi34_2 am_cl28) (S.sv _ false [_, _, _, _, _, _] am_in28 am_cl28 (h := S.e k (Ev.sr fun _ k=>S.o (q.lvA _ am_ag34 am_cl34) (SeqL.weaken (Wk.frzA (f := Rn.c) (x.runs ++ [r]) 105 7 [_, _, _, _, _, _]) (S.c0 (hF := f5 u4) (h := S.o q.mv (S.o q.ex (S.o q.ex (S.o q.as (S.o q.as (S.e k (Ev.seq (Ev.sr fun _ k=>S.o q.mv (S.o q.neq (S.e k (Ev.cn (fun c17 => ?_) (fun c17 => ?_)))))))))))))))))))))))))))
  · refine Ev.sr fun _ k=>S.o q.mv (S.o q.eql (S.o q.as (S.e k (Ev.ret (Ev.p1 ?_))))); exact lawT (by omega)
  refine Ev.skip ?_; obtain ⟨k1, k2, k3, k4, k5⟩ := hmore (by omega); have f6 := find_fun x.bars r.mark hw2 hw2b; rw [(find_t k1 k2).1, (find_t k1 k2).2] at f6; have hlg := line_get k2; rw [← show lineM x r = lineOf x.bars r.mark from rfl] at hlg; have f7 := barMass_fun (lineM x r) (hw2b _ (List.mem_of_getElem? hlg)); rw [okV_in k3, okE_in k3] at f7; obtain ⟨b1, b2, b3, b4⟩ := runs_eq ((hmv (by omega)).trans k5) k4 k3; obtain ⟨b0, hb0⟩ : ∃ b, b = lineM x r := ⟨_, rfl⟩; rw [← hb0] at hlg f7 b1 b3 b4; refine Ev.sr fun _ k=>S.o (q.fa 6 am_fi34_1 am_cl27) (S.o (q.lv am_ag27) (S.o (q.fa 0 am_fi40_0 am_cl9) (S.o (q.lv am_ag9) (S.c0 (hF := f6) (h := S.o q.mv (S.o q.ex (S.o q.ex (S.o q.as (S.o q.as (S.e k (Ev.seq (Ev.sr fun _ k=>S.o q.mv (S.o q.neq (S.e k (Ev.cn (fun c18 => ?_) (fun c18 => ?_))))))))))))))))
  · omega
  refine Ev.skip (Ev.sr fun _ k=>S.o (q.fa 6 am_fi34_1 am_cl27) (S.o (q.lv am_ag27) (S.o q.mv (S.o (q.ix am_el27 am_cl58 (hl := (by exact ati hlg (by omega)))) (S.o (q.lsA _ am_ag58 am_cl58) (S.c0 (hF := f7) (h := S.o q.mv (S.o q.ex (S.o q.ex (S.o q.as (S.o q.as (S.e k (Ev.sm (tbs [(0, 0), (1, 1), (2, 3), (3, 7), (3, 7), (5, 31), (3, 7), (7, 71), (3, 7), (9, 455), (10, 967), (11, 1991), (12, 4095), (3, 7), (3, 7), (15, 16391), (16, 57351), (17, 131071), (18, 262143), (19, 524287)]) 19 fun _ k=>M.o q.mv (M.o q.eql (M.bd q.mv (fun c19 => ?_) (fun c19 => ?_))))))))))))))))
  · refine M.o q.mv (M.o q.mv (M.o q.sub (M.o (q.fa 6 am_fi34_1 am_cl27) (M.o (q.lv am_ag27) (M.o q.mv (M.o (q.ix am_el27 am_cl58 (hl := (by exact ati hlg (by omega)))) (M.o (q.fs 2 am_fi58_2 am_cl3) (M.o (q.ls am_ag3) (M.o q.mul (M.o q.mv (M.o (q.fa 9 am_fi40_4 am_cl3) (M.o (q.lv am_ag3) (M.o q.mul (M.o q.eql (M.o q.pt (M.end [_, _, _, _, _, _] (h := S.o q.as (S.e k (Ev.ret (Ev.p1 ?_)))))))))))))))))))); exact lawT (by omega)
  omega
theorem runs_law (x : Det) (r : Rn) (hw : x.w) (hrm : r.mark.length ≤ 140737488355328) : Fun Tryz.prog 3 [.agg x.c, .agg r.c] (Ret (bL true) []) := by
  by_cases hd : detOK x
  · exact runs_good x r hw hrm hd
  exact runs_bad x r hw hrm hd
section
open Go.ChangeShapes Go.WideShapes Go.RowKit
theorem open_string {row : List AV} (h : WT Tryz.prog 9 row) : ∃ s : List UInt8, row = [.lit (str s)] ∧ s.length ≤ 140737488355328 := by
  obtain ⟨s, rfl, hs⟩ := h.string_inv am_un9; refine ⟨s.data.toList, by rw [str, ← bytes_eta], ?_⟩; have e : s.data.toList.length = s.size := Array.length_toList; simp only [reachBytes] at hs; omega
theorem open_ints {row : List AV} (h : WT Tryz.prog 56 row) : ∃ l : List Int, row = [.sh 1 (l.map intC)] ∧ l.length ≤ 140737488355328 := by
  obtain ⟨rows, rfl, h1, h2⟩ := h.slice_inv am_el56
  obtain ⟨l, rfl, _⟩ := rows_map (f := intC) (q := fun _ => True) (rows := rows) (fun r hr => by
    obtain ⟨a, rfl, _⟩ := (h2 r hr).int_inv am_un3
    exact ⟨a, rfl, trivial⟩)
  refine ⟨l, by rw [am_cl3], ?_⟩; rw [am_by3, List.length_map] at h1; simp only [reachBytes] at h1; omega
theorem open_bars {row : List AV} (h : WT Tryz.prog 27 row) : ∃ l : List Bar, row = [.sh 5 (l.map Bar.c)] ∧ l.length ≤ 140737488355328 ∧ schedW l := by
  obtain ⟨rows, rfl, h1, h2⟩ := h.slice_inv am_el27
  obtain ⟨l, rfl, hq⟩ := rows_map (f := Bar.c) (q := Bar.w) (rows := rows) (fun r hr => by
    obtain ⟨r1, q1, rfl, k1, g1⟩ := ((h2 r hr).struct_inv am_ft58).cons_inv; obtain ⟨r2, q2, rfl, k2, g2⟩ := g1.cons_inv; obtain ⟨r3, q3, rfl, k3, g3⟩ := g2.cons_inv; obtain ⟨r4, q4, rfl, k4, g4⟩ := g3.cons_inv; obtain ⟨r5, q5, rfl, k5, g5⟩ := g4.cons_inv; obtain rfl := g5.nil_inv; obtain ⟨s, rfl, hs⟩ := open_string k1; obtain ⟨a, rfl, _⟩ := k2.int_inv am_un3; obtain ⟨b, rfl, _⟩ := k3.int_inv am_un3; obtain ⟨c, rfl, _⟩ := k4.int_inv am_un3; obtain ⟨d, rfl, hd⟩ := open_ints k5
    exact ⟨⟨s, a, b, c, d⟩, rfl, hs, hd⟩)
  refine ⟨l, by rw [am_cl58], ?_, hq⟩; rw [am_by58, List.length_map] at h1; simp only [reachBytes] at h1; omega
theorem open_steps {row : List AV} (h : WT Tryz.prog 60 row) : ∃ l : List (Int × Int), row = [.sh 2 (l.map pairC)] ∧ l.length ≤ 140737488355328 := by
  obtain ⟨rows, rfl, h1, h2⟩ := h.slice_inv am_el60
  obtain ⟨l, rfl, _⟩ := rows_map (f := pairC) (q := fun _ => True) (rows := rows) (fun r hr => by
    obtain ⟨r1, r2, rfl, k1, k2⟩ := ((h2 r hr).struct_inv am_ft67).cons_inv; obtain ⟨r3, r4, rfl, k3, k4⟩ := k2.cons_inv; obtain rfl := k4.nil_inv; obtain ⟨a, rfl, _⟩ := k1.int_inv am_un3; obtain ⟨b, rfl, _⟩ := k3.int_inv am_un3
    exact ⟨(a, b), rfl, trivial⟩)
  refine ⟨l, by rw [am_cl67], ?_⟩; rw [am_by67, List.length_map] at h1; simp only [reachBytes] at h1; omega
theorem open_joints {row : List AV} (h : WT Tryz.prog 29 row) : ∃ l : List (Int × Int), row = [.sh 2 (l.map pairC)] ∧ l.length ≤ 140737488355328 := by
  obtain ⟨rows, rfl, h1, h2⟩ := h.slice_inv am_el29
  obtain ⟨l, rfl, _⟩ := rows_map (f := pairC) (q := fun _ => True) (rows := rows) (fun r hr => by
    obtain ⟨r1, r2, rfl, k1, k2⟩ := ((h2 r hr).struct_inv am_ft131).cons_inv; obtain ⟨r3, r4, rfl, k3, k4⟩ := k2.cons_inv; obtain rfl := k4.nil_inv; obtain ⟨a, rfl, _⟩ := k1.int_inv am_un3; obtain ⟨b, rfl, _⟩ := k3.int_inv am_un3
    exact ⟨(a, b), rfl, trivial⟩)
  refine ⟨l, by rw [am_cl131], ?_⟩; rw [am_by131, List.length_map] at h1; simp only [reachBytes] at h1; omega
end
section
open Go.ChangeShapes Go.WideShapes Go.RowKit
theorem open_box {row : List AV} (h : WT Tryz.prog 75 row) : ∃ b : Bx, row = b.c := by
  obtain ⟨r1, q1, rfl, k1, g1⟩ := (h.struct_inv am_ft75).cons_inv; obtain ⟨r2, q2, rfl, k2, g2⟩ := g1.cons_inv; obtain rfl := g2.nil_inv; obtain ⟨a1, b1, rfl, j1, i1⟩ := (k1.struct_inv am_ft38).cons_inv; obtain ⟨a2, b2, rfl, j2, i2⟩ := i1.cons_inv; obtain ⟨a3, b3, rfl, j3, i3⟩ := i2.cons_inv; obtain rfl := i3.nil_inv; obtain ⟨c1, d1, rfl, l1, m1⟩ := (k2.struct_inv am_ft38).cons_inv; obtain ⟨c2, d2, rfl, l2, m2⟩ := m1.cons_inv; obtain ⟨c3, d3, rfl, l3, m3⟩ := m2.cons_inv; obtain rfl := m3.nil_inv; obtain ⟨x1, rfl, _⟩ := j1.int_inv am_un3; obtain ⟨x2, rfl, _⟩ := j2.int_inv am_un3; obtain ⟨x3, rfl, _⟩ := j3.int_inv am_un3; obtain ⟨y1, rfl, _⟩ := l1.int_inv am_un3; obtain ⟨y2, rfl, _⟩ := l2.int_inv am_un3; obtain ⟨y3, rfl, _⟩ := l3.int_inv am_un3; exact ⟨⟨x1, x2, x3, y1, y2, y3⟩, rfl⟩
theorem open_dem {row : List AV} (h : WT Tryz.prog 77 row) : ∃ d : Dem, row = d.c ∧ d.w := by
  obtain ⟨r1, q1, rfl, k1, g1⟩ := (h.struct_inv am_ft77).cons_inv; obtain ⟨r2, q2, rfl, k2, g2⟩ := g1.cons_inv; obtain ⟨r3, q3, rfl, k3, g3⟩ := g2.cons_inv; obtain rfl := g3.nil_inv; obtain ⟨s, rfl, hs⟩ := open_string k1; obtain ⟨⟨x1, x2, x3, y1, y2, y3⟩, rfl⟩ := open_box k2; obtain ⟨t, rfl, ht⟩ := open_steps k3; exact ⟨⟨s, ⟨x1, x2, x3, y1, y2, y3⟩, t⟩, rfl, hs, ht⟩
theorem open_dems {row : List AV} (h : WT Tryz.prog 30 row) : ∃ l : List Dem, row = [.sh 8 (l.map Dem.c)] ∧ l.length ≤ 140737488355328 ∧ demW l := by
  obtain ⟨rows, rfl, h1, h2⟩ := h.slice_inv am_el30; obtain ⟨l, rfl, hq⟩ := rows_map (f := Dem.c) (q := Dem.w) (rows := rows) (fun r hr => open_dem (h2 r hr)); refine ⟨l, by rw [am_cl77], ?_, hq⟩; rw [am_by77, List.length_map] at h1; simp only [reachBytes] at h1; omega
end
section
open Go.ChangeShapes Go.WideShapes Go.RowKit
theorem open_boxs {row : List AV} (h : WT Tryz.prog 22 row) : ∃ l : List Bx, row = [.sh 6 (l.map Bx.c)] ∧ l.length ≤ 140737488355328 := by
  obtain ⟨rows, rfl, h1, h2⟩ := h.slice_inv am_el22
  obtain ⟨l, rfl, _⟩ := rows_map (f := Bx.c) (q := fun _ => True) (rows := rows) (fun r hr => by
    obtain ⟨b, rfl⟩ := open_box (h2 r hr)
    exact ⟨b, rfl, trivial⟩)
  refine ⟨l, by rw [am_cl75], ?_⟩; rw [am_by75, List.length_map] at h1; simp only [reachBytes] at h1; omega
theorem open_run {row : List AV} (h : WT Tryz.prog 40 row) : ∃ r : Rn, row = r.c ∧ r.mark.length ≤ 140737488355328 := by
  obtain ⟨r1, q1, rfl, k1, g1⟩ := (h.struct_inv am_ft40).cons_inv; obtain ⟨r2, q2, rfl, k2, g2⟩ := g1.cons_inv; obtain ⟨r3, q3, rfl, k3, g3⟩ := g2.cons_inv; obtain ⟨r4, q4, rfl, k4, g4⟩ := g3.cons_inv; obtain ⟨r5, q5, rfl, k5, g5⟩ := g4.cons_inv; obtain rfl := g5.nil_inv; obtain ⟨r6, q6, rfl, k6, g6⟩ := (k2.struct_inv am_ft36).cons_inv; obtain ⟨r7, q7, rfl, k7, g7⟩ := g6.cons_inv; obtain rfl := g7.nil_inv; obtain ⟨r8, q8, rfl, k8, g8⟩ := (k3.struct_inv am_ft38).cons_inv; obtain ⟨r9, q9, rfl, k9, g9⟩ := g8.cons_inv; obtain ⟨r10, q10, rfl, k10, g10⟩ := g9.cons_inv; obtain rfl := g10.nil_inv; obtain ⟨r11, q11, rfl, k11, g11⟩ := (k4.struct_inv am_ft38).cons_inv; obtain ⟨r12, q12, rfl, k12, g12⟩ := g11.cons_inv; obtain ⟨r13, q13, rfl, k13, g13⟩ := g12.cons_inv; obtain rfl := g13.nil_inv; obtain ⟨s, rfl, hs⟩ := open_string k1; obtain ⟨a0, rfl, _⟩ := k6.int_inv am_un3; obtain ⟨a1, rfl, _⟩ := k7.int_inv am_un3; obtain ⟨b0, rfl, _⟩ := k8.int_inv am_un3; obtain ⟨b1, rfl, _⟩ := k9.int_inv am_un3; obtain ⟨b2, rfl, _⟩ := k10.int_inv am_un3; obtain ⟨c0, rfl, _⟩ := k11.int_inv am_un3; obtain ⟨c1, rfl, _⟩ := k12.int_inv am_un3; obtain ⟨c2, rfl, _⟩ := k13.int_inv am_un3; obtain ⟨d0, rfl, _⟩ := k5.int_inv am_un3; exact ⟨⟨s, a0, a1, b0, b1, b2, c0, c1, c2, d0⟩, rfl, hs⟩
theorem open_runs {row : List AV} (h : WT Tryz.prog 28 row) : ∃ l : List Rn, row = [.sh 10 (l.map Rn.c)] ∧ l.length ≤ 140737488355328 ∧ runW l := by
  obtain ⟨rows, rfl, h1, h2⟩ := h.slice_inv am_el28; obtain ⟨l, rfl, hq⟩ := rows_map (f := Rn.c) (q := fun r => r.mark.length ≤ 140737488355328) (rows := rows) (fun r hr => open_run (h2 r hr)); refine ⟨l, by rw [am_cl40], ?_, hq⟩; rw [am_by40, List.length_map] at h1; simp only [reachBytes] at h1; omega
theorem open_member {row : List AV} (h : WT Tryz.prog 26 row) : ∃ x : Mem, row = x.c ∧ x.w := by
  obtain ⟨r14, q14, rfl, k14, g14⟩ := (h.struct_inv am_ft26).cons_inv; obtain ⟨r15, q15, rfl, k15, g15⟩ := g14.cons_inv; obtain ⟨r16, q16, rfl, k16, g16⟩ := g15.cons_inv; obtain ⟨r17, q17, rfl, k17, g17⟩ := g16.cons_inv; obtain ⟨r18, q18, rfl, k18, g18⟩ := g17.cons_inv; obtain rfl := g18.nil_inv; obtain ⟨r19, q19, rfl, k19, g19⟩ := (k15.struct_inv am_ft24).cons_inv; obtain ⟨r20, q20, rfl, k20, g20⟩ := g19.cons_inv; obtain rfl := g20.nil_inv; obtain ⟨s, rfl, hs⟩ := open_string k14; obtain ⟨b, rfl, hb⟩ := open_boxs k19; obtain ⟨c, rfl, hc⟩ := open_boxs k20; obtain ⟨a0, rfl, _⟩ := k16.int_inv am_un3; obtain ⟨a1, rfl, _⟩ := k17.int_inv am_un3; obtain ⟨a2, rfl, _⟩ := k18.int_inv am_un3; exact ⟨⟨s, b, c, a0, a1, a2⟩, rfl, hs, hb, hc⟩
theorem open_rule {row : List AV} (h : WT Tryz.prog 32 row) : ∃ x : Rul, row = x.c := by
  obtain ⟨r21, q21, rfl, k21, g21⟩ := (h.struct_inv am_ft32).cons_inv; obtain ⟨r22, q22, rfl, k22, g22⟩ := g21.cons_inv; obtain ⟨r23, q23, rfl, k23, g23⟩ := g22.cons_inv; obtain ⟨r24, q24, rfl, k24, g24⟩ := g23.cons_inv; obtain ⟨r25, q25, rfl, k25, g25⟩ := g24.cons_inv; obtain ⟨r26, q26, rfl, k26, g26⟩ := g25.cons_inv; obtain ⟨r27, q27, rfl, k27, g27⟩ := g26.cons_inv; obtain ⟨r28, q28, rfl, k28, g28⟩ := g27.cons_inv; obtain ⟨r29, q29, rfl, k29, g29⟩ := g28.cons_inv; obtain rfl := g29.nil_inv; obtain ⟨a0, rfl, _⟩ := k21.int_inv am_un3; obtain ⟨a1, rfl, _⟩ := k22.int_inv am_un3; obtain ⟨a2, rfl, _⟩ := k23.int_inv am_un3; obtain ⟨a3, rfl, _⟩ := k24.int_inv am_un3; obtain ⟨a4, rfl, _⟩ := k25.int_inv am_un3; obtain ⟨a5, rfl, _⟩ := k26.int_inv am_un3; obtain ⟨a6, rfl, _⟩ := k27.int_inv am_un3; obtain ⟨a7, rfl, _⟩ := k28.int_inv am_un3; obtain ⟨a8, rfl, _⟩ := k29.int_inv am_un3; exact ⟨⟨a0, a1, a2, a3, a4, a5, a6, a7, a8⟩, rfl⟩
theorem open_det {row : List AV} (h : WT Tryz.prog 34 row) : ∃ x : Det, row = x.c ∧ x.w := by
  obtain ⟨r30, q30, rfl, k30, g30⟩ := (h.struct_inv am_ft34).cons_inv; obtain ⟨r31, q31, rfl, k31, g31⟩ := g30.cons_inv; obtain ⟨r32, q32, rfl, k32, g32⟩ := g31.cons_inv; obtain ⟨r33, q33, rfl, k33, g33⟩ := g32.cons_inv; obtain ⟨r34, q34, rfl, k34, g34⟩ := g33.cons_inv; obtain ⟨r35, q35, rfl, k35, g35⟩ := g34.cons_inv; obtain rfl := g35.nil_inv; obtain ⟨x1, rfl, h1⟩ := open_member k30; obtain ⟨x2, rfl, h2, h2w⟩ := open_bars k31; obtain ⟨x3, rfl, h3, h3w⟩ := open_runs k32; obtain ⟨x4, rfl, h4⟩ := open_joints k33; obtain ⟨x5, rfl, h5, h5w⟩ := open_dems k34; obtain ⟨x6, rfl⟩ := open_rule k35; exact ⟨⟨x1, x2, x3, x4, x5, x6⟩, rfl, h1, ⟨h2, h2w⟩, ⟨h3, h3w⟩, h4, h5, h5w⟩
end
end Go.Proofs.YtlpgjlnkfgacbaaGreat
