/-
  Part 26 of the proof: functions walked on the abstract machine.
  Conditions: none.
-/
import Derived.Test.YtlpgjlnkfgacbaaGreatX25
set_option linter.unusedSimpArgs false
set_option linter.unusedVariables false
set_option maxRecDepth 100000
set_option maxHeartbeats 1000000
namespace Go.Proofs.YtlpgjlnkfgacbaaGreat
open Go Go.AM
def f1M (l : List (Int × Int)) : List (Int × Bool) := l.foldl (fun m s => mput m s.1 true) []
def f2M (l : List (Int × Int)) : List (Int × Bool) := l.foldl (fun m s => mput m s.2 true) []
theorem f1M_snoc (l : List (Int × Int)) (s : Int × Int) : f1M (l ++ [s]) = mput (f1M l) s.1 true := by simp [f1M, List.foldl_append]
theorem f2M_snoc (l : List (Int × Int)) (s : Int × Int) : f2M (l ++ [s]) = mput (f2M l) s.2 true := by simp [f2M, List.foldl_append]
theorem f1M_get : ∀ (l : List (Int × Int)) (n : Int), (mget (f1M l) n).getD false = decide (∃ b ∈ l, b.1 = n) := by
  refine snoc_ind (fun n => by rw [decide_eq_false (by rintro ⟨b, hb, _⟩; cases hb)]; rfl) ?_; intro l s ih n; rw [f1M_snoc, mget_mput]
  by_cases h : n = s.1
  · rw [if_pos h, decide_eq_true ⟨s, by simp, h.symm⟩]; rfl
  rw [if_neg h, ih, decide_eq_decide]
  constructor
  · rintro ⟨b, hb, e⟩; exact ⟨b, by simp [hb], e⟩
  rintro ⟨b, hb, e⟩
  rcases List.mem_append.1 hb with hb | hb
  · exact ⟨b, hb, e⟩
  rw [List.mem_singleton] at hb; subst hb; exact absurd e.symm h
theorem f2M_get : ∀ (l : List (Int × Int)) (n : Int), (mget (f2M l) n).getD false = decide (∃ b ∈ l, b.2 = n) := by
  refine snoc_ind (fun n => by rw [decide_eq_false (by rintro ⟨b, hb, _⟩; cases hb)]; rfl) ?_; intro l s ih n; rw [f2M_snoc, mget_mput]
  by_cases h : n = s.2
  · rw [if_pos h, decide_eq_true ⟨s, by simp, h.symm⟩]; rfl
  rw [if_neg h, ih, decide_eq_decide]
  constructor
  · rintro ⟨b, hb, e⟩; exact ⟨b, by simp [hb], e⟩
  rintro ⟨b, hb, e⟩
  rcases List.mem_append.1 hb with hb | hb
  · exact ⟨b, hb, e⟩
  rw [List.mem_singleton] at hb; subst hb; exact absurd e.symm h
theorem f1_yes {l : List (Int × Int)} {n : Int} (h : (mget (f1M l) n).getD false = true) : ∃ b ∈ l, b.1 = n := by rw [f1M_get] at h; exact of_decide_eq_true h
theorem f1_no {l : List (Int × Int)} {n : Int} (h : (mget (f1M l) n).getD false = false) : ¬ ∃ b ∈ l, b.1 = n := by rw [f1M_get] at h; exact of_decide_eq_false h
theorem f2_yes {l : List (Int × Int)} {n : Int} (h : (mget (f2M l) n).getD false = true) : ∃ b ∈ l, b.2 = n := by rw [f2M_get] at h; exact of_decide_eq_true h
theorem f2_no {l : List (Int × Int)} {n : Int} (h : (mget (f2M l) n).getD false = false) : ¬ ∃ b ∈ l, b.2 = n := by rw [f2M_get] at h; exact of_decide_eq_false h
theorem laps_cut {l : List Mn} {pre suf laps : List (Int × Int)} {s : Int × Int} (hp : pre ++ s :: suf = laps) (h : lapsOK l laps) : jointP l s ∧ (¬ ∃ b ∈ pre, b.1 = s.1) ∧ ¬ ∃ b ∈ pre, b.2 = s.2 := by
  obtain ⟨h1, h2⟩ := h; rw [← hp, List.pairwise_append] at h2; refine ⟨h1 s (by rw [← hp]; simp), ?_, ?_⟩
  · rintro ⟨b, hb, e⟩; exact (h2.2.2 b hb s (by simp)).1 e
  rintro ⟨b, hb, e⟩; exact (h2.2.2 b hb s (by simp)).2 e
theorem laps_snoc {l : List Mn} {pre : List (Int × Int)} {s : Int × Int} (h : lapsOK l pre) (h1 : jointP l s) (h2 : ¬ ∃ b ∈ pre, b.1 = s.1) (h3 : ¬ ∃ b ∈ pre, b.2 = s.2) : lapsOK l (pre ++ [s]) := by
  refine ⟨fun j hj => ?_, List.pairwise_append.2 ⟨h.2, by simp, fun a ha b hb => ?_⟩⟩
  · rcases List.mem_append.1 hj with hj | hj
    · exact h.1 j hj
    rw [List.mem_singleton] at hj; subst hj; exact h1
  rw [List.mem_singleton] at hb; subst hb; exact ⟨fun e => h2 ⟨a, ha, e⟩, fun e => h3 ⟨a, ha, e⟩⟩
def lookV (x : Det) : List Mn := if detOK x then mainsV x.bars x.runs else []
theorem look_t {x : Det} (h : detOK x) : lookV x = mainsV x.bars x.runs ∧ decide (detOK x) = true := ⟨if_pos h, decide_eq_true h⟩
theorem look_f {x : Det} (h : ¬ detOK x) : lookV x = [] ∧ decide (detOK x) = false := ⟨if_neg h, decide_eq_false h⟩
theorem mn_get {l : List Mn} {i : Int} (h1 : 0 ≤ i) (h2 : i < l.length) : l[i.toNat]? = some (mnAt l i) := by
  have e : l[i.toNat]? = some (l[i.toNat]'(by omega)) := List.getElem?_eq_getElem _; rw [mnAt, e]; rfl
theorem joint_fun (l : List Mn) (j : Int × Int) (hlen : l.length ≤ 140737488355328) : Fun Tryz.prog 74 [.sh 9 (l.map Mn.c), .agg (pairC j)] (Ret (bL (decide (jointP l j))) []) := by
  obtain ⟨j1, j2⟩ := j; have hjp : jointP l (j1, j2) ↔ (0 ≤ j1 ∧ j1 < l.length ∧ 0 ≤ j2 ∧ j2 < l.length) ∧ (mnAt l j1).has = true ∧ (mnAt l j2).has = true ∧ (mnAt l j1).leg.lx < (mnAt l j2).leg.lx ∧ (mnAt l j1).leg.hx < (mnAt l j2).leg.hx ∧ (mnAt l j2).leg.lx ≤ (mnAt l j1).leg.hx := Iff.rfl; refine Fun.of (nt := 79) (rs := [.tmp 4]) Tryz.func74 rfl rfl rfl rfl rfl (Ev.sr fun _ k=>S.nn (q.bx _ true) (S.o q.as (S.e k (Ev.sr fun _ k=>S.o q.mv (S.o (q.lens am_el97) (S.o q.as (S.e k (Ev.seq (Ev.sr fun _ k=>S.o (q.fa 0 am_fi131_0 am_cl3) (S.o (q.lv am_ag3) (S.o q.lss (S.bd q.mv (fun c1 => ?_) (fun c1 => ?_)))))))))))))
  · refine S.s2 (S.s2 (S.o q.pt (S.o q.mv (S.s2 (S.sk (S.o q.pt (S.o q.mv (S.s2 (S.s2 (S.o q.pt (S.e k (Ev.ct (Ev.sr fun _ k=>S.o q.as (S.e k (Ev.ret (Ev.p1 ?_)))))))))))))))); exact bF (fun h => by have h1 := (hjp.1 h).1; omega)
  refine S.o (q.fa 0 am_fi131_0 am_cl3) (S.o (q.lv am_ag3) (S.o q.mv (S.o q.geq (S.o q.pf (S.bd q.mv (fun c2 => ?_) (fun c2 => ?_))))))
  · refine S.s2 (S.sk (S.o q.pt (S.o q.mv (S.s2 (S.s2 (S.o q.pt (S.e k (Ev.ct (Ev.sr fun _ k=>S.o q.as (S.e k (Ev.ret (Ev.p1 ?_)))))))))))); exact bF (fun h => by have h1 := (hjp.1 h).1; omega)
  refine S.o (q.fa 1 am_fi131_1 am_cl3) (S.o (q.lv am_ag3) (S.o q.lss (S.o q.pf (S.bd q.mv (fun c3 => ?_) (fun c3 => ?_)))))
  · refine S.s2 (S.s2 (S.o q.pt (S.e k (Ev.ct (Ev.sr fun _ k=>S.o q.as (S.e k (Ev.ret (Ev.p1 ?_)))))))); exact bF (fun h => by have h1 := (hjp.1 h).1; omega)
  refine S.o (q.fa 1 am_fi131_1 am_cl3) (S.o (q.lv am_ag3) (S.o q.mv (S.o q.geq (S.o q.pf (S.e k (Ev.cd (fun c4 => ?_) (fun c4 => ?_)))))))
  · refine Ev.sr fun _ k=>S.o q.as (S.e k (Ev.ret (Ev.p1 ?_))); exact bF (fun h => by have h1 := (hjp.1 h).1; omega)
  refine Ev.skip ?_; have hg1 := mn_get (l := l) (i := j1) (by omega) (by omega); have hg2 := mn_get (l := l) (i := j2) (by omega) (by omega); obtain ⟨A1, hA1⟩ : ∃ A, A = mnAt l j1 := ⟨_, rfl⟩; obtain ⟨A2, hA2⟩ : ∃ A, A = mnAt l j2 := ⟨_, rfl⟩; rw [← hA1] at hg1 hjp; rw [← hA2] at hg2 hjp; clear hA1 hA2; obtain ⟨⟨a1, a2, a3, a4, a5, a6⟩, a7, a8, a9⟩ := A1; obtain ⟨⟨b1, b2, b3, b4, b5, b6⟩, b7, b8, b9⟩ := A2
  dsimp only at hjp
  refine Ev.sl (tbs [(0, 0), (0, 0), (2, 2), (3, 7), (4, 15), (0, 0), (0, 0), (7, 64), (8, 224), (9, 480), (0, 0), (0, 0), (12, 3103), (13, 8191)]) 12 fun _ k=>M.o q.mv (M.o (q.fa 0 am_fi131_0 am_cl3) (M.o (q.lv am_ag3) (M.o (q.ix am_el97 am_cl156 (hl := (by exact ati hg1 (by omega)))) (M.o (q.lsA _ am_ag156 am_cl156) (M.o q.mv (M.o (q.fa 1 am_fi131_1 am_cl3) (M.o (q.lv am_ag3) (M.o (q.ix am_el97 am_cl156 (hl := (by exact ati hg2 (by omega)))) (M.o (q.lsA _ am_ag156 am_cl156) (M.nn [_] (q.al am_ze156) (h := M.nn [_, _] (q.al am_ze156) (h := M.late [_, _, _, _, _, _, _, _, _] true [_, _, _] am_in156 am_cl156 (h := S.sv _ true [_, _] am_in156 am_cl156 (h := S.e k (Ev.sr fun _ k=>S.o (q.fa 6 am_fi156_1 am_cl4) (S.o (q.lv am_ag4) (S.bb q.mv (fun c5 => ?_) (fun c5 => ?_))))))))))))))))))
  · refine S.o (q.fa 6 am_fi156_1 am_cl4) (S.o (q.lv am_ag4) (S.o q.pt (S.bb q.mv (fun c6 => ?_) (fun c6 => ?_))))
    · refine S.o (q.fa 0 am_fi156_0 am_cl75) (S.o (q.fa 0 am_fi75_0 am_cl38) (S.o (q.fa 0 am_fi38_0 am_cl3) (S.o (q.lv am_ag3) (S.o (q.fa 0 am_fi156_0 am_cl75) (S.o (q.fa 0 am_fi75_0 am_cl38) (S.o (q.fa 0 am_fi38_0 am_cl3) (S.o (q.lv am_ag3) (S.o q.lss (S.o q.pt (S.bd q.mv (fun c7 => ?_) (fun c7 => ?_)))))))))))
      · refine S.o (q.fa 0 am_fi156_0 am_cl75) (S.o (q.fa 3 am_fi75_1 am_cl38) (S.o (q.fa 3 am_fi38_0 am_cl3) (S.o (q.lv am_ag3) (S.o (q.fa 0 am_fi156_0 am_cl75) (S.o (q.fa 3 am_fi75_1 am_cl38) (S.o (q.fa 3 am_fi38_0 am_cl3) (S.o (q.lv am_ag3) (S.o q.lss (S.o q.pt (S.bd q.mv (fun c8 => ?_) (fun c8 => ?_)))))))))))
        · refine S.o (q.fa 0 am_fi156_0 am_cl75) (S.o (q.fa 3 am_fi75_1 am_cl38) (S.o (q.fa 3 am_fi38_0 am_cl3) (S.o (q.lv am_ag3) (S.o (q.fa 0 am_fi156_0 am_cl75) (S.o (q.fa 0 am_fi75_0 am_cl38) (S.o (q.fa 0 am_fi38_0 am_cl3) (S.o (q.lv am_ag3) (S.o q.geq (S.o q.pt (S.o q.as (S.e k (Ev.ret (Ev.p1 ?_))))))))))))); exact dI ⟨fun h => hjp.2 ⟨by omega, ‹_›, ‹_›, by omega, by omega, by omega⟩, fun h => by have h1 := (hjp.1 h).2.2.2; omega⟩
        refine S.s2 (S.s2 (S.s2 (S.s2 (S.sk (S.o q.pf (S.o q.as (S.e k (Ev.ret (Ev.p1 ?_))))))))); exact bF (fun h => by have h1 := (hjp.1 h).2.1; simp_all)
      refine S.s2 (S.s2 (S.s2 (S.s2 (S.sk (S.o q.pf (S.o q.mv (S.s2 (S.s2 (S.s2 (S.s2 (S.sk (S.o q.pf (S.o q.as (S.e k (Ev.ret (Ev.p1 ?_)))))))))))))))); exact bF (fun h => by have h1 := (hjp.1 h).2.1; simp_all)
    refine S.s2 (S.s2 (S.s2 (S.s2 (S.sk (S.o q.pf (S.o q.mv (S.s2 (S.s2 (S.s2 (S.s2 (S.sk (S.o q.pf (S.o q.mv (S.s2 (S.s2 (S.s2 (S.s2 (S.sk (S.o q.pf (S.o q.as (S.e k (Ev.ret (Ev.p1 ?_))))))))))))))))))))))); exact bF (fun h => by have h1 := (hjp.1 h).2.1; simp_all)
  refine S.s2 (S.o q.pf (S.o q.mv (S.s2 (S.s2 (S.s2 (S.s2 (S.sk (S.o q.pf (S.o q.mv (S.s2 (S.s2 (S.s2 (S.s2 (S.sk (S.o q.pf (S.o q.mv (S.s2 (S.s2 (S.s2 (S.s2 (S.sk (S.o q.pf (S.o q.as (S.e k (Ev.ret (Ev.p1 ?_)))))))))))))))))))))))))); exact bF (fun h => by have h1 := (hjp.1 h).2.1; simp_all)
theorem look_fun (x : Det) (hw : x.w) : Fun Tryz.prog 41 [.agg x.c] (Ret (.tup [.sh 9 ((lookV x).map Mn.c), bL (decide (detOK x))]) []) := by
  obtain ⟨hw1, ⟨hw2, hw2b⟩, ⟨hw3, hw3b⟩, hw4, hw5, hw6⟩ := id hw; have hdo : detOK x ↔ (memOK x.mem ∧ laidOK x.bars x.runs ∧ okDems x.dems ∧ ruleOK x.rule ∧ x.laps.length ≤ 1000) ∧ lapsOK (mainsV x.bars x.runs) x.laps := Iff.rfl; have hf : ¬ ((memOK x.mem ∧ laidOK x.bars x.runs ∧ okDems x.dems ∧ ruleOK x.rule ∧ x.laps.length ≤ 1000) ∧ lapsOK (mainsV x.bars x.runs) x.laps) → lookV x = [] ∧ decide (detOK x) = false := fun h => look_f (fun h2 => h (hdo.1 h2)); refine Fun.of (nt := 74) (rs := [.tmp 2, .tmp 3]) Tryz.func41 rfl rfl rfl rfl rfl (Ev.sr fun _ k=>S.nn (q.bx _ true) (S.o q.as (S.o q.as (S.e k (Ev.seq (Ev.sr fun _ k=>S.o (q.fa 0 am_fi34_0 am_cl26) (S.o (q.lvA _ am_ag26 am_cl26) (S.c0 (hF := member_fun x.mem hw1) (h := S.o q.not (S.bn q.mv (fun c1 => ?_) (fun c1 => ?_)))))))))))
  · refine S.s2 (S.s2 (S.s2 (S.o q.pt (S.o q.mv (S.s2 (S.s2 (S.o q.pt (S.o q.mv (S.s2 (S.s2 (S.o q.pt (S.o q.mv (S.s2 (S.s2 (S.o q.pt (S.e k (Ev.ct (Ev.sr fun _ k=>S.o q.as (S.o q.as (S.e k (Ev.weaken (Wk.nsh Mn.c 2 9) (Ev.ret (Ev.p2 ?_))))))))))))))))))))))); rw [(hf (fun h => absurd h.1.1 ‹_›)).1, (hf (fun h => absurd h.1.1 ‹_›)).2]
  refine S.o (q.fa 6 am_fi34_1 am_cl27) (S.o (q.lv am_ag27) (S.o (q.fa 7 am_fi34_2 am_cl28) (S.o (q.lv am_ag28) (S.c0 (hF := laidValid_fun x.bars x.runs hw2 hw2b hw3 hw3b) (h := S.o q.not (S.o q.pf (S.bn q.mv (fun c2 => ?_) (fun c2 => ?_))))))))
  · refine S.s2 (S.s2 (S.o q.pt (S.o q.mv (S.s2 (S.s2 (S.o q.pt (S.o q.mv (S.s2 (S.s2 (S.o q.pt (S.e k (Ev.ct (Ev.sr fun _ k=>S.o q.as (S.o q.as (S.e k (Ev.weaken (Wk.nsh Mn.c 2 9) (Ev.ret (Ev.p2 ?_)))))))))))))))))); rw [(hf (fun h => absurd h.1.2.1 ‹_›)).1, (hf (fun h => absurd h.1.2.1 ‹_›)).2]
  refine S.o (q.fa 9 am_fi34_4 am_cl30) (S.o (q.lv am_ag30) (S.c0 (hF := demValid_fun x.dems hw5 hw6) (h := S.o q.not (S.o q.pf (S.bn q.mv (fun c3 => ?_) (fun c3 => ?_))))))
  · refine S.s2 (S.s2 (S.o q.pt (S.o q.mv (S.s2 (S.s2 (S.o q.pt (S.e k (Ev.ct (Ev.sr fun _ k=>S.o q.as (S.o q.as (S.e k (Ev.weaken (Wk.nsh Mn.c 2 9) (Ev.ret (Ev.p2 ?_)))))))))))))); rw [(hf (fun h => absurd h.1.2.2.1 ‹_›)).1, (hf (fun h => absurd h.1.2.2.1 ‹_›)).2]
  refine S.o (q.fa 10 am_fi34_5 am_cl32) (S.o (q.lvA _ am_ag32 am_cl32) (S.c0 (hF := ruleValid_fun x.rule) (h := S.o q.not (S.o q.pf (S.bn q.mv (fun c4 => ?_) (fun c4 => ?_))))))
  · refine S.s2 (S.s2 (S.o q.pt (S.e k (Ev.ct (Ev.sr fun _ k=>S.o q.as (S.o q.as (S.e k (Ev.weaken (Wk.nsh Mn.c 2 9) (Ev.ret (Ev.p2 ?_)))))))))); rw [(hf (fun h => absurd h.1.2.2.2.1 ‹_›)).1, (hf (fun h => absurd h.1.2.2.2.1 ‹_›)).2]
  refine S.o (q.fa 8 am_fi34_3 am_cl29) (S.o (q.lv am_ag29) (S.o (q.lens am_el29) (S.o q.gtr (S.o q.pf (S.e k (Ev.cd (fun c5 => ?_) (fun c5 => ?_)))))))
  · refine Ev.sr fun _ k=>S.o q.as (S.o q.as (S.e k (Ev.weaken (Wk.nsh Mn.c 2 9) (Ev.ret (Ev.p2 ?_))))); have hg := hf (fun h => by have h1 := h.1.2.2.2.2; omega); rw [hg.1, hg.2]
  refine Ev.skip ?_; have hba : memOK x.mem ∧ laidOK x.bars x.runs ∧ okDems x.dems ∧ ruleOK x.rule ∧ x.laps.length ≤ 1000 := ⟨‹_›, ‹_›, ‹_›, ‹_›, by omega⟩; have hml := mains_len hba.2.1
  refine Ev.sr fun _ k=>S.o (q.lvA _ am_ag34 am_cl34) (S.c0 (hF := mains_fun x hw ‹laidOK x.bars x.runs›) (h := S.o q.as (S.e k (Ev.sr fun _ k=>S.nn (v := .hd 1) (o := ⟨true, 129, 3, ([] : List (Int × Bool)).map (rowK (Value.int .i64) (Value.bool)), true⟩) (q.mm am_mt129) (S.nn (v := .hd 2) (o := ⟨true, 129, 3, ([] : List (Int × Bool)).map (rowK (Value.int .i64) (Value.bool)), true⟩) (q.mm am_mt129) (S.o q.as (S.o q.as (S.e k (Ev.seq (Ev.sr fun _ k=>S.o (q.fa 8 am_fi34_3 am_cl29) (S.o (q.lv am_ag29) (S.o (q.lens am_el29) (S.o q.mv (S.e k (Ev.block (Ev.loopU (ι := {q : List (Int × Int) × List (Int × Int) // q.1 ++ q.2 = x.laps ∧ lapsOK (mainsV x.bars x.runs) q.1}) [0, 1, 2] [4, 5, 6, 44, 45] (fun ⟨(pre, suf), _⟩ => [(46, iL (pre.length : Int))]) (fun ⟨(pre, suf), _⟩ => [(0, ⟨false, 34, 19, [[sL (x.mem.name), .sh 6 ((x.mem.bs).map Bx.c), .sh 6 ((x.mem.hs).map Bx.c), iL (x.mem.cov), iL (x.mem.agg), iL (x.mem.pok), .sh 5 ((x.bars).map Bar.c), .sh 10 ((x.runs).map Rn.c), .sh 2 ((x.laps).map pairC), .sh 8 ((x.dems).map Dem.c), iL (x.rule.r1), iL (x.rule.r2), iL (x.rule.r3), iL (x.rule.r4), iL (x.rule.r5), iL (x.rule.r6), iL (x.rule.r7), iL (x.rule.r8), iL (x.rule.r9)]], true⟩), (1, ⟨true, 129, 3, (f1M pre).map (rowK (Value.int .i64) (Value.bool)), true⟩), (2, ⟨true, 129, 3, (f2M pre).map (rowK (Value.int .i64) (Value.bool)), true⟩)]) (fun ⟨(pre, suf), _⟩ => suf.length) ⟨([], x.laps), rfl, ⟨fun j hj => by simp at hj, by simp⟩⟩ (.c (.c (.c (.c (.c .n))))) (keep_c (h := (keep_c (h := (keep_c))))) (slots_c) ?_))))))))))))))))
  rintro ⟨⟨pre, suf⟩, hp, hinv⟩ R0 hR0; dsimp only [cA, nA, lC, lN]
  simp only at hp hinv
  have hpl := lenA hp
  rcases suf with _ | ⟨s, suf⟩
  · rw [List.append_nil] at hp; simp only [lN] at hpl; refine Ev.sr fun _ k=>S.o q.lss (S.e k (Ev.ud (fun c6 => ?_) (fun c6 => ?_)))
    · omega
    refine Ev.exit (hR0 _ _ (Ev.sr fun _ k=>S.o q.mv (S.o q.as (S.o q.as (S.e k (Ev.ret (Ev.p2 ?_))))))); have hg := look_t (hdo.2 ⟨hba, by rw [← hp]; exact hinv⟩); rw [hg.1, hg.2]
  simp only [lC] at hpl; have hidx := getA hp; obtain ⟨s1, s2⟩ := s; refine Ev.sr fun _ k=>S.o q.lss (S.e k (Ev.ud (fun c7 => ?_) (fun c7 => ?_)))
  · refine Ev.seq (Ev.block (Ev.sr fun _ k=>S.o (q.ix am_el29 am_cl131 (hl := (by exact ati hidx (by omega)))) (S.o (q.lsA _ am_ag131 am_cl131) (S.nn (q.al am_ze131) (S.sv _ true [_, _, _] am_in131 am_cl131 (h := S.e k (Ev.seq (Ev.sr fun _ k=>S.o q.mv (S.o (q.lvA _ am_ag131 am_cl131) (S.c0 (hF := joint_fun (mainsV x.bars x.runs) (s1, s2) (by omega)) (h := S.o q.not (S.bn q.mv (fun c8 => ?_) (fun c8 => ?_)))))))))))))
    · refine S.s2 (S.s2 (S.o q.pt (S.o q.mv (S.s2 (S.s2 (S.o q.pt (S.e k (Ev.ct (Ev.sr fun _ k=>S.o q.as (S.o q.as (S.e k (Ev.weaken (Wk.nsh Mn.c 2 9) (Ev.ret (hR0 _ _ (Ev.p2 ?_))))))))))))))); have hg := hf (fun h => absurd (laps_cut hp h.2).1 ‹_›); rw [hg.1, hg.2]
    refine S.o q.mv (S.o (q.fa 0 am_fi131_0 am_cl3) (S.o (q.lv am_ag3) (S.o (q.lk (vv := (Value.bool)) klI am_mt129) (S.o q.pf (S.bb q.mv (fun c9 => ?_) (fun c9 => ?_))))))
    · refine S.s2 (S.s2 (S.o q.pt (S.e k (Ev.ct (Ev.sr fun _ k=>S.o q.as (S.o q.as (S.e k (Ev.weaken (Wk.nsh Mn.c 2 9) (Ev.ret (hR0 _ _ (Ev.p2 ?_))))))))))); have hg := hf (fun h => (laps_cut hp h.2).2.1 (f1_yes ‹_›)); rw [hg.1, hg.2]
    refine S.o q.mv (S.o (q.fa 1 am_fi131_1 am_cl3) (S.o (q.lv am_ag3) (S.o (q.lk (vv := (Value.bool)) klI am_mt129) (S.o q.pf (S.e k (Ev.c (fun c10 => ?_) (fun c10 => ?_)))))))
    · refine Ev.sr fun _ k=>S.o q.as (S.o q.as (S.e k (Ev.weaken (Wk.nsh Mn.c 2 9) (Ev.ret (hR0 _ _ (Ev.p2 ?_)))))); have hg := hf (fun h => (laps_cut hp h.2).2.2 (f2_yes ‹_›)); rw [hg.1, hg.2]
    refine Ev.skip (Ev.rtp (m := 8) (L0 := #[false, false, false, false, false, false, false, false]) rfl (by kernel_rfl) (by exact rfl) fun _ k=>(HP.mv (i := 0) rfl (h := (HP.fa (i := 1) am_fi131_0 (by rw [am_cl3]; decide) rfl (h := (HP.mv (i := 3) rfl (h := (HP.fa (i := 4) am_fi131_1 (by rw [am_cl3]; decide) rfl (h := (.done (HT.two (i := 2) (j := 5) trivial rfl rfl (S.o (q.lv am_ag3) (S.end ?_)) (S.o (q.lv am_ag3) (S.end ?_)))))))))))))
    · skip; refine HT.two (i := 5) (j := 6) trivial rfl rfl (S.o (q.lv am_ag3) (S.end ?_)) (S.mu (vv := (Value.bool)) [_, _, _] klI am_mt129 (fun _ => rfl) (hn := S.end ?_))
      · skip; refine HT.one (i := 6) trivial rfl (S.mu (vv := (Value.bool)) [_, _, _] klI am_mt129 (fun _ => rfl) (hn := S.end (HT.one (i := 7) trivial rfl (S.mu (vv := (Value.bool)) [_, _, _] klI am_mt129 (fun _ => rfl) (hn := S.end (HT.nil trivial (by kernel_rfl) (k _ ?_))))))); show Ev _ _ _ _; refine Ev.region_S fun _ k=>S.o q.add (S.o q.mv (S.e k (hR0 _ _ (roundU [0, 1, 2] [4, 5, 6, 44, 45] ⟨(pre ++ [(s1, s2)], suf), sucA hp, ?_⟩ muL (keep_c (h := (keep_c (he := (by rw [f1M_snoc])) (h := (keep_c (he := (by rw [f2M_snoc]))))))) (slots_c (he := (by congr 2; simp))) (.c (.c (.c (.c (.c .n))))))))); exact laps_snoc hinv ‹_› (f1_no ‹_›) (f2_no ‹_›)
      skip; refine HT.one (i := 5) trivial rfl (S.o (q.lv am_ag3) (S.end (HT.one (i := 7) trivial rfl (S.mu (vv := (Value.bool)) [_, _, _] klI am_mt129 (fun _ => rfl) (hn := S.end (HT.nil trivial (by kernel_rfl) (k _ ?_))))))); show Ev _ _ _ _; refine Ev.region_S fun _ k=>S.o q.add (S.o q.mv (S.e k (hR0 _ _ (roundU [0, 1, 2] [4, 5, 6, 44, 45] ⟨(pre ++ [(s1, s2)], suf), sucA hp, ?_⟩ muL (keep_c (h := (keep_c (he := (by rw [f1M_snoc])) (h := (keep_c (he := (by rw [f2M_snoc]))))))) (slots_c (he := (by congr 2; simp))) (.c (.c (.c (.c (.c .n))))))))); exact laps_snoc hinv ‹_› (f1_no ‹_›) (f2_no ‹_›)
    skip; refine HT.one (i := 2) trivial rfl (S.o (q.lv am_ag3) (S.end (HT.one (i := 6) trivial rfl (S.mu (vv := (Value.bool)) [_, _, _] klI am_mt129 (fun _ => rfl) (hn := S.end (HT.one (i := 7) trivial rfl (S.mu (vv := (Value.bool)) [_, _, _] klI am_mt129 (fun _ => rfl) (hn := S.end (HT.nil trivial (by kernel_rfl) (k _ ?_)))))))))); show Ev _ _ _ _; refine Ev.region_S fun _ k=>S.o q.add (S.o q.mv (S.e k (hR0 _ _ (roundU [0, 1, 2] [4, 5, 6, 44, 45] ⟨(pre ++ [(s1, s2)], suf), sucA hp, ?_⟩ muL (keep_c (h := (keep_c (he := (by rw [f1M_snoc])) (h := (keep_c (he := (by rw [f2M_snoc]))))))) (slots_c (he := (by congr 2; simp))) (.c (.c (.c (.c (.c .n))))))))); exact laps_snoc hinv ‹_› (f1_no ‹_›) (f2_no ‹_›)
  omega
theorem detValid_fun (x : Det) (hw : x.w) : Fun Tryz.prog 20 [.agg x.c] (Ret (bL (decide (detOK x))) []) := by
  refine Fun.of (nt := 11) (rs := [.tmp 2]) Tryz.func20 rfl rfl rfl rfl rfl (Ev.sr fun _ k=>S.nn (q.bx _ true) (S.o q.as (S.e k (Ev.sr fun _ k=>S.o (q.lvA _ am_ag34 am_cl34) (S.c0 (hF := look_fun x hw) (h := S.o q.mv (S.o q.ex (S.o q.ex (S.o q.as (S.o q.as (S.e k (Ev.sr fun _ k=>S.o q.mv (S.o q.as (S.e k (Ev.ret (Ev.p1 ?_)))))))))))))))); rfl
def ofSum (l : List Bar) (d : Int) : Int := l.foldl (fun a b => if b.size = d then a + barMass b else a) 0
theorem ofSum_snoc (l : List Bar) (s : Bar) (d : Int) : ofSum (l ++ [s]) d = if s.size = d then ofSum l d + barMass s else ofSum l d := by simp [ofSum]
def sumsAt (l : List Bar) : List Int := sizes.map (ofSum l)
def totM (l : List Bar) : Int := l.foldl (fun a b => a + barMass b) 0
theorem totM_snoc (l : List Bar) (s : Bar) : totM (l ++ [s]) = totM l + barMass s := by simp [totM]
theorem sumsAt_snoc (l : List Bar) (s : Bar) (h : s.size ∈ sizes) : 0 ≤ idxI sizes s.size ∧ idxI sizes s.size < 9 ∧ (sumsAt l)[(idxI sizes s.size).toNat]? = some (ofSum l s.size) ∧
    (sumsAt l).set (idxI sizes s.size).toNat (ofSum l s.size + barMass s) = sumsAt (l ++ [s]) ∧ sumI (sumsAt (l ++ [s])) = sumI (sumsAt l) + barMass s := by
  have e : ∀ d, ofSum (l ++ [s]) d = if s.size = d then ofSum l d + barMass s else ofSum l d := ofSum_snoc l s; have h' := h; simp only [sizes, List.mem_cons, List.not_mem_nil, or_false] at h'
  rcases h' with h' | h' | h' | h' | h' | h' | h' | h' | h' <;> rw [h'] at e ⊢ <;> refine ⟨by decide, by decide, rfl, ?_, ?_⟩ <;>
    simp only [sumsAt, sizes, List.map_cons, List.map_nil, e] <;> simp [idxI, idxP, sumI] <;> omega
theorem ofSum_bd : ∀ (l : List Bar), (∀ b ∈ l, okBar b) → ∀ d, 0 ≤ ofSum l d ∧ ofSum l d ≤ 10343154000 * l.length := by
  refine snoc_ind (fun _ d => ⟨Int.le_refl _, by simp [ofSum]⟩) ?_; intro l s ih h d; obtain ⟨i1, i2⟩ := ih (fun b hb => h b (by simp [hb])) d; obtain ⟨_, _, h3, h4⟩ := barMass_bd (h s (by simp)); rw [ofSum_snoc, List.length_append, List.length_singleton]
  split <;> omega
theorem totM_bd : ∀ (l : List Bar), (∀ b ∈ l, okBar b) → (0 ≤ totM l ∧ totM l ≤ 10343154000 * l.length) ∧ sumI (sumsAt l) = totM l := by
  refine snoc_ind (fun _ => by decide) ?_; intro l s ih h; obtain ⟨⟨i1, i2⟩, i3⟩ := ih (fun b hb => h b (by simp [hb])); obtain ⟨_, _, h3, h4⟩ := barMass_bd (h s (by simp)); have := (sumsAt_snoc l s (h s (by simp)).2.1).2.2.2.2; rw [totM_snoc, List.length_append, List.length_singleton]; refine ⟨by omega, by omega⟩
theorem sums_len (l : List Bar) : (sumsAt l).length = 9 := by simp [sumsAt, sizes]
theorem masses_fun (l : List Bar) (hw : schedW l) (hok : okSched l) : Fun Tryz.prog 36 [.sh 5 (l.map Bar.c)] (Ret (.sh 1 ((sumsAt l).map intC)) []) := by
  have hl := hok.1; have hs9 : sizes.length = 9 := rfl; refine Fun.of (nt := 36) (rs := [.tmp 2]) Tryz.func36 rfl rfl rfl rfl rfl ?_; refine Ev.sr fun _ k=>S.o q.as (S.e k ?_); refine Ev.sr fun _ k=>S.c0 (hF := sizes_fun) (h := S.o q.as (S.e k ?_)); refine Ev.sr fun _ k=>S.o q.mv (S.o (q.lens am_el56) (S.mkf (f := intC) (0) am_el56 am_ze3 am_cl3 am_by3 (h := S.o q.as (S.e k ?_)))); refine Ev.seq (Ev.sr fun _ k=>S.o q.mv (S.o (q.lens am_el27) (S.o q.mv (S.e k ?_)))); refine Ev.block (Ev.loopU (ι := {p : List (Bar) × List (Bar) // p.1 ++ p.2 = l ∧ True}) [0] [3, 13, 14] (fun ⟨(pre, suf), _⟩ => [(15, iL (pre.length : Int)), (4, .als 0 0 (sumsAt pre).length)]) (fun ⟨(pre, suf), _⟩ => [(0, ⟨true, 3, 1, (sumsAt pre).map intC, true⟩)]) (fun ⟨(pre, suf), _⟩ => suf.length) ⟨([], l), rfl, trivial⟩ (.c (.c (.c .n))) (keep_c) (slots_c (h := (slots_c))) ?_); rintro ⟨⟨pre, suf⟩, hp, hinv⟩ R0 hR0; dsimp only [cA, nA, lC, lN]
  simp only at hp hinv
  have hpl := lenA hp
  rcases suf with _ | ⟨s, suf⟩
  · rw [List.append_nil] at hp; simp only [lN] at hpl; refine Ev.sr fun _ k=>S.o q.lss (S.e k ?_); refine Ev.ud (fun c1 => ?_) (fun c1 => ?_)
    · omega
    refine Ev.exit (hR0 _ _ (Ev.sr fun _ k=>S.o q.mv (S.o q.as (S.e k ?_)))); refine Ev.weaken (Wk.frz 2 []) ?_; refine Ev.ret (Ev.p1 ?_); rw [← hp]
  simp only [lC] at hpl; have hidx := getA hp; have hsw : s.w := hw s (by rw [← hp]; simp); have hsok : okBar s := hok.2.1 s (by rw [← hp]; simp); refine Ev.sr fun _ k=>S.o q.lss (S.e k ?_); refine Ev.ud (fun c2 => ?_) (fun c2 => ?_)
  · refine Ev.seq (Ev.block (Ev.sr fun _ k=>S.o (q.ix am_el27 am_cl58 (hl := (by exact ati hidx (by omega)))) (S.o (q.lsA _ am_ag58 am_cl58) (S.nn (q.al am_ze58) (S.sv _ true [_] am_in58 am_cl58 (h := S.e k ?_)))))); refine Ev.sr fun _ k=>S.o (q.lvA _ am_ag58 am_cl58) (S.c0 (hF := barMass_fun _ (by assumption)) (h := S.o q.mv (S.o q.ex (S.o q.ex (S.o q.as (S.o q.as (S.e k ?_))))))); obtain ⟨m1, m2, m3, m4⟩ := barMass_bd hsok; have e1 : okV s (barMass s) = barMass s := okV_in hsok; obtain ⟨i1, i2, i3, i4, i5⟩ := sumsAt_snoc pre s hsok.2.1; obtain ⟨o1, o2⟩ := ofSum_bd pre (fun b hb => hok.2.1 b (by rw [← hp]; simp [hb])) s.size; have hsl := sums_len pre; rw [e1]; refine Ev.region_S fun _ k=>S.o q.mv (S.o q.mv (S.o (q.fa 1 am_fi58_1 am_cl3) (S.o (q.lv am_ag3) (S.c0 (hF := index_fun _ _ (by omega)) (h := S.o (q.ia am_el56 am_cl3) (S.o (q.lx am_ag3 (hl := (by exact at_ i3 (by omega)))) (S.o q.mv (S.o q.add (S.o (q.ia am_el56 am_cl3) (S.sx _ [_] am_in3 am_cl3 (hl := (by exact at_ i3 (by omega))) (h := S.e k ?_))))))))))); show Ev _ _ _ _; refine Ev.region_S fun _ k=>S.o q.add (S.o q.mv (S.e k ?_)); refine hR0 _ _ (roundU [0] [3, 13, 14] ⟨(pre ++ [s], suf), sucA hp, trivial⟩ muL (keep_c (he := (by exact congrArg _ i4))) (slots_c (he := (by congr 2; simp)) (h := (slots_c))) (.c (.c (.c .n))))
  omega
def massesP (l : List Bar) (q : List Int) : List (Int × Int) := (q.filter (fun d => decide (∃ b ∈ l, decide (b.size = d) = true))).map (fun d => (d, ofSum l d))
theorem massesP_snoc (l : List Bar) (q : List Int) (d : Int) : massesP l (q ++ [d]) = if ∃ b ∈ l, decide (b.size = d) = true then massesP l q ++ [(d, ofSum l d)] else massesP l q := by
  unfold massesP
  rw [List.filter_append, List.map_append]
  split
  · rename_i h
    have e : [d].filter (fun d => decide (∃ b ∈ l, decide (b.size = d) = true)) = [d] := by rw [List.filter_cons, if_pos (decide_eq_true h)]; rfl
    rw [e]; rfl
  rename_i h
  rw [List.filter_cons_of_neg (by simpa using h)]; simp
theorem massesP_len (l : List Bar) (q : List Int) : (massesP l q).length ≤ q.length := by
  rw [massesP, List.length_map]; exact List.length_filter_le _ _
def massesV (l : List Bar) : List (Int × Int) := if okSched l then massesP l sizes else []
def schedE (l : List Bar) : Int := if okSched l then 0 else 1
def totV (l : List Bar) : Int := if okSched l then totM l else 0
theorem size_is_fun (d : Int) (b : Bar) : Fun Tryz.prog 39 [.agg b.c, .sadr [iL d] 0] (Ret (bL (decide (b.size = d))) []) := by
  refine Fun.of (nt := 8) (rs := [.tmp 3]) Tryz.func39 rfl rfl rfl rfl rfl ?_; refine Ev.sr fun _ k=>S.nn (q.bx _ true) (S.o q.as (S.e k ?_)); refine Ev.sr fun _ k=>S.o (q.fa 1 am_fi58_1 am_cl3) (S.o (q.lv am_ag3) (S.o (q.ls am_ag3) (S.o q.eql (S.o q.as (S.e k ?_))))); refine Ev.ret (Ev.p1 ?_); rfl
theorem Masses_fun (l : List Bar) (hlen : l.length ≤ 140737488355328) (hw : schedW l) : Fun Tryz.prog 13 [.sh 5 (l.map Bar.c)] (Ret (.tup [.sh 2 ((massesV l).map pairC), iL (schedE l)]) []) := by
  have hs9 : sizes.length = 9 := rfl; have hsl := sums_len l; refine Fun.of (nt := 34) (rs := [.tmp 2, .tmp 3]) Tryz.func13 rfl rfl rfl rfl rfl ?_; refine Ev.sr fun _ k=>S.o q.as (S.o q.as (S.e k ?_)); refine Ev.seq (Ev.sr fun _ k=>S.o q.mv (S.c0 (hF := schedValid_fun _ (by omega) (by assumption)) (h := S.o q.not (S.e k ?_)))); refine Ev.cn (fun c1 => ?_) (fun c1 => ?_)
  · refine Ev.sr fun _ k=>S.o q.as (S.o q.as (S.e k ?_)); refine Ev.weaken (Wk.nsh pairC 2 2) ?_; refine Ev.ret (Ev.p2 ?_); rw [massesV, schedE, if_neg ‹_›, if_neg ‹_›]
  refine Ev.skip (Ev.sr fun _ k=>S.o q.mv (S.c0 (hF := masses_fun _ (by assumption) (by assumption)) (h := S.o q.as (S.e k ?_)))); refine Ev.sr fun _ k=>S.o q.as (S.e k ?_); refine Ev.seq (Ev.sr fun _ k=>S.c0 (hF := sizes_fun) (h := S.o (q.lens am_el56) (S.o q.mv (S.e k ?_)))); refine Ev.block (Ev.weaken (Wk.nown pairC 5 67 2) ?_); refine Ev.loopU (ι := {p : List (Int) × List (Int) // p.1 ++ p.2 = sizes ∧ True}) [0] [0, 4, 13, 14] (fun ⟨(pre, suf), _⟩ => [(15, iL (pre.length : Int)), (5, .als 0 0 (massesP l pre).length)]) (fun ⟨(pre, suf), _⟩ => [(0, ⟨true, 67, 2, (massesP l pre).map pairC, true⟩)]) (fun ⟨(pre, suf), _⟩ => suf.length) ⟨([], sizes), rfl, trivial⟩ (.c (.c (.c (.c .n)))) (keep_c) (slots_c (h := (slots_c))) ?_; rintro ⟨⟨pre, suf⟩, hp, hinv⟩ R0 hR0; dsimp only [cA, nA, lC, lN]
  simp only at hp hinv
  have hpl := lenA hp
  rcases suf with _ | ⟨s, suf⟩
  · rw [List.append_nil] at hp; simp only [lN] at hpl; refine Ev.sr fun _ k=>S.o q.lss (S.e k ?_); refine Ev.ud (fun c2 => ?_) (fun c2 => ?_)
    · omega
    refine Ev.exit (hR0 _ _ (Ev.sr fun _ k=>S.o q.mv (S.o q.as (S.o q.as (S.e k ?_))))); refine Ev.weaken (Wk.frz 2 []) ?_; refine Ev.ret (Ev.p2 ?_); rw [massesV, schedE, if_pos ‹_›, if_pos ‹_›, ← hp]
  simp only [lC] at hpl; have hidx := getA hp
  have hsum : (sumsAt l)[pre.length]? = some (ofSum l s) := by rw [sumsAt, List.getElem?_map, hidx]; rfl
  have hml := massesP_len l pre; refine Ev.sr fun _ k=>S.o q.lss (S.e k ?_); refine Ev.ud (fun c4 => ?_) (fun c4 => ?_)
  · refine Ev.seq (Ev.block (Ev.sr fun _ k=>S.o q.mv (S.o (q.ix am_el56 am_cl3 (hl := (by exact ati hidx (by omega)))) (S.o (q.ls am_ag3) (S.nn (q.al am_ze3) (S.o q.as (S.sv _ true [_] am_in3 am_cl3 (h := S.e k ?_)))))))); refine Ev.sr fun _ k=>S.o q.mv (S.o q.mf (S.c0 (hF := containsFuncBar1 _ _ _ (size_is_fun _) l (by omega)) (h := S.e k ?_))); refine Ev.cd (fun c5 => ?_) (fun c5 => ?_)
    · refine Ev.region_M (tbs [(0, 0), (0, 0), (0, 0), (0, 0), (4, 12), (5, 28), (6, 62), (7, 126), (8, 255), (9, 511)]) 8 fun _ k=>M.o q.mv (M.o (q.lv am_ag3) (M.o q.mv (M.o q.mv (M.o (q.ix am_el56 am_cl3 (hl := (by exact ati hsum (by omega)))) (M.o (q.ls am_ag3) (M.o (q.bd _ am_ze67 am_pl67) (M.nn [_] (q.bs [[_, _]] true am_el60 am_ze67 am_cl67) (h := M.end [_, _, _] (h := S.ap' [_, _] am_el60 am_ze67 am_cl67 am_by67 (hh := head_own') (hr := (rows_lit [(⟨_, _⟩ : Int × Int)])) (h := S.o q.as (S.e k ?_))))))))))); show Ev _ _ _ _; refine Ev.region_S fun _ k=>S.o q.add (S.o q.mv (S.e k ?_)); refine hR0 _ _ (roundU [34] [0, 4, 13, 14] ⟨(pre ++ [s], suf), sucA hp, trivial⟩ muL (keep_c (he := (by rw [massesP_snoc, if_pos ‹_›]))) (slots_c (he := (by congr 2; simp)) (h := (slots_c (he := (by congr 1; rw [massesP_snoc, if_pos ‹_›]))))) (.c (.c (.c (.c .n)))))
    refine Ev.skip (Ev.region_S fun _ k=>S.o q.add (S.o q.mv (S.e k ?_))); refine hR0 _ _ (roundU [0] [0, 4, 13, 14] ⟨(pre ++ [s], suf), sucA hp, trivial⟩ muL (keep_c (he := (by rw [massesP_snoc, if_neg ‹_›]))) (slots_c (he := (by congr 2; simp)) (h := (slots_c (he := (by congr 1; rw [massesP_snoc, if_neg ‹_›]))))) (.c (.c (.c (.c .n)))))
  omega
theorem Total_fun (l : List Bar) (hlen : l.length ≤ 140737488355328) (hw : schedW l) : Fun Tryz.prog 15 [.sh 5 (l.map Bar.c)] (Ret (.tup [iL (totV l), iL (schedE l)]) []) := by
  have hsl := sums_len l; refine Fun.of (nt := 22) (rs := [.tmp 2, .tmp 3]) Tryz.func15 rfl rfl rfl rfl rfl ?_; refine Ev.sr fun _ k=>S.o q.as (S.o q.as (S.e k ?_)); refine Ev.seq (Ev.sr fun _ k=>S.o q.mv (S.c0 (hF := schedValid_fun _ (by omega) (by assumption)) (h := S.o q.not (S.e k ?_)))); refine Ev.cn (fun c1 => ?_) (fun c1 => ?_)
  · refine Ev.sr fun _ k=>S.o q.as (S.o q.as (S.e k ?_)); refine Ev.ret (Ev.p2 ?_); rw [totV, schedE, if_neg ‹_›, if_neg ‹_›]
  refine Ev.skip ?_; have hok : okSched l := ‹_›; have htot := (totM_bd l hok.2.1).2; have hl60 := hok.1
  have hob : ∀ n ∈ sumsAt l, 0 ≤ n ∧ n ≤ 620589240000 := fun n hn => by
    rw [sumsAt, List.mem_map] at hn; obtain ⟨d, _, rfl⟩ := hn; have := ofSum_bd l hok.2.1 d; omega
  refine Ev.sr fun _ k=>S.o q.as (S.e k ?_); refine Ev.seq (Ev.sr fun _ k=>S.o q.mv (S.c0 (hF := masses_fun _ (by assumption) (by assumption)) (h := S.o (q.lens am_el56) (S.o q.mv (S.e k ?_))))); refine Ev.block (Ev.loopU (ι := {q : List Int × List Int // q.1 ++ q.2 = sumsAt l ∧ 0 ≤ sumI q.1 ∧ sumI q.1 ≤ 620589240000 * q.1.length}) [] [11, 12] (fun ⟨(pre, suf), _⟩ => [(13, iL (pre.length : Int)), (4, iL (sumI pre))]) (fun ⟨(pre, suf), _⟩ => []) (fun ⟨(pre, suf), _⟩ => suf.length) ⟨([], (sumsAt l)), rfl, (by decide : 0 ≤ sumI [] ∧ sumI [] ≤ 620589240000 * (([] : List Int).length : Int))⟩ (.c (.c .n)) keep_n (slots_c (h := (slots_c))) ?_); rintro ⟨⟨pre, suf⟩, hp, hinv⟩ R0 hR0; dsimp only [cA, nA, lC, lN]
  simp only at hp hinv
  have hpl := lenA hp
  rcases suf with _ | ⟨s, suf⟩
  · rw [List.append_nil] at hp; simp only [lN] at hpl; refine Ev.sr fun _ k=>S.o q.lss (S.e k ?_); refine Ev.ud (fun c2 => ?_) (fun c2 => ?_)
    · omega
    refine Ev.exit (hR0 _ _ (Ev.sr fun _ k=>S.o q.mv (S.o q.as (S.o q.as (S.e k ?_))))); refine Ev.ret (Ev.p2 ?_); rw [totV, schedE, if_pos ‹_›, if_pos ‹_›, ← htot, ← hp]
  simp only [lC] at hpl; have hidx := getA hp; have hsb := hob s (by rw [← hp]; simp); obtain ⟨v1, v2⟩ := hinv; refine Ev.sr fun _ k=>S.o q.lss (S.e k ?_); refine Ev.ud (fun c3 => ?_) (fun c3 => ?_)
  · refine Ev.seq (Ev.block (Ev.sr fun _ k=>S.o (q.ix am_el56 am_cl3 (hl := (by exact ati hidx (by omega)))) (S.o (q.ls am_ag3) (S.o q.as (S.e k ?_))))); refine Ev.region_S fun _ k=>S.o q.mv (S.o q.mv (S.o q.add (S.o q.as (S.e k ?_)))); show Ev _ _ _ _; refine Ev.region_S fun _ k=>S.o q.add (S.o q.mv (S.e k ?_)); refine hR0 _ _ (roundU [] [11, 12] ⟨(pre ++ [s], suf), sucA hp, ?_⟩ muL keep_n (slots_c (he := (by congr 2; simp)) (h := (slots_c (he := (by congr 2; rw [sumI_app, show sumI [s] = s by simp [sumI]]))))) (.c (.c .n)))
    (rw [sumI_app, show sumI [s] = s by simp [sumI], List.length_append, List.length_singleton]; omega)
  omega
def laidM (bars : List Bar) (l : List Rn) (d : Int) : Int := l.foldl (fun a r => if (lineOf bars r.mark).size = d then a + r.n * oneOf (lineOf bars r.mark) else a) 0
theorem laidM_snoc (bars : List Bar) (l : List Rn) (s : Rn) (d : Int) : laidM bars (l ++ [s]) d = if (lineOf bars s.mark).size = d then laidM bars l d + s.n * oneOf (lineOf bars s.mark) else laidM bars l d := by simp [laidM]
def laidAt (bars : List Bar) (l : List Rn) : List Int := sizes.map (laidM bars l)
def Rn.cut (s : Rn) (k : Int) : Rn := { s with n := k }
theorem cut_all (s : Rn) : s.cut s.n = s := rfl
theorem at_step {f g : Int → Int} {z v : Int} (h : z ∈ sizes) (e : ∀ d, g d = if z = d then f d + v else f d) : 0 ≤ idxI sizes z ∧ idxI sizes z < 9 ∧ (sizes.map f)[(idxI sizes z).toNat]? = some (f z) ∧ (sizes.map f).set (idxI sizes z).toNat (f z + v) = sizes.map g ∧ sumI (sizes.map g) = sumI (sizes.map f) + v := by
  have h' := h; simp only [sizes, List.mem_cons, List.not_mem_nil, or_false] at h'
  rcases h' with h' | h' | h' | h' | h' | h' | h' | h' | h' <;> rw [h'] at e ⊢ <;> refine ⟨by decide, by decide, rfl, ?_, ?_⟩ <;>
    simp only [sizes, List.map_cons, List.map_nil, e] <;> simp [idxI, idxP, sumI] <;> omega
theorem laid_step (bars : List Bar) (pre : List Rn) (s : Rn) (k : Int) (h : (lineOf bars s.mark).size ∈ sizes) : 0 ≤ idxI sizes (lineOf bars s.mark).size ∧ idxI sizes (lineOf bars s.mark).size < 9 ∧ (laidAt bars (pre ++ [s.cut k]))[(idxI sizes (lineOf bars s.mark).size).toNat]? = some (laidM bars (pre ++ [s.cut k]) (lineOf bars s.mark).size) ∧
    (laidAt bars (pre ++ [s.cut k])).set (idxI sizes (lineOf bars s.mark).size).toNat (laidM bars (pre ++ [s.cut k]) (lineOf bars s.mark).size + oneOf (lineOf bars s.mark)) = laidAt bars (pre ++ [s.cut (k + 1)]) := by
  obtain ⟨h1, h2, h3, h4, _⟩ := at_step (f := laidM bars (pre ++ [s.cut k])) (g := laidM bars (pre ++ [s.cut (k + 1)])) h (v := oneOf (lineOf bars s.mark)) fun d => by
    rw [laidM_snoc, laidM_snoc]; have e1 : (s.cut (k + 1)).n = k + 1 := rfl; have e2 : (s.cut k).n = k := rfl; have e3 : (s.cut (k + 1)).mark = s.mark := rfl; have e4 : (s.cut k).mark = s.mark := rfl; rw [e1, e2, e3, e4, Int.add_mul, Int.one_mul]
    by_cases hd : (lineOf bars s.mark).size = d
    · simp only [if_pos hd]; omega
    simp only [if_neg hd]
  exact ⟨h1, h2, h3, h4⟩
theorem laidAt_zero (bars : List Bar) (pre : List Rn) (s : Rn) : laidAt bars pre = laidAt bars (pre ++ [s.cut 0]) := by
  unfold laidAt
  congr 1
  funext d
  rw [laidM_snoc]; have e2 : (s.cut 0).n = 0 := rfl; rw [e2, Int.zero_mul, Int.add_zero, ite_self]
theorem laidAt_nil (bars : List Bar) : laidAt bars [] = List.replicate 9 0 := rfl
theorem laidAt_len (bars : List Bar) (l : List Rn) : (laidAt bars l).length = 9 := by simp [laidAt, sizes]
def runsOK (bars : List Bar) (l : List Rn) : Prop := ∀ r ∈ l, okBar (lineOf bars r.mark) ∧ 0 ≤ r.n
theorem laidM_bd {bars : List Bar} (d : Int) : ∀ l : List Rn, runsOK bars l → 0 ≤ laidM bars l d ∧ laidM bars l d ≤ 10343154 * cntS l := by
  refine snoc_ind (fun _ => ⟨Int.le_refl _, Int.le_refl _⟩) ?_; intro l s ih h; obtain ⟨i1, i2⟩ := ih fun r hr => h r (by simp [hr]); obtain ⟨h1, h2⟩ := h s (by simp); obtain ⟨h3, h4, _, _⟩ := barMass_bd h1; rw [laidM_snoc, cnt_snoc]; have h5 := Int.mul_nonneg h2 h3; have h6 := Int.mul_le_mul_of_nonneg_left h4 h2
  split <;> omega
theorem laid_runs {bars : List Bar} {runs : List Rn} (h : laidOK bars runs) : runsOK bars runs := fun r hr => ⟨h.1.2.1 _ (line_mem (h.2.2.1 r hr).1), by have := (h.2.2.1 r hr).2.2.1; omega⟩
theorem okV_cut {b : Bar} (h : okBar b) : okV b (cutOf b) = cutOf b ∧ okE b = 0 ∧ szV b.size (massOf b.size (cutOf b)) = oneOf b ∧ szE b.size = 0 ∧ 0 ≤ cutOf b ∧ cutOf b ≤ 1048576 := by
  obtain ⟨h1, h2⟩ := cutOf_bd h; exact ⟨okV_in h, okE_in h, szV_in h.2.1, szE_in h.2.1, by omega, h2⟩
def laidT (bars : List Bar) (l : List Rn) : Int := sumI (laidAt bars l)
def detV (x : Det) (v : Int) : Int := if detOK x then v else 0
def detE (x : Det) : Int := if detOK x then 0 else 1
theorem lbIs_fun (r : Rn) (b : Bar) : Fun Tryz.prog 43 [.agg b.c, .sadr r.c 0] (Ret (bL (decide (b.mark = r.mark))) []) := by
  refine Fun.of (nt := 9) (rs := [.tmp 3]) Tryz.func43 rfl rfl rfl rfl rfl ?_; refine Ev.sr fun _ w=>S.nn (q.bx _ true) (S.o q.as (S.e w ?_)); refine Ev.sr fun _ w=>S.o (q.fa 0 am_fi58_0 am_cl9) (S.o (q.lv am_ag9) (S.o (q.fs 0 am_fi40_0 am_cl9) (S.o (q.ls am_ag9) (S.o q.seqs (S.o q.as (S.e w ?_)))))); refine Ev.ret (Ev.p1 ?_); rfl
theorem laidBy_fun (x : Det) (hw : x.w) (hlo : laidOK x.bars x.runs) : Fun Tryz.prog 21 [.agg x.c] (Ret (.sh 1 ((laidAt x.bars x.runs).map intC)) []) := by
  obtain ⟨hw1, ⟨hw2, hw2b⟩, ⟨hw3, hw3b⟩, hw4, hw5, hw6⟩ := id hw; have hs9 : sizes.length = 9 := rfl; have hrk := laid_runs hlo; have hl3 := hlo.2.2.1; have hc2 := hlo.2.2.2; refine Fun.of (nt := 60) (rs := [.tmp 2]) Tryz.func21 rfl rfl rfl rfl rfl ?_; refine Ev.sr fun _ w=>S.nn (q.bx _ true) (S.o q.as (S.e w ?_)); refine Ev.sr fun _ w=>S.c0 (hF := sizes_fun) (h := S.o q.as (S.e w ?_)); refine Ev.sr fun _ w=>S.o q.mv (S.o (q.lens am_el56) (S.mkf (f := intC) (0) am_el56 am_ze3 am_cl3 am_by3 (h := S.o q.as (S.e w ?_)))); refine Ev.seq (Ev.sr fun _ w=>S.o (q.fa 7 am_fi34_2 am_cl28) (S.o (q.lv am_ag28) (S.o (q.lens am_el28) (S.o q.mv (S.e w ?_)))))
  refine Ev.block (Ev.loopU (ι := {p : List (Rn) × List (Rn) // p.1 ++ p.2 = x.runs ∧ True}) [0, 1] [1, 3, 17, 18] (fun ⟨(pre, suf), _⟩ => [(19, iL (pre.length : Int)), (4, .als 1 0 (laidAt x.bars pre).length)]) (fun ⟨(pre, suf), _⟩ => [(0, ⟨false, 34, 19, [[sL (x.mem.name), .sh 6 ((x.mem.bs).map Bx.c), .sh 6 ((x.mem.hs).map Bx.c), iL (x.mem.cov), iL (x.mem.agg), iL (x.mem.pok), .sh 5 ((x.bars).map Bar.c), .sh 10 ((x.runs).map Rn.c), .sh 2 ((x.laps).map pairC), .sh 8 ((x.dems).map Dem.c), iL (x.rule.r1), iL (x.rule.r2), iL (x.rule.r3), iL (x.rule.r4), iL (x.rule.r5), iL (x.rule.r6), iL (x.rule.r7), iL (x.rule.r8), iL (x.rule.r9)]], true⟩), (1, ⟨true, 3, 1, (laidAt x.bars pre).map intC, true⟩)]) (fun ⟨(pre, suf), _⟩ => suf.length) ⟨([], x.runs), rfl, trivial⟩ (.c (.c (.c (.c .n)))) (keep_c (h := (keep_c))) (slots_c (h := (slots_c))) ?_); rintro ⟨⟨pre, suf⟩, hp, hinv⟩ R0 hR0; dsimp only [cA, nA, lC, lN]
  simp only at hp hinv
  have hpl := lenA hp
  rcases suf with _ | ⟨s, suf⟩
  · rw [List.append_nil] at hp; simp only [lN] at hpl; refine Ev.sr fun _ w=>S.o q.lss (S.e w ?_); refine Ev.ud (fun c1 => ?_) (fun c1 => ?_)
    · omega
    refine Ev.exit (hR0 _ _ (Ev.sr fun _ w=>S.o q.mv (S.o q.as (S.e w ?_)))); refine Ev.weaken (Wk.frz 2 [_]) ?_; refine Ev.ret (Ev.p1 ?_); rw [← hp]
  simp only [lC] at hpl; have hidx := getA hp; have hms := memA hp; have hrp := hl3 s hms; have hmk := hrp.1; have hsn := hrp.2.2.1; have hlg := line_get hmk; have hwl := hw2b _ (line_mem hmk); have hob := (hrk s hms).1; have hct := cnt_cut hp (fun z hz => (hl3 z hz).2.2.1.1); have hpk : runsOK x.bars pre := fun r hr => hrk r (by rw [← hp]; simp [hr]); have hmk2 : 0 ≤ idxP (fun b : Bar => decide (b.mark = s.mark)) x.bars 0 := hmk; have hlg2 : x.bars[(idxP (fun b : Bar => decide (b.mark = s.mark)) x.bars 0).toNat]? = some (lineOf x.bars s.mark) := hlg; obtain ⟨b0, hb0⟩ : ∃ b, b = lineOf x.bars s.mark := ⟨_, rfl⟩; rw [← hb0] at hwl hob hlg2; clear hlg; refine Ev.sr fun _ w=>S.o q.lss (S.e w ?_); refine Ev.ud (fun c2 => ?_) (fun c2 => ?_)
  · refine Ev.seq (Ev.block (Ev.sr fun _ w=>S.o (q.ix am_el28 am_cl40 (hl := (by exact ati hidx (by omega)))) (S.o (q.lsA _ am_ag40 am_cl40) (S.nn (q.al am_ze40) (S.sv _ true [_, _] am_in40 am_cl40 (h := S.e w ?_)))))); refine Ev.sm (tbs [(0, 0), (1, 1), (0, 0), (3, 4), (0, 0), (5, 28), (6, 63), (7, 127), (0, 0), (9, 511)]) 9 fun _ w=>M.o (q.fa 6 am_fi34_1 am_cl27) (M.o (q.lv am_ag27) (M.o (q.fa 6 am_fi34_1 am_cl27) (M.o (q.lv am_ag27) (M.o q.mf (M.c0 (hF := indexFuncBar1 _ _ _ (lbIs_fun s) x.bars (by omega)) (h := M.o (q.ix am_el27 am_cl58 (hl := (by exact ati hlg2 (by omega)))) (M.o (q.lsA _ am_ag58 am_cl58) (M.nn [_] (q.al am_ze58) (h := M.end [_, _, _, _] (h := S.sv _ true [_, _, _] am_in58 am_cl58 (h := S.e w ?_))))))))))); refine Ev.sr fun _ w=>S.o (q.lvA _ am_ag58 am_cl58) (S.c0 (hF := cut_fun _ (by assumption)) (h := S.o q.mv (S.o q.ex (S.o q.ex (S.o q.as (S.o q.as (S.e w ?_))))))); obtain ⟨e1, e2, e3, e4, e5, e6⟩ := okV_cut hob; rw [e1]; refine Ev.sr fun _ w=>S.o (q.fa 1 am_fi58_1 am_cl3) (S.o (q.lv am_ag3) (S.o q.mv (S.c0 (hF := Mass_fun _ _ (by omega) (by omega)) (h := S.o q.mv (S.o q.ex (S.o q.ex (S.o q.as (S.o q.as (S.e w ?_))))))))); rw [e3]; refine Ev.sr fun _ w=>S.o (q.fa 9 am_fi40_4 am_cl3) (S.o (q.lv am_ag3) (S.o q.mv (S.e w ?_)))
    refine Ev.block (Ev.loopU (ι := {k : Nat // (k : Int) ≤ s.n}) [0, 1, 2, 35] [1, 3, 7, 10, 17, 18, 19, 44] (fun ⟨k, _⟩ => [(45, iL (k : Int)), (4, .als 1 0 (laidAt x.bars (pre ++ [s.cut (k : Int)])).length)]) (fun ⟨k, _⟩ => [(0, ⟨false, 34, 19, [[sL (x.mem.name), .sh 6 ((x.mem.bs).map Bx.c), .sh 6 ((x.mem.hs).map Bx.c), iL (x.mem.cov), iL (x.mem.agg), iL (x.mem.pok), .sh 5 ((x.bars).map Bar.c), .sh 10 ((x.runs).map Rn.c), .sh 2 ((x.laps).map pairC), .sh 8 ((x.dems).map Dem.c), iL (x.rule.r1), iL (x.rule.r2), iL (x.rule.r3), iL (x.rule.r4), iL (x.rule.r5), iL (x.rule.r6), iL (x.rule.r7), iL (x.rule.r8), iL (x.rule.r9)]], true⟩), (1, ⟨true, 3, 1, (laidAt x.bars (pre ++ [s.cut (k : Int)])).map intC, true⟩), (2, ⟨false, 40, 10, [[sL (s.mark), iL (s.tx), iL (s.ty), iL (s.ax), iL (s.ay), iL (s.az), iL (s.sx), iL (s.sy), iL (s.sz), iL (s.n)]], true⟩), (3, ⟨false, 58, 5, [[sL (b0.mark), iL (b0.size), iL (b0.count), iL (b0.code), .sh 1 ((b0.dims).map intC)]], true⟩)]) (fun ⟨k, _⟩ => s.n.toNat - k) ⟨0, by omega⟩ (.c (.c (.c (.c (.c (.c (.c (.c .n)))))))) (keep_c (h := (keep_c (he := (by exact congrArg _ (laidAt_zero _ _ _))) (h := (keep_c (h := (keep_c))))))) (slots_c (h := (slots_c))) ?_); rintro ⟨k, hk⟩ R2 hR2; dsimp only [cA, nA, lC, lN]
    by_cases hkn : (k : Int) < s.n
    rotate_left
    · have hke : (k : Int) = s.n := by omega
      refine Ev.sr fun _ w=>S.o q.lss (S.e w ?_); refine Ev.ud (fun c3 => ?_) (fun c3 => ?_)
      · omega
      refine Ev.exit (hR2 _ _ (Ev.region_S fun _ w=>S.o q.add (S.o q.mv (S.e w ?_)))); refine hR0 _ _ (roundU [0, 1] [1, 3, 17, 18] ⟨(pre ++ [s], suf), sucA hp, trivial⟩ muL (keep_c (h := (keep_c (he := (by rw [hke, cut_all]))))) (slots_c (he := (by congr 2; simp)) (h := (slots_c))) (.c (.c (.c (.c .n))))); skip
    obtain ⟨i1, i2, i3, i4⟩ := laid_step x.bars pre s k (hb0 ▸ hob.2.1); have hsl := laidAt_len x.bars (pre ++ [s.cut k]); obtain ⟨b1, b2⟩ := laidM_bd (bars := x.bars) b0.size (pre ++ [s.cut k]) (fun r hr => by rcases List.mem_append.1 hr with hr | hr; exact hpk r hr; rw [List.mem_singleton] at hr; subst hr; exact ⟨hb0 ▸ hob, Int.natCast_nonneg k⟩); rw [cnt_snoc, show (s.cut k).n = k from rfl] at b2; obtain ⟨m1, m2, m3, m4⟩ := barMass_bd hob; rw [← hb0] at i1 i2 i3 i4; refine Ev.sr fun _ w=>S.o q.lss (S.e w ?_); refine Ev.ud (fun c4 => ?_) (fun c4 => ?_)
    · refine Ev.seq (Ev.block (Ev.region_S fun _ w=>S.o q.mv (S.o q.mv (S.o (q.fa 1 am_fi58_1 am_cl3) (S.o (q.lv am_ag3) (S.c0 (hF := index_fun _ _ (by omega)) (h := S.o (q.ia am_el56 am_cl3) (S.o (q.lx am_ag3 (hl := (by exact at_ i3 (by omega)))) (S.o q.mv (S.o q.add (S.o (q.ia am_el56 am_cl3) (S.sx _ [_, _, _] am_in3 am_cl3 (hl := (by exact at_ i3 (by omega))) (h := S.e w ?_))))))))))))); show Ev _ _ _ _; refine Ev.region_S fun _ w=>S.o q.add (S.o q.mv (S.e w ?_)); refine hR2 _ _ (roundU [0, 1, 2, 3] [1, 3, 7, 10, 17, 18, 19, 44] ⟨k + 1, by omega⟩ ?_ (keep_c (h := (keep_c (he := (by exact congrArg _ i4)) (h := (keep_c (h := (keep_c))))))) (slots_c (h := (slots_c))) (.c (.c (.c (.c (.c (.c (.c (.c .n))))))))); skip; all_goals (dsimp only; omega)
    omega
  omega
theorem Laid_fun (x : Det) (hw : x.w) : Fun Tryz.prog 6 [.agg x.c] (Ret (.tup [iL (detV x (laidT x.bars x.runs)), iL (detE x)]) []) := by
  have hsl := laidAt_len x.bars x.runs; refine Fun.of (nt := 22) (rs := [.tmp 2, .tmp 3]) Tryz.func6 rfl rfl rfl rfl rfl ?_; refine Ev.sr fun _ w=>S.nn (q.bx _ true) (S.o q.as (S.o q.as (S.e w ?_))); refine Ev.seq (Ev.sr fun _ w=>S.o (q.lvA _ am_ag34 am_cl34) (S.c0 (hF := detValid_fun x hw) (h := S.o q.not (S.e w ?_)))); refine Ev.cn (fun c1 => ?_) (fun c1 => ?_)
  · refine Ev.sr fun _ w=>S.o q.as (S.o q.as (S.e w ?_)); refine Ev.ret (Ev.p2 ?_); rw [detV, detE, if_neg ‹_›, if_neg ‹_›]
  refine Ev.skip ?_; have hok : detOK x := ‹_›; have hrk := laid_runs hok.1.2.1
  have hob : ∀ n ∈ laidAt x.bars x.runs, 0 ≤ n ∧ n ≤ 20686308000 := fun n hn => by
    rw [laidAt, List.mem_map] at hn; obtain ⟨d, _, rfl⟩ := hn; have h1 := laidM_bd d x.runs hrk; have h2 := hok.1.2.1.2.2.2; omega
  refine Ev.sr fun _ w=>S.o q.as (S.e w ?_); refine Ev.seq (Ev.sr fun _ w=>S.o (q.lvA _ am_ag34 am_cl34) (S.c0 (hF := laidBy_fun x hw hok.1.2.1) (h := S.o (q.lens am_el56) (S.o q.mv (S.e w ?_))))); refine Ev.block (Ev.loopU (ι := {q : List Int × List Int // q.1 ++ q.2 = laidAt x.bars x.runs ∧ 0 ≤ sumI q.1 ∧ sumI q.1 ≤ 20686308000 * q.1.length}) [0] [11, 12] (fun ⟨(pre, suf), _⟩ => [(13, iL (pre.length : Int)), (4, iL (sumI pre))]) (fun ⟨(pre, suf), _⟩ => [(0, ⟨false, 34, 19, [[sL (x.mem.name), .sh 6 ((x.mem.bs).map Bx.c), .sh 6 ((x.mem.hs).map Bx.c), iL (x.mem.cov), iL (x.mem.agg), iL (x.mem.pok), .sh 5 ((x.bars).map Bar.c), .sh 10 ((x.runs).map Rn.c), .sh 2 ((x.laps).map pairC), .sh 8 ((x.dems).map Dem.c), iL (x.rule.r1), iL (x.rule.r2), iL (x.rule.r3), iL (x.rule.r4), iL (x.rule.r5), iL (x.rule.r6), iL (x.rule.r7), iL (x.rule.r8), iL (x.rule.r9)]], true⟩)]) (fun ⟨(pre, suf), _⟩ => suf.length) ⟨([], (laidAt x.bars x.runs)), rfl, (by decide : 0 ≤ sumI [] ∧ sumI [] ≤ 20686308000 * (([] : List Int).length : Int))⟩ (.c (.c .n)) (keep_c) (slots_c (h := (slots_c))) ?_); rintro ⟨⟨pre, suf⟩, hp, hinv⟩ R0 hR0; dsimp only [cA, nA, lC, lN]
  simp only at hp hinv
  have hpl := lenA hp
  rcases suf with _ | ⟨s, suf⟩
  · rw [List.append_nil] at hp; simp only [lN] at hpl; refine Ev.sr fun _ w=>S.o q.lss (S.e w ?_); refine Ev.ud (fun c2 => ?_) (fun c2 => ?_)
    · omega
    refine Ev.exit (hR0 _ _ (Ev.sr fun _ w=>S.o q.mv (S.o q.as (S.o q.as (S.e w ?_))))); refine Ev.ret (Ev.p2 ?_); rw [detV, detE, if_pos hok, if_pos hok, laidT, ← hp]
  simp only [lC] at hpl; have hidx := getA hp; have hsb := hob s (by rw [← hp]; simp); obtain ⟨v1, v2⟩ := hinv; refine Ev.sr fun _ w=>S.o q.lss (S.e w ?_); refine Ev.ud (fun c3 => ?_) (fun c3 => ?_)
  · refine Ev.seq (Ev.block (Ev.sr fun _ w=>S.o (q.ix am_el56 am_cl3 (hl := (by exact ati hidx (by omega)))) (S.o (q.ls am_ag3) (S.o q.as (S.e w ?_))))); refine Ev.region_S fun _ w=>S.o q.mv (S.o q.mv (S.o q.add (S.o q.as (S.e w ?_)))); show Ev _ _ _ _; refine Ev.region_S fun _ w=>S.o q.add (S.o q.mv (S.e w ?_)); refine hR0 _ _ (roundU [0] [11, 12] ⟨(pre ++ [s], suf), sucA hp, ?_⟩ muL (keep_c) (slots_c (he := (by congr 2; simp)) (h := (slots_c (he := (by congr 2; rw [sumI_app, show sumI [s] = s by simp [sumI]]))))) (.c (.c .n)))
    (rw [sumI_app, show sumI [s] = s by simp [sumI], List.length_append, List.length_singleton]; omega)
  omega
end Go.Proofs.YtlpgjlnkfgacbaaGreat
