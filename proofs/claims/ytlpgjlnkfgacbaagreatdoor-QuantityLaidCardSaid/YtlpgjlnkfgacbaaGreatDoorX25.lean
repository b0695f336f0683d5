/-
  Part 25 of the proof: functions walked on the abstract machine.
  Conditions: none.
-/
import Derived.Shelf.Lay
import Derived.Ground.NamesProg
import Derived.Test.YtlpgjlnkfgacbaaGreatDoorX24
set_option linter.unusedSimpArgs false
set_option linter.unusedVariables false
set_option maxRecDepth 100000
set_option maxHeartbeats 2000000
namespace Go.Proofs.YtlpgjlnkfgacbaaGreatDoor
open Go Go.AM
def f1M (l : List (Int × Int)) : List (Int × Bool) := l.foldl (fun m s => mput m s.1 true) []
def f2M (l : List (Int × Int)) : List (Int × Bool) := l.foldl (fun m s => mput m s.2 true) []
theorem f1M_snoc (l : List (Int × Int)) (s : Int × Int) : f1M (l ++ [s]) = mput (f1M l) s.1 true := by simp [f1M, List.foldl_append]
theorem f2M_snoc (l : List (Int × Int)) (s : Int × Int) : f2M (l ++ [s]) = mput (f2M l) s.2 true := by simp [f2M, List.foldl_append]
theorem f1M_get : ∀ (l : List (Int × Int)) (n : Int), (Ex (f1M l) n).getD false = decide (∃ b ∈ l, b.1 = n) := by
  refine CY (fun n => by rw [decide_eq_false (by rintro ⟨b, hb, _⟩; cases hb)]; rfl) ?_; intro l s ih n; rw [f1M_snoc, mget_mput]
  by_cases h : n = s.1
  · rw [if_pos h, decide_eq_true ⟨s, by simp, h.symm⟩]; rfl
  rw [if_neg h, ih, decide_eq_decide]
  constructor
  · rintro ⟨b, hb, e⟩; exact ⟨b, by simp [hb], e⟩
  rintro ⟨b, hb, e⟩
  rcases List.mem_append.1 hb with hb | hb
  · exact ⟨b, hb, e⟩
  rw [List.mem_singleton] at hb; subst hb; exact absurd e.symm h
theorem f2M_get : ∀ (l : List (Int × Int)) (n : Int), (Ex (f2M l) n).getD false = decide (∃ b ∈ l, b.2 = n) := by
  refine CY (fun n => by rw [decide_eq_false (by rintro ⟨b, hb, _⟩; cases hb)]; rfl) ?_; intro l s ih n; rw [f2M_snoc, mget_mput]
  by_cases h : n = s.2
  · rw [if_pos h, decide_eq_true ⟨s, by simp, h.symm⟩]; rfl
  rw [if_neg h, ih, decide_eq_decide]
  constructor
  · rintro ⟨b, hb, e⟩; exact ⟨b, by simp [hb], e⟩
  rintro ⟨b, hb, e⟩
  rcases List.mem_append.1 hb with hb | hb
  · exact ⟨b, hb, e⟩
  rw [List.mem_singleton] at hb; subst hb; exact absurd e.symm h
theorem f1_yes {l : List (Int × Int)} {n : Int} (h : (Ex (f1M l) n).getD false = true) : ∃ b ∈ l, b.1 = n := by rw [f1M_get] at h; exact of_decide_eq_true h
theorem f1_no {l : List (Int × Int)} {n : Int} (h : (Ex (f1M l) n).getD false = false) : ¬ ∃ b ∈ l, b.1 = n := by rw [f1M_get] at h; exact of_decide_eq_false h
theorem f2_yes {l : List (Int × Int)} {n : Int} (h : (Ex (f2M l) n).getD false = true) : ∃ b ∈ l, b.2 = n := by rw [f2M_get] at h; exact of_decide_eq_true h
theorem f2_no {l : List (Int × Int)} {n : Int} (h : (Ex (f2M l) n).getD false = false) : ¬ ∃ b ∈ l, b.2 = n := by rw [f2M_get] at h; exact of_decide_eq_false h
theorem laps_cut {l : List Mn} {pre suf laps : List (Int × Int)} {s : Int × Int} (hp : pre ++ s :: suf = laps) (h : lapsOK l laps) : jointP l s ∧ (¬ ∃ b ∈ pre, b.1 = s.1) ∧ ¬ ∃ b ∈ pre, b.2 = s.2 := by
  obtain ⟨h1, h2⟩ := h; rw [← hp, List.pairwise_append] at h2; refine ⟨h1 s (by rw [← hp]; simp), ?_, ?_⟩
  · rintro ⟨b, hb, e⟩; exact (h2.2.2 b hb s (by simp)).1 e
  rintro ⟨b, hb, e⟩; exact (h2.2.2 b hb s (by simp)).2 e
theorem laps_snoc {l : List Mn} {pre : List (Int × Int)} {s : Int × Int} (h : lapsOK l pre) (h1 : jointP l s) (h2 : ¬ ∃ b ∈ pre, b.1 = s.1) (h3 : ¬ ∃ b ∈ pre, b.2 = s.2) : lapsOK l (pre ++ [s]) := by
  refine ⟨fun j hj => ?_, List.pairwise_append.2 ⟨h.2, by simp, fun a ha b hb => ?_⟩⟩
  · rcases List.mem_append.1 hj with hj | hj
    · exact h.1 j hj
    rw [List.mem_singleton] at hj; subst hj; exact h1
  rw [List.mem_singleton] at hb; subst hb; exact ⟨fun e => h2 ⟨a, ha, e⟩, fun e => h3 ⟨a, ha, e⟩⟩
def lookV (x : Det) : List Mn := if Do x then CD x.bars x.runs else []
theorem look_t {x : Det} (h : Do x) : lookV x = CD x.bars x.runs ∧ decide (Do x) = true := ⟨if_pos h, decide_eq_true h⟩
theorem look_f {x : Det} (h : ¬ Do x) : lookV x = [] ∧ decide (Do x) = false := ⟨if_neg h, decide_eq_false h⟩
theorem mn_get {l : List Mn} {i : Int} (h1 : 0 ≤ i) (h2 : i < l.length) : l[i.toNat]? = some (DA l i) := by
  have e : l[i.toNat]? = some (l[i.toNat]'(by omega)) := List.getElem?_eq_getElem _; rw [DA, e]; rfl
theorem joint_fun (l : List Mn) (j : Int × Int) (hlen : l.length ≤ 140737488355328) : Fun Tryz.prog 88 [.sh 9 (l.map Mn.c), .agg (CB j)] (AK (bL (decide (jointP l j))) []) := by
  obtain ⟨j1, j2⟩ := j; have hjp : jointP l (j1, j2) ↔ (0 ≤ j1 ∧ j1 < l.length ∧ 0 ≤ j2 ∧ j2 < l.length) ∧ (DA l j1).has = true ∧ (DA l j2).has = true ∧ (DA l j1).leg.lx < (DA l j2).leg.lx ∧ (DA l j1).leg.hx < (DA l j2).leg.hx ∧ (DA l j2).leg.lx ≤ (DA l j1).leg.hx := Iff.rfl; refine Fun.of (nt := 79) (rs := [.tmp 4]) Tryz.func88 rfl rfl rfl rfl rfl (Ac fun _ k=>A4 (Be _ true) (Aa Ae (Ad k (Ac fun _ k=>Aa Ab (Aa (A7 am_el103) (Aa Ae (Ad k (An (Ac fun _ k=>Aa (Ap 0 FA Ah) (Aa (At Al) (Aa Ay (AP Ab (fun c1 => ?_) (fun c1 => ?_)))))))))))))
  · refine Ai (Ai (Aa A5 (Aa Ab (Ai (A9 (Aa A5 (Aa Ab (Ai (Ai (Aa A5 (Ad k (B3 (Ac fun _ k=>Aa Ae (Ad k (Af (Aq ?_)))))))))))))))); exact bF (fun h => by have h1 := (hjp.1 h).1; omega)
  refine Aa (Ap 0 FA Ah) (Aa (At Al) (Aa Ab (Aa C7 (Aa Au (AP Ab (fun c2 => ?_) (fun c2 => ?_))))))
  · refine Ai (A9 (Aa A5 (Aa Ab (Ai (Ai (Aa A5 (Ad k (B3 (Ac fun _ k=>Aa Ae (Ad k (Af (Aq ?_)))))))))))); exact bF (fun h => by have h1 := (hjp.1 h).1; omega)
  refine Aa (Ap 1 FC Ah) (Aa (At Al) (Aa Ay (Aa Au (AP Ab (fun c3 => ?_) (fun c3 => ?_)))))
  · refine Ai (Ai (Aa A5 (Ad k (B3 (Ac fun _ k=>Aa Ae (Ad k (Af (Aq ?_)))))))); exact bF (fun h => by have h1 := (hjp.1 h).1; omega)
  refine Aa (Ap 1 FC Ah) (Aa (At Al) (Aa Ab (Aa C7 (Aa Au (Ad k (Ax (fun c4 => ?_) (fun c4 => ?_)))))))
  · refine Ac fun _ k=>Aa Ae (Ad k (Af (Aq ?_))); exact bF (fun h => by have h1 := (hjp.1 h).1; omega)
  refine As ?_; have hg1 := mn_get (l := l) (i := j1) (by omega) (by omega); have hg2 := mn_get (l := l) (i := j2) (by omega) (by omega); obtain ⟨A1, hA1⟩ : ∃ A, A = DA l j1 := ⟨_, rfl⟩; obtain ⟨A2, hA2⟩ : ∃ A, A = DA l j2 := ⟨_, rfl⟩; rw [← hA1] at hg1 hjp; rw [← hA2] at hg2 hjp; clear hA1 hA2; obtain ⟨⟨a1, a2, a3, a4, a5, a6⟩, a7, a8, a9⟩ := A1; obtain ⟨⟨b1, b2, b3, b4, b5, b6⟩, b7, b8, b9⟩ := A2
  dsimp only at hjp
  refine Ev.sl (C8 [(0, 0), (0, 0), (2, 2), (3, 7), (4, 15), (0, 0), (0, 0), (7, 64), (8, 224), (9, 480), (0, 0), (0, 0), (12, 3103), (13, 8191)]) 12 fun _ k=>Ak Ab (Ak (Ap 0 FA Ah) (Ak (At Al) (Ak (AL am_el103 Fa (hl := (by exact AY hg1 (by omega)))) (Ak (BF _ am_ag183 Fa) (Ak Ab (Ak (Ap 1 FC Ah) (Ak (At Al) (Ak (AL am_el103 Fa (hl := (by exact AY hg2 (by omega)))) (Ak (BF _ am_ag183 Fa) (Gs [_] (Bd am_ze183) (h := Gs [_, _] (Bd am_ze183) (h := M.late [_, _, _, _, _, _, _, _, _] true [_, _, _] am_in183 Fa (h := AC _ true [_, _] am_in183 Fa (h := Ad k (Ac fun _ k=>Aa (Ap 6 am_fi183_1 am_cl4) (Aa (At am_ag4) (S.bb Ab (fun c5 => ?_) (fun c5 => ?_))))))))))))))))))
  · refine Aa (Ap 6 am_fi183_1 am_cl4) (Aa (At am_ag4) (Aa A5 (S.bb Ab (fun c6 => ?_) (fun c6 => ?_))))
    · refine Aa (Ap 0 GL AB) (Aa (Ap 0 AR Am) (Aa (Ap 0 AU Ah) (Aa (At Al) (Aa (Ap 0 GL AB) (Aa (Ap 0 AR Am) (Aa (Ap 0 AU Ah) (Aa (At Al) (Aa Ay (Aa A5 (AP Ab (fun c7 => ?_) (fun c7 => ?_)))))))))))
      · refine Aa (Ap 0 GL AB) (Aa (Ap 3 AQ Am) (Aa (Ap 3 AU Ah) (Aa (At Al) (Aa (Ap 0 GL AB) (Aa (Ap 3 AQ Am) (Aa (Ap 3 AU Ah) (Aa (At Al) (Aa Ay (Aa A5 (AP Ab (fun c8 => ?_) (fun c8 => ?_)))))))))))
        · refine Aa (Ap 0 GL AB) (Aa (Ap 3 AQ Am) (Aa (Ap 3 AU Ah) (Aa (At Al) (Aa (Ap 0 GL AB) (Aa (Ap 0 AR Am) (Aa (Ap 0 AU Ah) (Aa (At Al) (Aa C7 (Aa A5 (Aa Ae (Ad k (Af (Aq ?_))))))))))))); exact dI ⟨fun h => hjp.2 ⟨by omega, ‹_›, ‹_›, by omega, by omega, by omega⟩, fun h => by have h1 := (hjp.1 h).2.2.2; omega⟩
        refine Ai (Ai (Ai (Ai (A9 (Aa Au (Aa Ae (Ad k (Af (Aq ?_))))))))); exact bF (fun h => by have h1 := (hjp.1 h).2.1; simp_all)
      refine Ai (Ai (Ai (Ai (A9 (Aa Au (Aa Ab (Ai (Ai (Ai (Ai (A9 (Aa Au (Aa Ae (Ad k (Af (Aq ?_)))))))))))))))); exact bF (fun h => by have h1 := (hjp.1 h).2.1; simp_all)
    refine Ai (Ai (Ai (Ai (A9 (Aa Au (Aa Ab (Ai (Ai (Ai (Ai (A9 (Aa Au (Aa Ab (Ai (Ai (Ai (Ai (A9 (Aa Au (Aa Ae (Ad k (Af (Aq ?_))))))))))))))))))))))); exact bF (fun h => by have h1 := (hjp.1 h).2.1; simp_all)
  refine Ai (Aa Au (Aa Ab (Ai (Ai (Ai (Ai (A9 (Aa Au (Aa Ab (Ai (Ai (Ai (Ai (A9 (Aa Au (Aa Ab (Ai (Ai (Ai (Ai (A9 (Aa Au (Aa Ae (Ad k (Af (Aq ?_)))))))))))))))))))))))))); exact bF (fun h => by have h1 := (hjp.1 h).2.1; simp_all)
theorem look_fun (x : Det) (hw : x.w) : Fun Tryz.prog 47 [.agg x.c] (AK (.tup [.sh 9 ((lookV x).map Mn.c), bL (decide (Do x))]) []) := by
  obtain ⟨hw1, ⟨hw2, hw2b⟩, ⟨hw3, hw3b⟩, hw4, hw5, hw6⟩ := id hw; have hdo : Do x ↔ (memOK x.mem ∧ Dq x.bars x.runs ∧ okDems x.dems ∧ G6 x.rule ∧ x.laps.length ≤ 1000) ∧ lapsOK (CD x.bars x.runs) x.laps := Iff.rfl; have hf : ¬ ((memOK x.mem ∧ Dq x.bars x.runs ∧ okDems x.dems ∧ G6 x.rule ∧ x.laps.length ≤ 1000) ∧ lapsOK (CD x.bars x.runs) x.laps) → lookV x = [] ∧ decide (Do x) = false := fun h => look_f (fun h2 => h (hdo.1 h2)); refine Fun.of (nt := 74) (rs := [.tmp 2, .tmp 3]) Tryz.func47 rfl rfl rfl rfl rfl (Ac fun _ k=>A4 (Be _ true) (Aa Ae (Aa Ae (Ad k (An (Ac fun _ k=>Aa (Ap 0 am_fi34_0 am_cl26) (Aa (Av _ am_ag26 am_cl26) (A3 (hF := member_fun x.mem hw1) (h := Aa BB (DV Ab (fun c1 => ?_) (fun c1 => ?_)))))))))))
  · refine Ai (Ai (Ai (Aa A5 (Aa Ab (Ai (Ai (Aa A5 (Aa Ab (Ai (Ai (Aa A5 (Aa Ab (Ai (Ai (Aa A5 (Ad k (B3 (Ac fun _ k=>Aa Ae (Aa Ae (Ad k (AT (Wk.nsh Mn.c 2 9) (Af (CC ?_))))))))))))))))))))))); rw [(hf (fun h => absurd h.1.1 ‹_›)).1, (hf (fun h => absurd h.1.1 ‹_›)).2]
  refine Aa (Ap 6 Eh Fu) (Aa (At Fx) (Aa (Ap 7 E9 FG) (Aa (At FD) (A3 (hF := laidValid_fun x.bars x.runs hw2 hw2b hw3 hw3b) (h := Aa BB (Aa Au (DV Ab (fun c2 => ?_) (fun c2 => ?_))))))))
  · refine Ai (Ai (Aa A5 (Aa Ab (Ai (Ai (Aa A5 (Aa Ab (Ai (Ai (Aa A5 (Ad k (B3 (Ac fun _ k=>Aa Ae (Aa Ae (Ad k (AT (Wk.nsh Mn.c 2 9) (Af (CC ?_)))))))))))))))))); rw [(hf (fun h => absurd h.1.2.1 ‹_›)).1, (hf (fun h => absurd h.1.2.1 ‹_›)).2]
  refine Aa (Ap 9 am_fi34_4 am_cl30) (Aa (At am_ag30) (A3 (hF := demValid_fun x.dems hw5 hw6) (h := Aa BB (Aa Au (DV Ab (fun c3 => ?_) (fun c3 => ?_))))))
  · refine Ai (Ai (Aa A5 (Aa Ab (Ai (Ai (Aa A5 (Ad k (B3 (Ac fun _ k=>Aa Ae (Aa Ae (Ad k (AT (Wk.nsh Mn.c 2 9) (Af (CC ?_)))))))))))))); rw [(hf (fun h => absurd h.1.2.2.1 ‹_›)).1, (hf (fun h => absurd h.1.2.2.1 ‹_›)).2]
  refine Aa (Ap 10 am_fi34_5 am_cl32) (Aa (Av _ am_ag32 am_cl32) (A3 (hF := ruleValid_fun x.rule) (h := Aa BB (Aa Au (DV Ab (fun c4 => ?_) (fun c4 => ?_))))))
  · refine Ai (Ai (Aa A5 (Ad k (B3 (Ac fun _ k=>Aa Ae (Aa Ae (Ad k (AT (Wk.nsh Mn.c 2 9) (Af (CC ?_)))))))))); rw [(hf (fun h => absurd h.1.2.2.2.1 ‹_›)).1, (hf (fun h => absurd h.1.2.2.2.1 ‹_›)).2]
  refine Aa (Ap 8 EA FF) (Aa (At FI) (Aa (A7 EZ) (Aa Bh (Aa Au (Ad k (Ax (fun c5 => ?_) (fun c5 => ?_)))))))
  · refine Ac fun _ k=>Aa Ae (Aa Ae (Ad k (AT (Wk.nsh Mn.c 2 9) (Af (CC ?_))))); have hg := hf (fun h => by have h1 := h.1.2.2.2.2; omega); rw [hg.1, hg.2]
  refine As ?_; have hba : memOK x.mem ∧ Dq x.bars x.runs ∧ okDems x.dems ∧ G6 x.rule ∧ x.laps.length ≤ 1000 := ⟨‹_›, ‹_›, ‹_›, ‹_›, by omega⟩; have hml := mains_len hba.2.1
  refine Ac fun _ k=>Aa (Av _ Dh Dl) (A3 (hF := mains_fun x hw ‹Dq x.bars x.runs›) (h := Aa Ae (Ad k (Ac fun _ k=>A4 (v := .hd 1) (o := ⟨true, 135, 3, ([] : List (Int × Bool)).map (rowK (Value.int .i64) (Value.bool)), true⟩) (q.mm Gp) (A4 (v := .hd 2) (o := ⟨true, 135, 3, ([] : List (Int × Bool)).map (rowK (Value.int .i64) (Value.bool)), true⟩) (q.mm Gp) (Aa Ae (Aa Ae (Ad k (An (Ac fun _ k=>Aa (Ap 8 EA FF) (Aa (At FI) (Aa (A7 EZ) (Aa Ab (Ad k (Ar (AI (ι := {q : List (Int × Int) × List (Int × Int) // q.1 ++ q.2 = x.laps ∧ lapsOK (CD x.bars x.runs) q.1}) [0, 1, 2] [4, 5, 6, 44, 45] (fun ⟨(pre, suf), _⟩ => [(46, iL (pre.length : Int))]) (fun ⟨(pre, suf), _⟩ => [(0, ⟨false, 34, 19, [[sL (x.mem.name), .sh 6 ((x.mem.bs).map Bx.c), .sh 6 ((x.mem.hs).map Bx.c), iL (x.mem.cov), iL (x.mem.agg), iL (x.mem.pok), .sh 5 ((x.bars).map Bar.c), .sh 10 ((x.runs).map Rn.c), .sh 2 ((x.laps).map CB), .sh 8 ((x.dems).map Dem.c), iL (x.rule.r1), iL (x.rule.r2), iL (x.rule.r3), iL (x.rule.r4), iL (x.rule.r5), iL (x.rule.r6), iL (x.rule.r7), iL (x.rule.r8), iL (x.rule.r9)]], true⟩), (1, ⟨true, 135, 3, (f1M pre).map (rowK (Value.int .i64) (Value.bool)), true⟩), (2, ⟨true, 135, 3, (f2M pre).map (rowK (Value.int .i64) (Value.bool)), true⟩)]) (fun ⟨(pre, suf), _⟩ => suf.length) ⟨([], x.laps), rfl, ⟨fun j hj => by simp at hj, by simp⟩⟩ (.c (.c (.c (.c (.c .n))))) (Aj (h := (Aj (h := (Aj))))) (Ag) ?_))))))))))))))))
  rintro ⟨⟨pre, suf⟩, hp, hinv⟩ R0 hR0; dsimp only [cA, nA, lC, lN]
  simp only at hp hinv
  have hpl := Cd hp
  rcases suf with _ | ⟨s, suf⟩
  · rw [List.append_nil] at hp; simp only [lN] at hpl; refine Ac fun _ k=>Aa Ay (Ad k (By (fun c6 => ?_) (fun c6 => ?_)))
    · omega
    refine AO (hR0 _ _ (Ac fun _ k=>Aa Ab (Aa Ae (Aa Ae (Ad k (Af (CC ?_))))))); have hg := look_t (hdo.2 ⟨hba, by rw [← hp]; exact hinv⟩); rw [hg.1, hg.2]
  simp only [lC] at hpl; have hidx := Ch hp; obtain ⟨s1, s2⟩ := s; refine Ac fun _ k=>Aa Ay (Ad k (By (fun c7 => ?_) (fun c7 => ?_)))
  · refine An (Ar (Ac fun _ k=>Aa (AL EZ G5 (hl := (by exact AY hidx (by omega)))) (Aa (BF _ am_ag94 G5) (A4 (Bd am_ze94) (AC _ true [_, _, _] am_in94 G5 (h := Ad k (An (Ac fun _ k=>Aa Ab (Aa (Av _ am_ag94 G5) (A3 (hF := joint_fun (CD x.bars x.runs) (s1, s2) (by omega)) (h := Aa BB (DV Ab (fun c8 => ?_) (fun c8 => ?_)))))))))))))
    · refine Ai (Ai (Aa A5 (Aa Ab (Ai (Ai (Aa A5 (Ad k (B3 (Ac fun _ k=>Aa Ae (Aa Ae (Ad k (AT (Wk.nsh Mn.c 2 9) (Af (hR0 _ _ (CC ?_))))))))))))))); have hg := hf (fun h => absurd (laps_cut hp h.2).1 ‹_›); rw [hg.1, hg.2]
    refine Aa Ab (Aa (Ap 0 FA Ah) (Aa (At Al) (Aa (q.lk (vv := (Value.bool)) klI Gp) (Aa Au (S.bb Ab (fun c9 => ?_) (fun c9 => ?_))))))
    · refine Ai (Ai (Aa A5 (Ad k (B3 (Ac fun _ k=>Aa Ae (Aa Ae (Ad k (AT (Wk.nsh Mn.c 2 9) (Af (hR0 _ _ (CC ?_))))))))))); have hg := hf (fun h => (laps_cut hp h.2).2.1 (f1_yes ‹_›)); rw [hg.1, hg.2]
    refine Aa Ab (Aa (Ap 1 FC Ah) (Aa (At Al) (Aa (q.lk (vv := (Value.bool)) klI Gp) (Aa Au (Ad k (Ev.c (fun c10 => ?_) (fun c10 => ?_)))))))
    · refine Ac fun _ k=>Aa Ae (Aa Ae (Ad k (AT (Wk.nsh Mn.c 2 9) (Af (hR0 _ _ (CC ?_)))))); have hg := hf (fun h => (laps_cut hp h.2).2.2 (f2_yes ‹_›)); rw [hg.1, hg.2]
    refine As (Ev.rtp (m := 8) (L0 := #[false, false, false, false, false, false, false, false]) rfl (by kernel_rfl) (by exact rfl) fun _ k=>(HP.mv (i := 0) rfl (h := (HP.fa (i := 1) FA (by rw [Ah]; decide) rfl (h := (HP.mv (i := 3) rfl (h := (HP.fa (i := 4) FC (by rw [Ah]; decide) rfl (h := (.done (Dz (i := 2) (j := 5) trivial rfl rfl (Aa (At Al) (AD ?_)) (Aa (At Al) (AD ?_)))))))))))))
    · skip; refine Dz (i := 5) (j := 6) trivial rfl rfl (Aa (At Al) (AD ?_)) (S.mu (vv := (Value.bool)) [_, _, _] klI Gp (fun _ => rfl) (hn := AD ?_))
      · skip; refine AN (i := 6) trivial rfl (S.mu (vv := (Value.bool)) [_, _, _] klI Gp (fun _ => rfl) (hn := AD (AN (i := 7) trivial rfl (S.mu (vv := (Value.bool)) [_, _, _] klI Gp (fun _ => rfl) (hn := AD (Cw trivial (by kernel_rfl) (k _ ?_))))))); show Ev _ _ _ _; refine Ao fun _ k=>Aa A6 (Aa Ab (Ad k (hR0 _ _ (A8 [0, 1, 2] [4, 5, 6, 44, 45] ⟨(pre ++ [(s1, s2)], suf), B2 hp, ?_⟩ BX (Aj (h := (Aj (he := (by rw [f1M_snoc])) (h := (Aj (he := (by rw [f2M_snoc]))))))) (Ag (he := (by congr 2; simp))) (.c (.c (.c (.c (.c .n))))))))); exact laps_snoc hinv ‹_› (f1_no ‹_›) (f2_no ‹_›)
      skip; refine AN (i := 5) trivial rfl (Aa (At Al) (AD (AN (i := 7) trivial rfl (S.mu (vv := (Value.bool)) [_, _, _] klI Gp (fun _ => rfl) (hn := AD (Cw trivial (by kernel_rfl) (k _ ?_))))))); show Ev _ _ _ _; refine Ao fun _ k=>Aa A6 (Aa Ab (Ad k (hR0 _ _ (A8 [0, 1, 2] [4, 5, 6, 44, 45] ⟨(pre ++ [(s1, s2)], suf), B2 hp, ?_⟩ BX (Aj (h := (Aj (he := (by rw [f1M_snoc])) (h := (Aj (he := (by rw [f2M_snoc]))))))) (Ag (he := (by congr 2; simp))) (.c (.c (.c (.c (.c .n))))))))); exact laps_snoc hinv ‹_› (f1_no ‹_›) (f2_no ‹_›)
    skip; refine AN (i := 2) trivial rfl (Aa (At Al) (AD (AN (i := 6) trivial rfl (S.mu (vv := (Value.bool)) [_, _, _] klI Gp (fun _ => rfl) (hn := AD (AN (i := 7) trivial rfl (S.mu (vv := (Value.bool)) [_, _, _] klI Gp (fun _ => rfl) (hn := AD (Cw trivial (by kernel_rfl) (k _ ?_)))))))))); show Ev _ _ _ _; refine Ao fun _ k=>Aa A6 (Aa Ab (Ad k (hR0 _ _ (A8 [0, 1, 2] [4, 5, 6, 44, 45] ⟨(pre ++ [(s1, s2)], suf), B2 hp, ?_⟩ BX (Aj (h := (Aj (he := (by rw [f1M_snoc])) (h := (Aj (he := (by rw [f2M_snoc]))))))) (Ag (he := (by congr 2; simp))) (.c (.c (.c (.c (.c .n))))))))); exact laps_snoc hinv ‹_› (f1_no ‹_›) (f2_no ‹_›)
  omega
theorem detValid_fun (x : Det) (hw : x.w) : Fun Tryz.prog 23 [.agg x.c] (AK (bL (decide (Do x))) []) := by
  refine Fun.of (nt := 11) (rs := [.tmp 2]) Tryz.func23 rfl rfl rfl rfl rfl (Ac fun _ k=>A4 (Be _ true) (Aa Ae (Ad k (Ac fun _ k=>Aa (Av _ Dh Dl) (A3 (hF := look_fun x hw) (h := Aa Ab (Aa BA (Aa BA (Aa Ae (Aa Ae (Ad k (Ac fun _ k=>Aa Ab (Aa Ae (Ad k (Af (Aq ?_)))))))))))))))); rfl
def DB (l : List Bar) (d : Int) : Int := l.foldl (fun a b => if b.size = d then a + EY b else a) 0
theorem ofSum_snoc (l : List Bar) (s : Bar) (d : Int) : DB (l ++ [s]) d = if s.size = d then DB l d + EY s else DB l d := by simp [DB]
def E5 (l : List Bar) : List Int := BR.map (DB l)
def totM (l : List Bar) : Int := l.foldl (fun a b => a + EY b) 0
theorem totM_snoc (l : List Bar) (s : Bar) : totM (l ++ [s]) = totM l + EY s := by simp [totM]
theorem sumsAt_snoc (l : List Bar) (s : Bar) (h : s.size ∈ BR) : 0 ≤ idxI BR s.size ∧ idxI BR s.size < 9 ∧ (E5 l)[(idxI BR s.size).toNat]? = some (DB l s.size) ∧
    (E5 l).set (idxI BR s.size).toNat (DB l s.size + EY s) = E5 (l ++ [s]) ∧ BU (E5 (l ++ [s])) = BU (E5 l) + EY s := by
  have e : ∀ d, DB (l ++ [s]) d = if s.size = d then DB l d + EY s else DB l d := ofSum_snoc l s; have h' := h; simp only [BR, List.mem_cons, List.not_mem_nil, or_false] at h'
  rcases h' with h' | h' | h' | h' | h' | h' | h' | h' | h' <;> rw [h'] at e ⊢ <;> refine ⟨by decide, by decide, rfl, ?_, ?_⟩ <;>
    simp only [E5, BR, List.map_cons, List.map_nil, e] <;> simp [idxI, CN, BU] <;> omega
theorem ofSum_bd : ∀ (l : List Bar), (∀ b ∈ l, Cg b) → ∀ d, 0 ≤ DB l d ∧ DB l d ≤ 10343154000 * l.length := by
  refine CY (fun _ d => ⟨Int.le_refl _, by simp [DB]⟩) ?_; intro l s ih h d; obtain ⟨i1, i2⟩ := ih (fun b hb => h b (by simp [hb])) d; obtain ⟨_, _, h3, h4⟩ := F6 (h s (by simp)); rw [ofSum_snoc, List.length_append, List.length_singleton]
  split <;> omega
theorem totM_bd : ∀ (l : List Bar), (∀ b ∈ l, Cg b) → (0 ≤ totM l ∧ totM l ≤ 10343154000 * l.length) ∧ BU (E5 l) = totM l := by
  refine CY (fun _ => by decide) ?_; intro l s ih h; obtain ⟨⟨i1, i2⟩, i3⟩ := ih (fun b hb => h b (by simp [hb])); obtain ⟨_, _, h3, h4⟩ := F6 (h s (by simp)); have := (sumsAt_snoc l s (h s (by simp)).2.1).2.2.2.2; rw [totM_snoc, List.length_append, List.length_singleton]; refine ⟨by omega, by omega⟩
theorem sums_len (l : List Bar) : (E5 l).length = 9 := by simp [E5, BR]
theorem masses_fun (l : List Bar) (hw : Gl l) (hok : CJ l) : Fun Tryz.prog 24 [.sh 5 (l.map Bar.c)] (AK (.sh 1 ((E5 l).map Cz)) []) := by
  have hl := hok.1; have hs9 : BR.length = 9 := rfl; refine Fun.of (nt := 36) (rs := [.tmp 2]) Tryz.func24 rfl rfl rfl rfl rfl ?_; refine Ac fun _ k=>Aa Ae (Ad k ?_); refine Ac fun _ k=>A3 (hF := sizes_fun) (h := Aa Ae (Ad k ?_)); refine Ac fun _ k=>Aa Ab (Aa (A7 AG) (S.mkf (f := Cz) (0) AG Ed Ah am_by3 (h := Aa Ae (Ad k ?_)))); refine An (Ac fun _ k=>Aa Ab (Aa (A7 BO) (Aa Ab (Ad k ?_)))); refine Ar (AI (ι := {p : List (Bar) × List (Bar) // p.1 ++ p.2 = l ∧ True}) [0] [3, 13, 14] (fun ⟨(pre, suf), _⟩ => [(15, iL (pre.length : Int)), (4, .als 0 0 (E5 pre).length)]) (fun ⟨(pre, suf), _⟩ => [(0, ⟨true, 3, 1, (E5 pre).map Cz, true⟩)]) (fun ⟨(pre, suf), _⟩ => suf.length) ⟨([], l), rfl, trivial⟩ (.c (.c (.c .n))) (Aj) (Ag (h := (Ag))) ?_); rintro ⟨⟨pre, suf⟩, hp, hinv⟩ R0 hR0; dsimp only [cA, nA, lC, lN]
  simp only at hp hinv
  have hpl := Cd hp
  rcases suf with _ | ⟨s, suf⟩
  · rw [List.append_nil] at hp; simp only [lN] at hpl; refine Ac fun _ k=>Aa Ay (Ad k ?_); refine By (fun c1 => ?_) (fun c1 => ?_)
    · omega
    refine AO (hR0 _ _ (Ac fun _ k=>Aa Ab (Aa Ae (Ad k ?_)))); refine AT (Wk.frz 2 []) ?_; refine Af (Aq ?_); rw [← hp]
  simp only [lC] at hpl; have hidx := Ch hp; have hsw : s.w := hw s (by rw [← hp]; simp); have hsok : Cg s := hok.2.1 s (by rw [← hp]; simp); refine Ac fun _ k=>Aa Ay (Ad k ?_); refine By (fun c2 => ?_) (fun c2 => ?_)
  · refine An (Ar (Ac fun _ k=>Aa (AL BO Bv (hl := (by exact AY hidx (by omega)))) (Aa (BF _ Cm Bv) (A4 (Bd am_ze72) (AC _ true [_] am_in72 Bv (h := Ad k ?_)))))); refine Ac fun _ k=>Aa (Av _ Cm Bv) (A3 (hF := barMass_fun _ (by assumption)) (h := Aa Ab (Aa BA (Aa BA (Aa Ae (Aa Ae (Ad k ?_))))))); obtain ⟨m1, m2, m3, m4⟩ := F6 hsok; have e1 : okV s (EY s) = EY s := okV_in hsok; obtain ⟨i1, i2, i3, i4, i5⟩ := sumsAt_snoc pre s hsok.2.1; obtain ⟨o1, o2⟩ := ofSum_bd pre (fun b hb => hok.2.1 b (by rw [← hp]; simp [hb])) s.size; have hsl := sums_len pre; rw [e1]; refine Ao fun _ k=>Aa Ab (Aa Ab (Aa (Ap 1 DT Ah) (Aa (At Al) (A3 (hF := index_fun _ _ (by omega)) (h := Aa (q.ia AG Ah) (Aa (q.lx Al (hl := (by exact at_ i3 (by omega)))) (Aa Ab (Aa A6 (Aa (q.ia AG Ah) (S.sx _ [_] Ej Ah (hl := (by exact at_ i3 (by omega))) (h := Ad k ?_))))))))))); show Ev _ _ _ _; refine Ao fun _ k=>Aa A6 (Aa Ab (Ad k ?_)); refine hR0 _ _ (A8 [0] [3, 13, 14] ⟨(pre ++ [s], suf), B2 hp, trivial⟩ BX (Aj (he := (by exact congrArg _ i4))) (Ag (he := (by congr 2; simp)) (h := (Ag))) (.c (.c (.c .n))))
  omega
def E8 (l : List Bar) (q : List Int) : List (Int × Int) := (q.filter (fun d => decide (∃ b ∈ l, decide (b.size = d) = true))).map (fun d => (d, DB l d))
theorem EM (l : List Bar) (q : List Int) (d : Int) : E8 l (q ++ [d]) = if ∃ b ∈ l, decide (b.size = d) = true then E8 l q ++ [(d, DB l d)] else E8 l q := by
  unfold E8
  rw [List.filter_append, List.map_append]
  split
  · rename_i h
    have e : [d].filter (fun d => decide (∃ b ∈ l, decide (b.size = d) = true)) = [d] := by rw [List.filter_cons, if_pos (decide_eq_true h)]; rfl
    rw [e]; rfl
  rename_i h
  rw [List.filter_cons_of_neg (by simpa using h)]; simp
theorem massesP_len (l : List Bar) (q : List Int) : (E8 l q).length ≤ q.length := by
  rw [E8, List.length_map]; exact List.length_filter_le _ _
def massesV (l : List Bar) : List (Int × Int) := if CJ l then E8 l BR else []
def schedE (l : List Bar) : Int := if CJ l then 0 else 1
def totV (l : List Bar) : Int := if CJ l then totM l else 0
theorem size_is_fun (d : Int) (b : Bar) : Fun Tryz.prog 45 [.agg b.c, .sadr [iL d] 0] (AK (bL (decide (b.size = d))) []) := by
  refine Fun.of (nt := 8) (rs := [.tmp 3]) Tryz.func45 rfl rfl rfl rfl rfl ?_; refine Ac fun _ k=>A4 (Be _ true) (Aa Ae (Ad k ?_)); refine Ac fun _ k=>Aa (Ap 1 DT Ah) (Aa (At Al) (Aa (Bc Al) (Aa B6 (Aa Ae (Ad k ?_))))); refine Af (Aq ?_); rfl
theorem Masses_fun (l : List Bar) (hlen : l.length ≤ 140737488355328) (hw : Gl l) : Fun Tryz.prog 17 [.sh 5 (l.map Bar.c)] (AK (.tup [.sh 2 ((massesV l).map CB), iL (schedE l)]) []) := by
  have hs9 : BR.length = 9 := rfl; have hsl := sums_len l; refine Fun.of (nt := 34) (rs := [.tmp 2, .tmp 3]) Tryz.func17 rfl rfl rfl rfl rfl ?_; refine Ac fun _ k=>Aa Ae (Aa Ae (Ad k ?_)); refine An (Ac fun _ k=>Aa Ab (A3 (hF := schedValid_fun _ (by omega) (by assumption)) (h := Aa BB (Ad k ?_)))); refine Cb (fun c1 => ?_) (fun c1 => ?_)
  · refine Ac fun _ k=>Aa Ae (Aa Ae (Ad k ?_)); refine AT (Wk.nsh CB 2 2) ?_; refine Af (CC ?_); rw [massesV, schedE, if_neg ‹_›, if_neg ‹_›]
  refine As (Ac fun _ k=>Aa Ab (A3 (hF := masses_fun _ (by assumption) (by assumption)) (h := Aa Ae (Ad k ?_)))); refine Ac fun _ k=>Aa Ae (Ad k ?_); refine An (Ac fun _ k=>A3 (hF := sizes_fun) (h := Aa (A7 AG) (Aa Ab (Ad k ?_)))); refine Ar (AT (Wk.nown CB 5 62 2) ?_); refine AI (ι := {p : List (Int) × List (Int) // p.1 ++ p.2 = BR ∧ True}) [0] [0, 4, 13, 14] (fun ⟨(pre, suf), _⟩ => [(15, iL (pre.length : Int)), (5, .als 0 0 (E8 l pre).length)]) (fun ⟨(pre, suf), _⟩ => [(0, ⟨true, 62, 2, (E8 l pre).map CB, true⟩)]) (fun ⟨(pre, suf), _⟩ => suf.length) ⟨([], BR), rfl, trivial⟩ (.c (.c (.c (.c .n)))) (Aj) (Ag (h := (Ag))) ?_; rintro ⟨⟨pre, suf⟩, hp, hinv⟩ R0 hR0; dsimp only [cA, nA, lC, lN]
  simp only at hp hinv
  have hpl := Cd hp
  rcases suf with _ | ⟨s, suf⟩
  · rw [List.append_nil] at hp; simp only [lN] at hpl; refine Ac fun _ k=>Aa Ay (Ad k ?_); refine By (fun c2 => ?_) (fun c2 => ?_)
    · omega
    refine AO (hR0 _ _ (Ac fun _ k=>Aa Ab (Aa Ae (Aa Ae (Ad k ?_))))); refine AT (Wk.frz 2 []) ?_; refine Af (CC ?_); rw [massesV, schedE, if_pos ‹_›, if_pos ‹_›, ← hp]
  simp only [lC] at hpl; have hidx := Ch hp
  have hsum : (E5 l)[pre.length]? = some (DB l s) := by rw [E5, List.getElem?_map, hidx]; rfl
  have hml := massesP_len l pre; refine Ac fun _ k=>Aa Ay (Ad k ?_); refine By (fun c4 => ?_) (fun c4 => ?_)
  · refine An (Ar (Ac fun _ k=>Aa Ab (Aa (AL AG Ah (hl := (by exact AY hidx (by omega)))) (Aa (Bc Al) (A4 (Bd Ed) (Aa Ae (AC _ true [_] Ej Ah (h := Ad k ?_)))))))); refine Ac fun _ k=>Aa Ab (Aa q.mf (A3 (hF := containsFuncBar1 _ _ _ (size_is_fun _) l (by omega)) (h := Ad k ?_))); refine Ax (fun c5 => ?_) (fun c5 => ?_)
    · refine CH (C8 [(0, 0), (0, 0), (0, 0), (0, 0), (4, 12), (5, 28), (6, 62), (7, 126), (8, 255), (9, 511)]) 8 fun _ k=>Ak Ab (Ak (At Al) (Ak Ab (Ak Ab (Ak (AL AG Ah (hl := (by exact AY hsum (by omega)))) (Ak (Bc Al) (Ak (Bj _ am_ze62 am_pl62) (Gs [_] (C3 [[_, _]] true CG am_ze62 Dw) (h := Bz [_, _, _] (h := DJ [_, _] CG am_ze62 Dw am_by62 (hh := Cu) (hr := (CS [(⟨_, _⟩ : Int × Int)])) (h := Aa Ae (Ad k ?_))))))))))); show Ev _ _ _ _; refine Ao fun _ k=>Aa A6 (Aa Ab (Ad k ?_)); refine hR0 _ _ (A8 [34] [0, 4, 13, 14] ⟨(pre ++ [s], suf), B2 hp, trivial⟩ BX (Aj (he := (by rw [EM, if_pos ‹_›]))) (Ag (he := (by congr 2; simp)) (h := (Ag (he := (by congr 1; rw [EM, if_pos ‹_›]))))) (.c (.c (.c (.c .n)))))
    refine As (Ao fun _ k=>Aa A6 (Aa Ab (Ad k ?_))); refine hR0 _ _ (A8 [0] [0, 4, 13, 14] ⟨(pre ++ [s], suf), B2 hp, trivial⟩ BX (Aj (he := (by rw [EM, if_neg ‹_›]))) (Ag (he := (by congr 2; simp)) (h := (Ag (he := (by congr 1; rw [EM, if_neg ‹_›]))))) (.c (.c (.c (.c .n)))))
  omega
theorem Total_fun (l : List Bar) (hlen : l.length ≤ 140737488355328) (hw : Gl l) : Fun Tryz.prog 10 [.sh 5 (l.map Bar.c)] (AK (.tup [iL (totV l), iL (schedE l)]) []) := by
  have hsl := sums_len l; refine Fun.of (nt := 22) (rs := [.tmp 2, .tmp 3]) Tryz.func10 rfl rfl rfl rfl rfl ?_; refine Ac fun _ k=>Aa Ae (Aa Ae (Ad k ?_)); refine An (Ac fun _ k=>Aa Ab (A3 (hF := schedValid_fun _ (by omega) (by assumption)) (h := Aa BB (Ad k ?_)))); refine Cb (fun c1 => ?_) (fun c1 => ?_)
  · refine Ac fun _ k=>Aa Ae (Aa Ae (Ad k ?_)); refine Af (CC ?_); rw [totV, schedE, if_neg ‹_›, if_neg ‹_›]
  refine As ?_; have hok : CJ l := ‹_›; have htot := (totM_bd l hok.2.1).2; have hl60 := hok.1
  have hob : ∀ n ∈ E5 l, 0 ≤ n ∧ n ≤ 620589240000 := fun n hn => by
    rw [E5, List.mem_map] at hn; obtain ⟨d, _, rfl⟩ := hn; have := ofSum_bd l hok.2.1 d; omega
  refine Ac fun _ k=>Aa Ae (Ad k ?_); refine An (Ac fun _ k=>Aa Ab (A3 (hF := masses_fun _ (by assumption) (by assumption)) (h := Aa (A7 AG) (Aa Ab (Ad k ?_))))); refine Ar (AI (ι := {q : List Int × List Int // q.1 ++ q.2 = E5 l ∧ 0 ≤ BU q.1 ∧ BU q.1 ≤ 620589240000 * q.1.length}) [] [11, 12] (fun ⟨(pre, suf), _⟩ => [(13, iL (pre.length : Int)), (4, iL (BU pre))]) (fun ⟨(pre, suf), _⟩ => []) (fun ⟨(pre, suf), _⟩ => suf.length) ⟨([], (E5 l)), rfl, (by decide : 0 ≤ BU [] ∧ BU [] ≤ 620589240000 * (([] : List Int).length : Int))⟩ (.c (.c .n)) AW (Ag (h := (Ag))) ?_); rintro ⟨⟨pre, suf⟩, hp, hinv⟩ R0 hR0; dsimp only [cA, nA, lC, lN]
  simp only at hp hinv
  have hpl := Cd hp
  rcases suf with _ | ⟨s, suf⟩
  · rw [List.append_nil] at hp; simp only [lN] at hpl; refine Ac fun _ k=>Aa Ay (Ad k ?_); refine By (fun c2 => ?_) (fun c2 => ?_)
    · omega
    refine AO (hR0 _ _ (Ac fun _ k=>Aa Ab (Aa Ae (Aa Ae (Ad k ?_))))); refine Af (CC ?_); rw [totV, schedE, if_pos ‹_›, if_pos ‹_›, ← htot, ← hp]
  simp only [lC] at hpl; have hidx := Ch hp; have hsb := hob s (by rw [← hp]; simp); obtain ⟨v1, v2⟩ := hinv; refine Ac fun _ k=>Aa Ay (Ad k ?_); refine By (fun c3 => ?_) (fun c3 => ?_)
  · refine An (Ar (Ac fun _ k=>Aa (AL AG Ah (hl := (by exact AY hidx (by omega)))) (Aa (Bc Al) (Aa Ae (Ad k ?_))))); refine Ao fun _ k=>Aa Ab (Aa Ab (Aa A6 (Aa Ae (Ad k ?_)))); show Ev _ _ _ _; refine Ao fun _ k=>Aa A6 (Aa Ab (Ad k ?_)); refine hR0 _ _ (A8 [] [11, 12] ⟨(pre ++ [s], suf), B2 hp, ?_⟩ BX AW (Ag (he := (by congr 2; simp)) (h := (Ag (he := (by congr 2; rw [FL, show BU [s] = s by simp [BU]]))))) (.c (.c .n)))
    (rw [FL, show BU [s] = s by simp [BU], List.length_append, List.length_singleton]; omega)
  omega
theorem rhas_fun (l : List Bar) (d : Int) (hlen : l.length ≤ 140737488355328) : Fun Tryz.prog 81 [.sh 5 (l.map Bar.c), iL d] (AK (bL (decide (∃ b ∈ l, decide (b.size = d) = true))) []) := by
  refine Fun.of (nt := 19) (rs := [.tmp 4]) Tryz.func81 rfl rfl rfl rfl rfl ?_; refine Ac fun _ k=>Aa Ae (Ad k ?_); refine An (Ac fun _ k=>Aa Ae (Ad k ?_)); refine Ar (AI (ι := {q : List Bar × List Bar // q.1 ++ q.2 = l ∧ ∀ x ∈ q.1, ¬ x.size = d}) [] [0, 1] (fun ⟨(pre, suf), _⟩ => [(5, iL (pre.length : Int))]) (fun ⟨(pre, suf), _⟩ => []) (fun ⟨(pre, suf), _⟩ => suf.length) ⟨([], l), rfl, fun x hx => by simp at hx⟩ (.c (.c .n)) AW (Ag) ?_); rintro ⟨⟨pre, suf⟩, hp, hinv⟩ R0 hR0; dsimp only [cA, nA, lC, lN]
  simp only at hp hinv
  have hpl := Cd hp
  rcases suf with _ | ⟨s, suf⟩
  · rw [List.append_nil] at hp; simp only [lN] at hpl; refine An (Ac fun _ k=>Aa Ab (Aa Ab (Aa (A7 BO) (Aa Ay (Ad k ?_))))); refine Ax (fun c1 => ?_) (fun c1 => ?_)
    · omega
    refine AO (hR0 _ _ (Ac fun _ k=>Aa Ae (Ad k ?_))); refine Af (Aq ?_); exact bF (fun h => by obtain ⟨b, h1, h2⟩ := h; exact absurd (of_decide_eq_true h2) (hinv b (by rw [hp]; exact h1)))
  simp only [lC] at hpl; have hidx := Ch hp; refine An (Ac fun _ k=>Aa Ab (Aa Ab (Aa (A7 BO) (Aa Ay (Ad k ?_))))); refine Ax (fun c3 => ?_) (fun c3 => ?_)
  · refine As (An (Ar (Ac fun _ k=>Aa Ab (Aa Ab (Aa (AL BO Bv (hl := (by exact AY hidx (by omega)))) (Aa (BP 1 DT Ah) (Aa (Bc Al) (Aa Ab (Aa B6 (Ad k ?_)))))))))); refine Ax (fun c4 => ?_) (fun c4 => ?_)
    · refine Ac fun _ k=>Aa Ae (Ad k ?_); refine Af (hR0 _ _ (Aq ?_)); exact bT ⟨s, by rw [← hp]; simp, decide_eq_true ‹_›⟩
    refine As (Ao fun _ k=>Aa Ab (Aa A6 (Aa Ae (Ad k ?_)))); refine hR0 _ _ (A8 [] [0, 1] ⟨(pre ++ [s], suf), B2 hp, ?_⟩ BX AW (Ag (he := (by simp))) (.c (.c .n)))
    intro x hx; simp only [List.mem_append, List.mem_singleton] at hx; rcases hx with hx | rfl
    · exact hinv x hx
    · assumption
  omega
theorem rof_fun (l : List Bar) (d : Int) (hok : CJ l) : Fun Tryz.prog 82 [.sh 5 (l.map Bar.c), iL d] (AK (iL (DB l d)) []) := by
  have hl := hok.1; refine Fun.of (nt := 34) (rs := [.tmp 4]) Tryz.func82 rfl rfl rfl rfl rfl ?_; refine Ac fun _ k=>Aa Ae (Ad k ?_); refine Ac fun _ k=>Aa Ae (Ad k ?_); refine An (Ac fun _ k=>Aa Ae (Ad k ?_)); refine Ar (AI (ι := {p : List (Bar) × List (Bar) // p.1 ++ p.2 = l ∧ True}) [] [0, 1] (fun ⟨(pre, suf), _⟩ => [(6, iL (pre.length : Int)), (5, iL (DB pre d))]) (fun ⟨(pre, suf), _⟩ => []) (fun ⟨(pre, suf), _⟩ => suf.length) ⟨([], l), rfl, trivial⟩ (.c (.c .n)) AW (Ag (h := (Ag))) ?_); rintro ⟨⟨pre, suf⟩, hp, hinv⟩ R0 hR0; dsimp only [cA, nA, lC, lN]
  simp only at hp hinv
  have hpl := Cd hp
  rcases suf with _ | ⟨s, suf⟩
  · rw [List.append_nil] at hp; simp only [lN] at hpl; refine An (Ac fun _ k=>Aa Ab (Aa Ab (Aa (A7 BO) (Aa Ay (Ad k ?_))))); refine Ax (fun c1 => ?_) (fun c1 => ?_)
    · omega
    refine AO (hR0 _ _ (Ac fun _ k=>Aa Ab (Aa Ae (Ad k ?_)))); refine Af (Aq ?_); rw [← hp]
  simp only [lC] at hpl; have hidx := Ch hp; have hsok : Cg s := hok.2.1 s (by rw [← hp]; simp); obtain ⟨m1, m2, m3, m4⟩ := F6 hsok; have hbm : s.count * Gw s = EY s := rfl; have hpok : ∀ b ∈ pre, Cg b := fun b hb => hok.2.1 b (by rw [← hp]; simp [hb]); refine An (Ac fun _ k=>Aa Ab (Aa Ab (Aa (A7 BO) (Aa Ay (Ad k ?_))))); refine Ax (fun c3 => ?_) (fun c3 => ?_)
  · refine As (An (Ar (Ac fun _ k=>Aa Ab (Aa Ab (Aa (AL BO Bv (hl := (by exact AY hidx (by omega)))) (Aa (BP 1 DT Ah) (Aa (Bc Al) (Aa Ab (Aa B6 (Ad k ?_)))))))))); refine Ax (fun c4 => ?_) (fun c4 => ?_)
    · obtain ⟨o1, o2⟩ := ofSum_bd pre hpok d; refine CH (C8 [(0, 0), (0, 0), (0, 0), (3, 6), (4, 14), (5, 30), (0, 0), (0, 0), (8, 192), (9, 448), (10, 960), (11, 2046), (12, 4095), (13, 8191)]) 13 fun _ k=>Ak Ab (Ak Ab (Ak Ab (Ak (AL BO Bv (hl := (by exact AY hidx (by omega)))) (Ak (BP 2 am_fi72_2 Ah) (Ak (Bc Al) (Ak Ab (Ak Ab (Ak (AL BO Bv (hl := (by exact AY hidx (by omega)))) (Ak (BF _ Cm Bv) (B1 (hF := one_fun _ (by assumption)) (h := Ak (BM (h1 := by omega) (h2 := by omega)) (Ak A6 (Bz [] (h := Aa Ae (Ad k ?_))))))))))))))); show Ev _ _ _ _; refine Ao fun _ k=>Aa Ab (Aa A6 (Aa Ae (Ad k ?_))); refine hR0 _ _ (A8 [] [0, 1] ⟨(pre ++ [s], suf), B2 hp, trivial⟩ BX AW (Ag (he := (by congr 2; simp)) (h := (Ag (he := (by congr 2; rw [ofSum_snoc, if_pos ‹_›] <;> rfl))))) (.c (.c .n)))
    refine As (Ao fun _ k=>Aa Ab (Aa A6 (Aa Ae (Ad k ?_)))); refine hR0 _ _ (A8 [] [0, 1] ⟨(pre ++ [s], suf), B2 hp, trivial⟩ BX AW (Ag (he := (by congr 2; simp)) (h := (Ag (he := (by congr 2; rw [ofSum_snoc, if_neg ‹_›]))))) (.c (.c .n)))
  omega
theorem rmasses_fun (l : List Bar) (hok : CJ l) : Fun Tryz.prog 43 [.sh 5 (l.map Bar.c)] (AK (.sh 2 ((E8 l BR).map CB)) []) := by
  have hl := hok.1
  generalize hsz : BR = sz
  have hszl : sz.length = 9 := by rw [← hsz]; rfl
  refine Fun.of (nt := 34) (rs := [.tmp 2]) Tryz.func43 rfl rfl rfl rfl rfl ?_; refine Ac fun _ k=>Aa Ae (Ad k ?_); refine Ac fun _ k=>A3 (hF := hsz ▸ rsizes_fun) (h := Aa Ae (Ad k ?_)); refine Ac fun _ k=>Aa Ae (Ad k ?_); refine An (Ac fun _ k=>Aa Ae (Ad k ?_)); refine Ar (AT (Wk.nown CB 4 62 2) ?_); refine AI (ι := {p : List (Int) × List (Int) // p.1 ++ p.2 = sz ∧ True}) [0] [0, 3] (fun ⟨(pre, suf), _⟩ => [(5, iL (pre.length : Int)), (4, .als 0 0 (E8 l pre).length)]) (fun ⟨(pre, suf), _⟩ => [(0, ⟨true, 62, 2, (E8 l pre).map CB, true⟩)]) (fun ⟨(pre, suf), _⟩ => suf.length) ⟨([], sz), rfl, trivial⟩ (.c (.c .n)) (Aj) (Ag (h := (Ag))) ?_; rintro ⟨⟨pre, suf⟩, hp, hinv⟩ R0 hR0; dsimp only [cA, nA, lC, lN]
  simp only at hp hinv
  have hpl := Cd hp
  rcases suf with _ | ⟨s, suf⟩
  · rw [List.append_nil] at hp; simp only [lN] at hpl; refine An (Ac fun _ k=>Aa Ab (Aa Ab (Aa (A7 AG) (Aa Ay (Ad k ?_))))); refine Ax (fun c1 => ?_) (fun c1 => ?_)
    · omega
    refine AO (hR0 _ _ (Ac fun _ k=>Aa Ab (Aa Ae (Ad k ?_)))); refine AT (Wk.frz 2 []) ?_; refine Af (Aq ?_); rw [← hp]
  simp only [lC] at hpl; have hidx := Ch hp; have hml := massesP_len l pre; refine An (Ac fun _ k=>Aa Ab (Aa Ab (Aa (A7 AG) (Aa Ay (Ad k ?_))))); refine Ax (fun c3 => ?_) (fun c3 => ?_)
  · refine As (An (Ar (Ac fun _ k=>Aa Ab (Aa Ab (Aa Ab (Aa (AL AG Ah (hl := (by exact AY hidx (by omega)))) (Aa (Bc Al) (A3 (hF := rhas_fun _ _ (by omega)) (h := Ad k ?_))))))))); refine Ax (fun c4 => ?_) (fun c4 => ?_)
    · refine CH (C8 [(0, 0), (0, 0), (0, 0), (3, 6), (4, 14), (0, 0), (0, 0), (0, 0), (8, 192), (9, 448), (10, 992), (11, 2046), (12, 4094), (13, 8191), (14, 16383)]) 13 fun _ k=>Ak Ab (Ak Ab (Ak Ab (Ak (AL AG Ah (hl := (by exact AY hidx (by omega)))) (Ak (Bc Al) (Ak Ab (Ak Ab (Ak Ab (Ak (AL AG Ah (hl := (by exact AY hidx (by omega)))) (Ak (Bc Al) (B1 (hF := rof_fun _ _ (by assumption)) (h := Ak (Bj _ am_ze62 am_pl62) (Gs [_] (C3 [[_, _]] true CG am_ze62 Dw) (h := Bz [_, _] (h := DJ [_] CG am_ze62 Dw am_by62 (hh := Cu) (hr := (CS [(⟨_, _⟩ : Int × Int)])) (h := Aa Ae (Ad k ?_)))))))))))))))); show Ev _ _ _ _; refine Ao fun _ k=>Aa Ab (Aa A6 (Aa Ae (Ad k ?_))); refine hR0 _ _ (A8 [53] [0, 3] ⟨(pre ++ [s], suf), B2 hp, trivial⟩ BX (Aj (he := (by rw [EM, if_pos ‹_›]))) (Ag (he := (by congr 2; simp)) (h := (Ag (he := (by congr 1; rw [EM, if_pos ‹_›]))))) (.c (.c .n)))
    refine As (Ao fun _ k=>Aa Ab (Aa A6 (Aa Ae (Ad k ?_)))); refine hR0 _ _ (A8 [0] [0, 3] ⟨(pre ++ [s], suf), B2 hp, trivial⟩ BX (Aj (he := (by rw [EM, if_neg ‹_›]))) (Ag (he := (by congr 2; simp)) (h := (Ag (he := (by congr 1; rw [EM, if_neg ‹_›]))))) (.c (.c .n)))
  omega
def EJ (bars : List Bar) (l : List Rn) (d : Int) : Int := l.foldl (fun a r => if (Bg bars r.mark).size = d then a + r.n * Gw (Bg bars r.mark) else a) 0
theorem laidM_snoc (bars : List Bar) (l : List Rn) (s : Rn) (d : Int) : EJ bars (l ++ [s]) d = if (Bg bars s.mark).size = d then EJ bars l d + s.n * Gw (Bg bars s.mark) else EJ bars l d := by simp [EJ]
def Em (bars : List Bar) (l : List Rn) : List Int := BR.map (EJ bars l)
def Rn.cut (s : Rn) (k : Int) : Rn := { s with n := k }
theorem cut_all (s : Rn) : s.cut s.n = s := rfl
theorem at_step {f g : Int → Int} {z v : Int} (h : z ∈ BR) (e : ∀ d, g d = if z = d then f d + v else f d) : 0 ≤ idxI BR z ∧ idxI BR z < 9 ∧ (BR.map f)[(idxI BR z).toNat]? = some (f z) ∧ (BR.map f).set (idxI BR z).toNat (f z + v) = BR.map g ∧ BU (BR.map g) = BU (BR.map f) + v := by
  have h' := h; simp only [BR, List.mem_cons, List.not_mem_nil, or_false] at h'
  rcases h' with h' | h' | h' | h' | h' | h' | h' | h' | h' <;> rw [h'] at e ⊢ <;> refine ⟨by decide, by decide, rfl, ?_, ?_⟩ <;>
    simp only [BR, List.map_cons, List.map_nil, e] <;> simp [idxI, CN, BU] <;> omega
theorem laid_step (bars : List Bar) (pre : List Rn) (s : Rn) (k : Int) (h : (Bg bars s.mark).size ∈ BR) : 0 ≤ idxI BR (Bg bars s.mark).size ∧ idxI BR (Bg bars s.mark).size < 9 ∧ (Em bars (pre ++ [s.cut k]))[(idxI BR (Bg bars s.mark).size).toNat]? = some (EJ bars (pre ++ [s.cut k]) (Bg bars s.mark).size) ∧
    (Em bars (pre ++ [s.cut k])).set (idxI BR (Bg bars s.mark).size).toNat (EJ bars (pre ++ [s.cut k]) (Bg bars s.mark).size + Gw (Bg bars s.mark)) = Em bars (pre ++ [s.cut (k + 1)]) := by
  obtain ⟨h1, h2, h3, h4, _⟩ := at_step (f := EJ bars (pre ++ [s.cut k])) (g := EJ bars (pre ++ [s.cut (k + 1)])) h (v := Gw (Bg bars s.mark)) fun d => by
    rw [laidM_snoc, laidM_snoc]; have e1 : (s.cut (k + 1)).n = k + 1 := rfl; have e2 : (s.cut k).n = k := rfl; have e3 : (s.cut (k + 1)).mark = s.mark := rfl; have e4 : (s.cut k).mark = s.mark := rfl; rw [e1, e2, e3, e4, Int.add_mul, Int.one_mul]
    by_cases hd : (Bg bars s.mark).size = d
    · simp only [if_pos hd]; omega
    simp only [if_neg hd]
  exact ⟨h1, h2, h3, h4⟩
theorem laidAt_zero (bars : List Bar) (pre : List Rn) (s : Rn) : Em bars pre = Em bars (pre ++ [s.cut 0]) := by
  unfold Em
  congr 1
  funext d
  rw [laidM_snoc]; have e2 : (s.cut 0).n = 0 := rfl; rw [e2, Int.zero_mul, Int.add_zero, ite_self]
theorem laidAt_len (bars : List Bar) (l : List Rn) : (Em bars l).length = 9 := by simp [Em, BR]
def runsOK (bars : List Bar) (l : List Rn) : Prop := ∀ r ∈ l, Cg (Bg bars r.mark) ∧ 0 ≤ r.n
theorem laidM_bd {bars : List Bar} (d : Int) : ∀ l : List Rn, runsOK bars l → 0 ≤ EJ bars l d ∧ EJ bars l d ≤ 10343154 * Dt l := by
  refine CY (fun _ => ⟨Int.le_refl _, Int.le_refl _⟩) ?_; intro l s ih h; obtain ⟨i1, i2⟩ := ih fun r hr => h r (by simp [hr]); obtain ⟨h1, h2⟩ := h s (by simp); obtain ⟨h3, h4, _, _⟩ := F6 h1; rw [laidM_snoc, cnt_snoc]; have h5 := Int.mul_nonneg h2 h3; have h6 := Int.mul_le_mul_of_nonneg_left h4 h2
  split <;> omega
theorem laid_runs {bars : List Bar} {runs : List Rn} (h : Dq bars runs) : runsOK bars runs := fun r hr => ⟨h.1.2.1 _ (FK (h.2.2.1 r hr).1), by have := (h.2.2.1 r hr).2.2.1; omega⟩
theorem okV_cut {b : Bar} (h : Cg b) : okV b (Gu b) = Gu b ∧ okE b = 0 ∧ szV b.size (massOf b.size (Gu b)) = Gw b ∧ szE b.size = 0 ∧ 0 ≤ Gu b ∧ Gu b ≤ 1048576 := by
  obtain ⟨h1, h2⟩ := cutOf_bd h; exact ⟨okV_in h, okE_in h, szV_in h.2.1, szE_in h.2.1, by omega, h2⟩
def Ft (bars : List Bar) (l : List Rn) : Int := BU (Em bars l)
def detV (x : Det) (v : Int) : Int := if Do x then v else 0
def detE (x : Det) : Int := if Do x then 0 else 1
theorem lbIs_fun (r : Rn) (b : Bar) : Fun Tryz.prog 51 [.agg b.c, .sadr r.c 0] (AK (bL (decide (b.mark = r.mark))) []) := by
  refine Fun.of (nt := 9) (rs := [.tmp 3]) Tryz.func51 rfl rfl rfl rfl rfl ?_; refine Ac fun _ w=>A4 (Be _ true) (Aa Ae (Ad w ?_)); refine Ac fun _ w=>Aa (Ap 0 F9 Da) (Aa (At CL) (Aa (BP 0 Fq Da) (Aa (Bc CL) (Aa q.seqs (Aa Ae (Ad w ?_)))))); refine Af (Aq ?_); rfl
theorem laidBy_fun (x : Det) (hw : x.w) (hlo : Dq x.bars x.runs) : Fun Tryz.prog 25 [.agg x.c] (AK (.sh 1 ((Em x.bars x.runs).map Cz)) []) := by
  obtain ⟨hw1, ⟨hw2, hw2b⟩, ⟨hw3, hw3b⟩, hw4, hw5, hw6⟩ := id hw; have hs9 : BR.length = 9 := rfl; have hrk := laid_runs hlo; have hl3 := hlo.2.2.1; have hc2 := hlo.2.2.2; refine Fun.of (nt := 60) (rs := [.tmp 2]) Tryz.func25 rfl rfl rfl rfl rfl ?_; refine Ac fun _ w=>A4 (Be _ true) (Aa Ae (Ad w ?_)); refine Ac fun _ w=>A3 (hF := sizes_fun) (h := Aa Ae (Ad w ?_)); refine Ac fun _ w=>Aa Ab (Aa (A7 AG) (S.mkf (f := Cz) (0) AG Ed Ah am_by3 (h := Aa Ae (Ad w ?_)))); refine An (Ac fun _ w=>Aa (Ap 7 E9 FG) (Aa (At FD) (Aa (A7 Bo) (Aa Ab (Ad w ?_)))))
  refine Ar (AI (ι := {p : List (Rn) × List (Rn) // p.1 ++ p.2 = x.runs ∧ True}) [0, 1] [1, 3, 17, 18] (fun ⟨(pre, suf), _⟩ => [(19, iL (pre.length : Int)), (4, .als 1 0 (Em x.bars pre).length)]) (fun ⟨(pre, suf), _⟩ => [(0, ⟨false, 34, 19, [[sL (x.mem.name), .sh 6 ((x.mem.bs).map Bx.c), .sh 6 ((x.mem.hs).map Bx.c), iL (x.mem.cov), iL (x.mem.agg), iL (x.mem.pok), .sh 5 ((x.bars).map Bar.c), .sh 10 ((x.runs).map Rn.c), .sh 2 ((x.laps).map CB), .sh 8 ((x.dems).map Dem.c), iL (x.rule.r1), iL (x.rule.r2), iL (x.rule.r3), iL (x.rule.r4), iL (x.rule.r5), iL (x.rule.r6), iL (x.rule.r7), iL (x.rule.r8), iL (x.rule.r9)]], true⟩), (1, ⟨true, 3, 1, (Em x.bars pre).map Cz, true⟩)]) (fun ⟨(pre, suf), _⟩ => suf.length) ⟨([], x.runs), rfl, trivial⟩ (.c (.c (.c (.c .n)))) (Aj (h := (Aj))) (Ag (h := (Ag))) ?_); rintro ⟨⟨pre, suf⟩, hp, hinv⟩ R0 hR0; dsimp only [cA, nA, lC, lN]
  simp only at hp hinv
  have hpl := Cd hp
  rcases suf with _ | ⟨s, suf⟩
  · rw [List.append_nil] at hp; simp only [lN] at hpl; refine Ac fun _ w=>Aa Ay (Ad w ?_); refine By (fun c1 => ?_) (fun c1 => ?_)
    · omega
    refine AO (hR0 _ _ (Ac fun _ w=>Aa Ab (Aa Ae (Ad w ?_)))); refine AT (Wk.frz 2 [_]) ?_; refine Af (Aq ?_); rw [← hp]
  simp only [lC] at hpl; have hidx := Ch hp; have hms := GA hp; have hrp := hl3 s hms; have hmk := hrp.1; have hsn := hrp.2.2.1; have hlg := GK hmk; have hwl := hw2b _ (FK hmk); have hob := (hrk s hms).1; have hct := cnt_cut hp (fun z hz => (hl3 z hz).2.2.1.1); have hpk : runsOK x.bars pre := fun r hr => hrk r (by rw [← hp]; simp [hr]); have hmk2 : 0 ≤ CN (fun b : Bar => decide (b.mark = s.mark)) x.bars 0 := hmk; have hlg2 : x.bars[(CN (fun b : Bar => decide (b.mark = s.mark)) x.bars 0).toNat]? = some (Bg x.bars s.mark) := hlg; obtain ⟨b0, hb0⟩ : ∃ b, b = Bg x.bars s.mark := ⟨_, rfl⟩; rw [← hb0] at hwl hob hlg2; clear hlg; refine Ac fun _ w=>Aa Ay (Ad w ?_); refine By (fun c2 => ?_) (fun c2 => ?_)
  · refine An (Ar (Ac fun _ w=>Aa (AL Bo B5 (hl := (by exact AY hidx (by omega)))) (Aa (BF _ FX B5) (A4 (Bd am_ze82) (AC _ true [_, _] am_in82 B5 (h := Ad w ?_)))))); refine Ck (C8 [(0, 0), (1, 1), (0, 0), (3, 4), (0, 0), (5, 28), (6, 63), (7, 127), (0, 0), (9, 511)]) 9 fun _ w=>Ak (Ap 6 Eh Fu) (Ak (At Fx) (Ak (Ap 6 Eh Fu) (Ak (At Fx) (Ak q.mf (B1 (hF := indexFuncBar1 _ _ _ (lbIs_fun s) x.bars (by omega)) (h := Ak (AL BO Bv (hl := (by exact AY hlg2 (by omega)))) (Ak (BF _ Cm Bv) (Gs [_] (Bd am_ze72) (h := Bz [_, _, _, _] (h := AC _ true [_, _, _] am_in72 Bv (h := Ad w ?_))))))))))); refine Ac fun _ w=>Aa (Av _ Cm Bv) (A3 (hF := cut_fun _ (by assumption)) (h := Aa Ab (Aa BA (Aa BA (Aa Ae (Aa Ae (Ad w ?_))))))); obtain ⟨e1, e2, e3, e4, e5, e6⟩ := okV_cut hob; rw [e1]; refine Ac fun _ w=>Aa (Ap 1 DT Ah) (Aa (At Al) (Aa Ab (A3 (hF := Mass_fun _ _ (by omega) (by omega)) (h := Aa Ab (Aa BA (Aa BA (Aa Ae (Aa Ae (Ad w ?_))))))))); rw [e3]; refine Ac fun _ w=>Aa (Ap 9 B4 Ah) (Aa (At Al) (Aa Ab (Ad w ?_)))
    refine Ar (AI (ι := {k : Nat // (k : Int) ≤ s.n}) [0, 1, 2, 35] [1, 3, 7, 10, 17, 18, 19, 44] (fun ⟨k, _⟩ => [(45, iL (k : Int)), (4, .als 1 0 (Em x.bars (pre ++ [s.cut (k : Int)])).length)]) (fun ⟨k, _⟩ => [(0, ⟨false, 34, 19, [[sL (x.mem.name), .sh 6 ((x.mem.bs).map Bx.c), .sh 6 ((x.mem.hs).map Bx.c), iL (x.mem.cov), iL (x.mem.agg), iL (x.mem.pok), .sh 5 ((x.bars).map Bar.c), .sh 10 ((x.runs).map Rn.c), .sh 2 ((x.laps).map CB), .sh 8 ((x.dems).map Dem.c), iL (x.rule.r1), iL (x.rule.r2), iL (x.rule.r3), iL (x.rule.r4), iL (x.rule.r5), iL (x.rule.r6), iL (x.rule.r7), iL (x.rule.r8), iL (x.rule.r9)]], true⟩), (1, ⟨true, 3, 1, (Em x.bars (pre ++ [s.cut (k : Int)])).map Cz, true⟩), (2, ⟨false, 82, 10, [[sL (s.mark), iL (s.tx), iL (s.ty), iL (s.ax), iL (s.ay), iL (s.az), iL (s.sx), iL (s.sy), iL (s.sz), iL (s.n)]], true⟩), (3, ⟨false, 72, 5, [[sL (b0.mark), iL (b0.size), iL (b0.count), iL (b0.code), .sh 1 ((b0.dims).map Cz)]], true⟩)]) (fun ⟨k, _⟩ => s.n.toNat - k) ⟨0, by omega⟩ (.c (.c (.c (.c (.c (.c (.c (.c .n)))))))) (Aj (h := (Aj (he := (by exact congrArg _ (laidAt_zero _ _ _))) (h := (Aj (h := (Aj))))))) (Ag (h := (Ag))) ?_); rintro ⟨k, hk⟩ R2 hR2; dsimp only [cA, nA, lC, lN]
    by_cases hkn : (k : Int) < s.n
    rotate_left
    · have hke : (k : Int) = s.n := by omega
      refine Ac fun _ w=>Aa Ay (Ad w ?_); refine By (fun c3 => ?_) (fun c3 => ?_)
      · omega
      refine AO (hR2 _ _ (Ao fun _ w=>Aa A6 (Aa Ab (Ad w ?_)))); refine hR0 _ _ (A8 [0, 1] [1, 3, 17, 18] ⟨(pre ++ [s], suf), B2 hp, trivial⟩ BX (Aj (h := (Aj (he := (by rw [hke, cut_all]))))) (Ag (he := (by congr 2; simp)) (h := (Ag))) (.c (.c (.c (.c .n))))); skip
    obtain ⟨i1, i2, i3, i4⟩ := laid_step x.bars pre s k (hb0 ▸ hob.2.1); have hsl := laidAt_len x.bars (pre ++ [s.cut k]); obtain ⟨b1, b2⟩ := laidM_bd (bars := x.bars) b0.size (pre ++ [s.cut k]) (fun r hr => by rcases List.mem_append.1 hr with hr | hr; exact hpk r hr; rw [List.mem_singleton] at hr; subst hr; exact ⟨hb0 ▸ hob, Int.natCast_nonneg k⟩); rw [cnt_snoc, show (s.cut k).n = k from rfl] at b2; obtain ⟨m1, m2, m3, m4⟩ := F6 hob; rw [← hb0] at i1 i2 i3 i4; refine Ac fun _ w=>Aa Ay (Ad w ?_); refine By (fun c4 => ?_) (fun c4 => ?_)
    · refine An (Ar (Ao fun _ w=>Aa Ab (Aa Ab (Aa (Ap 1 DT Ah) (Aa (At Al) (A3 (hF := index_fun _ _ (by omega)) (h := Aa (q.ia AG Ah) (Aa (q.lx Al (hl := (by exact at_ i3 (by omega)))) (Aa Ab (Aa A6 (Aa (q.ia AG Ah) (S.sx _ [_, _, _] Ej Ah (hl := (by exact at_ i3 (by omega))) (h := Ad w ?_))))))))))))); show Ev _ _ _ _; refine Ao fun _ w=>Aa A6 (Aa Ab (Ad w ?_)); refine hR2 _ _ (A8 [0, 1, 2, 3] [1, 3, 7, 10, 17, 18, 19, 44] ⟨k + 1, by omega⟩ ?_ (Aj (h := (Aj (he := (by exact congrArg _ i4)) (h := (Aj (h := (Aj))))))) (Ag (h := (Ag))) (.c (.c (.c (.c (.c (.c (.c (.c .n))))))))); skip; all_goals (dsimp only; omega)
    omega
  omega
theorem Laid_fun (x : Det) (hw : x.w) : Fun Tryz.prog 8 [.agg x.c] (AK (.tup [iL (detV x (Ft x.bars x.runs)), iL (detE x)]) []) := by
  have hsl := laidAt_len x.bars x.runs; refine Fun.of (nt := 22) (rs := [.tmp 2, .tmp 3]) Tryz.func8 rfl rfl rfl rfl rfl ?_; refine Ac fun _ w=>A4 (Be _ true) (Aa Ae (Aa Ae (Ad w ?_))); refine An (Ac fun _ w=>Aa (Av _ Dh Dl) (A3 (hF := detValid_fun x hw) (h := Aa BB (Ad w ?_)))); refine Cb (fun c1 => ?_) (fun c1 => ?_)
  · refine Ac fun _ w=>Aa Ae (Aa Ae (Ad w ?_)); refine Af (CC ?_); rw [detV, detE, if_neg ‹_›, if_neg ‹_›]
  refine As ?_; have hok : Do x := ‹_›; have hrk := laid_runs hok.1.2.1
  have hob : ∀ n ∈ Em x.bars x.runs, 0 ≤ n ∧ n ≤ 20686308000 := fun n hn => by
    rw [Em, List.mem_map] at hn; obtain ⟨d, _, rfl⟩ := hn; have h1 := laidM_bd d x.runs hrk; have h2 := hok.1.2.1.2.2.2; omega
  refine Ac fun _ w=>Aa Ae (Ad w ?_); refine An (Ac fun _ w=>Aa (Av _ Dh Dl) (A3 (hF := laidBy_fun x hw hok.1.2.1) (h := Aa (A7 AG) (Aa Ab (Ad w ?_))))); refine Ar (AI (ι := {q : List Int × List Int // q.1 ++ q.2 = Em x.bars x.runs ∧ 0 ≤ BU q.1 ∧ BU q.1 ≤ 20686308000 * q.1.length}) [0] [11, 12] (fun ⟨(pre, suf), _⟩ => [(13, iL (pre.length : Int)), (4, iL (BU pre))]) (fun ⟨(pre, suf), _⟩ => [(0, ⟨false, 34, 19, [[sL (x.mem.name), .sh 6 ((x.mem.bs).map Bx.c), .sh 6 ((x.mem.hs).map Bx.c), iL (x.mem.cov), iL (x.mem.agg), iL (x.mem.pok), .sh 5 ((x.bars).map Bar.c), .sh 10 ((x.runs).map Rn.c), .sh 2 ((x.laps).map CB), .sh 8 ((x.dems).map Dem.c), iL (x.rule.r1), iL (x.rule.r2), iL (x.rule.r3), iL (x.rule.r4), iL (x.rule.r5), iL (x.rule.r6), iL (x.rule.r7), iL (x.rule.r8), iL (x.rule.r9)]], true⟩)]) (fun ⟨(pre, suf), _⟩ => suf.length) ⟨([], (Em x.bars x.runs)), rfl, (by decide : 0 ≤ BU [] ∧ BU [] ≤ 20686308000 * (([] : List Int).length : Int))⟩ (.c (.c .n)) (Aj) (Ag (h := (Ag))) ?_); rintro ⟨⟨pre, suf⟩, hp, hinv⟩ R0 hR0; dsimp only [cA, nA, lC, lN]
  simp only at hp hinv
  have hpl := Cd hp
  rcases suf with _ | ⟨s, suf⟩
  · rw [List.append_nil] at hp; simp only [lN] at hpl; refine Ac fun _ w=>Aa Ay (Ad w ?_); refine By (fun c2 => ?_) (fun c2 => ?_)
    · omega
    refine AO (hR0 _ _ (Ac fun _ w=>Aa Ab (Aa Ae (Aa Ae (Ad w ?_))))); refine Af (CC ?_); rw [detV, detE, if_pos hok, if_pos hok, Ft, ← hp]
  simp only [lC] at hpl; have hidx := Ch hp; have hsb := hob s (by rw [← hp]; simp); obtain ⟨v1, v2⟩ := hinv; refine Ac fun _ w=>Aa Ay (Ad w ?_); refine By (fun c3 => ?_) (fun c3 => ?_)
  · refine An (Ar (Ac fun _ w=>Aa (AL AG Ah (hl := (by exact AY hidx (by omega)))) (Aa (Bc Al) (Aa Ae (Ad w ?_))))); refine Ao fun _ w=>Aa Ab (Aa Ab (Aa A6 (Aa Ae (Ad w ?_)))); show Ev _ _ _ _; refine Ao fun _ w=>Aa A6 (Aa Ab (Ad w ?_)); refine hR0 _ _ (A8 [0] [11, 12] ⟨(pre ++ [s], suf), B2 hp, ?_⟩ BX (Aj) (Ag (he := (by congr 2; simp)) (h := (Ag (he := (by congr 2; rw [FL, show BU [s] = s by simp [BU]]))))) (.c (.c .n)))
    (rw [FL, show BU [s] = s by simp [BU], List.length_append, List.length_singleton]; omega)
  omega
def qbOne (bars : List Bar) (runs : List Rn) (d : Int) : List (Int × List UInt8) := if ∃ b ∈ bars, decide (b.size = d) = true then (if EJ bars runs d < DB bars d then [(1, [100] ++ Go.Lib.itoa d)] else if EJ bars runs d > DB bars d then [(2, [100] ++ Go.Lib.itoa d)] else []) else []
def qbL (bars : List Bar) (runs : List Rn) (l : List Int) : List (Int × List UInt8) := l.flatMap (qbOne bars runs)
theorem FP (bars : List Bar) (runs : List Rn) (l : List Int) (s : Int) : qbL bars runs (l ++ [s]) = qbL bars runs l ++ qbOne bars runs s := by simp [qbL]
theorem qb_0 {bars : List Bar} {runs : List Rn} {d : Int} (h : ¬ ∃ b ∈ bars, decide (b.size = d) = true) : qbOne bars runs d = [] := if_neg h
theorem qb_1 {bars : List Bar} {runs : List Rn} {d : Int} (h : ∃ b ∈ bars, decide (b.size = d) = true) (h1 : EJ bars runs d < DB bars d) : qbOne bars runs d = [(1, [100] ++ Go.Lib.itoa d)] := (if_pos h).trans (if_pos h1)
theorem qb_2 {bars : List Bar} {runs : List Rn} {d : Int} (h : ∃ b ∈ bars, decide (b.size = d) = true) (h1 : ¬ EJ bars runs d < DB bars d) (h2 : EJ bars runs d > DB bars d) : qbOne bars runs d = [(2, [100] ++ Go.Lib.itoa d)] := (if_pos h).trans ((if_neg h1).trans (if_pos h2))
theorem qb_3 {bars : List Bar} {runs : List Rn} {d : Int} (h : ∃ b ∈ bars, decide (b.size = d) = true) (h1 : ¬ EJ bars runs d < DB bars d) (h2 : ¬ EJ bars runs d > DB bars d) : qbOne bars runs d = [] := (if_pos h).trans ((if_neg h1).trans (if_neg h2))
theorem qbOne_len (bars : List Bar) (runs : List Rn) (d : Int) : (qbOne bars runs d).length ≤ 1 := by
  unfold qbOne
  split
  · split
    · simp
    split <;> simp
  simp
theorem qbL_len (bars : List Bar) (runs : List Rn) : ∀ l : List Int, (qbL bars runs l).length ≤ l.length := by
  refine CY (Nat.le_refl _) ?_; intro l s ih; have := qbOne_len bars runs s; rw [FP, List.length_append, List.length_append, List.length_singleton]; omega
def qbV (x : Det) : List (Int × List UInt8) := if Do x then qbL x.bars x.runs BR else []
theorem sizes_in {d : Int} (h : d ∈ BR) : 6 ≤ d ∧ d ≤ 100 := by
  simp only [BR, List.mem_cons, List.not_mem_nil, or_false] at h
  rcases h with h | h | h | h | h | h | h | h | h <;> rw [h] <;> decide
theorem qbIs_fun (d : Int) (b : Bar) : Fun Tryz.prog 28 [.agg b.c, .sadr [iL d] 0] (AK (bL (decide (b.size = d))) []) := by
  refine Fun.of (nt := 8) (rs := [.tmp 3]) Tryz.func28 rfl rfl rfl rfl rfl (Ac fun _ k=>A4 (Be _ true) (Aa Ae (Ad k (Ac fun _ k=>Aa (Ap 1 DT Ah) (Aa (At Al) (Aa (Bc Al) (Aa B6 (Aa Ae (Ad k (Af (Aq ?_))))))))))); rfl
theorem qBal_fun (x : Det) (hw : x.w) : Fun Tryz.prog 7 [.agg x.c] (AK (.tup [.sh 2 ((qbV x).map findC), iL (detE x)]) []) := by
  obtain ⟨hw1, ⟨hw2, hw2b⟩, ⟨hw3, hw3b⟩, hw4, hw5, hw6⟩ := id hw; have hs9 : BR.length = 9 := rfl; refine Fun.of (nt := 65) (rs := [.tmp 2, .tmp 3]) Tryz.func7 rfl rfl rfl rfl rfl (Ac fun _ k=>A4 (Be _ true) (Aa Ae (Aa Ae (Ad k (An (Ac fun _ k=>Aa (Av _ Dh Dl) (A3 (hF := detValid_fun x hw) (h := Aa BB (Ad k (Cb (fun c1 => ?_) (fun c1 => ?_)))))))))))
  · refine Ac fun _ k=>Aa Ae (Aa Ae (Ad k (AT (Wk.nsh findC 2 2) (Af (CC ?_))))); rw [qbV, detE, if_neg ‹_›, if_neg ‹_›]
  refine As ?_; have hok : Do x := ‹_›; have hsa := sums_len x.bars; have hla := laidAt_len x.bars x.runs
  refine Ck (C8 [(0, 0), (1, 1), (2, 3), (0, 0), (4, 15), (5, 31), (6, 63)]) 5 fun _ k=>Ak (Ap 6 Eh Fu) (Ak (At Fx) (B1 (hF := masses_fun x.bars hw2b hok.1.2.1.1) (h := Ak (Av _ Dh Dl) (B1 (hF := laidBy_fun x hw hok.1.2.1) (h := Bz [_] (h := Aa Ae (Aa Ae (Ad k (Ac fun _ k=>Aa Ae (Ad k (An (Ac fun _ k=>A3 (hF := sizes_fun) (h := Aa (A7 AG) (Aa Ab (Ad k (Ar (AT (Wk.nown findC 6 54 2) (AI (ι := {p : List (Int) × List (Int) // p.1 ++ p.2 = BR ∧ True}) [0, 21] [1, 4, 5, 18, 19] (fun ⟨(pre, suf), _⟩ => [(20, iL (pre.length : Int)), (6, .als 1 0 (qbL x.bars x.runs pre).length)]) (fun ⟨(pre, suf), _⟩ => [(0, ⟨false, 34, 19, [[sL (x.mem.name), .sh 6 ((x.mem.bs).map Bx.c), .sh 6 ((x.mem.hs).map Bx.c), iL (x.mem.cov), iL (x.mem.agg), iL (x.mem.pok), .sh 5 ((x.bars).map Bar.c), .sh 10 ((x.runs).map Rn.c), .sh 2 ((x.laps).map CB), .sh 8 ((x.dems).map Dem.c), iL (x.rule.r1), iL (x.rule.r2), iL (x.rule.r3), iL (x.rule.r4), iL (x.rule.r5), iL (x.rule.r6), iL (x.rule.r7), iL (x.rule.r8), iL (x.rule.r9)]], true⟩), (1, ⟨true, 54, 2, (qbL x.bars x.runs pre).map findC, true⟩)]) (fun ⟨(pre, suf), _⟩ => suf.length) ⟨([], BR), rfl, trivial⟩ (.c (.c (.c (.c (.c .n))))) (Aj (h := (Aj))) (Ag (h := (Ag))) ?_)))))))))))))))))); rintro ⟨⟨pre, suf⟩, hp, hinv⟩ R0 hR0
  dsimp only [cA, nA, lC, lN]
  simp only at hp hinv
  have hpl := Cd hp
  rcases suf with _ | ⟨s, suf⟩
  · rw [List.append_nil] at hp; subst pre; simp only [List.length_nil] at hpl; refine Ac fun _ k=>Aa Ay (Ad k (By (fun c2 => ?_) (fun c2 => ?_)))
    · omega
    refine AO (hR0 _ _ (Ac fun _ k=>Aa Ab (Aa Ae (Aa Ae (Ad k (AT (Wk.frz 2 [_]) (Af (CC ?_)))))))); rw [qbV, detE, if_pos hok, if_pos hok]
  simp only [lC] at hpl; have hidx := Ch hp
  have hsum : (E5 x.bars)[pre.length]? = some (DB x.bars s) := by rw [E5, List.getElem?_map, hidx]; rfl
  have hlad : (Em x.bars x.runs)[pre.length]? = some (EJ x.bars x.runs s) := by rw [Em, List.getElem?_map, hidx]; rfl
  have hms := GA hp; have hsb := sizes_in hms; have hil := itoa_len (N := s) (by omega) (by omega); have hql := qbL_len x.bars x.runs pre; refine Ac fun _ k=>Aa Ay (Ad k (By (fun c3 => ?_) (fun c3 => ?_)))
  · refine An (Ar (Ac fun _ k=>Aa Ab (Aa (AL AG Ah (hl := (by exact AY hidx (by omega)))) (Aa (Bc Al) (A4 (Bd Ed) (Aa Ae (AC _ true [_, _] Ej Ah (h := Ad k (An (Ac fun _ k=>Aa (Ap 6 Eh Fu) (Aa (At Fx) (Aa q.mf (A3 (hF := containsFuncBar1 _ _ _ (qbIs_fun s) x.bars (by omega)) (h := Aa BB (Ad k (Cb (fun c4 => ?_) (fun c4 => ?_)))))))))))))))))
    · refine AO (Ao fun _ k=>Aa A6 (Aa Ab (Ad k (hR0 _ _ (A8 [0, 1] [1, 4, 5, 18, 19] ⟨(pre ++ [s], suf), B2 hp, trivial⟩ BX (Aj (h := (Aj (he := (by rw [FP, qb_0 ‹_›, List.append_nil]))))) (Ag (he := (by congr 2; simp)) (h := (Ag (he := (by refine congrArg (AV.als _ 0) ?_; rw [FP, qb_0 ‹_›, List.append_nil]))))) (.c (.c (.c (.c (.c .n))))))))))
    refine As (Ac fun _ k=>Aa (At Al) (A3 (hF := itoa41_fun (by omega) (by omega)) (h := Aa q.sadd (Aa Ae (Ad k (Ar (Ck (C8 [(0, 0), (0, 0), (2, 3), (3, 7), (0, 0), (0, 0), (6, 48), (7, 112), (8, 255), (9, 511)]) 9 fun _ k=>Ak Ab (Ak Ab (Ak (AL AG Ah (hl := (by exact AY hlad (by omega)))) (Ak (Bc Al) (Ak Ab (Ak Ab (Ak (AL AG Ah (hl := (by exact AY hsum (by omega)))) (Ak (Bc Al) (Ak Ay (Bz [_, _, _] (h := Aa Ae (Ad k (Ax (fun c5 => ?_) (fun c5 => ?_))))))))))))))))))))
    · refine Ao fun _ k=>Aa Ab (Aa Ab (Aa (Bj _ FY am_pl54) (A4 (C3 [[_, _]] true Fw FY FZ) (DJ [_, _, _] Fw FY FZ am_by54 (hh := Cu) (hr := (CS [(⟨_, _⟩ : Int × List UInt8)])) (h := Aa Ae (Ad k ?_)))))); show Ev _ _ _ _; refine Ao fun _ k=>Aa A6 (Aa Ab (Ad k (hR0 _ _ (A8 [0, 40] [1, 4, 5, 18, 19] ⟨(pre ++ [s], suf), B2 hp, trivial⟩ BX (Aj (h := (Aj (he := (by rw [FP, qb_1 ‹_› ‹_›]))))) (Ag (he := (by congr 2; simp)) (h := (Ag (he := (by refine congrArg (AV.als _ 0) ?_; rw [FP, qb_1 ‹_› ‹_›]))))) (.c (.c (.c (.c (.c .n)))))))))
    refine Ck (C8 [(0, 0), (0, 0), (2, 3), (3, 7), (0, 0), (0, 0), (6, 48), (7, 112), (8, 255), (9, 511)]) 9 fun _ k=>Ak Ab (Ak Ab (Ak (AL AG Ah (hl := (by exact AY hlad (by omega)))) (Ak (Bc Al) (Ak Ab (Ak Ab (Ak (AL AG Ah (hl := (by exact AY hsum (by omega)))) (Ak (Bc Al) (Ak Bh (Bz [_, _, _] (h := Aa Ae (Ad k (Ax (fun c6 => ?_) (fun c6 => ?_)))))))))))))
    · refine Ao fun _ k=>Aa Ab (Aa Ab (Aa (Bj _ FY am_pl54) (A4 (C3 [[_, _]] true Fw FY FZ) (DJ [_, _, _] Fw FY FZ am_by54 (hh := Cu) (hr := (CS [(⟨_, _⟩ : Int × List UInt8)])) (h := Aa Ae (Ad k ?_)))))); show Ev _ _ _ _; refine Ao fun _ k=>Aa A6 (Aa Ab (Ad k (hR0 _ _ (A8 [0, 76] [1, 4, 5, 18, 19] ⟨(pre ++ [s], suf), B2 hp, trivial⟩ BX (Aj (h := (Aj (he := (by rw [FP, qb_2 ‹_› ‹_› ‹_›]))))) (Ag (he := (by congr 2; simp)) (h := (Ag (he := (by refine congrArg (AV.als _ 0) ?_; rw [FP, qb_2 ‹_› ‹_› ‹_›]))))) (.c (.c (.c (.c (.c .n)))))))))
    refine As (Ao fun _ k=>Aa A6 (Aa Ab (Ad k (hR0 _ _ (A8 [0, 1] [1, 4, 5, 18, 19] ⟨(pre ++ [s], suf), B2 hp, trivial⟩ BX (Aj (h := (Aj (he := (by rw [FP, qb_3 ‹_› ‹_› ‹_›, List.append_nil]))))) (Ag (he := (by congr 2; simp)) (h := (Ag (he := (by refine congrArg (AV.als _ 0) ?_; rw [FP, qb_3 ‹_› ‹_› ‹_›, List.append_nil]))))) (.c (.c (.c (.c (.c .n))))))))))
  omega
def shortB (b : Bar) : Prop := b.dims.length ≤ 8 ∧ b.mark.length ≤ 60
instance (b) : Decidable (shortB b) := by unfold shortB; infer_instance
def shortR (r : Rn) : Prop := r.mark.length ≤ 60 ∧ ¬ (r.n > 16 ∧ r.n ≤ 2000)
instance (r) : Decidable (shortR r) := by unfold shortR; infer_instance
def sumP (l : List Rn) : Int := l.foldl (fun a r => if r.n > 0 ∧ r.n ≤ 16 then a + r.n else a) 0
theorem sumP_snoc (l : List Rn) (s : Rn) : sumP (l ++ [s]) = if s.n > 0 ∧ s.n ≤ 16 then sumP l + s.n else sumP l := by simp [sumP]
theorem sumP_t {l : List Rn} {s : Rn} (h : s.n > 0) (h2 : s.n ≤ 16) : sumP (l ++ [s]) = sumP l + s.n := by rw [sumP_snoc, if_pos ⟨h, h2⟩]
theorem sumP_f {l : List Rn} {s : Rn} (h : ¬ (s.n > 0 ∧ s.n ≤ 16)) : sumP (l ++ [s]) = sumP l := by rw [sumP_snoc, if_neg h]
theorem sumP_bd : ∀ l : List Rn, 0 ≤ sumP l ∧ sumP l ≤ 16 * l.length := by
  refine CY ⟨Int.le_refl _, Int.le_refl _⟩ ?_; intro l s ih; rw [sumP_snoc, List.length_append, List.length_singleton]
  split <;> omega
def smLaid (bars : List Bar) (runs : List Rn) : Prop := (bars.length ≤ 6 ∨ 60 < bars.length ∧ bars.length ≤ 63) ∧ (runs.length ≤ 6 ∨ 60 < runs.length ∧ runs.length ≤ 63) ∧ (∀ b ∈ bars, shortB b) ∧ (∀ r ∈ runs, shortR r) ∧ (sumP runs ≤ 16 ∨ runs.length > 6)
instance (bars runs) : Decidable (smLaid bars runs) := by unfold smLaid; infer_instance
def smLen (n : Nat) : Prop := (n ≤ 4 ∨ 20 < n) ∧ n ≤ 25
instance (n) : Decidable (smLen n) := by unfold smLen; infer_instance
def smSol (bs hs : List Bx) : Prop := smLen bs.length ∧ smLen hs.length
instance (bs hs) : Decidable (smSol bs hs) := by unfold smSol; infer_instance
def smDet (x : Det) : Prop := x.mem.name.length ≤ 60 ∧ smSol x.mem.bs x.mem.hs ∧ smLaid x.bars x.runs ∧ smD x.dems 4 ∧ (x.laps.length ≤ 16 ∨ 1000 < x.laps.length ∧ x.laps.length ≤ 1005)
instance (x) : Decidable (smDet x) := by unfold smDet; infer_instance
def Det.l (x : Det) : Prop := x.mem.name.length ≤ 140737488355328 ∧ (x.mem.bs.length ≤ 140737488355328 ∧ x.mem.hs.length ≤ 140737488355328) ∧ x.bars.length ≤ 140737488355328 ∧ x.runs.length ≤ 140737488355328 ∧ x.laps.length ≤ 140737488355328 ∧ x.dems.length ≤ 140737488355328
theorem short_fun (b : Bar) : Fun Tryz.prog 46 [.agg b.c] (AK (bL (decide (shortB b))) []) := by
  refine Fun.of (nt := 13) (rs := [.tmp 2]) Tryz.func46 rfl rfl rfl rfl rfl (Ac fun _ k=>A4 (Be _ true) (Aa Ae (Ad k (Ac fun _ k=>Aa (Ap 4 EQ FW) (Aa (At FT) (Aa (A7 AG) (Aa BJ (AP Ab (fun c1 => ?_) (fun c1 => ?_)))))))))
  · refine Aa (Ap 0 F9 Da) (Aa (At CL) (Aa (EX EW Dr) (Aa BJ (Aa A5 (Aa Ae (Ad k (Af (Aq ?_)))))))); exact dI ⟨fun h => ⟨by omega, by omega⟩, fun h => by have h1 := h.2; omega⟩
  refine Ai (Ai (Aa Au (Aa Ae (Ad k (Af (Aq ?_)))))); exact bF (fun h => by have h1 := h.1; omega)
theorem small16_fun (bars : List Bar) (runs : List Rn) (h1 : bars.length ≤ 140737488355328) (h2 : runs.length ≤ 140737488355328) : Fun Tryz.prog 21 [.sh 5 (bars.map Bar.c), .sh 10 (runs.map Rn.c), iL 6, iL 16] (AK (bL (decide (smLaid bars runs))) []) := by
  refine Fun.of (nt := 113) (rs := [.tmp 8]) Tryz.func21 rfl rfl rfl rfl rfl (Ac fun _ k=>Aa Ae (Ad k (An (Ac fun _ k=>Aa Ab (Aa (A7 BO) (Aa Ab (Aa Bh (AP Ab (fun c1 => ?_) (fun c1 => ?_)))))))))
  · refine Aa Ab (Aa (A7 BO) (Aa BJ (Aa A5 (AP Ab (fun c2 => ?_) (fun c2 => ?_)))))
    · refine Ai (A9 (Aa A5 (Aa Ab (Ai (Ai (Ai (Ai (A9 (Aa A5 (Aa Ab (Ai (A9 (Aa A5 (Ad k (B3 (Ac fun _ k=>Aa Ae (Ad k (Af (Aq ?_))))))))))))))))))); exact bF (fun h => by have h1 := h.1; have h2 := h.2.1; omega)
    refine Aa Ab (Aa (A7 BO) (Aa Bh (Aa Au (AP Ab (fun c3 => ?_) (fun c3 => ?_)))))
    · refine Ai (Ai (Ai (Ai (A9 (Aa A5 (Aa Ab (Ai (A9 (Aa A5 (Ad k (B3 (Ac fun _ k=>Aa Ae (Ad k (Af (Aq ?_))))))))))))))); exact bF (fun h => by have h1 := h.1; have h2 := h.2.1; omega)
    refine Aa Ab (Aa (A7 Bo) (Aa Ab (Aa Bh (AP Ab (fun c4 => ?_) (fun c4 => ?_)))))
    · refine Aa Ab (Aa (A7 Bo) (Aa BJ (Aa A5 (Aa Au (AP Ab (fun c5 => ?_) (fun c5 => ?_))))))
      · refine Ai (A9 (Aa A5 (Ad k (B3 (Ac fun _ k=>Aa Ae (Ad k (Af (Aq ?_)))))))); exact bF (fun h => by have h1 := h.1; have h2 := h.2.1; omega)
      refine Aa Ab (Aa (A7 Bo) (Aa Bh (Aa Au (Ad k (Ax (fun c6 => ?_) (fun c6 => ?_))))))
      · refine Ac fun _ k=>Aa Ae (Ad k (Af (Aq ?_))); exact bF (fun h => by have h1 := h.1; have h2 := h.2.1; omega)
      refine As (An (Ac fun _ k=>Aa Ae (Ad k (Ar (AI (ι := {q : List Bar × List Bar // q.1 ++ q.2 = bars ∧ ∀ b ∈ q.1, shortB b}) [] [0, 1, 2, 3] (fun ⟨(pre, suf), _⟩ => [(9, iL (pre.length : Int))]) (fun ⟨(pre, suf), _⟩ => []) (fun ⟨(pre, suf), _⟩ => suf.length) ⟨([], bars), rfl, fun x hx => by simp at hx⟩ (.c (.c (.c (.c .n)))) AW (Ag) ?_))))); rintro ⟨⟨pre, suf⟩, hp, hinv⟩ R0 hR0; dsimp only [cA, nA, lC, lN]
      simp only at hp hinv
      have hpl := Cd hp
      rcases suf with _ | ⟨s, suf⟩
      · rw [List.append_nil] at hp; simp only [lN] at hpl; refine An (Ac fun _ k=>Aa Ab (Aa Ab (Aa (A7 BO) (Aa Ay (Ad k (Ax (fun c7 => ?_) (fun c7 => ?_)))))))
        · omega
        refine AO (hR0 _ _ ?_)
        have hba : ∀ b ∈ bars, shortB b := by rw [← hp]; exact hinv
        refine Ac fun _ k=>Aa Ae (Ad k (An (Ac fun _ k=>Aa Ae (Ad k (Ar (AI (ι := {q : List Rn × List Rn // q.1 ++ q.2 = runs ∧ ∀ b ∈ q.1, shortR b}) [] [1, 2, 3] (fun ⟨(pre, suf), _⟩ => [(11, iL (pre.length : Int)), (10, iL (sumP pre))]) (fun ⟨(pre, suf), _⟩ => []) (fun ⟨(pre, suf), _⟩ => suf.length) ⟨([], runs), rfl, fun x hx => by simp at hx⟩ (.c (.c (.c .n))) AW (Ag (h := (Ag))) ?_)))))); rintro ⟨⟨pre, suf⟩, hp, hinv⟩ R2 hR2; dsimp only [cA, nA, lC, lN]
        simp only at hp hinv
        have hpl := Cd hp
        rcases suf with _ | ⟨s, suf⟩
        · rw [List.append_nil] at hp; simp only [lN] at hpl; have hsp := sumP_bd pre
          have hpe : (pre.length : Int) = (runs.length : Int) := by omega
          refine An (Ac fun _ k=>Aa Ab (Aa Ab (Aa (A7 Bo) (Aa Ay (Ad k (Ax (fun c8 => ?_) (fun c8 => ?_)))))))
          · omega
          refine AO (hR2 _ _ (Ac fun _ k=>Aa Ab (Aa Ab (Aa BJ (AP Ab (fun c9 => ?_) (fun c9 => ?_))))))
          · refine Ai (Ai (Aa A5 (Aa Ae (Ad k (Af (Aq ?_)))))); exact bT ⟨by omega, by omega, hba, by rw [← hp]; exact hinv, by rw [← hp]; exact .inl (by omega)⟩
          refine Aa Ab (Aa (A7 Bo) (Aa Ab (Aa Bh (Aa Au (Aa Ae (Ad k (Af (Aq ?_)))))))); exact dI ⟨fun h => ⟨by omega, by omega, hba, by rw [← hp]; exact hinv, by exact .inr (by omega)⟩, fun h => by have h1 := h.2.2.2.2; rw [← hp] at h1; omega⟩
        simp only [lC] at hpl; have hidx := Ch hp; have hms := GA hp; have hsp := sumP_bd pre; refine An (Ac fun _ k=>Aa Ab (Aa Ab (Aa (A7 Bo) (Aa Ay (Ad k (Ax (fun c10 => ?_) (fun c10 => ?_)))))))
        · refine As (An (Ar (An (Ac fun _ k=>Aa Ab (Aa Ab (Aa (AL Bo B5 (hl := (by exact AY hidx (by omega)))) (Aa (BP 0 Fq Da) (Aa (Bc CL) (Aa (EX EW Dr) (Aa Bh (Ad k (Ax (fun c11 => ?_) (fun c11 => ?_)))))))))))))
          · refine Ac fun _ k=>Aa Ae (Ad k (Af (hR2 _ _ (Aq ?_)))); exact bF (fun h => by have h1 := (h.2.2.2.1 s hms).1; omega)
          refine As (An (Ac fun _ k=>Aa Ab (Aa Ab (Aa (AL Bo B5 (hl := (by exact AY hidx (by omega)))) (Aa (BP 9 B4 Ah) (Aa (Bc Al) (Aa Ab (Aa Bh (AP Ab (fun c12 => ?_) (fun c12 => ?_))))))))))
          · refine Aa Ab (Aa Ab (Aa (AL Bo B5 (hl := (by exact AY hidx (by omega)))) (Aa (BP 9 B4 Ah) (Aa (Bc Al) (Aa BJ (Aa A5 (Ad k (Ax (fun c13 => ?_) (fun c13 => ?_)))))))))
            · refine Ac fun _ k=>Aa Ae (Ad k (Af (hR2 _ _ (Aq ?_)))); exact bF (fun h => (h.2.2.2.1 s hms).2 ⟨by omega, by omega⟩)
            refine As (Ac fun _ k=>Aa Ab (Aa Ab (Aa (AL Bo B5 (hl := (by exact AY hidx (by omega)))) (Aa (BP 9 B4 Ah) (Aa (Bc Al) (Aa Bh (AP Ab (fun c14 => ?_) (fun c14 => ?_))))))))
            · refine Aa Ab (Aa Ab (Aa (AL Bo B5 (hl := (by exact AY hidx (by omega)))) (Aa (BP 9 B4 Ah) (Aa (Bc Al) (Aa Ab (Aa BJ (Aa A5 (Ad k (Ax (fun c15 => ?_) (fun c15 => ?_))))))))))
              · omega
              refine As (Ao fun _ k=>Aa Ab (Aa A6 (Aa Ae (Ad k (hR2 _ _ (A8 [] [1, 2, 3] ⟨(pre ++ [s], suf), B2 hp, ?_⟩ BX AW (Ag (he := (by congr 2; simp)) (h := (Ag (he := (by exact iE (sumP_f (by omega)).symm))))) (.c (.c (.c .n)))))))))
              intro x hx; simp only [List.mem_append, List.mem_singleton] at hx; rcases hx with hx | rfl
              · exact hinv x hx
              · exact ⟨by omega, by omega⟩
            omega
          refine Ai (Ai (Ai (Aa Au (Ad k (Ei (As (Ac fun _ k=>Aa Ab (Aa Ab (Aa (AL Bo B5 (hl := (by exact AY hidx (by omega)))) (Aa (BP 9 B4 Ah) (Aa (Bc Al) (Aa Bh (AP Ab (fun c16 => ?_) (fun c16 => ?_))))))))))))))
          · refine Aa Ab (Aa Ab (Aa (AL Bo B5 (hl := (by exact AY hidx (by omega)))) (Aa (BP 9 B4 Ah) (Aa (Bc Al) (Aa Ab (Aa BJ (Aa A5 (Ad k (Ax (fun c17 => ?_) (fun c17 => ?_))))))))))
            · refine Ao fun _ k=>Aa Ab (Aa Ab (Aa Ab (Aa (AL Bo B5 (hl := (by exact AY hidx (by omega)))) (Aa (BP 9 B4 Ah) (Aa (Bc Al) (Aa A6 (Aa Ae (Ad k ?_)))))))); show Ev _ _ _ _; refine Ao fun _ k=>Aa Ab (Aa A6 (Aa Ae (Ad k (hR2 _ _ (A8 [] [1, 2, 3] ⟨(pre ++ [s], suf), B2 hp, ?_⟩ BX AW (Ag (he := (by congr 2; simp)) (h := (Ag (he := (by exact iE (sumP_t (by omega) (by omega)).symm))))) (.c (.c (.c .n))))))))
              intro x hx; simp only [List.mem_append, List.mem_singleton] at hx; rcases hx with hx | rfl
              · exact hinv x hx
              · exact ⟨by omega, by omega⟩
            omega
          refine Ai (Ai (Ai (A9 (Aa Au (Ad k (Ei (As (Ao fun _ k=>Aa Ab (Aa A6 (Aa Ae (Ad k (hR2 _ _ (A8 [] [1, 2, 3] ⟨(pre ++ [s], suf), B2 hp, ?_⟩ BX AW (Ag (he := (by congr 2; simp)) (h := (Ag (he := (by exact iE (sumP_f (by omega)).symm))))) (.c (.c (.c .n))))))))))))))))
          intro x hx; simp only [List.mem_append, List.mem_singleton] at hx; rcases hx with hx | rfl
          · exact hinv x hx
          · exact ⟨by omega, by omega⟩
        omega
      simp only [lC] at hpl; have hidx := Ch hp; have hms := GA hp; refine An (Ac fun _ k=>Aa Ab (Aa Ab (Aa (A7 BO) (Aa Ay (Ad k (Ax (fun c18 => ?_) (fun c18 => ?_)))))))
      · refine As (An (Ar (Ac fun _ k=>Aa Ab (Aa Ab (Aa (AL BO Bv (hl := (by exact AY hidx (by omega)))) (Aa (BF _ Cm Bv) (A3 (hF := short_fun s) (h := Aa BB (Ad k (Cb (fun c19 => ?_) (fun c19 => ?_)))))))))))
        · refine Ac fun _ k=>Aa Ae (Ad k (Af (hR0 _ _ (Aq ?_)))); exact bF (fun h => absurd (h.2.2.1 s hms) ‹_›)
        refine As (Ao fun _ k=>Aa Ab (Aa A6 (Aa Ae (Ad k (hR0 _ _ (A8 [] [0, 1, 2, 3] ⟨(pre ++ [s], suf), B2 hp, ?_⟩ BX AW (Ag (he := (by congr 2; simp))) (.c (.c (.c (.c .n))))))))))
        intro x hx; simp only [List.mem_append, List.mem_singleton] at hx; rcases hx with hx | rfl
        · exact hinv x hx
        · assumption
      omega
    refine Ai (A9 (Aa Au (Aa Au (Aa Ab (Aa Ab (Aa (A7 Bo) (Aa Bh (Aa Au (Ad k (Ax (fun c20 => ?_) (fun c20 => ?_)))))))))))
    · omega
    refine As (An (Ac fun _ k=>Aa Ae (Ad k (Ar (AI (ι := {q : List Bar × List Bar // q.1 ++ q.2 = bars ∧ ∀ b ∈ q.1, shortB b}) [] [0, 1, 2, 3] (fun ⟨(pre, suf), _⟩ => [(9, iL (pre.length : Int))]) (fun ⟨(pre, suf), _⟩ => []) (fun ⟨(pre, suf), _⟩ => suf.length) ⟨([], bars), rfl, fun x hx => by simp at hx⟩ (.c (.c (.c (.c .n)))) AW (Ag) ?_))))); rintro ⟨⟨pre, suf⟩, hp, hinv⟩ R0 hR0; dsimp only [cA, nA, lC, lN]
    simp only at hp hinv
    have hpl := Cd hp
    rcases suf with _ | ⟨s, suf⟩
    · rw [List.append_nil] at hp; simp only [lN] at hpl; refine An (Ac fun _ k=>Aa Ab (Aa Ab (Aa (A7 BO) (Aa Ay (Ad k (Ax (fun c21 => ?_) (fun c21 => ?_)))))))
      · omega
      refine AO (hR0 _ _ ?_)
      have hba : ∀ b ∈ bars, shortB b := by rw [← hp]; exact hinv
      refine Ac fun _ k=>Aa Ae (Ad k (An (Ac fun _ k=>Aa Ae (Ad k (Ar (AI (ι := {q : List Rn × List Rn // q.1 ++ q.2 = runs ∧ ∀ b ∈ q.1, shortR b}) [] [1, 2, 3] (fun ⟨(pre, suf), _⟩ => [(11, iL (pre.length : Int)), (10, iL (sumP pre))]) (fun ⟨(pre, suf), _⟩ => []) (fun ⟨(pre, suf), _⟩ => suf.length) ⟨([], runs), rfl, fun x hx => by simp at hx⟩ (.c (.c (.c .n))) AW (Ag (h := (Ag))) ?_)))))); rintro ⟨⟨pre, suf⟩, hp, hinv⟩ R2 hR2; dsimp only [cA, nA, lC, lN]
      simp only at hp hinv
      have hpl := Cd hp
      rcases suf with _ | ⟨s, suf⟩
      · rw [List.append_nil] at hp; simp only [lN] at hpl; have hsp := sumP_bd pre
        have hpe : (pre.length : Int) = (runs.length : Int) := by omega
        refine An (Ac fun _ k=>Aa Ab (Aa Ab (Aa (A7 Bo) (Aa Ay (Ad k (Ax (fun c22 => ?_) (fun c22 => ?_)))))))
        · omega
        refine AO (hR2 _ _ (Ac fun _ k=>Aa Ab (Aa Ab (Aa BJ (AP Ab (fun c23 => ?_) (fun c23 => ?_))))))
        · refine Ai (Ai (Aa A5 (Aa Ae (Ad k (Af (Aq ?_)))))); exact bT ⟨by omega, by omega, hba, by rw [← hp]; exact hinv, by rw [← hp]; exact .inl (by omega)⟩
        refine Aa Ab (Aa (A7 Bo) (Aa Ab (Aa Bh (Aa Au (Aa Ae (Ad k (Af (Aq ?_)))))))); exact dI ⟨fun h => ⟨by omega, by omega, hba, by rw [← hp]; exact hinv, by exact .inr (by omega)⟩, fun h => by have h1 := h.2.2.2.2; rw [← hp] at h1; omega⟩
      simp only [lC] at hpl; have hidx := Ch hp; have hms := GA hp; have hsp := sumP_bd pre; refine An (Ac fun _ k=>Aa Ab (Aa Ab (Aa (A7 Bo) (Aa Ay (Ad k (Ax (fun c24 => ?_) (fun c24 => ?_)))))))
      · refine As (An (Ar (An (Ac fun _ k=>Aa Ab (Aa Ab (Aa (AL Bo B5 (hl := (by exact AY hidx (by omega)))) (Aa (BP 0 Fq Da) (Aa (Bc CL) (Aa (EX EW Dr) (Aa Bh (Ad k (Ax (fun c25 => ?_) (fun c25 => ?_)))))))))))))
        · refine Ac fun _ k=>Aa Ae (Ad k (Af (hR2 _ _ (Aq ?_)))); exact bF (fun h => by have h1 := (h.2.2.2.1 s hms).1; omega)
        refine As (An (Ac fun _ k=>Aa Ab (Aa Ab (Aa (AL Bo B5 (hl := (by exact AY hidx (by omega)))) (Aa (BP 9 B4 Ah) (Aa (Bc Al) (Aa Ab (Aa Bh (AP Ab (fun c26 => ?_) (fun c26 => ?_))))))))))
        · refine Aa Ab (Aa Ab (Aa (AL Bo B5 (hl := (by exact AY hidx (by omega)))) (Aa (BP 9 B4 Ah) (Aa (Bc Al) (Aa BJ (Aa A5 (Ad k (Ax (fun c27 => ?_) (fun c27 => ?_)))))))))
          · refine Ac fun _ k=>Aa Ae (Ad k (Af (hR2 _ _ (Aq ?_)))); exact bF (fun h => (h.2.2.2.1 s hms).2 ⟨by omega, by omega⟩)
          refine As (Ac fun _ k=>Aa Ab (Aa Ab (Aa (AL Bo B5 (hl := (by exact AY hidx (by omega)))) (Aa (BP 9 B4 Ah) (Aa (Bc Al) (Aa Bh (AP Ab (fun c28 => ?_) (fun c28 => ?_))))))))
          · refine Aa Ab (Aa Ab (Aa (AL Bo B5 (hl := (by exact AY hidx (by omega)))) (Aa (BP 9 B4 Ah) (Aa (Bc Al) (Aa Ab (Aa BJ (Aa A5 (Ad k (Ax (fun c29 => ?_) (fun c29 => ?_))))))))))
            · omega
            refine As (Ao fun _ k=>Aa Ab (Aa A6 (Aa Ae (Ad k (hR2 _ _ (A8 [] [1, 2, 3] ⟨(pre ++ [s], suf), B2 hp, ?_⟩ BX AW (Ag (he := (by congr 2; simp)) (h := (Ag (he := (by exact iE (sumP_f (by omega)).symm))))) (.c (.c (.c .n)))))))))
            intro x hx; simp only [List.mem_append, List.mem_singleton] at hx; rcases hx with hx | rfl
            · exact hinv x hx
            · exact ⟨by omega, by omega⟩
          omega
        refine Ai (Ai (Ai (Aa Au (Ad k (Ei (As (Ac fun _ k=>Aa Ab (Aa Ab (Aa (AL Bo B5 (hl := (by exact AY hidx (by omega)))) (Aa (BP 9 B4 Ah) (Aa (Bc Al) (Aa Bh (AP Ab (fun c30 => ?_) (fun c30 => ?_))))))))))))))
        · refine Aa Ab (Aa Ab (Aa (AL Bo B5 (hl := (by exact AY hidx (by omega)))) (Aa (BP 9 B4 Ah) (Aa (Bc Al) (Aa Ab (Aa BJ (Aa A5 (Ad k (Ax (fun c31 => ?_) (fun c31 => ?_))))))))))
          · refine Ao fun _ k=>Aa Ab (Aa Ab (Aa Ab (Aa (AL Bo B5 (hl := (by exact AY hidx (by omega)))) (Aa (BP 9 B4 Ah) (Aa (Bc Al) (Aa A6 (Aa Ae (Ad k ?_)))))))); show Ev _ _ _ _; refine Ao fun _ k=>Aa Ab (Aa A6 (Aa Ae (Ad k (hR2 _ _ (A8 [] [1, 2, 3] ⟨(pre ++ [s], suf), B2 hp, ?_⟩ BX AW (Ag (he := (by congr 2; simp)) (h := (Ag (he := (by exact iE (sumP_t (by omega) (by omega)).symm))))) (.c (.c (.c .n))))))))
            intro x hx; simp only [List.mem_append, List.mem_singleton] at hx; rcases hx with hx | rfl
            · exact hinv x hx
            · exact ⟨by omega, by omega⟩
          omega
        refine Ai (Ai (Ai (A9 (Aa Au (Ad k (Ei (As (Ao fun _ k=>Aa Ab (Aa A6 (Aa Ae (Ad k (hR2 _ _ (A8 [] [1, 2, 3] ⟨(pre ++ [s], suf), B2 hp, ?_⟩ BX AW (Ag (he := (by congr 2; simp)) (h := (Ag (he := (by exact iE (sumP_f (by omega)).symm))))) (.c (.c (.c .n))))))))))))))))
        intro x hx; simp only [List.mem_append, List.mem_singleton] at hx; rcases hx with hx | rfl
        · exact hinv x hx
        · exact ⟨by omega, by omega⟩
      omega
    simp only [lC] at hpl; have hidx := Ch hp; have hms := GA hp; refine An (Ac fun _ k=>Aa Ab (Aa Ab (Aa (A7 BO) (Aa Ay (Ad k (Ax (fun c32 => ?_) (fun c32 => ?_)))))))
    · refine As (An (Ar (Ac fun _ k=>Aa Ab (Aa Ab (Aa (AL BO Bv (hl := (by exact AY hidx (by omega)))) (Aa (BF _ Cm Bv) (A3 (hF := short_fun s) (h := Aa BB (Ad k (Cb (fun c33 => ?_) (fun c33 => ?_)))))))))))
      · refine Ac fun _ k=>Aa Ae (Ad k (Af (hR0 _ _ (Aq ?_)))); exact bF (fun h => absurd (h.2.2.1 s hms) ‹_›)
      refine As (Ao fun _ k=>Aa Ab (Aa A6 (Aa Ae (Ad k (hR0 _ _ (A8 [] [0, 1, 2, 3] ⟨(pre ++ [s], suf), B2 hp, ?_⟩ BX AW (Ag (he := (by congr 2; simp))) (.c (.c (.c (.c .n))))))))))
      intro x hx; simp only [List.mem_append, List.mem_singleton] at hx; rcases hx with hx | rfl
      · exact hinv x hx
      · assumption
    omega
  refine Ai (A9 (Aa Au (Aa Ab (Aa Ab (Aa (A7 BO) (Aa Bh (Aa Au (AP Ab (fun c34 => ?_) (fun c34 => ?_)))))))))
  · omega
  refine Aa Ab (Aa (A7 Bo) (Aa Ab (Aa Bh (AP Ab (fun c35 => ?_) (fun c35 => ?_)))))
  · refine Aa Ab (Aa (A7 Bo) (Aa BJ (Aa A5 (Aa Au (AP Ab (fun c36 => ?_) (fun c36 => ?_))))))
    · refine Ai (A9 (Aa A5 (Ad k (B3 (Ac fun _ k=>Aa Ae (Ad k (Af (Aq ?_)))))))); exact bF (fun h => by have h1 := h.1; have h2 := h.2.1; omega)
    refine Aa Ab (Aa (A7 Bo) (Aa Bh (Aa Au (Ad k (Ax (fun c37 => ?_) (fun c37 => ?_))))))
    · refine Ac fun _ k=>Aa Ae (Ad k (Af (Aq ?_))); exact bF (fun h => by have h1 := h.1; have h2 := h.2.1; omega)
    refine As (An (Ac fun _ k=>Aa Ae (Ad k (Ar (AI (ι := {q : List Bar × List Bar // q.1 ++ q.2 = bars ∧ ∀ b ∈ q.1, shortB b}) [] [0, 1, 2, 3] (fun ⟨(pre, suf), _⟩ => [(9, iL (pre.length : Int))]) (fun ⟨(pre, suf), _⟩ => []) (fun ⟨(pre, suf), _⟩ => suf.length) ⟨([], bars), rfl, fun x hx => by simp at hx⟩ (.c (.c (.c (.c .n)))) AW (Ag) ?_))))); rintro ⟨⟨pre, suf⟩, hp, hinv⟩ R0 hR0; dsimp only [cA, nA, lC, lN]
    simp only at hp hinv
    have hpl := Cd hp
    rcases suf with _ | ⟨s, suf⟩
    · rw [List.append_nil] at hp; simp only [lN] at hpl; refine An (Ac fun _ k=>Aa Ab (Aa Ab (Aa (A7 BO) (Aa Ay (Ad k (Ax (fun c38 => ?_) (fun c38 => ?_)))))))
      · omega
      refine AO (hR0 _ _ ?_)
      have hba : ∀ b ∈ bars, shortB b := by rw [← hp]; exact hinv
      refine Ac fun _ k=>Aa Ae (Ad k (An (Ac fun _ k=>Aa Ae (Ad k (Ar (AI (ι := {q : List Rn × List Rn // q.1 ++ q.2 = runs ∧ ∀ b ∈ q.1, shortR b}) [] [1, 2, 3] (fun ⟨(pre, suf), _⟩ => [(11, iL (pre.length : Int)), (10, iL (sumP pre))]) (fun ⟨(pre, suf), _⟩ => []) (fun ⟨(pre, suf), _⟩ => suf.length) ⟨([], runs), rfl, fun x hx => by simp at hx⟩ (.c (.c (.c .n))) AW (Ag (h := (Ag))) ?_)))))); rintro ⟨⟨pre, suf⟩, hp, hinv⟩ R2 hR2; dsimp only [cA, nA, lC, lN]
      simp only at hp hinv
      have hpl := Cd hp
      rcases suf with _ | ⟨s, suf⟩
      · rw [List.append_nil] at hp; simp only [lN] at hpl; have hsp := sumP_bd pre
        have hpe : (pre.length : Int) = (runs.length : Int) := by omega
        refine An (Ac fun _ k=>Aa Ab (Aa Ab (Aa (A7 Bo) (Aa Ay (Ad k (Ax (fun c39 => ?_) (fun c39 => ?_)))))))
        · omega
        refine AO (hR2 _ _ (Ac fun _ k=>Aa Ab (Aa Ab (Aa BJ (AP Ab (fun c40 => ?_) (fun c40 => ?_))))))
        · refine Ai (Ai (Aa A5 (Aa Ae (Ad k (Af (Aq ?_)))))); exact bT ⟨by omega, by omega, hba, by rw [← hp]; exact hinv, by rw [← hp]; exact .inl (by omega)⟩
        refine Aa Ab (Aa (A7 Bo) (Aa Ab (Aa Bh (Aa Au (Aa Ae (Ad k (Af (Aq ?_)))))))); exact dI ⟨fun h => ⟨by omega, by omega, hba, by rw [← hp]; exact hinv, by exact .inr (by omega)⟩, fun h => by have h1 := h.2.2.2.2; rw [← hp] at h1; omega⟩
      simp only [lC] at hpl; have hidx := Ch hp; have hms := GA hp; have hsp := sumP_bd pre; refine An (Ac fun _ k=>Aa Ab (Aa Ab (Aa (A7 Bo) (Aa Ay (Ad k (Ax (fun c41 => ?_) (fun c41 => ?_)))))))
      · refine As (An (Ar (An (Ac fun _ k=>Aa Ab (Aa Ab (Aa (AL Bo B5 (hl := (by exact AY hidx (by omega)))) (Aa (BP 0 Fq Da) (Aa (Bc CL) (Aa (EX EW Dr) (Aa Bh (Ad k (Ax (fun c42 => ?_) (fun c42 => ?_)))))))))))))
        · refine Ac fun _ k=>Aa Ae (Ad k (Af (hR2 _ _ (Aq ?_)))); exact bF (fun h => by have h1 := (h.2.2.2.1 s hms).1; omega)
        refine As (An (Ac fun _ k=>Aa Ab (Aa Ab (Aa (AL Bo B5 (hl := (by exact AY hidx (by omega)))) (Aa (BP 9 B4 Ah) (Aa (Bc Al) (Aa Ab (Aa Bh (AP Ab (fun c43 => ?_) (fun c43 => ?_))))))))))
        · refine Aa Ab (Aa Ab (Aa (AL Bo B5 (hl := (by exact AY hidx (by omega)))) (Aa (BP 9 B4 Ah) (Aa (Bc Al) (Aa BJ (Aa A5 (Ad k (Ax (fun c44 => ?_) (fun c44 => ?_)))))))))
          · refine Ac fun _ k=>Aa Ae (Ad k (Af (hR2 _ _ (Aq ?_)))); exact bF (fun h => (h.2.2.2.1 s hms).2 ⟨by omega, by omega⟩)
          refine As (Ac fun _ k=>Aa Ab (Aa Ab (Aa (AL Bo B5 (hl := (by exact AY hidx (by omega)))) (Aa (BP 9 B4 Ah) (Aa (Bc Al) (Aa Bh (AP Ab (fun c45 => ?_) (fun c45 => ?_))))))))
          · refine Aa Ab (Aa Ab (Aa (AL Bo B5 (hl := (by exact AY hidx (by omega)))) (Aa (BP 9 B4 Ah) (Aa (Bc Al) (Aa Ab (Aa BJ (Aa A5 (Ad k (Ax (fun c46 => ?_) (fun c46 => ?_))))))))))
            · omega
            refine As (Ao fun _ k=>Aa Ab (Aa A6 (Aa Ae (Ad k (hR2 _ _ (A8 [] [1, 2, 3] ⟨(pre ++ [s], suf), B2 hp, ?_⟩ BX AW (Ag (he := (by congr 2; simp)) (h := (Ag (he := (by exact iE (sumP_f (by omega)).symm))))) (.c (.c (.c .n)))))))))
            intro x hx; simp only [List.mem_append, List.mem_singleton] at hx; rcases hx with hx | rfl
            · exact hinv x hx
            · exact ⟨by omega, by omega⟩
          omega
        refine Ai (Ai (Ai (Aa Au (Ad k (Ei (As (Ac fun _ k=>Aa Ab (Aa Ab (Aa (AL Bo B5 (hl := (by exact AY hidx (by omega)))) (Aa (BP 9 B4 Ah) (Aa (Bc Al) (Aa Bh (AP Ab (fun c47 => ?_) (fun c47 => ?_))))))))))))))
        · refine Aa Ab (Aa Ab (Aa (AL Bo B5 (hl := (by exact AY hidx (by omega)))) (Aa (BP 9 B4 Ah) (Aa (Bc Al) (Aa Ab (Aa BJ (Aa A5 (Ad k (Ax (fun c48 => ?_) (fun c48 => ?_))))))))))
          · refine Ao fun _ k=>Aa Ab (Aa Ab (Aa Ab (Aa (AL Bo B5 (hl := (by exact AY hidx (by omega)))) (Aa (BP 9 B4 Ah) (Aa (Bc Al) (Aa A6 (Aa Ae (Ad k ?_)))))))); show Ev _ _ _ _; refine Ao fun _ k=>Aa Ab (Aa A6 (Aa Ae (Ad k (hR2 _ _ (A8 [] [1, 2, 3] ⟨(pre ++ [s], suf), B2 hp, ?_⟩ BX AW (Ag (he := (by congr 2; simp)) (h := (Ag (he := (by exact iE (sumP_t (by omega) (by omega)).symm))))) (.c (.c (.c .n))))))))
            intro x hx; simp only [List.mem_append, List.mem_singleton] at hx; rcases hx with hx | rfl
            · exact hinv x hx
            · exact ⟨by omega, by omega⟩
          omega
        refine Ai (Ai (Ai (A9 (Aa Au (Ad k (Ei (As (Ao fun _ k=>Aa Ab (Aa A6 (Aa Ae (Ad k (hR2 _ _ (A8 [] [1, 2, 3] ⟨(pre ++ [s], suf), B2 hp, ?_⟩ BX AW (Ag (he := (by congr 2; simp)) (h := (Ag (he := (by exact iE (sumP_f (by omega)).symm))))) (.c (.c (.c .n))))))))))))))))
        intro x hx; simp only [List.mem_append, List.mem_singleton] at hx; rcases hx with hx | rfl
        · exact hinv x hx
        · exact ⟨by omega, by omega⟩
      omega
    simp only [lC] at hpl; have hidx := Ch hp; have hms := GA hp; refine An (Ac fun _ k=>Aa Ab (Aa Ab (Aa (A7 BO) (Aa Ay (Ad k (Ax (fun c49 => ?_) (fun c49 => ?_)))))))
    · refine As (An (Ar (Ac fun _ k=>Aa Ab (Aa Ab (Aa (AL BO Bv (hl := (by exact AY hidx (by omega)))) (Aa (BF _ Cm Bv) (A3 (hF := short_fun s) (h := Aa BB (Ad k (Cb (fun c50 => ?_) (fun c50 => ?_)))))))))))
      · refine Ac fun _ k=>Aa Ae (Ad k (Af (hR0 _ _ (Aq ?_)))); exact bF (fun h => absurd (h.2.2.1 s hms) ‹_›)
      refine As (Ao fun _ k=>Aa Ab (Aa A6 (Aa Ae (Ad k (hR0 _ _ (A8 [] [0, 1, 2, 3] ⟨(pre ++ [s], suf), B2 hp, ?_⟩ BX AW (Ag (he := (by congr 2; simp))) (.c (.c (.c (.c .n))))))))))
      intro x hx; simp only [List.mem_append, List.mem_singleton] at hx; rcases hx with hx | rfl
      · exact hinv x hx
      · assumption
    omega
  refine Ai (A9 (Aa Au (Aa Au (Aa Ab (Aa Ab (Aa (A7 Bo) (Aa Bh (Aa Au (Ad k (Ax (fun c51 => ?_) (fun c51 => ?_)))))))))))
  · omega
  refine As (An (Ac fun _ k=>Aa Ae (Ad k (Ar (AI (ι := {q : List Bar × List Bar // q.1 ++ q.2 = bars ∧ ∀ b ∈ q.1, shortB b}) [] [0, 1, 2, 3] (fun ⟨(pre, suf), _⟩ => [(9, iL (pre.length : Int))]) (fun ⟨(pre, suf), _⟩ => []) (fun ⟨(pre, suf), _⟩ => suf.length) ⟨([], bars), rfl, fun x hx => by simp at hx⟩ (.c (.c (.c (.c .n)))) AW (Ag) ?_))))); rintro ⟨⟨pre, suf⟩, hp, hinv⟩ R0 hR0; dsimp only [cA, nA, lC, lN]
  simp only at hp hinv
  have hpl := Cd hp
  rcases suf with _ | ⟨s, suf⟩
  · rw [List.append_nil] at hp; simp only [lN] at hpl; refine An (Ac fun _ k=>Aa Ab (Aa Ab (Aa (A7 BO) (Aa Ay (Ad k (Ax (fun c52 => ?_) (fun c52 => ?_)))))))
    · omega
    refine AO (hR0 _ _ ?_)
    have hba : ∀ b ∈ bars, shortB b := by rw [← hp]; exact hinv
    refine Ac fun _ k=>Aa Ae (Ad k (An (Ac fun _ k=>Aa Ae (Ad k (Ar (AI (ι := {q : List Rn × List Rn // q.1 ++ q.2 = runs ∧ ∀ b ∈ q.1, shortR b}) [] [1, 2, 3] (fun ⟨(pre, suf), _⟩ => [(11, iL (pre.length : Int)), (10, iL (sumP pre))]) (fun ⟨(pre, suf), _⟩ => []) (fun ⟨(pre, suf), _⟩ => suf.length) ⟨([], runs), rfl, fun x hx => by simp at hx⟩ (.c (.c (.c .n))) AW (Ag (h := (Ag))) ?_)))))); rintro ⟨⟨pre, suf⟩, hp, hinv⟩ R2 hR2; dsimp only [cA, nA, lC, lN]
    simp only at hp hinv
    have hpl := Cd hp
    rcases suf with _ | ⟨s, suf⟩
    · rw [List.append_nil] at hp; simp only [lN] at hpl; have hsp := sumP_bd pre
      have hpe : (pre.length : Int) = (runs.length : Int) := by omega
      refine An (Ac fun _ k=>Aa Ab (Aa Ab (Aa (A7 Bo) (Aa Ay (Ad k (Ax (fun c53 => ?_) (fun c53 => ?_)))))))
      · omega
      refine AO (hR2 _ _ (Ac fun _ k=>Aa Ab (Aa Ab (Aa BJ (AP Ab (fun c54 => ?_) (fun c54 => ?_))))))
      · refine Ai (Ai (Aa A5 (Aa Ae (Ad k (Af (Aq ?_)))))); exact bT ⟨by omega, by omega, hba, by rw [← hp]; exact hinv, by rw [← hp]; exact .inl (by omega)⟩
      refine Aa Ab (Aa (A7 Bo) (Aa Ab (Aa Bh (Aa Au (Aa Ae (Ad k (Af (Aq ?_)))))))); exact dI ⟨fun h => ⟨by omega, by omega, hba, by rw [← hp]; exact hinv, by exact .inr (by omega)⟩, fun h => by have h1 := h.2.2.2.2; rw [← hp] at h1; omega⟩
    simp only [lC] at hpl; have hidx := Ch hp; have hms := GA hp; have hsp := sumP_bd pre; refine An (Ac fun _ k=>Aa Ab (Aa Ab (Aa (A7 Bo) (Aa Ay (Ad k (Ax (fun c55 => ?_) (fun c55 => ?_)))))))
    · refine As (An (Ar (An (Ac fun _ k=>Aa Ab (Aa Ab (Aa (AL Bo B5 (hl := (by exact AY hidx (by omega)))) (Aa (BP 0 Fq Da) (Aa (Bc CL) (Aa (EX EW Dr) (Aa Bh (Ad k (Ax (fun c56 => ?_) (fun c56 => ?_)))))))))))))
      · refine Ac fun _ k=>Aa Ae (Ad k (Af (hR2 _ _ (Aq ?_)))); exact bF (fun h => by have h1 := (h.2.2.2.1 s hms).1; omega)
      refine As (An (Ac fun _ k=>Aa Ab (Aa Ab (Aa (AL Bo B5 (hl := (by exact AY hidx (by omega)))) (Aa (BP 9 B4 Ah) (Aa (Bc Al) (Aa Ab (Aa Bh (AP Ab (fun c57 => ?_) (fun c57 => ?_))))))))))
      · refine Aa Ab (Aa Ab (Aa (AL Bo B5 (hl := (by exact AY hidx (by omega)))) (Aa (BP 9 B4 Ah) (Aa (Bc Al) (Aa BJ (Aa A5 (Ad k (Ax (fun c58 => ?_) (fun c58 => ?_)))))))))
        · refine Ac fun _ k=>Aa Ae (Ad k (Af (hR2 _ _ (Aq ?_)))); exact bF (fun h => (h.2.2.2.1 s hms).2 ⟨by omega, by omega⟩)
        refine As (Ac fun _ k=>Aa Ab (Aa Ab (Aa (AL Bo B5 (hl := (by exact AY hidx (by omega)))) (Aa (BP 9 B4 Ah) (Aa (Bc Al) (Aa Bh (AP Ab (fun c59 => ?_) (fun c59 => ?_))))))))
        · refine Aa Ab (Aa Ab (Aa (AL Bo B5 (hl := (by exact AY hidx (by omega)))) (Aa (BP 9 B4 Ah) (Aa (Bc Al) (Aa Ab (Aa BJ (Aa A5 (Ad k (Ax (fun c60 => ?_) (fun c60 => ?_))))))))))
          · omega
          refine As (Ao fun _ k=>Aa Ab (Aa A6 (Aa Ae (Ad k (hR2 _ _ (A8 [] [1, 2, 3] ⟨(pre ++ [s], suf), B2 hp, ?_⟩ BX AW (Ag (he := (by congr 2; simp)) (h := (Ag (he := (by exact iE (sumP_f (by omega)).symm))))) (.c (.c (.c .n)))))))))
          intro x hx; simp only [List.mem_append, List.mem_singleton] at hx; rcases hx with hx | rfl
          · exact hinv x hx
          · exact ⟨by omega, by omega⟩
        omega
      refine Ai (Ai (Ai (Aa Au (Ad k (Ei (As (Ac fun _ k=>Aa Ab (Aa Ab (Aa (AL Bo B5 (hl := (by exact AY hidx (by omega)))) (Aa (BP 9 B4 Ah) (Aa (Bc Al) (Aa Bh (AP Ab (fun c61 => ?_) (fun c61 => ?_))))))))))))))
      · refine Aa Ab (Aa Ab (Aa (AL Bo B5 (hl := (by exact AY hidx (by omega)))) (Aa (BP 9 B4 Ah) (Aa (Bc Al) (Aa Ab (Aa BJ (Aa A5 (Ad k (Ax (fun c62 => ?_) (fun c62 => ?_))))))))))
        · refine Ao fun _ k=>Aa Ab (Aa Ab (Aa Ab (Aa (AL Bo B5 (hl := (by exact AY hidx (by omega)))) (Aa (BP 9 B4 Ah) (Aa (Bc Al) (Aa A6 (Aa Ae (Ad k ?_)))))))); show Ev _ _ _ _; refine Ao fun _ k=>Aa Ab (Aa A6 (Aa Ae (Ad k (hR2 _ _ (A8 [] [1, 2, 3] ⟨(pre ++ [s], suf), B2 hp, ?_⟩ BX AW (Ag (he := (by congr 2; simp)) (h := (Ag (he := (by exact iE (sumP_t (by omega) (by omega)).symm))))) (.c (.c (.c .n))))))))
          intro x hx; simp only [List.mem_append, List.mem_singleton] at hx; rcases hx with hx | rfl
          · exact hinv x hx
          · exact ⟨by omega, by omega⟩
        omega
      refine Ai (Ai (Ai (A9 (Aa Au (Ad k (Ei (As (Ao fun _ k=>Aa Ab (Aa A6 (Aa Ae (Ad k (hR2 _ _ (A8 [] [1, 2, 3] ⟨(pre ++ [s], suf), B2 hp, ?_⟩ BX AW (Ag (he := (by congr 2; simp)) (h := (Ag (he := (by exact iE (sumP_f (by omega)).symm))))) (.c (.c (.c .n))))))))))))))))
      intro x hx; simp only [List.mem_append, List.mem_singleton] at hx; rcases hx with hx | rfl
      · exact hinv x hx
      · exact ⟨by omega, by omega⟩
    omega
  simp only [lC] at hpl; have hidx := Ch hp; have hms := GA hp; refine An (Ac fun _ k=>Aa Ab (Aa Ab (Aa (A7 BO) (Aa Ay (Ad k (Ax (fun c63 => ?_) (fun c63 => ?_)))))))
  · refine As (An (Ar (Ac fun _ k=>Aa Ab (Aa Ab (Aa (AL BO Bv (hl := (by exact AY hidx (by omega)))) (Aa (BF _ Cm Bv) (A3 (hF := short_fun s) (h := Aa BB (Ad k (Cb (fun c64 => ?_) (fun c64 => ?_)))))))))))
    · refine Ac fun _ k=>Aa Ae (Ad k (Af (hR0 _ _ (Aq ?_)))); exact bF (fun h => absurd (h.2.2.1 s hms) ‹_›)
    refine As (Ao fun _ k=>Aa Ab (Aa A6 (Aa Ae (Ad k (hR0 _ _ (A8 [] [0, 1, 2, 3] ⟨(pre ++ [s], suf), B2 hp, ?_⟩ BX AW (Ag (he := (by congr 2; simp))) (.c (.c (.c (.c .n))))))))))
    intro x hx; simp only [List.mem_append, List.mem_singleton] at hx; rcases hx with hx | rfl
    · exact hinv x hx
    · assumption
  omega
theorem small17_fun (bs hs : List Bx) (h1 : bs.length ≤ 140737488355328) (h2 : hs.length ≤ 140737488355328) : Fun Tryz.prog 20 [.agg [.sh 6 (bs.map Bx.c), .sh 6 (hs.map Bx.c)], iL 4] (AK (bL (decide (smSol bs hs))) []) := by
  have he : smSol bs hs ↔ ((bs.length ≤ 4 ∨ 20 < bs.length) ∧ bs.length ≤ 25) ∧ (hs.length ≤ 4 ∨ 20 < hs.length) ∧ hs.length ≤ 25 := Iff.rfl; refine Fun.of (nt := 37) (rs := [.tmp 4]) Tryz.func20 rfl rfl rfl rfl rfl (Ac fun _ k=>A4 (Be _ true) (Aa Ae (Ad k (Ck (C8 [(0, 0), (1, 1), (2, 3), (0, 0), (4, 8), (5, 24), (3, 7), (7, 127)]) 7 fun _ k=>Ak (Ap 0 DP CF) (Ak (At CI) (Ak (A7 Bs) (Ak (Ap 1 E6 CF) (Ak (At CI) (Ak (A7 Bs) (Ak Ae (Bz [_] (h := Aa Ae (Ad k (Ac fun _ k=>Aa Ab (Aa Ab (Aa BJ (AP Ab (fun c1 => ?_) (fun c1 => ?_))))))))))))))))))
  · refine Ai (Aa A5 (Aa Ab (Aa Ab (Aa BJ (Aa A5 (AP Ab (fun c2 => ?_) (fun c2 => ?_)))))))
    · refine Aa Ab (Aa Ab (Aa BJ (AP Ab (fun c3 => ?_) (fun c3 => ?_))))
      · refine Ai (Aa A5 (Aa A5 (Aa Ab (Aa Ab (Aa BJ (Aa A5 (Aa Ae (Ad k (Af (Aq ?_)))))))))); exact dI ⟨fun h => he.2 (by omega), fun h => by have h1 := he.1 h; omega⟩
      refine Aa Ab (Aa Bh (Aa Au (Aa A5 (AP Ab (fun c4 => ?_) (fun c4 => ?_)))))
      · refine Aa Ab (Aa BJ (Aa A5 (Aa Ae (Ad k (Af (Aq ?_)))))); exact dI ⟨fun h => he.2 (by omega), fun h => by have h1 := he.1 h; omega⟩
      refine Ai (Aa Au (Aa Ae (Ad k (Af (Aq ?_))))); exact bF (fun h => by have h1 := he.1 h; omega)
    omega
  refine Aa Ab (Aa Bh (Aa Au (AP Ab (fun c5 => ?_) (fun c5 => ?_))))
  · refine Aa Ab (Aa BJ (Aa A5 (AP Ab (fun c6 => ?_) (fun c6 => ?_))))
    · refine Aa Ab (Aa Ab (Aa BJ (AP Ab (fun c7 => ?_) (fun c7 => ?_))))
      · refine Ai (Aa A5 (Aa A5 (Aa Ab (Aa Ab (Aa BJ (Aa A5 (Aa Ae (Ad k (Af (Aq ?_)))))))))); exact dI ⟨fun h => he.2 (by omega), fun h => by have h1 := he.1 h; omega⟩
      refine Aa Ab (Aa Bh (Aa Au (Aa A5 (AP Ab (fun c8 => ?_) (fun c8 => ?_)))))
      · refine Aa Ab (Aa BJ (Aa A5 (Aa Ae (Ad k (Af (Aq ?_)))))); exact dI ⟨fun h => he.2 (by omega), fun h => by have h1 := he.1 h; omega⟩
      refine Ai (Aa Au (Aa Ae (Ad k (Af (Aq ?_))))); exact bF (fun h => by have h1 := he.1 h; omega)
    refine Ai (Ai (Ai (A9 (Aa Au (Aa Ab (Ai (Aa Au (Aa Ae (Ad k (Af (Aq ?_))))))))))); exact bF (fun h => by have h1 := he.1 h; omega)
  refine Ai (Aa Au (Aa Ab (Ai (Ai (Ai (A9 (Aa Au (Aa Ab (Ai (Aa Au (Aa Ae (Ad k (Af (Aq ?_)))))))))))))); exact bF (fun h => by have h1 := he.1 h; omega)
theorem smDet_fun (x : Det) (hl : x.l) : Fun Tryz.prog 6 [.agg x.c] (AK (bL (decide (smDet x))) []) := by
  obtain ⟨⟨nm, bs, hs, cv, ag, pk⟩, bars, runs, laps, dems, rl⟩ := x; obtain ⟨h1, ⟨h2, h3⟩, h4, h5, h6, h7⟩ := hl
  dsimp only at h1 h2 h3 h4 h5 h6 h7
  have he : smDet ⟨⟨nm, bs, hs, cv, ag, pk⟩, bars, runs, laps, dems, rl⟩ ↔ nm.length ≤ 60 ∧ smSol bs hs ∧ smLaid bars runs ∧ smD dems 4 ∧ (laps.length ≤ 16 ∨ 1000 < laps.length ∧ laps.length ≤ 1005) := Iff.rfl; refine Fun.of (nt := 45) (rs := [.tmp 2]) Tryz.func6 rfl rfl rfl rfl rfl (Ac fun _ k=>A4 (Be _ true) (Aa Ae (Ad k (An (Ac fun _ k=>Aa (Ap 0 am_fi34_0 am_cl26) (Aa (Ap 0 am_fi26_0 Da) (Aa (At CL) (Aa (EX EW Dr) (Aa Bh (AP Ab (fun c1 => ?_) (fun c1 => ?_)))))))))))
  · refine Ai (Ai (A9 (Aa A5 (Aa Ab (Ai (Ai (Ai (Aa A5 (Aa Ab (Ai (Ai (Aa A5 (Ad k (B3 (Ac fun _ k=>Aa Ae (Ad k (Af (Aq ?_)))))))))))))))))); exact bF (fun h => by have h1 := (he.1 h).1; omega)
  refine Aa (Ap 0 am_fi34_0 am_cl26) (Aa (Ap 1 am_fi26_1 E7) (Aa (Av _ FS E7) (A3 (hF := small17_fun bs hs h2 h3) (h := Aa BB (Aa Au (DV Ab (fun c2 => ?_) (fun c2 => ?_)))))))
  · refine Ai (Ai (Ai (Aa A5 (Aa Ab (Ai (Ai (Aa A5 (Ad k (B3 (Ac fun _ k=>Aa Ae (Ad k (Af (Aq ?_))))))))))))); exact bF (fun h => absurd (he.1 h).2.1 ‹_›)
  refine Aa (Ap 6 Eh Fu) (Aa (At Fx) (Aa (Ap 7 E9 FG) (Aa (At FD) (A3 (hF := small16_fun bars runs h4 h5) (h := Aa BB (Aa Au (DV Ab (fun c3 => ?_) (fun c3 => ?_))))))))
  · refine Ai (Ai (Aa A5 (Ad k (B3 (Ac fun _ k=>Aa Ae (Ad k (Af (Aq ?_)))))))); exact bF (fun h => absurd (he.1 h).2.2.1 ‹_›)
  refine Aa (Ap 9 am_fi34_4 am_cl30) (Aa (At am_ag30) (A3 (hF := smD_fun dems 4 (by decide) (by decide) h7) (h := Aa BB (Aa Au (Ad k (Cb (fun c4 => ?_) (fun c4 => ?_)))))))
  · refine Ac fun _ k=>Aa Ae (Ad k (Af (Aq ?_))); exact bF (fun h => absurd (he.1 h).2.2.2.1 ‹_›)
  refine As (Ac fun _ k=>Aa (Ap 8 EA FF) (Aa (At FI) (Aa (A7 EZ) (Aa BJ (AP Ab (fun c5 => ?_) (fun c5 => ?_))))))
  · refine Ai (Ai (Ai (Ai (Ai (Aa A5 (Aa Ae (Ad k (Af (Aq ?_))))))))); exact bT (he.2 ⟨by omega, ‹_›, ‹_›, ‹_›, by omega⟩)
  refine Aa (Ap 8 EA FF) (Aa (At FI) (Aa (A7 EZ) (Aa Bh (AP Ab (fun c6 => ?_) (fun c6 => ?_)))))
  · refine Aa (Ap 8 EA FF) (Aa (At FI) (Aa (A7 EZ) (Aa BJ (Aa A5 (Aa Au (Aa Ae (Ad k (Af (Aq ?_))))))))); exact dI ⟨fun h => he.2 ⟨by omega, ‹_›, ‹_›, ‹_›, by omega⟩, fun h => by have h1 := (he.1 h).2.2.2.2; omega⟩
  refine Ai (Ai (Aa Au (Aa Au (Aa Ae (Ad k (Af (Aq ?_))))))); exact bF (fun h => by have h1 := (he.1 h).2.2.2.2; omega)
theorem rthick_fun (b : Bx) : Fun Tryz.prog 123 [.agg b.c] (AK (bL (decide (Gy b))) []) := by
  refine Fun.of (nt := 32) (rs := [.tmp 2]) Tryz.func123 rfl rfl rfl rfl rfl (Ac fun _ k=>A4 (Be _ true) (Aa Ae (Ad k (Ac fun _ k=>Aa (Av _ Bq AB) (A3 (hF := rboxValid_fun b) (h := AP Ab (fun c1 => ?_) (fun c1 => ?_)))))))
  · refine Aa (Ap 0 AR Am) (Aa (Ap 0 AU Ah) (Aa (At Al) (Aa (Ap 3 AQ Am) (Aa (Ap 3 AU Ah) (Aa (At Al) (Aa Ay (Aa A5 (AP Ab (fun c2 => ?_) (fun c2 => ?_)))))))))
    · refine Aa (Ap 0 AR Am) (Aa (Ap 1 Bi Ah) (Aa (At Al) (Aa (Ap 3 AQ Am) (Aa (Ap 4 Bi Ah) (Aa (At Al) (Aa Ay (Aa A5 (AP Ab (fun c3 => ?_) (fun c3 => ?_)))))))))
      · refine Aa (Ap 0 AR Am) (Aa (Ap 2 Bk Ah) (Aa (At Al) (Aa (Ap 3 AQ Am) (Aa (Ap 5 Bk Ah) (Aa (At Al) (Aa Ay (Aa A5 (Aa Ae (Ad k (Af (Aq ?_))))))))))); exact dI ⟨fun h => ⟨‹_›, by omega, by omega, h⟩, fun h => h.2.2.2⟩
      refine Ai (Ai (Ai (A9 (Aa Au (Aa Ae (Ad k (Af (Aq ?_)))))))); exact bF (fun h => by have h1 := h.2.2.1; omega)
    refine Ai (Ai (Ai (A9 (Aa Au (Aa Ab (Ai (Ai (Ai (A9 (Aa Au (Aa Ae (Ad k (Af (Aq ?_)))))))))))))); exact bF (fun h => by have h1 := h.2.1; omega)
  refine Ai (Ai (Ai (A9 (Aa Au (Aa Ab (Ai (Ai (Ai (A9 (Aa Au (Aa Ab (Ai (Ai (Ai (A9 (Aa Au (Aa Ae (Ad k (Af (Aq ?_)))))))))))))))))))); exact bF (fun h => absurd h.1 ‹_›)
theorem rsolValid_fun (bs hs : List Bx) (h1 : bs.length ≤ 140737488355328) (h2 : hs.length ≤ 140737488355328) : Fun Tryz.prog 68 [.agg [.sh 6 (bs.map Bx.c), .sh 6 (hs.map Bx.c)]] (AK (bL (decide (Eo bs hs))) []) := by
  refine Fun.of (nt := 49) (rs := [.tmp 2]) Tryz.func68 rfl rfl rfl rfl rfl (Ac fun _ k=>A4 (Be _ true) (Aa Ae (Ad k (An (Ac fun _ k=>Aa (Ap 0 DP CF) (Aa (At CI) (Aa (A7 Bs) (Aa Ay (AP Ab (fun c1 => ?_) (fun c1 => ?_))))))))))
  · refine Ai (Ai (Aa A5 (Aa Ab (Ai (Ai (Aa A5 (Ad k (B3 (Ac fun _ k=>Aa Ae (Ad k (Af (Aq ?_)))))))))))); exact bF (fun h => by have h1 := h.1; have h2 := h.2.1; omega)
  refine Aa (Ap 0 DP CF) (Aa (At CI) (Aa (A7 Bs) (Aa Bh (Aa Au (AP Ab (fun c2 => ?_) (fun c2 => ?_))))))
  · refine Ai (Ai (Aa A5 (Ad k (B3 (Ac fun _ k=>Aa Ae (Ad k (Af (Aq ?_)))))))); exact bF (fun h => by have h1 := h.1; have h2 := h.2.1; omega)
  refine Aa (Ap 1 E6 CF) (Aa (At CI) (Aa (A7 Bs) (Aa Bh (Aa Au (Ad k (Ax (fun c3 => ?_) (fun c3 => ?_)))))))
  · refine Ac fun _ k=>Aa Ae (Ad k (Af (Aq ?_))); exact bF (fun h => by have h1 := h.1; have h2 := h.2.1; omega)
  refine As (An (Ac fun _ k=>Aa Ae (Ad k (Ar (AI (ι := {q : List Bx × List Bx // q.1 ++ q.2 = bs ∧ ∀ b ∈ q.1, Gy b}) [0] [1] (fun ⟨(pre, suf), _⟩ => [(3, iL (pre.length : Int))]) (fun ⟨(pre, suf), _⟩ => [(0, ⟨false, 24, 2, [[.sh 6 ((bs).map Bx.c), .sh 6 ((hs).map Bx.c)]], true⟩)]) (fun ⟨(pre, suf), _⟩ => suf.length) ⟨([], bs), rfl, fun x hx => by simp at hx⟩ (.c .n) (Aj) (Ag) ?_))))); rintro ⟨⟨pre, suf⟩, hp, hinv⟩ R0 hR0; dsimp only [cA, nA, lC, lN]
  simp only at hp hinv
  have hpl := Cd hp
  rcases suf with _ | ⟨s, suf⟩
  · rw [List.append_nil] at hp; simp only [lN] at hpl; refine An (Ac fun _ k=>Aa Ab (Aa (Ap 0 DP CF) (Aa (At CI) (Aa (A7 Bs) (Aa Ay (Ad k (Ax (fun c4 => ?_) (fun c4 => ?_))))))))
    · omega
    refine AO (hR0 _ _ (An ?_))
    have hba : ∀ b ∈ bs, Gy b := by rw [← hp]; exact hinv
    refine Ac fun _ k=>Aa Ae (Ad k (Ar (AI (ι := {q : List Bx × List Bx // q.1 ++ q.2 = hs ∧ ∀ b ∈ q.1, Gy b}) [0] [1] (fun ⟨(pre, suf), _⟩ => [(4, iL (pre.length : Int))]) (fun ⟨(pre, suf), _⟩ => [(0, ⟨false, 24, 2, [[.sh 6 ((bs).map Bx.c), .sh 6 ((hs).map Bx.c)]], true⟩)]) (fun ⟨(pre, suf), _⟩ => suf.length) ⟨([], hs), rfl, fun x hx => by simp at hx⟩ (.c .n) (Aj) (Ag) ?_))); rintro ⟨⟨pre, suf⟩, hp, hinv⟩ R2 hR2; dsimp only [cA, nA, lC, lN]
    simp only at hp hinv
    have hpl := Cd hp
    rcases suf with _ | ⟨s, suf⟩
    · rw [List.append_nil] at hp; simp only [lN] at hpl; refine An (Ac fun _ k=>Aa Ab (Aa (Ap 1 E6 CF) (Aa (At CI) (Aa (A7 Bs) (Aa Ay (Ad k (Ax (fun c5 => ?_) (fun c5 => ?_))))))))
      · omega
      refine AO (hR2 _ _ (Ac fun _ k=>Aa Ae (Ad k (Af (Aq ?_))))); exact bT ⟨by omega, by omega, hba, by rw [← hp]; exact hinv⟩
    simp only [lC] at hpl; have hidx := Ch hp; have hms := GA hp; refine An (Ac fun _ k=>Aa Ab (Aa (Ap 1 E6 CF) (Aa (At CI) (Aa (A7 Bs) (Aa Ay (Ad k (Ax (fun c6 => ?_) (fun c6 => ?_))))))))
    · refine As (An (Ar (Ac fun _ k=>Aa (Ap 1 E6 CF) (Aa (At CI) (Aa Ab (Aa (AL Bs AB (hl := (by exact AY hidx (by omega)))) (Aa (BF _ Bq AB) (A3 (hF := rthick_fun s) (h := Aa BB (Ad k (Cb (fun c7 => ?_) (fun c7 => ?_))))))))))))
      · refine Ac fun _ k=>Aa Ae (Ad k (Af (hR2 _ _ (Aq ?_)))); exact bF (fun h => absurd (h.2.2.2 s hms) ‹_›)
      refine As (Ao fun _ k=>Aa Ab (Aa A6 (Aa Ae (Ad k (hR2 _ _ (A8 [0] [1] ⟨(pre ++ [s], suf), B2 hp, ?_⟩ BX (Aj) (Ag (he := (by congr 2; simp))) (.c .n)))))))
      intro x hx; simp only [List.mem_append, List.mem_singleton] at hx; rcases hx with hx | rfl
      · exact hinv x hx
      · assumption
    omega
  simp only [lC] at hpl; have hidx := Ch hp; have hms := GA hp; refine An (Ac fun _ k=>Aa Ab (Aa (Ap 0 DP CF) (Aa (At CI) (Aa (A7 Bs) (Aa Ay (Ad k (Ax (fun c8 => ?_) (fun c8 => ?_))))))))
  · refine As (An (Ar (Ac fun _ k=>Aa (Ap 0 DP CF) (Aa (At CI) (Aa Ab (Aa (AL Bs AB (hl := (by exact AY hidx (by omega)))) (Aa (BF _ Bq AB) (A3 (hF := rthick_fun s) (h := Aa BB (Ad k (Cb (fun c9 => ?_) (fun c9 => ?_))))))))))))
    · refine Ac fun _ k=>Aa Ae (Ad k (Af (hR0 _ _ (Aq ?_)))); exact bF (fun h => absurd (h.2.2.1 s hms) ‹_›)
    refine As (Ao fun _ k=>Aa Ab (Aa A6 (Aa Ae (Ad k (hR0 _ _ (A8 [0] [1] ⟨(pre ++ [s], suf), B2 hp, ?_⟩ BX (Aj) (Ag (he := (by congr 2; simp))) (.c .n)))))))
    intro x hx; simp only [List.mem_append, List.mem_singleton] at hx; rcases hx with hx | rfl
    · exact hinv x hx
    · assumption
  omega
theorem rmember_fun (x : Mem) (hw : x.w) : Fun Tryz.prog 36 [.agg x.c] (AK (bL (decide (memOK x))) []) := by
  obtain ⟨nm, bs, hs, cv, ag, pk⟩ := x; obtain ⟨hw1, hw2, hw3⟩ := hw
  dsimp only at hw1 hw2 hw3
  have he : memOK ⟨nm, bs, hs, cv, ag, pk⟩ ↔ FM nm ∧ Eo bs hs ∧ (0 ≤ cv ∧ cv ≤ 200) ∧ (1 ≤ ag ∧ ag ≤ 100) ∧ 1 ≤ pk ∧ pk ≤ 200 := Iff.rfl; refine Fun.of (nt := 41) (rs := [.tmp 2]) Tryz.func36 rfl rfl rfl rfl rfl (Ac fun _ k=>A4 (Be _ true) (Aa Ae (Ad k (Ac fun _ k=>Aa (Ap 0 am_fi26_0 Da) (Aa (At CL) (A3 (hF := risName_fun _ (by omega)) (h := AP Ab (fun c1 => ?_) (fun c1 => ?_))))))))
  · refine Aa (Ap 1 am_fi26_1 E7) (Aa (Av _ FS E7) (A3 (hF := rsolValid_fun _ _ (by omega) (by omega)) (h := Aa A5 (AP Ab (fun c2 => ?_) (fun c2 => ?_)))))
    · refine Aa (Ap 3 am_fi26_2 Ah) (Aa (At Al) (Aa C7 (Aa A5 (AP Ab (fun c3 => ?_) (fun c3 => ?_)))))
      · refine Aa (Ap 3 am_fi26_2 Ah) (Aa (At Al) (Aa BJ (Aa A5 (AP Ab (fun c4 => ?_) (fun c4 => ?_)))))
        · refine Aa (Ap 4 am_fi26_3 Ah) (Aa (At Al) (Aa C7 (Aa A5 (AP Ab (fun c5 => ?_) (fun c5 => ?_)))))
          · refine Aa (Ap 4 am_fi26_3 Ah) (Aa (At Al) (Aa BJ (Aa A5 (AP Ab (fun c6 => ?_) (fun c6 => ?_)))))
            · refine Aa (Ap 5 am_fi26_4 Ah) (Aa (At Al) (Aa C7 (Aa A5 (AP Ab (fun c7 => ?_) (fun c7 => ?_)))))
              · refine Aa (Ap 5 am_fi26_4 Ah) (Aa (At Al) (Aa BJ (Aa A5 (Aa Ae (Ad k (Af (Aq ?_))))))); exact dI ⟨fun h => he.2 ⟨‹_›, ‹_›, by omega, by omega, by omega⟩, fun h => by have h1 := (he.1 h).2.2; omega⟩
              refine Ai (A9 (Aa Au (Aa Ae (Ad k (Af (Aq ?_)))))); exact bF (fun h => by have h1 := (he.1 h).2.2; omega)
            refine Ai (A9 (Aa Au (Aa Ab (Ai (A9 (Aa Au (Aa Ae (Ad k (Af (Aq ?_)))))))))); exact bF (fun h => by have h1 := (he.1 h).2.2; omega)
          refine Ai (A9 (Aa Au (Aa Ab (Ai (A9 (Aa Au (Aa Ab (Ai (A9 (Aa Au (Aa Ae (Ad k (Af (Aq ?_)))))))))))))); exact bF (fun h => by have h1 := (he.1 h).2.2; omega)
        refine Ai (A9 (Aa Au (Aa Ab (Ai (A9 (Aa Au (Aa Ab (Ai (A9 (Aa Au (Aa Ab (Ai (A9 (Aa Au (Aa Ae (Ad k (Af (Aq ?_)))))))))))))))))); exact bF (fun h => by have h1 := (he.1 h).2.2; omega)
      refine Ai (A9 (Aa Au (Aa Ab (Ai (A9 (Aa Au (Aa Ab (Ai (A9 (Aa Au (Aa Ab (Ai (A9 (Aa Au (Aa Ab (Ai (A9 (Aa Au (Aa Ae (Ad k (Af (Aq ?_)))))))))))))))))))))); exact bF (fun h => by have h1 := (he.1 h).2.2; omega)
    refine Ai (A9 (Aa Au (Aa Ab (Ai (A9 (Aa Au (Aa Ab (Ai (A9 (Aa Au (Aa Ab (Ai (A9 (Aa Au (Aa Ab (Ai (A9 (Aa Au (Aa Ab (Ai (A9 (Aa Au (Aa Ae (Ad k (Af (Aq ?_)))))))))))))))))))))))))); exact bF (fun h => absurd (he.1 h).2.1 ‹_›)
  refine Ai (A9 (Aa Au (Aa Ab (Ai (A9 (Aa Au (Aa Ab (Ai (A9 (Aa Au (Aa Ab (Ai (A9 (Aa Au (Aa Ab (Ai (A9 (Aa Au (Aa Ab (Ai (A9 (Aa Au (Aa Ab (Ai (A9 (Aa Au (Aa Ae (Ad k (Af (Aq ?_)))))))))))))))))))))))))))))); exact bF (fun h => absurd (he.1 h).1 ‹_›)
theorem rnum_fun (n : Int) : Fun Tryz.prog 75 [iL n] (AK (bL (decide (1 ≤ n ∧ n ≤ 1000))) []) := by
  refine Fun.of (nt := 9) (rs := [.tmp 2]) Tryz.func75 rfl rfl rfl rfl rfl (Ac fun _ k=>Aa Ae (Ad k (Ac fun _ k=>Aa Ab (Aa C7 (AP Ab (fun c1 => ?_) (fun c1 => ?_))))))
  · refine Aa Ab (Aa BJ (Aa A5 (Aa Ae (Ad k (Af (Aq ?_)))))); exact dI ⟨fun h => by omega, fun h => by omega⟩
  refine Ai (Aa Au (Aa Ae (Ad k (Af (Aq ?_))))); exact bF (fun h => by omega)
theorem rruleValid_fun (r : Rul) : Fun Tryz.prog 39 [.agg r.c] (AK (bL (decide (G6 r))) []) := by
  obtain ⟨r1, r2, r3, r4, r5, r6, r7, r8, r9⟩ := r
  have he : G6 ⟨r1, r2, r3, r4, r5, r6, r7, r8, r9⟩ ↔ ((1 ≤ r1 ∧ r1 ≤ 1000) ∧ (1 ≤ r2 ∧ r2 ≤ 1000) ∧ (1 ≤ r3 ∧ r3 ≤ 1000) ∧ (1 ≤ r4 ∧ r4 ≤ 1000) ∧ (1 ≤ r5 ∧ r5 ≤ 1000) ∧ (1 ≤ r6 ∧ r6 ≤ 1000) ∧ (1 ≤ r7 ∧ r7 ≤ 1000) ∧ 1 ≤ r8 ∧ r8 ≤ 1000) ∧ r4 ≤ r3 ∧ r8 ≤ r7 ∧ r5 ≤ r6 ∧ 0 ≤ r9 ∧ r9 ≤ 1000 := by
    unfold G6 Rul.l
    simp only [List.forall_mem_cons, List.not_mem_nil, false_imp_iff, implies_true, and_true]
  refine Fun.of (nt := 72) (rs := [.tmp 2]) Tryz.func39 rfl rfl rfl rfl rfl (Ac fun _ k=>A4 (Be _ true) (Aa Ae (Ad k (Ac fun _ k=>Aa (Ap 0 am_fi32_0 Ah) (Aa (At Al) (A3 (hF := rnum_fun _) (h := AP Ab (fun c1 => ?_) (fun c1 => ?_))))))))
  · refine Aa (Ap 1 am_fi32_1 Ah) (Aa (At Al) (A3 (hF := rnum_fun _) (h := Aa A5 (AP Ab (fun c2 => ?_) (fun c2 => ?_)))))
    · refine Aa (Ap 2 am_fi32_2 Ah) (Aa (At Al) (A3 (hF := rnum_fun _) (h := Aa A5 (AP Ab (fun c3 => ?_) (fun c3 => ?_)))))
      · refine Aa (Ap 3 am_fi32_3 Ah) (Aa (At Al) (A3 (hF := rnum_fun _) (h := Aa A5 (AP Ab (fun c4 => ?_) (fun c4 => ?_)))))
        · refine Aa (Ap 4 am_fi32_4 Ah) (Aa (At Al) (A3 (hF := rnum_fun _) (h := Aa A5 (AP Ab (fun c5 => ?_) (fun c5 => ?_)))))
          · refine Aa (Ap 5 am_fi32_5 Ah) (Aa (At Al) (A3 (hF := rnum_fun _) (h := Aa A5 (AP Ab (fun c6 => ?_) (fun c6 => ?_)))))
            · refine Aa (Ap 6 am_fi32_6 Ah) (Aa (At Al) (A3 (hF := rnum_fun _) (h := Aa A5 (AP Ab (fun c7 => ?_) (fun c7 => ?_)))))
              · refine Aa (Ap 7 am_fi32_7 Ah) (Aa (At Al) (A3 (hF := rnum_fun _) (h := Aa A5 (AP Ab (fun c8 => ?_) (fun c8 => ?_)))))
                · refine Aa (Ap 2 am_fi32_2 Ah) (Aa (At Al) (Aa (Ap 3 am_fi32_3 Ah) (Aa (At Al) (Aa C7 (Aa A5 (AP Ab (fun c9 => ?_) (fun c9 => ?_)))))))
                  · refine Aa (Ap 6 am_fi32_6 Ah) (Aa (At Al) (Aa (Ap 7 am_fi32_7 Ah) (Aa (At Al) (Aa C7 (Aa A5 (AP Ab (fun c10 => ?_) (fun c10 => ?_)))))))
                    · refine Aa (Ap 4 am_fi32_4 Ah) (Aa (At Al) (Aa (Ap 5 am_fi32_5 Ah) (Aa (At Al) (Aa BJ (Aa A5 (AP Ab (fun c11 => ?_) (fun c11 => ?_)))))))
                      · refine Aa (Ap 8 am_fi32_8 Ah) (Aa (At Al) (Aa C7 (Aa A5 (AP Ab (fun c12 => ?_) (fun c12 => ?_)))))
                        · refine Aa (Ap 8 am_fi32_8 Ah) (Aa (At Al) (Aa BJ (Aa A5 (Aa Ae (Ad k (Af (Aq ?_))))))); exact dI ⟨fun h => he.2 (by omega), fun h => by have h1 := he.1 h; omega⟩
                        refine Ai (A9 (Aa Au (Aa Ae (Ad k (Af (Aq ?_)))))); exact bF (fun h => by have h1 := he.1 h; omega)
                      refine Ai (A9 (Aa Au (Aa Ab (Ai (A9 (Aa Au (Aa Ae (Ad k (Af (Aq ?_)))))))))); exact bF (fun h => by have h1 := he.1 h; omega)
                    refine Ai (Ai (A9 (Aa Au (Aa Ab (Ai (A9 (Aa Au (Aa Ab (Ai (A9 (Aa Au (Aa Ae (Ad k (Af (Aq ?_))))))))))))))); exact bF (fun h => by have h1 := he.1 h; omega)
                  refine Ai (Ai (A9 (Aa Au (Aa Ab (Ai (Ai (A9 (Aa Au (Aa Ab (Ai (A9 (Aa Au (Aa Ab (Ai (A9 (Aa Au (Aa Ae (Ad k (Af (Aq ?_)))))))))))))))))))); exact bF (fun h => by have h1 := he.1 h; omega)
                refine Ai (Ai (A9 (Aa Au (Aa Ab (Ai (Ai (A9 (Aa Au (Aa Ab (Ai (Ai (A9 (Aa Au (Aa Ab (Ai (A9 (Aa Au (Aa Ab (Ai (A9 (Aa Au (Aa Ae (Ad k (Af (Aq ?_))))))))))))))))))))))))); exact bF (fun h => by have h1 := he.1 h; omega)
              refine Ai (A9 (Aa Au (Aa Ab (Ai (Ai (A9 (Aa Au (Aa Ab (Ai (Ai (A9 (Aa Au (Aa Ab (Ai (Ai (A9 (Aa Au (Aa Ab (Ai (A9 (Aa Au (Aa Ab (Ai (A9 (Aa Au (Aa Ae (Ad k (Af (Aq ?_))))))))))))))))))))))))))))); exact bF (fun h => by have h1 := he.1 h; omega)
            refine Ai (A9 (Aa Au (Aa Ab (Ai (A9 (Aa Au (Aa Ab (Ai (Ai (A9 (Aa Au (Aa Ab (Ai (Ai (A9 (Aa Au (Aa Ab (Ai (Ai (A9 (Aa Au (Aa Ab (Ai (A9 (Aa Au (Aa Ab (Ai (A9 (Aa Au (Aa Ae (Ad k (Af (Aq ?_))))))))))))))))))))))))))))))))); exact bF (fun h => by have h1 := he.1 h; omega)
          refine Ai (A9 (Aa Au (Aa Ab (Ai (A9 (Aa Au (Aa Ab (Ai (A9 (Aa Au (Aa Ab (Ai (Ai (A9 (Aa Au (Aa Ab (Ai (Ai (A9 (Aa Au (Aa Ab (Ai (Ai (A9 (Aa Au (Aa Ab (Ai (A9 (Aa Au (Aa Ab (Ai (A9 (Aa Au (Aa Ae (Ad k (Af (Aq ?_))))))))))))))))))))))))))))))))))))); exact bF (fun h => by have h1 := he.1 h; omega)
        refine Ai (A9 (Aa Au (Aa Ab (Ai (A9 (Aa Au (Aa Ab (Ai (A9 (Aa Au (Aa Ab (Ai (A9 (Aa Au (Aa Ab (Ai (Ai (A9 (Aa Au (Aa Ab (Ai (Ai (A9 (Aa Au (Aa Ab (Ai (Ai (A9 (Aa Au (Aa Ab (Ai (A9 (Aa Au (Aa Ab (Ai (A9 (Aa Au (Aa Ae (Ad k (Af (Aq ?_))))))))))))))))))))))))))))))))))))))))); exact bF (fun h => by have h1 := he.1 h; omega)
      refine Ai (A9 (Aa Au (Aa Ab (Ai (A9 (Aa Au (Aa Ab (Ai (A9 (Aa Au (Aa Ab (Ai (A9 (Aa Au (Aa Ab (Ai (A9 (Aa Au (Aa Ab (Ai (Ai (A9 (Aa Au (Aa Ab (Ai (Ai (A9 (Aa Au (Aa Ab (Ai (Ai (A9 (Aa Au (Aa Ab (Ai (A9 (Aa Au (Aa Ab (Ai (A9 (Aa Au (Aa Ae (Ad k (Af (Aq ?_))))))))))))))))))))))))))))))))))))))))))))); exact bF (fun h => by have h1 := he.1 h; omega)
    refine Ai (A9 (Aa Au (Aa Ab (Ai (A9 (Aa Au (Aa Ab (Ai (A9 (Aa Au (Aa Ab (Ai (A9 (Aa Au (Aa Ab (Ai (A9 (Aa Au (Aa Ab (Ai (A9 (Aa Au (Aa Ab (Ai (Ai (A9 (Aa Au (Aa Ab (Ai (Ai (A9 (Aa Au (Aa Ab (Ai (Ai (A9 (Aa Au (Aa Ab (Ai (A9 (Aa Au (Aa Ab (Ai (A9 (Aa Au (Aa Ae (Ad k (Af (Aq ?_))))))))))))))))))))))))))))))))))))))))))))))))); exact bF (fun h => by have h1 := he.1 h; omega)
  refine Ai (A9 (Aa Au (Aa Ab (Ai (A9 (Aa Au (Aa Ab (Ai (A9 (Aa Au (Aa Ab (Ai (A9 (Aa Au (Aa Ab (Ai (A9 (Aa Au (Aa Ab (Ai (A9 (Aa Au (Aa Ab (Ai (A9 (Aa Au (Aa Ab (Ai (Ai (A9 (Aa Au (Aa Ab (Ai (Ai (A9 (Aa Au (Aa Ab (Ai (Ai (A9 (Aa Au (Aa Ab (Ai (A9 (Aa Au (Aa Ab (Ai (A9 (Aa Au (Aa Ae (Ad k (Af (Aq ?_))))))))))))))))))))))))))))))))))))))))))))))))))))); exact bF (fun h => by have h1 := he.1 h; omega)
theorem twice_fun (p : P3) : Fun Tryz.prog 127 [.agg (C1 p)] (AK (bL (decide (BI p 2097152))) []) := by
  obtain ⟨a, b, c⟩ := p; have he : BI (a, b, c) 2097152 ↔ (-2097152 ≤ a ∧ a ≤ 2097152) ∧ (-2097152 ≤ b ∧ b ≤ 2097152) ∧ -2097152 ≤ c ∧ c ≤ 2097152 := Iff.rfl; refine Fun.of (nt := 31) (rs := [.tmp 2]) Tryz.func127 rfl rfl rfl rfl rfl (Ac fun _ k=>A4 (Be _ true) (Aa Ae (Ad k (Ac fun _ k=>Aa (Ap 0 AU Ah) (Aa (At Al) (Aa C7 (AP Ab (fun c1 => ?_) (fun c1 => ?_))))))))
  · refine Aa (Ap 0 AU Ah) (Aa (At Al) (Aa BJ (Aa A5 (AP Ab (fun c2 => ?_) (fun c2 => ?_)))))
    · refine Aa (Ap 1 Bi Ah) (Aa (At Al) (Aa C7 (Aa A5 (AP Ab (fun c3 => ?_) (fun c3 => ?_)))))
      · refine Aa (Ap 1 Bi Ah) (Aa (At Al) (Aa BJ (Aa A5 (AP Ab (fun c4 => ?_) (fun c4 => ?_)))))
        · refine Aa (Ap 2 Bk Ah) (Aa (At Al) (Aa C7 (Aa A5 (AP Ab (fun c5 => ?_) (fun c5 => ?_)))))
          · refine Aa (Ap 2 Bk Ah) (Aa (At Al) (Aa BJ (Aa A5 (Aa Ae (Ad k (Af (Aq ?_))))))); exact dI ⟨fun h => he.2 (by omega), fun h => by have h1 := he.1 h; omega⟩
          refine Ai (A9 (Aa Au (Aa Ae (Ad k (Af (Aq ?_)))))); exact bF (fun h => by have h1 := he.1 h; omega)
        refine Ai (A9 (Aa Au (Aa Ab (Ai (A9 (Aa Au (Aa Ae (Ad k (Af (Aq ?_)))))))))); exact bF (fun h => by have h1 := he.1 h; omega)
      refine Ai (A9 (Aa Au (Aa Ab (Ai (A9 (Aa Au (Aa Ab (Ai (A9 (Aa Au (Aa Ae (Ad k (Af (Aq ?_)))))))))))))); exact bF (fun h => by have h1 := he.1 h; omega)
    refine Ai (A9 (Aa Au (Aa Ab (Ai (A9 (Aa Au (Aa Ab (Ai (A9 (Aa Au (Aa Ab (Ai (A9 (Aa Au (Aa Ae (Ad k (Af (Aq ?_)))))))))))))))))); exact bF (fun h => by have h1 := he.1 h; omega)
  refine Ai (A9 (Aa Au (Aa Ab (Ai (A9 (Aa Au (Aa Ab (Ai (A9 (Aa Au (Aa Ab (Ai (A9 (Aa Au (Aa Ab (Ai (A9 (Aa Au (Aa Ae (Ad k (Af (Aq ?_)))))))))))))))))))))); exact bF (fun h => by have h1 := he.1 h; omega)
theorem rcount_fun (l : List Rn) (hlen : l.length ≤ 60) (hn : ∀ r ∈ l, 1 ≤ r.n ∧ r.n ≤ 1000) : Fun Tryz.prog 71 [.sh 10 (l.map Rn.c)] (AK (iL (Dt l)) []) := by
  refine Fun.of (nt := 19) (rs := [.tmp 2]) Tryz.func71 rfl rfl rfl rfl rfl (Ac fun _ k=>Aa Ae (Ad k (Ac fun _ k=>Aa Ae (Ad k (An (Ac fun _ k=>Aa Ae (Ad k (Ar (AI (ι := {q : List Rn × List Rn // q.1 ++ q.2 = l ∧ 0 ≤ Dt q.1 ∧ Dt q.1 ≤ 1000 * (q.1.length : Int)}) [] [0] (fun ⟨(pre, suf), _⟩ => [(4, iL (pre.length : Int)), (3, iL (Dt pre))]) (fun ⟨(pre, suf), _⟩ => []) (fun ⟨(pre, suf), _⟩ => suf.length) ⟨([], l), rfl, ⟨Int.le_refl _, Int.le_refl _⟩⟩ (.c .n) AW (Ag (h := (Ag))) ?_))))))))); rintro ⟨⟨pre, suf⟩, hp, hinv⟩ R0 hR0; dsimp only [cA, nA, lC, lN]
  simp only at hp hinv
  have hpl := Cd hp
  rcases suf with _ | ⟨s, suf⟩
  · rw [List.append_nil] at hp; simp only [lN] at hpl; refine An (Ac fun _ k=>Aa Ab (Aa Ab (Aa (A7 Bo) (Aa Ay (Ad k (Ax (fun c1 => ?_) (fun c1 => ?_)))))))
    · omega
    refine AO (hR0 _ _ (Ac fun _ k=>Aa Ab (Aa Ae (Ad k (Af (Aq ?_)))))); rw [← hp]
  simp only [lC] at hpl; have hidx := Ch hp; have hsn := hn s (by rw [← hp]; simp); have hcs := cnt_snoc pre s; obtain ⟨v1, v2⟩ := hinv; refine An (Ac fun _ k=>Aa Ab (Aa Ab (Aa (A7 Bo) (Aa Ay (Ad k (Ax (fun c2 => ?_) (fun c2 => ?_)))))))
  · refine As (An (Ar (Ao fun _ k=>Aa Ab (Aa Ab (Aa Ab (Aa (AL Bo B5 (hl := (by exact AY hidx (by omega)))) (Aa (BP 9 B4 Ah) (Aa (Bc Al) (Aa A6 (Aa Ae (Ad k ?_))))))))))); show Ev _ _ _ _; refine Ao fun _ k=>Aa Ab (Aa A6 (Aa Ae (Ad k (hR0 _ _ (A8 [] [0] ⟨(pre ++ [s], suf), B2 hp, ?_⟩ BX AW (Ag (he := (by congr 2; simp)) (h := (Ag (he := (by exact iE hcs.symm))))) (.c .n))))))
    (dsimp only; rw [hcs, List.length_append, List.length_singleton]; omega)
  omega
theorem raxis_fun (n : Int) : Fun Tryz.prog 174 [iL n] (AK (bL (decide (axOK n))) []) := by
  have he : axOK n ↔ n ≠ 0 ∧ -3 ≤ n ∧ n ≤ 3 := Iff.rfl; refine Fun.of (nt := 13) (rs := [.tmp 2]) Tryz.func174 rfl rfl rfl rfl rfl (Ac fun _ k=>Aa Ae (Ad k (Ac fun _ k=>Aa Ab (Aa C7 (AP Ab (fun c1 => ?_) (fun c1 => ?_))))))
  · refine Aa Ab (Aa BJ (Aa A5 (AP Ab (fun c2 => ?_) (fun c2 => ?_))))
    · refine Aa Ab (Aa Dk (Aa A5 (Aa Ae (Ad k (Af (Aq ?_)))))); exact dN ⟨fun h => he.2 ⟨by omega, by omega, by omega⟩, fun h => by have h1 := he.1 h; omega⟩
    refine Ai (Aa Au (Aa Ae (Ad k (Af (Aq ?_))))); exact bF (fun h => by have h1 := he.1 h; omega)
  refine Ai (Aa Au (Aa Ab (Ai (Aa Au (Aa Ae (Ad k (Af (Aq ?_)))))))); exact bF (fun h => by have h1 := he.1 h; omega)
theorem rturn_fun (x y : Int) : Fun Tryz.prog 125 [.agg [iL x, iL y]] (AK (bL (decide (CR x y))) []) := by
  refine Fun.of (nt := 26) (rs := [.tmp 2]) Tryz.func125 rfl rfl rfl rfl rfl (Ac fun _ k=>A4 (Be _ true) (Aa Ae (Ad k (Ac fun _ k=>Aa (Ap 0 GC Ah) (Aa (At Al) (A3 (hF := raxis_fun x) (h := AP Ab (fun c1 => ?_) (fun c1 => ?_))))))))
  · refine Aa (Ap 1 GB Ah) (Aa (At Al) (A3 (hF := raxis_fun y) (h := Aa A5 (AP Ab (fun c2 => ?_) (fun c2 => ?_)))))
    · refine Aa (Ap 0 GC Ah) (Aa (At Al) (Aa (Ap 1 GB Ah) (Aa (At Al) (Aa Dk (Aa A5 (DV Ab (fun c3 => ?_) (fun c3 => ?_)))))))
      · refine Aa (Ap 0 GC Ah) (Aa (At Al) (Aa (Ap 1 GB Ah) (Aa (At Al) ?_))); have hy3 := ‹axOK y›
        unfold axOK at hy3
        refine Aa BV (Aa Dk (Aa A5 (Aa Ae (Ad k (Af (Aq ?_)))))); exact dN ⟨fun h => ⟨‹_›, ‹_›, ‹_›, fun e => h (by omega)⟩, fun h e => h.2.2.2 (by omega)⟩
      refine Ai (Ai (Ai (Aa Au (Aa Ae (Ad k (Af (Aq ?_))))))); exact bF (fun h => absurd ‹x = y› h.2.2.1)
    refine Ai (Ai (A9 (Aa Au (Aa Ab (Ai (Ai (Ai (Aa Au (Aa Ae (Ad k (Af (Aq ?_)))))))))))); exact bF (fun h => absurd h.2.1 ‹_›)
  refine Ai (A9 (Aa Au (Aa Ab (Ai (Ai (A9 (Aa Au (Aa Ab (Ai (Ai (Ai (Aa Au (Aa Ae (Ad k (Af (Aq ?_)))))))))))))))); exact bF (fun h => absurd h.1 ‹_›)
theorem rwithin_fun (n : Int) : Fun Tryz.prog 175 [iL n] (AK (bL (decide (-1048576 ≤ n ∧ n ≤ 1048576))) []) := by
  refine Fun.of (nt := 9) (rs := [.tmp 2]) Tryz.func175 rfl rfl rfl rfl rfl (Ac fun _ k=>Aa Ae (Ad k (Ac fun _ k=>Aa Ab (Aa C7 (AP Ab (fun c1 => ?_) (fun c1 => ?_))))))
  · refine Aa Ab (Aa BJ (Aa A5 (Aa Ae (Ad k (Af (Aq ?_)))))); exact dI ⟨fun h => by omega, fun h => by omega⟩
  refine Ai (Aa Au (Aa Ae (Ad k (Af (Aq ?_))))); exact bF (fun h => by omega)
theorem rnear_fun (p : P3) : Fun Tryz.prog 126 [.agg (C1 p)] (AK (bL (decide (CX p))) []) := by
  obtain ⟨a, b, c⟩ := p; have he : CX (a, b, c) ↔ (-1048576 ≤ a ∧ a ≤ 1048576) ∧ (-1048576 ≤ b ∧ b ≤ 1048576) ∧ -1048576 ≤ c ∧ c ≤ 1048576 := Iff.rfl; refine Fun.of (nt := 16) (rs := [.tmp 2]) Tryz.func126 rfl rfl rfl rfl rfl (Ac fun _ k=>A4 (Be _ true) (Aa Ae (Ad k (Ac fun _ k=>Aa (Ap 0 AU Ah) (Aa (At Al) (A3 (hF := rwithin_fun _) (h := AP Ab (fun c1 => ?_) (fun c1 => ?_))))))))
  · refine Aa (Ap 1 Bi Ah) (Aa (At Al) (A3 (hF := rwithin_fun _) (h := Aa A5 (AP Ab (fun c2 => ?_) (fun c2 => ?_)))))
    · refine Aa (Ap 2 Bk Ah) (Aa (At Al) (A3 (hF := rwithin_fun _) (h := Aa A5 (Aa Ae (Ad k (Af (Aq ?_))))))); exact dI ⟨fun h => he.2 (by omega), fun h => by have h1 := he.1 h; omega⟩
    refine Ai (A9 (Aa Au (Aa Ae (Ad k (Af (Aq ?_)))))); exact bF (fun h => by have h1 := he.1 h; omega)
  refine Ai (A9 (Aa Au (Aa Ab (Ai (A9 (Aa Au (Aa Ae (Ad k (Af (Aq ?_)))))))))); exact bF (fun h => by have h1 := he.1 h; omega)
theorem runitP_fun (n : Int) (h : 1 ≤ n ∧ n ≤ 3) : Fun Tryz.prog 208 [iL n] (AK (.agg [iL (uV n 1), iL (uV n 2), iL (uV n 3)]) []) := by
  have h3 : n = 1 ∨ n = 2 ∨ n = 3 := by omega
  refine Fun.of (nt := 26) (rs := [.cell 2 80]) Tryz.func208 rfl rfl rfl rfl rfl (Ac fun _ k=>A4 (Bd AJ) (Ad k (An (Ac fun _ k=>Aa Ab (Aa Ay (Ad k (Ax (fun c1 => ?_) (fun c1 => ?_))))))))
  · omega
  refine As (An (Ac fun _ k=>Aa Ab (Aa B6 (Ad k (Ax (fun c2 => ?_) (fun c2 => ?_))))))
  · refine Ac fun _ k=>Aa (Bj _ AJ BH) (AC _ true [] BG Am (h := Ad k (Af (BD (B7 [_, _, _] AF Am BC) (⟨?_, rfl⟩)))))
    rcases h3 with rfl | rfl | rfl <;> first | rfl | omega
  refine As (An (Ac fun _ k=>Aa Ab (Aa B6 (Ad k (Ax (fun c3 => ?_) (fun c3 => ?_))))))
  · refine Ac fun _ k=>Aa (Bj _ AJ BH) (AC _ true [] BG Am (h := Ad k (Af (BD (B7 [_, _, _] AF Am BC) (⟨?_, rfl⟩)))))
    rcases h3 with rfl | rfl | rfl <;> first | rfl | omega
  refine As (Ac fun _ k=>Aa (Bj _ AJ BH) (AC _ true [] BG Am (h := Ad k (Af (BD (B7 [_, _, _] AF Am BC) (⟨?_, rfl⟩))))))
  rcases h3 with rfl | rfl | rfl <;> first | rfl | omega
theorem uV_neg {n : Int} (h : n ≠ 0) (i : Int) (hi : i ≠ 0) : 0 - uV (0 - n) i = uV n i := by
  unfold uV
  by_cases h1 : n = i
  · rw [if_pos h1, if_neg (by omega), if_pos (by omega)]; rfl
  by_cases h2 : n = -i
  · rw [if_pos (show 0 - n = i by omega), if_neg h1, if_pos h2]; rfl
  rw [if_neg (show ¬ 0 - n = i by omega), if_neg (show ¬ 0 - n = -i by omega), if_neg h1, if_neg h2]; rfl
theorem runit_fun (n : Int) (h : axOK n) : Fun Tryz.prog 208 [iL n] (AK (.agg [iL (uV n 1), iL (uV n 2), iL (uV n 3)]) []) := by
  obtain ⟨h1, h2, h3⟩ := h
  by_cases hn : 0 < n
  · exact runitP_fun n ⟨by omega, h3⟩
  have hi1 := Fz (0 - n) 1; have hi2 := Fz (0 - n) 2; have hi3 := Fz (0 - n) 3; refine Fun.of (nt := 26) (rs := [.cell 2 80]) Tryz.func208 rfl rfl rfl rfl rfl (Ac fun _ k=>A4 (Bd AJ) (Ad k (An (Ac fun _ k=>Aa Ab (Aa Ay (Ad k (Ax (fun c1 => ?_) (fun c1 => ?_))))))))
  · refine Ac fun _ k=>Aa Ab (Aa BV (A3 (hF := runitP_fun (0 - n) ⟨by omega, by omega⟩) (h := A4 (Bd AJ) (AC _ true [_] BG Am (h := Ad k (Ac fun _ k=>Aa (Ap 0 AU Ah) (Aa (At Al) (Aa BV (Aa (Ap 1 Bi Ah) (Aa (At Al) (Aa BV (Aa (Ap 2 Bk Ah) (Aa (At Al) (Aa BV (Aa (Bj _ AJ BH) (AC _ true [_] BG Am (h := Ad k (Af (BD (B7 [_, _, _] AF Am BC) (⟨?_, rfl⟩))))))))))))))))))))
    (rw [uV_neg h1 1 (by decide), uV_neg h1 2 (by decide), uV_neg h1 3 (by decide)]; done)
  omega
theorem rtimes_fun (n : Int) (p : P3) (hn : -100000000 ≤ n ∧ n ≤ 100000000) (hp : BI p 100000000) : Fun Tryz.prog 209 [iL n, .agg (C1 p)] (AK (.agg (C1 (n * p.1, n * p.2.1, n * p.2.2))) []) := by
  obtain ⟨a, b, c⟩ := p
  unfold BI at hp
  dsimp only at hp
  have m1 := El (a := n) (b := a) (A := 100000000) (B := 100000000) hn hp.1; have m2 := El (a := n) (b := b) (A := 100000000) (B := 100000000) hn hp.2.1; have m3 := El (a := n) (b := c) (A := 100000000) (B := 100000000) hn hp.2.2; refine Fun.of (nt := 18) (rs := [.cell 4 80]) Tryz.func209 rfl rfl rfl rfl rfl (Ac fun _ k=>A4 (Be _ true) (A4 (Bd AJ) (Ad k (Ac fun _ k=>Aa Ab (Aa (Ap 0 AU Ah) (Aa (At Al) (Aa BM (Aa Ab (Aa (Ap 1 Bi Ah) (Aa (At Al) (Aa BM (Aa Ab (Aa (Ap 2 Bk Ah) (Aa (At Al) (Aa BM (Aa (Bj _ AJ BH) (AC _ true [_] BG Am (h := Ad k (Af (BD (B7 [_, _, _] AF Am BC) (⟨?_, rfl⟩))))))))))))))))))))); rfl
theorem rplus_fun (p q : P3) (hp : BI p 1000000000000000000) (hq : BI q 1000000000000000000) : Fun Tryz.prog 177 [.agg (C1 p), .agg (C1 q)] (AK (.agg (C1 (D3 p q))) []) := by
  obtain ⟨a, b, c⟩ := p; obtain ⟨d, e, f⟩ := q
  unfold BI at hp hq
  dsimp only at hp hq
  refine Fun.of (nt := 21) (rs := [.cell 4 80]) Tryz.func177 rfl rfl rfl rfl rfl (Ac fun _ k=>A4 (Be _ true) (A4 (Be _ true) (A4 (Bd AJ) (Ad k (Ac fun _ k=>Aa (Ap 0 AU Ah) (Aa (At Al) (Aa (Ap 0 AU Ah) (Aa (At Al) (Aa A6 (Aa (Ap 1 Bi Ah) (Aa (At Al) (Aa (Ap 1 Bi Ah) (Aa (At Al) (Aa A6 (Aa (Ap 2 Bk Ah) (Aa (At Al) (Aa (Ap 2 Bk Ah) (Aa (At Al) (Aa A6 (Aa (Bj _ AJ BH) (AC _ true [_, _] BG Am (h := Ad k (Af (BD (B7 [_, _, _] AF Am BC) (⟨?_, rfl⟩))))))))))))))))))))))))); rfl
theorem rcross_fun (x y : Int) : Fun Tryz.prog 210 [.agg [iL (uV x 1), iL (uV x 2), iL (uV x 3)], .agg [iL (uV y 1), iL (uV y 2), iL (uV y 3)]] (AK (.agg [iL (crX x y), iL (crY x y), iL (crZ x y)]) []) := by
  have hb : ∀ i j : Int, -1 ≤ uV x i * uV y j ∧ uV x i * uV y j ≤ 1 := fun i j => by
    have := El (Fz x i) (Fz y j); omega
  have h1 := hb 2 3; have h2 := hb 3 2; have h3 := hb 3 1; have h4 := hb 1 3; have h5 := hb 1 2; have h6 := hb 2 1; refine Fun.of (nt := 39) (rs := [.cell 4 80]) Tryz.func210 rfl rfl rfl rfl rfl (Ac fun _ k=>A4 (Be _ true) (A4 (Be _ true) (A4 (Bd AJ) (Ad k (Ac fun _ k=>Aa (Ap 1 Bi Ah) (Aa (At Al) (Aa (Ap 2 Bk Ah) (Aa (At Al) (Aa BM (Aa (Ap 2 Bk Ah) (Aa (At Al) (Aa (Ap 1 Bi Ah) (Aa (At Al) (Aa BM (Aa BV (Aa (Ap 2 Bk Ah) (Aa (At Al) (Aa (Ap 0 AU Ah) (Aa (At Al) (Aa BM (Aa (Ap 0 AU Ah) (Aa (At Al) (Aa (Ap 2 Bk Ah) (Aa (At Al) (Aa BM (Aa BV (Aa (Ap 0 AU Ah) (Aa (At Al) (Aa (Ap 1 Bi Ah) (Aa (At Al) (Aa BM (Aa (Ap 1 Bi Ah) (Aa (At Al) (Aa (Ap 0 AU Ah) (Aa (At Al) (Aa BM (Aa BV (Aa (Bj _ AJ BH) (AC _ true [_, _] BG Am (h := Ad k (Af (BD (B7 [_, _, _] AF Am BC) (⟨?_, rfl⟩))))))))))))))))))))))))))))))))))))))))))); rfl
theorem imP_eq (x y : Int) (p : P3) : D3 (p.1 * uV x 1, p.1 * uV x 2, p.1 * uV x 3) (D3 (p.2.1 * uV y 1, p.2.1 * uV y 2, p.2.1 * uV y 3) (p.2.2 * crX x y, p.2.2 * crY x y, p.2.2 * crZ x y)) = Gc x y p := by
  unfold D3 Gc
  simp only [Int.mul_comm, Int.add_assoc]
theorem im_pl {x : Int} {n : Int} (hn : -10000000 ≤ n ∧ n ≤ 10000000) : BI (n * uV x 1, n * uV x 2, n * uV x 3) 10000000 := by
  have h1 := El hn (Fz x 1); have h2 := El hn (Fz x 2); have h3 := El hn (Fz x 3)
  unfold BI
  dsimp only
  omega
theorem rimage_fun (x y : Int) (p : P3) (h : CR x y) (hp : BI p 10000000) : Fun Tryz.prog 179 [.agg [iL x, iL y], .agg (C1 p)] (AK (.agg (C1 (Gc x y p))) []) := by
  obtain ⟨hx, hy, _, _⟩ := h; rw [← imP_eq]; obtain ⟨a, b, c⟩ := p; have hq : (-10000000 ≤ a ∧ a ≤ 10000000) ∧ (-10000000 ≤ b ∧ b ≤ 10000000) ∧ -10000000 ≤ c ∧ c ≤ 10000000 := hp; obtain ⟨q1, q2, q3⟩ := hq; have g1 := im_pl (x := x) q1; have g2 := im_pl (x := y) q2; obtain ⟨c1, c2, c3⟩ := cr_in x y; have d1 := El q3 c1; have d2 := El q3 c2; have d3 := El q3 c3
  have g3 : BI (c * crX x y, c * crY x y, c * crZ x y) 20000000 := by
    unfold BI
    dsimp only
    omega
  have gu1 : BI (uV x 1, uV x 2, uV x 3) 100000000 := by have := Fz x 1; have := Fz x 2; have := Fz x 3; unfold BI; dsimp only; omega
  have gu2 : BI (uV y 1, uV y 2, uV y 3) 100000000 := by have := Fz y 1; have := Fz y 2; have := Fz y 3; unfold BI; dsimp only; omega
  have gu3 : BI (crX x y, crY x y, crZ x y) 100000000 := by unfold BI; dsimp only; omega
  have gs : BI (D3 (b * uV y 1, b * uV y 2, b * uV y 3) (c * crX x y, c * crY x y, c * crZ x y)) 100000000 := by
    unfold BI D3 at *
    dsimp only at *
    omega
  have k1 := rtimes_fun a (uV x 1, uV x 2, uV x 3) (by omega) gu1; have k2 := rtimes_fun b (uV y 1, uV y 2, uV y 3) (by omega) gu2; have k3 := rtimes_fun c (crX x y, crY x y, crZ x y) (by omega) gu3; have k4 := rplus_fun (b * uV y 1, b * uV y 2, b * uV y 3) (c * crX x y, c * crY x y, c * crZ x y) (Ea g2 (by omega)) (Ea g3 (by omega)); have k5 := rplus_fun (a * uV x 1, a * uV x 2, a * uV x 3) _ (Ea g1 (by omega)) (Ea gs (by omega))
  refine Fun.of (nt := 29) (rs := [.cell 4 80]) Tryz.func179 rfl rfl rfl rfl rfl (Ac fun _ k=>A4 (Be _ true) (A4 (Be _ true) (A4 (Bd AJ) (Ad k (Ac fun _ k=>Aa (Ap 0 GC Ah) (Aa (At Al) (A3 (hF := runit_fun x hx) (h := A4 (Bd AJ) (AC _ true [_, _, _] BG Am (h := Ad k (Ac fun _ k=>Aa (Ap 1 GB Ah) (Aa (At Al) (A3 (hF := runit_fun y hy) (h := A4 (Bd AJ) (AC _ true [_, _, _, _] BG Am (h := Ad k (Ck (C8 [(0, 0), (1, 1), (0, 0), (3, 7), (0, 0), (5, 16), (0, 0), (7, 127), (0, 0), (9, 256), (0, 0), (0, 0), (12, 3327), (13, 8191), (14, 16383), (15, 32767), (16, 65535)]) 16 fun _ k=>Ak (Ap 0 AU Ah) (Ak (At Al) (Ak (Av _ AF Am) (B1 (hF := k1) (h := Ak (Ap 1 Bi Ah) (Ak (At Al) (Ak (Av _ AF Am) (B1 (hF := k2) (h := Ak (Ap 2 Bk Ah) (Ak (At Al) (Ak (Av _ AF Am) (Ak (Av _ AF Am) (B1 (hF := rcross_fun x y) (h := B1 (hF := k3) (h := B1 (hF := k4) (h := B1 (hF := k5) (h := Bz [_, _, _, _, _] (h := AC _ true [_, _, _, _] BG Am (h := Ad k (Af (BD (B7 [_, _, _] AF Am BC) (⟨?_, rfl⟩)))))))))))))))))))))))))))))))))))))); rfl
def Fv : List P3 → P3 → List P3
  | [], p => [p]
  | m :: l, p => p :: Fv l (D3 p m)
def endM (l : List P3) : P3 := l.foldl D3 (0, 0, 0)
theorem endM_snoc (l : List P3) (s : P3) : endM (l ++ [s]) = D3 (endM l) s := by simp [endM]
theorem pathM_snoc (s : P3) : ∀ (l : List P3) (p : P3), Fv (l ++ [s]) p = Fv l p ++ [D3 (l.foldl D3 p) s]
  | [], p => rfl
  | t :: l, p => by rw [List.cons_append, Fv, pathM_snoc s l, Fv]; rfl
theorem Gg : ∀ (l : List P3) (p : P3), (Fv l p).length = l.length + 1
  | [], _ => rfl
  | t :: l, p => by rw [Fv, List.length_cons, Gg l, List.length_cons]
theorem endM_bd : ∀ l : List P3, (∀ s ∈ l, BI s 262144) → BI (endM l) (262144 * l.length) := by
  refine CY (fun _ => by unfold BI endM; simp) ?_; intro l s ih h; have h1 := ih fun t ht => h t (by simp [ht]); have h2 := h s (by simp); rw [endM_snoc, List.length_append, List.length_singleton]
  unfold BI D3 at *
  dsimp only at *
  omega
theorem pathM_row {pre : List P3} {s : P3} : (Fv pre (0, 0, 0) ++ [D3 (endM pre) s]).map C1 = (Fv (pre ++ [s]) (0, 0, 0)).map C1 := by
  rw [pathM_snoc]; rfl
theorem pathM_alen {pre : List P3} {s q p : P3} : (Fv pre p ++ [q]).length = (Fv (pre ++ [s]) p).length := by
  rw [Gg, List.length_append, Gg]
  simp
theorem moves_pl {b : Bar} (h : Cg b) : ∀ s ∈ Ci b, BI s 262144 := fun s hs => by
  have := (GM h).2 s hs
  unfold BI
  omega
theorem rpath_fun (b : Bar) (hok : Cg b) : Fun Tryz.prog 176 [.agg b.c] (AK (.sh 3 ((Fv (Ci b) (0, 0, 0)).map C1)) []) := by
  have hpl0 := moves_pl hok
  have hl6 : (Ci b).length ≤ 6 := by
    have h1 := congrArg List.length (GM hok).1; rw [List.length_map] at h1; have := Fj b; omega
  refine Fun.of (nt := 48) (rs := [.tmp 2]) Tryz.func176 rfl rfl rfl rfl rfl (Ac fun _ z=>A4 (Be _ true) (Aa Ae (Ad z (Ac fun _ z=>Aa (Av _ Cm Bv) (A3 (hF := moves_fun b hok) (h := Aa Ae (Ad z (Ac fun _ z=>Aa (Bj _ AJ BH) (A4 (Bd AJ) (AC _ true [_] BG Am (h := Ad z (Ac fun _ z=>Aa (Av _ AF Am) (A4 (C3 [[_, _, _]] true Bb AJ Am) (Aa Ae (Ad z (An (Ac fun _ z=>Aa Ae (Ad z (Ar (AI (ι := {p : List ((Int × Int × Int)) × List ((Int × Int × Int)) // p.1 ++ p.2 = (Ci b) ∧ True}) [0, 1, 2] [3, 4] (fun ⟨(pre, suf), _⟩ => [(6, iL (pre.length : Int)), (5, .als 2 0 (Fv pre (0, 0, 0)).length)]) (fun ⟨(pre, suf), _⟩ => [(0, ⟨false, 72, 5, [[sL (b.mark), iL (b.size), iL (b.count), iL (b.code), .sh 1 ((b.dims).map Cz)]], true⟩), (1, ⟨false, 80, 3, [[iL ((endM pre).1), iL ((endM pre).2.1), iL ((endM pre).2.2)]], true⟩), (2, ⟨true, 80, 3, (Fv pre (0, 0, 0)).map C1, true⟩)]) (fun ⟨(pre, suf), _⟩ => suf.length) ⟨([], (Ci b)), rfl, trivial⟩ (.c (.c .n)) (Aj (h := (Aj (h := (Aj))))) (Ag (h := (Ag))) ?_)))))))))))))))))))); rintro ⟨⟨pre, suf⟩, hp, hinv⟩ R0 hR0; dsimp only [cA, nA, lC, lN]
  simp only at hp hinv
  have hpl := Cd hp
  rcases suf with _ | ⟨s, suf⟩
  · rw [List.append_nil] at hp; simp only [lN] at hpl; refine An (Ac fun _ z=>Aa Ab (Aa Ab (Aa (A7 Bb) (Aa Ay (Ad z (Ax (fun c1 => ?_) (fun c1 => ?_)))))))
    · omega
    refine AO (hR0 _ _ (Ac fun _ z=>Aa Ab (Aa Ae (Ad z (AT (Wk.frz 2 [_, _]) (Af (Aq ?_))))))); rw [← hp]
  obtain ⟨sx, sy, sz⟩ := s; simp only [lC] at hpl; have hidx := Ch hp; have hsb : (-262144 ≤ sx ∧ sx ≤ 262144) ∧ (-262144 ≤ sy ∧ sy ≤ 262144) ∧ -262144 ≤ sz ∧ sz ≤ 262144 := hpl0 (sx, sy, sz) (by rw [← hp]; simp); have heb := endM_bd pre (fun t ht => hpl0 t (by rw [← hp]; simp [ht]))
  unfold BI at heb
  have hpm := Gg pre (0, 0, 0); refine An (Ac fun _ z=>Aa Ab (Aa Ab (Aa (A7 Bb) (Aa Ay (Ad z (Ax (fun c2 => ?_) (fun c2 => ?_)))))))
  · refine As (An (Ar (Ck (C8 [(0, 0), (1, 1), (0, 0), (0, 0), (4, 12), (5, 28), (6, 60), (7, 127), (0, 0), (9, 256), (0, 0), (0, 0), (12, 3072), (13, 7168), (14, 15360), (15, 32512), (0, 0), (17, 65536), (0, 0), (0, 0), (20, 786432), (21, 1835008), (22, 3932160), (23, 8323072), (24, 16777215), (25, 33554431)]) 25 fun _ z=>Ak (Ap 0 AU Ah) (Ak (At Al) (Ak Ab (Ak Ab (Ak (AL Bb Am (hl := (by exact AY hidx (by omega)))) (Ak (BP 0 AU Ah) (Ak (Bc Al) (Ak A6 (Ak (Ap 1 Bi Ah) (Ak (At Al) (Ak Ab (Ak Ab (Ak (AL Bb Am (hl := (by exact AY hidx (by omega)))) (Ak (BP 1 Bi Ah) (Ak (Bc Al) (Ak A6 (Ak (Ap 2 Bk Ah) (Ak (At Al) (Ak Ab (Ak Ab (Ak (AL Bb Am (hl := (by exact AY hidx (by omega)))) (Ak (BP 2 Bk Ah) (Ak (Bc Al) (Ak A6 (Ak (Bj _ AJ BH) (Bz [_, _, _] (h := AC _ true [_, _] BG Am (h := Ad z (Ao fun _ z=>Aa Ab (Aa (Av _ AF Am) (A4 (C3 [[_, _, _]] true Bb AJ Am) (DJ [_, _, _] Bb AJ Am am_by80 (hh := Cu) (hr := (CS [(D3 (endM pre) (sx, sy, sz))])) (h := Aa Ae (Ad z ?_)))))))))))))))))))))))))))))))))))); show Ev _ _ _ _
    refine Ao fun _ z=>Aa Ab (Aa A6 (Aa Ae (Ad z (hR0 _ _ (A8 [0, 1, 104] [3, 4] ⟨(pre ++ [(sx, sy, sz)], suf), B2 hp, trivial⟩ BX (Aj (h := (Aj (he := (by rw [endM_snoc]; rfl)) (h := (Aj (he := (by exact pathM_row))))))) (Ag (he := (by congr 2; simp)) (h := (Ag (he := (by exact congrArg (fun k => AV.als 2 0 k) pathM_alen))))) (.c (.c .n))))))); skip
  omega
theorem path_same {b : Bar} (h : Cg b) : Fv (Ci b) (0, 0, 0) = EN b := by
  rcases codes b.code with e | e | e | e | e | e | e | e | e
  iterate 8
    · unfold Ci EN
      rw [e]
      simp [Fv, EC, FR, D3, Dd]
      try omega
  exact absurd (Fh e).2 h.2.2.2.2.1
theorem path_near {b : Bar} (h : Cg b) : Gj (EN b) := by
  rcases codes b.code with e | e | e | e | e | e | e | e | e
  · obtain ⟨_, g0, f0⟩ := Ca h (i := 0) (by rw [e]; decide); intro p hp
    unfold EN at hp
    rw [e] at hp
    simp [EC, FR, Dd] at hp
    rcases hp with rfl | rfl <;> (unfold CX; dsimp only; omega)
  · obtain ⟨_, g0, f0⟩ := Ca h (i := 0) (by rw [e]; decide); obtain ⟨_, g1, f1⟩ := Ca h (i := 1) (by rw [e]; decide); intro p hp
    unfold EN at hp
    rw [e] at hp
    simp [EC, FR, Dd] at hp
    rcases hp with rfl | rfl | rfl <;> (unfold CX; dsimp only; omega)
  · obtain ⟨_, g0, f0⟩ := Ca h (i := 0) (by rw [e]; decide); obtain ⟨_, g1, f1⟩ := Ca h (i := 1) (by rw [e]; decide); obtain ⟨_, g2, f2⟩ := Ca h (i := 2) (by rw [e]; decide); intro p hp
    unfold EN at hp
    rw [e] at hp
    simp [EC, FR, Dd] at hp
    rcases hp with rfl | rfl | rfl | rfl <;> (unfold CX; dsimp only; omega)
  · obtain ⟨_, g0, f0⟩ := Ca h (i := 0) (by rw [e]; decide); obtain ⟨_, g1, f1⟩ := Ca h (i := 1) (by rw [e]; decide); obtain ⟨_, g2, f2⟩ := Ca h (i := 2) (by rw [e]; decide); intro p hp
    unfold EN at hp
    rw [e] at hp
    simp [EC, FR, Dd] at hp
    rcases hp with rfl | rfl | rfl | rfl <;> (unfold CX; dsimp only; omega)
  · obtain ⟨_, g0, f0⟩ := Ca h (i := 0) (by rw [e]; decide); obtain ⟨_, g1, f1⟩ := Ca h (i := 1) (by rw [e]; decide); obtain ⟨_, g2, f2⟩ := Ca h (i := 2) (by rw [e]; decide); intro p hp
    unfold EN at hp
    rw [e] at hp
    simp [EC, FR, Dd] at hp
    rcases hp with rfl | rfl | rfl | rfl <;> (unfold CX; dsimp only; omega)
  · obtain ⟨_, g0, f0⟩ := Ca h (i := 0) (by rw [e]; decide); obtain ⟨_, g1, f1⟩ := Ca h (i := 1) (by rw [e]; decide); obtain ⟨_, g2, f2⟩ := Ca h (i := 2) (by rw [e]; decide); obtain ⟨_, g3, f3⟩ := Ca h (i := 3) (by rw [e]; decide); obtain ⟨_, g4, f4⟩ := Ca h (i := 4) (by rw [e]; decide); intro p hp
    unfold EN at hp
    rw [e] at hp
    simp [EC, FR, Dd] at hp
    rcases hp with rfl | rfl | rfl | rfl | rfl | rfl <;> (unfold CX; dsimp only; omega)
  · obtain ⟨_, g0, f0⟩ := Ca h (i := 0) (by rw [e]; decide); obtain ⟨_, g1, f1⟩ := Ca h (i := 1) (by rw [e]; decide); obtain ⟨_, g2, f2⟩ := Ca h (i := 2) (by rw [e]; decide); intro p hp
    unfold EN at hp
    rw [e] at hp
    simp [EC, FR, Dd] at hp
    rcases hp with rfl | rfl | rfl | rfl | rfl | rfl | rfl <;> (unfold CX; dsimp only; omega)
  · obtain ⟨_, g0, f0⟩ := Ca h (i := 0) (by rw [e]; decide); obtain ⟨_, g1, f1⟩ := Ca h (i := 1) (by rw [e]; decide); obtain ⟨_, g2, f2⟩ := Ca h (i := 2) (by rw [e]; decide); intro p hp
    unfold EN at hp
    rw [e] at hp
    simp [EC, FR, Dd] at hp
    rcases hp with rfl | rfl | rfl | rfl | rfl | rfl <;> (unfold CX; dsimp only; omega)
  exact absurd (Fh e).2 h.2.2.2.2.1
theorem rnearL_fun (l : List P3) (hlen : l.length ≤ 140737488355328) : Fun Tryz.prog 128 [.sh 3 (l.map C1)] (AK (bL (decide (Gj l))) []) := by
  refine Fun.of (nt := 16) (rs := [.tmp 2]) Tryz.func128 rfl rfl rfl rfl rfl (Ac fun _ z=>Aa Ae (Ad z (An (Ac fun _ z=>Aa Ae (Ad z (Ar (AI (ι := {q : List P3 × List P3 // q.1 ++ q.2 = l ∧ Gj q.1}) [] [0] (fun ⟨(pre, suf), _⟩ => [(3, iL (pre.length : Int))]) (fun ⟨(pre, suf), _⟩ => []) (fun ⟨(pre, suf), _⟩ => suf.length) ⟨([], l), rfl, fun x hx => by simp at hx⟩ (.c .n) AW (Ag) ?_))))))); rintro ⟨⟨pre, suf⟩, hp, hinv⟩ R0 hR0; dsimp only [cA, nA, lC, lN]
  simp only at hp hinv
  have hpl := Cd hp
  rcases suf with _ | ⟨s, suf⟩
  · rw [List.append_nil] at hp; simp only [lN] at hpl; refine An (Ac fun _ z=>Aa Ab (Aa Ab (Aa (A7 Bb) (Aa Ay (Ad z (Ax (fun c1 => ?_) (fun c1 => ?_)))))))
    · omega
    refine AO (hR0 _ _ (Ac fun _ z=>Aa Ae (Ad z (Af (Aq ?_))))); exact bT (by rw [← hp]; exact hinv)
  obtain ⟨sx, sy, sz⟩ := s; simp only [lC] at hpl; have hidx := Ch hp; refine An (Ac fun _ z=>Aa Ab (Aa Ab (Aa (A7 Bb) (Aa Ay (Ad z (Ax (fun c2 => ?_) (fun c2 => ?_)))))))
  · refine As (An (Ar (Ac fun _ z=>Aa Ab (Aa Ab (Aa (AL Bb Am (hl := (by exact AY hidx (by omega)))) (Aa (BF _ AF Am) (A3 (hF := rnear_fun (sx, sy, sz)) (h := Aa BB (Ad z (Cb (fun c3 => ?_) (fun c3 => ?_)))))))))))
    · refine Ac fun _ z=>Aa Ae (Ad z (Af (hR0 _ _ (Aq ?_)))); exact bF (fun h => absurd (h (sx, sy, sz) (by rw [← hp]; simp)) ‹_›)
    refine As (Ao fun _ z=>Aa Ab (Aa A6 (Aa Ae (Ad z (hR0 _ _ (A8 [] [0] ⟨(pre ++ [(sx, sy, sz)], suf), B2 hp, ?_⟩ BX AW (Ag (he := (by congr 2; simp))) (.c .n))))))); intro x hx
    rcases List.mem_append.1 hx with hx | hx
    · exact hinv x hx
    · rw [List.mem_singleton] at hx; subst hx; assumption
  omega
theorem rtimes16_fun (p : P3) (k : Int) (hp : BI p 2097152) (hk : 0 ≤ k ∧ k ≤ 1000) : Fun Tryz.prog 178 [.agg (C1 p), iL k] (AK (.agg (C1 (p.1 * k, p.2.1 * k, p.2.2 * k))) []) := by
  obtain ⟨a, b, c⟩ := p
  unfold BI at hp
  dsimp only at hp
  have m1 := El (a := a) (b := k) (A := 2097152) (B := 1000) hp.1 (by omega); have m2 := El (a := b) (b := k) (A := 2097152) (B := 1000) hp.2.1 (by omega); have m3 := El (a := c) (b := k) (A := 2097152) (B := 1000) hp.2.2 (by omega); refine Fun.of (nt := 18) (rs := [.cell 4 80]) Tryz.func178 rfl rfl rfl rfl rfl (Ac fun _ z=>A4 (Be _ true) (A4 (Bd AJ) (Ad z (Ac fun _ z=>Aa (Ap 0 AU Ah) (Aa (At Al) (Aa Ab (Aa BM (Aa (Ap 1 Bi Ah) (Aa (At Al) (Aa Ab (Aa BM (Aa (Ap 2 Bk Ah) (Aa (At Al) (Aa Ab (Aa BM (Aa (Bj _ AJ BH) (AC _ true [_] BG Am (h := Ad z (Af (BD (B7 [_, _, _] AF Am BC) (⟨?_, rfl⟩))))))))))))))))))))); rfl
def pAt (r : Rn) (k : Int) : P3 := if k > 0 then D3 r.at (r.sx * k, r.sy * k, r.sz * k) else r.at
theorem pAt_t {r : Rn} {k : Int} (h : k > 0) : pAt r k = D3 r.at (r.sx * k, r.sy * k, r.sz * k) := if_pos h
theorem pAt_f {r : Rn} {k : Int} (h : ¬ k > 0) : pAt r k = r.at := if_neg h
theorem pAt_bd {r : Rn} {k : Int} (ha : BI r.at 1048576) (hk : 0 ≤ k ∧ k ≤ 1000) (hs : k > 0 → BI r.st 2097152) : BI (pAt r k) 3000000000 := by
  by_cases h : k > 0
  · rw [pAt_t h]; have hq : (-2097152 ≤ r.sx ∧ r.sx ≤ 2097152) ∧ (-2097152 ≤ r.sy ∧ r.sy ≤ 2097152) ∧ -2097152 ≤ r.sz ∧ r.sz ≤ 2097152 := hs h; have m1 := El (a := r.sx) (b := k) (A := 2097152) (B := 1000) hq.1 (by omega); have m2 := El (a := r.sy) (b := k) (A := 2097152) (B := 1000) hq.2.1 (by omega); have m3 := El (a := r.sz) (b := k) (A := 2097152) (B := 1000) hq.2.2 (by omega); have hb : (-1048576 ≤ r.ax ∧ r.ax ≤ 1048576) ∧ (-1048576 ≤ r.ay ∧ r.ay ≤ 1048576) ∧ -1048576 ≤ r.az ∧ r.az ≤ 1048576 := ha
    show BI (r.ax + r.sx * k, r.ay + r.sy * k, r.az + r.sz * k) _
    unfold BI
    dsimp only
    omega
  rw [pAt_f h]; exact Ea ha (by omega)
theorem imP_bd {x y : Int} {q : P3} (h : CX q) : BI (Gc x y q) 10000000 := by
  obtain ⟨e1, e2⟩ := im_bd (x := x) (y := y) h 1; obtain ⟨e3, e4⟩ := im_bd (x := x) (y := y) h 2; obtain ⟨e5, e6⟩ := im_bd (x := x) (y := y) h 3; obtain ⟨e7, e8, e9⟩ := im_bd3 (x := x) (y := y) h
  unfold BI Gc
  dsimp only
  omega
def G7 (b : Bar) (r : Rn) (k : Int) : List P3 := (Fv (Ci b) (0, 0, 0)).map fun p => D3 (pAt r k) (Gc r.tx r.ty p)
theorem rpoints_fun (b : Bar) (r : Rn) (k : Int) (hok : Cg b) (ht : CR r.tx r.ty) (ha : BI r.at 1048576) (hk : 0 ≤ k ∧ k ≤ 1000) (hs : k > 0 → BI r.st 2097152) : Fun Tryz.prog 129 [.agg b.c, .agg r.c, iL k] (AK (.sh 3 ((G7 b r k).map C1)) []) := by
  have hnl : Gj (Fv (Ci b) (0, 0, 0)) := by rw [path_same hok]; exact path_near hok
  have hll : (Fv (Ci b) (0, 0, 0)).length ≤ 7 := by
    have h1 := congrArg List.length (GM hok).1; rw [List.length_map] at h1; have := Fj b; rw [Gg]; omega
  have hpf := rpath_fun b hok
  unfold G7
  obtain ⟨l, hl⟩ : ∃ l, l = Fv (Ci b) (0, 0, 0) := ⟨_, rfl⟩; rw [← hl] at hnl hll hpf ⊢; have hab := pAt_bd ha hk hs; obtain ⟨A, hA⟩ : ∃ A, A = pAt r k := ⟨_, rfl⟩; rw [← hA] at hab ⊢; obtain ⟨a1, a2, a3⟩ := A; refine Fun.of (nt := 42) (rs := [.tmp 6]) Tryz.func129 rfl rfl rfl rfl rfl (Ac fun _ z=>A4 (Be _ true) (A4 (Be _ true) (Aa Ae (Ad z (Ac fun _ z=>Aa (Av _ Cm Bv) (A3 (hF := hpf) (h := Aa Ae (Ad z (Ac fun _ z=>Aa (Ap 3 FB Am) (Aa (Av _ AF Am) (A4 (Bd AJ) (AC _ true [_, _] BG Am (h := Ad z (An (Ac fun _ z=>Aa Ab (Aa Bh (Ad z (Ax (fun c1 => ?_) (fun c1 => ?_)))))))))))))))))))
  · have hst : k > 0 → BI (r.sx * k, r.sy * k, r.sz * k) 1000000000000000000 := fun h => by
      have hq : (-2097152 ≤ r.sx ∧ r.sx ≤ 2097152) ∧ (-2097152 ≤ r.sy ∧ r.sy ≤ 2097152) ∧ -2097152 ≤ r.sz ∧ r.sz ≤ 2097152 := hs h; have m1 := El (a := r.sx) (b := k) (A := 2097152) (B := 1000) hq.1 (by omega); have m2 := El (a := r.sy) (b := k) (A := 2097152) (B := 1000) hq.2.1 (by omega); have m3 := El (a := r.sz) (b := k) (A := 2097152) (B := 1000) hq.2.2 (by omega)
      unfold BI
      dsimp only
      omega
    refine CH (C8 [(0, 0), (0, 0), (2, 2), (0, 0), (4, 14), (5, 31), (6, 63)]) 6 fun _ z=>Ak (Av _ AF Am) (Ak (Ap 6 Ge Am) (Ak (Av _ AF Am) (Ak Ab (B1 (hF := rtimes16_fun r.st k (hs (by omega)) (by omega)) (h := B1 (hF := rplus_fun r.at (r.sx * k, r.sy * k, r.sz * k) (Ea ha (by omega)) (hst (by omega))) (h := Bz [_, _, _] (h := AC _ true [_, _] BG Am (h := Ad z ?_)))))))); show Ev _ _ _ _
    refine Ac fun _ z=>Aa Ae (Ad z (An (Ac fun _ z=>Aa Ae (Ad z (Ar (AT (Wk.nown C1 9 80 3) (AI (ι := {p : List ((Int × Int × Int)) × List ((Int × Int × Int)) // p.1 ++ p.2 = l ∧ True}) [0, 1, 2, 27] [4, 7, 8] (fun ⟨(pre, suf), _⟩ => [(10, iL (pre.length : Int)), (9, .als 3 0 (pre.map fun p => D3 (a1, a2, a3) (Gc r.tx r.ty p)).length)]) (fun ⟨(pre, suf), _⟩ => [(0, ⟨false, 72, 5, [[sL (b.mark), iL (b.size), iL (b.count), iL (b.code), .sh 1 ((b.dims).map Cz)]], true⟩), (1, ⟨false, 82, 10, [[sL (r.mark), iL (r.tx), iL (r.ty), iL (r.ax), iL (r.ay), iL (r.az), iL (r.sx), iL (r.sy), iL (r.sz), iL (r.n)]], true⟩), (2, ⟨false, 80, 3, [[iL (a1), iL (a2), iL (a3)]], true⟩), (3, ⟨true, 80, 3, (pre.map fun p => D3 (a1, a2, a3) (Gc r.tx r.ty p)).map C1, true⟩)]) (fun ⟨(pre, suf), _⟩ => suf.length) ⟨([], l), rfl, trivial⟩ (.c (.c (.c .n))) (Aj (h := (Aj (h := (Aj (he := (by have e := hA.trans (pAt_t ‹_›); injection e with e1 e2; injection e2 with e2 e3; subst e1 e2 e3; rfl)) (h := (Aj))))))) (Ag (h := (Ag))) ?_))))))); rintro ⟨⟨pre, suf⟩, hp, hinv⟩ R0 hR0; dsimp only [cA, nA, lC, lN]
    simp only at hp hinv
    have hpl := Cd hp
    rcases suf with _ | ⟨s, suf⟩
    · rw [List.append_nil] at hp; simp only [lN] at hpl; refine An (Ac fun _ z=>Aa Ab (Aa Ab (Aa (A7 Bb) (Aa Ay (Ad z (Ax (fun c2 => ?_) (fun c2 => ?_)))))))
      · omega
      refine AO (hR0 _ _ (Ac fun _ z=>Aa Ab (Aa Ae (Ad z (AT (Wk.frz 6 [_, _, _]) (Af (Aq ?_))))))); rw [← hp]
    obtain ⟨sx, sy, sz⟩ := s; simp only [lC] at hpl; have hidx := Ch hp; have hn1 := hnl (sx, sy, sz) (by rw [← hp]; simp)
    have hsp : BI (sx, sy, sz) 10000000 := by unfold CX at hn1; unfold BI; omega
    have hib := imP_bd (x := r.tx) (y := r.ty) hn1; have hml : (pre.map fun p => D3 (a1, a2, a3) (Gc r.tx r.ty p)).length = pre.length := List.length_map _; refine An (Ac fun _ z=>Aa Ab (Aa Ab (Aa (A7 Bb) (Aa Ay (Ad z (Ax (fun c3 => ?_) (fun c3 => ?_)))))))
    · refine As (An (Ar (CH (C8 [(0, 0), (0, 0), (0, 0), (3, 4), (0, 0), (0, 0), (6, 48), (7, 112), (8, 252), (9, 510), (10, 1022), (11, 2047), (12, 4095)]) 11 fun _ z=>Ak Ab (Ak (Av _ AF Am) (Ak (Ap 1 am_fi82_1 EP) (Ak (Av _ am_ag78 EP) (Ak Ab (Ak Ab (Ak (AL Bb Am (hl := (by exact AY hidx (by omega)))) (Ak (BF _ AF Am) (B1 (hF := rimage_fun r.tx r.ty (sx, sy, sz) ht hsp) (h := B1 (hF := rplus_fun (a1, a2, a3) (Gc r.tx r.ty (sx, sy, sz)) (Ea hab (by omega)) (Ea hib (by omega))) (h := Gs [_] (C3 [[_, _, _]] true Bb AJ Am) (h := Bz [_, _, _, _, _] (h := DJ [_, _, _, _] Bb AJ Am am_by80 (hh := Cu) (hr := (CS [(D3 (a1, a2, a3) (Gc r.tx r.ty (sx, sy, sz)))])) (h := Aa Ae (Ad z ?_))))))))))))))))); show Ev _ _ _ _; refine Ao fun _ z=>Aa Ab (Aa A6 (Aa Ae (Ad z (hR0 _ _ (A8 [0, 1, 2, 48] [4, 7, 8] ⟨(pre ++ [(sx, sy, sz)], suf), B2 hp, trivial⟩ BX (Aj (h := (Aj (h := (Aj (h := (Aj (he := (by simp))))))))) (Ag (he := (by congr 2; simp)) (h := (Ag (he := (by congr 1; simp))))) (.c (.c (.c .n)))))))); skip
    omega
  refine As (Ac fun _ z=>Aa Ae (Ad z (An (Ac fun _ z=>Aa Ae (Ad z (Ar (AT (Wk.nown C1 9 80 3) (AI (ι := {p : List ((Int × Int × Int)) × List ((Int × Int × Int)) // p.1 ++ p.2 = l ∧ True}) [0, 1, 2, 3] [4, 7, 8] (fun ⟨(pre, suf), _⟩ => [(10, iL (pre.length : Int)), (9, .als 3 0 (pre.map fun p => D3 (a1, a2, a3) (Gc r.tx r.ty p)).length)]) (fun ⟨(pre, suf), _⟩ => [(0, ⟨false, 72, 5, [[sL (b.mark), iL (b.size), iL (b.count), iL (b.code), .sh 1 ((b.dims).map Cz)]], true⟩), (1, ⟨false, 82, 10, [[sL (r.mark), iL (r.tx), iL (r.ty), iL (r.ax), iL (r.ay), iL (r.az), iL (r.sx), iL (r.sy), iL (r.sz), iL (r.n)]], true⟩), (2, ⟨false, 80, 3, [[iL (a1), iL (a2), iL (a3)]], true⟩), (3, ⟨true, 80, 3, (pre.map fun p => D3 (a1, a2, a3) (Gc r.tx r.ty p)).map C1, true⟩)]) (fun ⟨(pre, suf), _⟩ => suf.length) ⟨([], l), rfl, trivial⟩ (.c (.c (.c .n))) (Aj (h := (Aj (h := (Aj (he := (by have e := hA.trans (pAt_f ‹_›); injection e with e1 e2; injection e2 with e2 e3; subst e1 e2 e3; rfl)) (h := (Aj))))))) (Ag (h := (Ag))) ?_)))))))); rintro ⟨⟨pre, suf⟩, hp, hinv⟩ R0 hR0; dsimp only [cA, nA, lC, lN]
  simp only at hp hinv
  have hpl := Cd hp
  rcases suf with _ | ⟨s, suf⟩
  · rw [List.append_nil] at hp; simp only [lN] at hpl; refine An (Ac fun _ z=>Aa Ab (Aa Ab (Aa (A7 Bb) (Aa Ay (Ad z (Ax (fun c4 => ?_) (fun c4 => ?_)))))))
    · omega
    refine AO (hR0 _ _ (Ac fun _ z=>Aa Ab (Aa Ae (Ad z (AT (Wk.frz 6 [_, _, _]) (Af (Aq ?_))))))); rw [← hp]
  obtain ⟨sx, sy, sz⟩ := s; simp only [lC] at hpl; have hidx := Ch hp; have hn1 := hnl (sx, sy, sz) (by rw [← hp]; simp)
  have hsp : BI (sx, sy, sz) 10000000 := by unfold CX at hn1; unfold BI; omega
  have hib := imP_bd (x := r.tx) (y := r.ty) hn1; have hml : (pre.map fun p => D3 (a1, a2, a3) (Gc r.tx r.ty p)).length = pre.length := List.length_map _; refine An (Ac fun _ z=>Aa Ab (Aa Ab (Aa (A7 Bb) (Aa Ay (Ad z (Ax (fun c5 => ?_) (fun c5 => ?_)))))))
  · refine As (An (Ar (CH (C8 [(0, 0), (0, 0), (0, 0), (3, 4), (0, 0), (0, 0), (6, 48), (7, 112), (8, 252), (9, 510), (10, 1022), (11, 2047), (12, 4095)]) 11 fun _ z=>Ak Ab (Ak (Av _ AF Am) (Ak (Ap 1 am_fi82_1 EP) (Ak (Av _ am_ag78 EP) (Ak Ab (Ak Ab (Ak (AL Bb Am (hl := (by exact AY hidx (by omega)))) (Ak (BF _ AF Am) (B1 (hF := rimage_fun r.tx r.ty (sx, sy, sz) ht hsp) (h := B1 (hF := rplus_fun (a1, a2, a3) (Gc r.tx r.ty (sx, sy, sz)) (Ea hab (by omega)) (Ea hib (by omega))) (h := Gs [_] (C3 [[_, _, _]] true Bb AJ Am) (h := Bz [_, _, _, _, _] (h := DJ [_, _, _, _] Bb AJ Am am_by80 (hh := Cu) (hr := (CS [(D3 (a1, a2, a3) (Gc r.tx r.ty (sx, sy, sz)))])) (h := Aa Ae (Ad z ?_))))))))))))))))); show Ev _ _ _ _; refine Ao fun _ z=>Aa Ab (Aa A6 (Aa Ae (Ad z (hR0 _ _ (A8 [0, 1, 2, 48] [4, 7, 8] ⟨(pre ++ [(sx, sy, sz)], suf), B2 hp, trivial⟩ BX (Aj (h := (Aj (h := (Aj (h := (Aj (he := (by simp))))))))) (Ag (he := (by congr 2; simp)) (h := (Ag (he := (by congr 1; simp))))) (.c (.c (.c .n)))))))); skip
  omega
theorem turned_eq {bars : List Bar} {r : Rn} (hok : Cg (Bg bars r.mark)) (ht : CR r.tx r.ty) : C4 bars r = (EN (Bg bars r.mark)).map fun p => D3 (0, 0, 0) (Gc r.tx r.ty p) := by
  have hs : Fd (Bg bars r.mark) = EN (Bg bars r.mark) := if_pos hok; have hl := shpV_len (Bg bars r.mark); rw [C4, hs]; rw [hs] at hl; exact (frE0 ht (by omega) ⟨by decide, path_near hok⟩).2
theorem pt_eq {r : Rn} {k : Int} (hk : 0 ≤ k) (q : P3) : ptP r k (D3 (0, 0, 0) q) = D3 (pAt r k) q := by
  obtain ⟨a, b, c⟩ := q
  by_cases h : k > 0
  · rw [pt_t h, pAt_t h]
    unfold Gf D3 Rn.at Rn.st
    dsimp only
    rw [Int.mul_comm r.sx k, Int.mul_comm r.sy k, Int.mul_comm r.sz k]
    refine Prod.ext ?_ (Prod.ext ?_ ?_) <;> dsimp only <;> omega
  rw [pt_f h, pAt_f h]
  unfold Gf D3 Rn.at
  dsimp only
  refine Prod.ext ?_ (Prod.ext ?_ ?_) <;> dsimp only <;> omega
theorem pts_near {bars : List Bar} {r : Rn} {k : Int} (hk : 0 ≤ k) (hok : Cg (Bg bars r.mark)) (ht : CR r.tx r.ty) : (∀ p ∈ C4 bars r, BI (ptP r k p) 1048576) ↔ Gj (G7 (Bg bars r.mark) r k) := by
  rw [turned_eq hok ht, G7, path_same hok]
  constructor
  · intro h p hp; obtain ⟨q, hq, rfl⟩ := List.mem_map.1 hp; have := h _ (List.mem_map.2 ⟨q, hq, rfl⟩); rw [pt_eq hk] at this; exact this
  intro h p hp; obtain ⟨q, hq, rfl⟩ := List.mem_map.1 hp; rw [pt_eq hk]; exact h _ (List.mem_map.2 ⟨q, hq, rfl⟩)
theorem rrun_fun (bars : List Bar) (r : Rn) (hs : CJ bars) : Fun Tryz.prog 70 [.sh 5 (bars.map Bar.c), .agg r.c] (AK (bL (decide (Fo bars r))) []) := by
  have hmb := markI_bd bars r.mark; have hl60 := hs.1; refine Fun.of (nt := 68) (rs := [.tmp 4]) Tryz.func70 rfl rfl rfl rfl rfl (Ac fun _ z=>A4 (Be _ true) (Aa Ae (Ad z (Ac fun _ z=>Aa Ab (Aa (Ap 0 Fq Da) (Aa (At CL) (A3 (hF := rfind_fun bars r.mark (by omega)) (h := Aa Ae (Ad z (An (Ac fun _ z=>Aa Ab (Aa Ay (AP Ab (fun c1 => ?_) (fun c1 => ?_))))))))))))))
  · refine Ai (Ai (Aa A5 (Aa Ab (Ai (A9 (Aa A5 (Aa Ab (Ai (A9 (Aa A5 (Aa Ab (Ai (Ai (Aa A5 (Ad z (B3 (Ac fun _ z=>Aa Ae (Ad z (Af (Aq ?_)))))))))))))))))))); exact bF (fun h => by have h1 := h.1; omega)
  refine Aa (Ap 1 am_fi82_1 EP) (Aa (Av _ am_ag78 EP) (A3 (hF := rturn_fun r.tx r.ty) (h := Aa BB (Aa Au (DV Ab (fun c2 => ?_) (fun c2 => ?_))))))
  · refine Ai (A9 (Aa A5 (Aa Ab (Ai (A9 (Aa A5 (Aa Ab (Ai (Ai (Aa A5 (Ad z (B3 (Ac fun _ z=>Aa Ae (Ad z (Af (Aq ?_)))))))))))))))); exact bF (fun h => absurd h.2.1 ‹¬ CR r.tx r.ty›)
  refine Aa (Ap 9 B4 Ah) (Aa (At Al) (Aa Ay (Aa Au (AP Ab (fun c3 => ?_) (fun c3 => ?_)))))
  · refine Ai (A9 (Aa A5 (Aa Ab (Ai (Ai (Aa A5 (Ad z (B3 (Ac fun _ z=>Aa Ae (Ad z (Af (Aq ?_)))))))))))); exact bF (fun h => by have h1 := h.2.2.1; omega)
  refine Aa (Ap 9 B4 Ah) (Aa (At Al) (Aa Bh (Aa Au (AP Ab (fun c4 => ?_) (fun c4 => ?_)))))
  · refine Ai (Ai (Aa A5 (Ad z (B3 (Ac fun _ z=>Aa Ae (Ad z (Af (Aq ?_)))))))); exact bF (fun h => by have h1 := h.2.2.1; omega)
  refine Aa (Ap 3 FB Am) (Aa (Av _ AF Am) (A3 (hF := rnear_fun r.at) (h := Aa BB (Aa Au (Ad z (Cb (fun c5 => ?_) (fun c5 => ?_)))))))
  · refine Ac fun _ z=>Aa Ae (Ad z (Af (Aq ?_))); exact bF (fun h => absurd h.2.2.2.1 ‹¬ CX r.at›)
  refine As (An (Ac fun _ z=>Aa (Ap 9 B4 Ah) (Aa (At Al) (Aa Bh (AP Ab (fun c6 => ?_) (fun c6 => ?_))))))
  · refine Aa (Ap 6 Ge Am) (Aa (Av _ AF Am) (Aa (Bj _ AJ BH) (Aa (q.seql am_eq80 (am_sq80 _ _ _ _ _ _)) (S.bb Ab (fun c7 => ?_) (fun c7 => ?_)))))
    · refine Ai (Ai (Aa A5 (Aa A5 (Ad z (B3 (Ac fun _ z=>Aa Ae (Ad z (Af (Aq ?_))))))))); exact bF (fun h => by have h1 := (h.2.2.2.2.1 (by omega)).1; simp_all)
    refine Aa (Ap 6 Ge Am) (Aa (Av _ AF Am) (A3 (hF := twice_fun r.st) (h := Aa BB (Aa Au (Aa A5 (Ad z (Cb (fun c8 => ?_) (fun c8 => ?_))))))))
    · refine Ac fun _ z=>Aa Ae (Ad z (Af (Aq ?_))); exact bF (fun h => absurd (h.2.2.2.2.1 (by omega)).2 ‹¬ BI r.st 2097152›)
    refine As ?_
    have hmk : 0 ≤ D0 bars r.mark := by omega
    have hto : CR r.tx r.ty := ‹_›; have hat : BI r.at 1048576 := ‹CX r.at›
    have hst : r.n > 1 → BI r.st 2097152 := by exact fun _ => ‹BI r.st 2097152›
    have hst2 : r.n > 1 → ¬ (r.sx = 0 ∧ r.sy = 0 ∧ r.sz = 0) := by intro _ hz; simp_all
    have hlg := GK hmk; have hob := hs.2.1 _ (FK hmk); have q0 := pts_near (k := 0) (by decide) hob hto; have q1 := pts_near (k := r.n - 1) (by omega) hob hto; obtain ⟨b0, hb0⟩ : ∃ b, b = Bg bars r.mark := ⟨_, rfl⟩; rw [← hb0] at hlg hob q0 q1
    have hp7 : ∀ k, (G7 b0 r k).length ≤ 7 := fun k => by
      have h1 := congrArg List.length (GM hob).1; rw [List.length_map] at h1; have := Fj b0; rw [G7, List.length_map, Gg]; omega
    have e0 := hp7 0; have e1 := hp7 (r.n - 1); have k0 := rpoints_fun b0 r 0 hob hto hat (by decide) (fun h => absurd h (by decide)); have k1 := rpoints_fun b0 r (r.n - 1) hob hto hat (by omega) (fun h => hst (by omega)); refine Ck (C8 [(0, 0), (0, 0), (2, 3), (3, 7), (0, 0), (5, 31), (6, 63), (7, 127), (8, 255), (8, 255), (10, 1023), (11, 2047), (8, 255), (8, 255), (14, 8447), (15, 24831), (16, 65535), (17, 131071), (18, 262143), (19, 524287)]) 19 fun _ z=>Ak Ab (Ak Ab (Ak (AL BO Bv (hl := (by exact AY hlg (by omega)))) (Ak (BF _ Cm Bv) (Ak (Av _ FX B5) (B1 (hF := k0) (h := B1 (hF := rnearL_fun (G7 b0 r 0) (by omega)) (h := M.bd Ab (fun c9 => ?_) (fun c9 => ?_))))))))
    · refine Ak Ab (Ak Ab (Ak (AL BO Bv (hl := (by exact AY hlg (by omega)))) (Ak (BF _ Cm Bv) (Ak (Av _ FX B5) (Ak (Ap 9 B4 Ah) (Ak (At Al) (Ak BV (B1 (hF := k1) (h := B1 (hF := rnearL_fun (G7 b0 r (r.n - 1)) (by omega)) (h := Ak A5 (Bz [_] (h := Aa Ae (Ad z (Af (Aq ?_))))))))))))))); exact dI ⟨fun h => ⟨hmk, hto, by omega, hat, fun h => ⟨hst2 h, hst h⟩, q0.2 ‹_›, q1.2 h⟩, fun h => q1.1 h.2.2.2.2.2.2⟩
    refine AE (AE (AE (AE (AE (AE (AE (AE (AE (AE (Ak Au (Bz [_] (h := Aa Ae (Ad z (Af (Aq ?_))))))))))))))); exact bF (fun h => absurd (q0.1 h.2.2.2.2.2.1) ‹_›)
  refine Ai (Ai (Ai (Ai (Ai (Aa Au (Ad z (Ei (As ?_))))))))
  have hmk : 0 ≤ D0 bars r.mark := by omega
  have hto : CR r.tx r.ty := ‹_›; have hat : BI r.at 1048576 := ‹CX r.at›
  have hst : r.n > 1 → BI r.st 2097152 := by exact fun h => absurd h (by omega)
  have hst2 : r.n > 1 → ¬ (r.sx = 0 ∧ r.sy = 0 ∧ r.sz = 0) := by exact fun h => absurd h (by omega)
  have hlg := GK hmk; have hob := hs.2.1 _ (FK hmk); have q0 := pts_near (k := 0) (by decide) hob hto; have q1 := pts_near (k := r.n - 1) (by omega) hob hto; obtain ⟨b0, hb0⟩ : ∃ b, b = Bg bars r.mark := ⟨_, rfl⟩; rw [← hb0] at hlg hob q0 q1
  have hp7 : ∀ k, (G7 b0 r k).length ≤ 7 := fun k => by
    have h1 := congrArg List.length (GM hob).1; rw [List.length_map] at h1; have := Fj b0; rw [G7, List.length_map, Gg]; omega
  have e0 := hp7 0; have e1 := hp7 (r.n - 1); have k0 := rpoints_fun b0 r 0 hob hto hat (by decide) (fun h => absurd h (by decide)); have k1 := rpoints_fun b0 r (r.n - 1) hob hto hat (by omega) (fun h => hst (by omega)); refine Ck (C8 [(0, 0), (0, 0), (2, 3), (3, 7), (0, 0), (5, 31), (6, 63), (7, 127), (8, 255), (8, 255), (10, 1023), (11, 2047), (8, 255), (8, 255), (14, 8447), (15, 24831), (16, 65535), (17, 131071), (18, 262143), (19, 524287)]) 19 fun _ z=>Ak Ab (Ak Ab (Ak (AL BO Bv (hl := (by exact AY hlg (by omega)))) (Ak (BF _ Cm Bv) (Ak (Av _ FX B5) (B1 (hF := k0) (h := B1 (hF := rnearL_fun (G7 b0 r 0) (by omega)) (h := M.bd Ab (fun c10 => ?_) (fun c10 => ?_))))))))
  · refine Ak Ab (Ak Ab (Ak (AL BO Bv (hl := (by exact AY hlg (by omega)))) (Ak (BF _ Cm Bv) (Ak (Av _ FX B5) (Ak (Ap 9 B4 Ah) (Ak (At Al) (Ak BV (B1 (hF := k1) (h := B1 (hF := rnearL_fun (G7 b0 r (r.n - 1)) (by omega)) (h := Ak A5 (Bz [_] (h := Aa Ae (Ad z (Af (Aq ?_))))))))))))))); exact dI ⟨fun h => ⟨hmk, hto, by omega, hat, fun h => ⟨hst2 h, hst h⟩, q0.2 ‹_›, q1.2 h⟩, fun h => q1.1 h.2.2.2.2.2.2⟩
  refine AE (AE (AE (AE (AE (AE (AE (AE (AE (AE (Ak Au (Bz [_] (h := Aa Ae (Ad z (Af (Aq ?_))))))))))))))); exact bF (fun h => absurd (q0.1 h.2.2.2.2.2.1) ‹_›)
theorem rlaidValid_fun (bars : List Bar) (runs : List Rn) (hlen : bars.length ≤ 140737488355328) (hw : Gl bars) (hrl : runs.length ≤ 140737488355328) : Fun Tryz.prog 37 [.sh 5 (bars.map Bar.c), .sh 10 (runs.map Rn.c)] (AK (bL (decide (Dq bars runs))) []) := by
  refine Fun.of (nt := 30) (rs := [.tmp 4]) Tryz.func37 rfl rfl rfl rfl rfl (Ac fun _ k=>Aa Ae (Ad k (An (Ac fun _ k=>Aa Ab (A3 (hF := rschedValid_fun bars hlen hw) (h := Aa BB (DV Ab (fun c1 => ?_) (fun c1 => ?_))))))))
  · refine Ai (A9 (Aa A5 (Ad k (B3 (Ac fun _ k=>Aa Ae (Ad k (Af (Aq ?_)))))))); exact bF (fun h => absurd h.1 ‹¬ CJ bars›)
  refine Aa Ab (Aa (A7 Bo) (Aa Bh (Aa Au (Ad k (Ax (fun c2 => ?_) (fun c2 => ?_))))))
  · refine Ac fun _ k=>Aa Ae (Ad k (Af (Aq ?_))); exact bF (fun h => by have h1 := h.2.1; omega)
  refine As (An ?_); have hok : CJ bars := ‹_›; refine Ac fun _ k=>Aa Ae (Ad k (Ar (AI (ι := {q : List Rn × List Rn // q.1 ++ q.2 = runs ∧ ∀ r ∈ q.1, Fo bars r}) [] [0, 1] (fun ⟨(pre, suf), _⟩ => [(5, iL (pre.length : Int))]) (fun ⟨(pre, suf), _⟩ => []) (fun ⟨(pre, suf), _⟩ => suf.length) ⟨([], runs), rfl, fun x hx => by simp at hx⟩ (.c (.c .n)) AW (Ag) ?_))); rintro ⟨⟨pre, suf⟩, hp, hinv⟩ R0 hR0; dsimp only [cA, nA, lC, lN]
  simp only at hp hinv
  have hpl := Cd hp
  rcases suf with _ | ⟨s, suf⟩
  · rw [List.append_nil] at hp; simp only [lN] at hpl; refine An (Ac fun _ k=>Aa Ab (Aa Ab (Aa (A7 Bo) (Aa Ay (Ad k (Ax (fun c3 => ?_) (fun c3 => ?_)))))))
    · omega
    refine AO (hR0 _ _ ?_)
    have hall : ∀ r ∈ runs, Fo bars r := by rw [← hp]; exact hinv
    refine Ac fun _ k=>Aa Ab (A3 (hF := rcount_fun runs (by omega) (fun r hr => (hall r hr).2.2.1)) (h := Aa BJ (Aa Ae (Ad k (Af (Aq ?_)))))); exact dI ⟨fun h => ⟨hok, by omega, hall, h⟩, fun h => h.2.2.2⟩
  simp only [lC] at hpl; have hidx := Ch hp; have hms := GA hp; refine An (Ac fun _ k=>Aa Ab (Aa Ab (Aa (A7 Bo) (Aa Ay (Ad k (Ax (fun c4 => ?_) (fun c4 => ?_)))))))
  · refine As (An (Ar (Ac fun _ k=>Aa Ab (Aa Ab (Aa Ab (Aa (AL Bo B5 (hl := (by exact AY hidx (by omega)))) (Aa (BF _ FX B5) (A3 (hF := rrun_fun bars s hok) (h := Aa BB (Ad k (Cb (fun c5 => ?_) (fun c5 => ?_))))))))))))
    · refine Ac fun _ k=>Aa Ae (Ad k (Af (hR0 _ _ (Aq ?_)))); exact bF (fun h => absurd (h.2.2.1 s hms) ‹_›)
    refine As (Ao fun _ k=>Aa Ab (Aa A6 (Aa Ae (Ad k (hR0 _ _ (A8 [] [0, 1] ⟨(pre ++ [s], suf), B2 hp, ?_⟩ BX AW (Ag (he := (by congr 2; simp))) (.c (.c .n))))))))
    intro x hx; simp only [List.mem_append, List.mem_singleton] at hx; rcases hx with hx | rfl
    · exact hinv x hx
    · assumption
  omega
theorem lin_bd {a s m k M : Int} (h0 : 0 ≤ k) (h1 : k ≤ m) (h2 : -M ≤ a ∧ a ≤ M) (h3 : -M ≤ a + m * s ∧ a + m * s ≤ M) : -M ≤ a + k * s ∧ a + k * s ≤ M := by
  rcases Int.le_total 0 s with hs | hs
  · have g1 := Int.mul_nonneg h0 hs; have g2 := Int.mul_le_mul_of_nonneg_right h1 hs; omega
  have g1 := Int.mul_nonneg h0 (show 0 ≤ -s by omega); have g2 := Int.mul_le_mul_of_nonneg_right h1 (show 0 ≤ -s by omega); rw [Int.mul_neg] at g1 g2; rw [Int.mul_neg] at g2; omega
theorem org_mem {bars : List Bar} {r : Rn} (hok : Cg (Bg bars r.mark)) (ht : CR r.tx r.ty) : ((0, 0, 0) : P3) ∈ C4 bars r := by
  rw [turned_eq hok ht]; refine List.mem_map.2 ⟨(0, 0, 0), ?_, ?_⟩
  · unfold EN
    cases Dd (Bg bars r.mark).code <;> simp [EC]
  simp [Gc, D3]
theorem at_near {bars : List Bar} {r : Rn} (h : Fo bars r) (hok : Cg (Bg bars r.mark)) {k : Nat} (hk : (k : Int) < r.n) : CX (atR r k) := by
  obtain ⟨g1, g2, g3, g4, g5, g6, g7⟩ := h; have h7 := g7 _ (org_mem hok g2); have ha : (-1048576 ≤ r.ax ∧ r.ax ≤ 1048576) ∧ (-1048576 ≤ r.ay ∧ r.ay ≤ 1048576) ∧ -1048576 ≤ r.az ∧ r.az ≤ 1048576 := g4
  by_cases h1 : r.n - 1 > 0
  · rw [pt_t h1] at h7; have h8 : (-1048576 ≤ 0 + 1 * r.ax + (r.n - 1) * r.sx ∧ 0 + 1 * r.ax + (r.n - 1) * r.sx ≤ 1048576) ∧ (-1048576 ≤ 0 + 1 * r.ay + (r.n - 1) * r.sy ∧ 0 + 1 * r.ay + (r.n - 1) * r.sy ≤ 1048576) ∧ -1048576 ≤ 0 + 1 * r.az + (r.n - 1) * r.sz ∧ 0 + 1 * r.az + (r.n - 1) * r.sz ≤ 1048576 := h7; have b1 := lin_bd (a := r.ax) (s := r.sx) (m := r.n - 1) (k := (k : Int)) (M := 1048576) (by omega) (by omega) ha.1 (by omega); have b2 := lin_bd (a := r.ay) (s := r.sy) (m := r.n - 1) (k := (k : Int)) (M := 1048576) (by omega) (by omega) ha.2.1 (by omega); have b3 := lin_bd (a := r.az) (s := r.sz) (m := r.n - 1) (k := (k : Int)) (M := 1048576) (by omega) (by omega) ha.2.2 (by omega); exact ⟨b1, b2, b3⟩
  obtain rfl : k = 0 := by omega
  unfold atR CX
  dsimp only
  simp
  omega
theorem runs_good {bars : List Bar} {runs : List Rn} (h : Dq bars runs) : CD bars runs = F5 bars runs := if_pos fun r hr k hk => by
  have hr2 := h.2.2.1 r hr; have hok := h.1.2.1 _ (FK hr2.1); have hl := shpV_len (Bg bars r.mark); refine (frE0 hr2.2.1 (by omega) ⟨at_near hr2 hok (by omega), ?_⟩).1; rw [show Fd (Bg bars r.mark) = EN (Bg bars r.mark) from if_pos hok]; exact path_near hok
theorem rcount25_fun (x : Det) (hlo : Dq x.bars x.runs) : Fun Tryz.prog 76 [.agg x.c] (AK (iL (Dt x.runs)) []) := by
  have hr60 := hlo.2.1; have k0 := rcount_fun x.runs (by omega) (fun r hr => (hlo.2.2.1 r hr).2.2.1); refine Fun.of (nt := 6) (rs := [.tmp 2]) Tryz.func76 rfl rfl rfl rfl rfl (Ac fun _ k=>A4 (Be _ true) (Aa Ae (Ad k (Ac fun _ k=>Aa (Ap 7 E9 FG) (Aa (At FD) (A3 (hF := k0) (h := Aa Ae (Ad k (Af (Aq ?_)))))))))); rfl
def rnD : Rn := ⟨[], 0, 0, 0, 0, 0, 0, 0, 0, 0⟩
def D1 : List Rn → Nat → Nat × Nat
  | [], i => (0, i)
  | r :: l, i => if i < r.n.toNat then (0, i) else ((D1 l (i - r.n.toNat)).1 + 1, (D1 l (i - r.n.toNat)).2)
def runI (runs : List Rn) (i : Nat) : Rn := (runs[(D1 runs i).1]?).getD rnD
def PlInv (runs : List Rn) (i k j : Nat) : Prop := D1 runs i = ((D1 (runs.drop k) j).1 + k, (D1 (runs.drop k) j).2) ∧ (j : Int) < Dt (runs.drop k) ∧ j ≤ i
theorem pl_init {runs : List Rn} {i : Nat} (h : (i : Int) < Dt runs) : PlInv runs i 0 i := ⟨rfl, h, Nat.le_refl _⟩
theorem drop_get {T : Type} {l : List T} {k : Nat} {r : T} (h : l[k]? = some r) : l.drop k = r :: l.drop (k + 1) := by
  obtain ⟨h1, rfl⟩ := List.getElem?_eq_some_iff.1 h; exact List.drop_eq_getElem_cons h1
theorem pl_get {runs : List Rn} {i k j : Nat} (h : PlInv runs i k j) : ∃ r, runs[k]? = some r := by
  by_cases hk : k < runs.length
  · exact ⟨_, List.getElem?_eq_getElem hk⟩
  have h2 := h.2.1; rw [List.drop_of_length_le (by omega)] at h2
  simp [Dt] at h2
  omega
theorem pl_step {runs : List Rn} {i k j : Nat} {r : Rn} (h : PlInv runs i k j) (hr : runs[k]? = some r) (hn : 1 ≤ r.n) (hj : r.n ≤ (j : Int)) : PlInv runs i (k + 1) (j - r.n.toNat) := by
  obtain ⟨h1, h2, h3⟩ := h; rw [drop_get hr] at h1 h2; refine ⟨?_, ?_, by omega⟩
  · rw [h1, D1, if_neg (by omega)]
    dsimp only
    rw [Nat.add_assoc, Nat.add_comm 1 k]
  have e : Dt (r :: runs.drop (k + 1)) = r.n + Dt (runs.drop (k + 1)) := by simp [Dt]
  rw [e] at h2; omega
theorem pl_fin {runs : List Rn} {i k j : Nat} {r : Rn} (h : PlInv runs i k j) (hr : runs[k]? = some r) (hj : (j : Int) < r.n) : D1 runs i = (k, j) := by
  obtain ⟨h1, h2, h3⟩ := h; rw [drop_get hr] at h1; rw [h1, D1, if_pos (by omega)]
  simp
theorem place_spec (bars : List Bar) : ∀ (runs : List Rn) (i : Nat), (i : Int) < Dt runs → (∀ r ∈ runs, 1 ≤ r.n) → ∃ r, runs[(D1 runs i).1]? = some r ∧ (D1 runs i).2 < r.n.toNat ∧ (F5 bars runs)[i]? = some (mainOf (Bg bars r.mark) (frV r.tx r.ty (atR r (D1 runs i).2) (Fd (Bg bars r.mark))))
  | [], i, h, _ => by simp [Dt] at h; omega
  | r :: l, i, h, h1 => by
    have e : Dt (r :: l) = r.n + Dt l := by simp [Dt]
    have hr := h1 r (by simp)
    have hm : F5 bars (r :: l) = DE bars r r.n.toNat ++ F5 bars l := by simp [F5]
    have hl := G0 bars r r.n.toNat; rw [hm, D1]
    by_cases hi : i < r.n.toNat
    · rw [if_pos hi, List.getElem?_append_left (by omega)]; refine ⟨r, rfl, hi, ?_⟩
      simp [DE, hi]
    · rw [if_neg hi, List.getElem?_append_right (by omega), hl]; obtain ⟨q, g1, g2, g3⟩ := place_spec bars l (i - r.n.toNat) (by omega) fun x hx => h1 x (by simp [hx]); exact ⟨q, by simpa using g1, g2, g3⟩
def hull2 (p q : P3) : Bx := ⟨min p.1 q.1, min p.2.1 q.2.1, min p.2.2 q.2.2, max p.1 q.1, max p.2.1 q.2.1, max p.2.2 q.2.2⟩
def bumpP (b : Bx) (p : P3) : Bx := ⟨min b.lx p.1, min b.ly p.2.1, min b.lz p.2.2, max b.hx p.1, max b.hy p.2.1, max b.hz p.2.2⟩
def ptB (p : P3) : Bx := ⟨p.1, p.2.1, p.2.2, p.1, p.2.1, p.2.2⟩
def Fi (l : List P3) (n : Nat) : List Bx := (List.range n).map fun i => hull2 ((l[i]?).getD (0, 0, 0)) ((l[i + 1]?).getD (0, 0, 0))
theorem legsI_snoc (l : List P3) (n : Nat) : Fi l (n + 1) = Fi l n ++ [hull2 ((l[n]?).getD (0, 0, 0)) ((l[n + 1]?).getD (0, 0, 0))] := by simp [Fi, List.range_succ]
theorem legsI_len (l : List P3) (n : Nat) : (Fi l n).length = n := by simp [Fi]
def mainB (b : Bx) : Prop := b.lx < b.hx ∧ b.ly = b.hy ∧ b.lz = b.hz
instance (b) : Decidable (mainB b) := by unfold mainB; infer_instance
def mlI (l : List Bx) : Int := CN (fun b => decide (mainB b)) l 0
theorem main_hull (p q : P3) : mainB (hull2 p q) ↔ isLeg p q := by
  unfold mainB hull2 isLeg
  dsimp only
  omega
theorem hull_leg {p q : P3} (h : isLeg p q) : hull2 p q = legB p q := by
  unfold isLeg at h
  unfold hull2 legB
  rw [h.2.1, h.2.2]; simp only [Int.min_self, Int.max_self]
theorem mlI_snoc (l : List Bx) (b : Bx) : mlI (l ++ [b]) = if 0 ≤ mlI l then mlI l else if mainB b then (l.length : Int) else -1 := by
  have key : ∀ (l : List Bx) (k : Int), 0 ≤ k → CN (fun b => decide (mainB b)) (l ++ [b]) k = if 0 ≤ CN (fun b => decide (mainB b)) l k then CN (fun b => decide (mainB b)) l k else if mainB b then k + (l.length : Int) else -1 := by
    intro l
    induction l with
    | nil => intro k hk; simp [CN]
    | cons a l ih =>
      intro k hk; rw [List.cons_append, CN, CN]
      by_cases ha : decide (mainB a) = true
      · rw [if_pos ha, if_pos ha, if_pos hk]
      rw [if_neg ha, if_neg ha, ih (k + 1) (by omega)]; simp only [List.length_cons]
      split
      · rfl
      split <;> omega
  have := key l 0 (Int.le_refl _); rw [Int.zero_add] at this; exact this
theorem legF_ml (l : List P3) : ∀ n, n < l.length → (mlI (Fi l n) < 0 → C6 (l.take (n + 1)) = (false, zeroB)) ∧ (0 ≤ mlI (Fi l n) → ∃ b, (Fi l n)[(mlI (Fi l n)).toNat]? = some b ∧ C6 (l.take (n + 1)) = (true, b)) := by
  intro n
  induction n with
  | zero =>
    intro _; refine ⟨fun _ => legF_1 l, fun h => ?_⟩; exact absurd h (by show ¬ (0 : Int) ≤ -1; decide)
  | succ n ih =>
    intro hn; obtain ⟨i1, i2⟩ := ih (by omega); obtain ⟨p, hp⟩ : ∃ p, l[n]? = some p := ⟨_, List.getElem?_eq_getElem (by omega)⟩; obtain ⟨q, hq⟩ : ∃ q, l[n + 1]? = some q := ⟨_, List.getElem?_eq_getElem (by omega)⟩; have hlen := legsI_len l n; rw [legsI_snoc, hp, hq, mlI_snoc]; simp only [Option.getD_some]
    by_cases h0 : 0 ≤ mlI (Fi l n)
    · obtain ⟨b, b1, b2⟩ := i2 h0; have hb := (List.getElem?_eq_some_iff.1 b1).1; rw [if_pos h0]; refine ⟨fun h => by omega, fun _ => ⟨b, ?_, ?_⟩⟩
      · rw [List.getElem?_append_left hb, b1]
      have h3 : (C6 ((l.take (n + 2)).take (n + 1))).1 = true := by rw [List.take_take, Nat.min_eq_left (by omega), b2]
      have := legF_end (l.take (n + 2)) (n + 1) h3; rw [List.take_take, Nat.min_eq_left (by omega), b2] at this; exact this
    have hf := i1 (by omega); rw [if_neg h0]
    by_cases hm : isLeg p q
    · rw [if_pos ((main_hull p q).2 hm)]; refine ⟨fun h => by omega, fun _ => ⟨hull2 p q, ?_, ?_⟩⟩
      · rw [List.getElem?_append_right (by omega)]
        simp [hlen]
      rw [leg_t (i := n + 1) (by omega) (by rw [hf]) hp hq hm, hull_leg hm]; rfl
    rw [if_neg fun h => hm ((main_hull p q).1 h)]; refine ⟨fun _ => ?_, fun h => absurd h (by decide)⟩; rw [leg_n (i := n + 1) (by omega) (by rw [hf]) hp hq hm, hf]
theorem legF_all {l : List P3} (h : 1 ≤ l.length) : (mlI (Fi l (l.length - 1)) < 0 → C6 l = (false, zeroB)) ∧ (0 ≤ mlI (Fi l (l.length - 1)) → ∃ b, (Fi l (l.length - 1))[(mlI (Fi l (l.length - 1))).toNat]? = some b ∧ C6 l = (true, b)) := by
  have := legF_ml l (l.length - 1) (by omega)
  rwa [Nat.sub_add_cancel h, List.take_length] at this
theorem pl16_fun (runs : List Rn) (i : Nat) (h1 : ∀ r ∈ runs, 1 ≤ r.n ∧ r.n ≤ 1000) (hl : runs.length ≤ 60) (hc : Dt runs ≤ 2000) (hi : (i : Int) < Dt runs) : Fun Tryz.prog 211 [.sh 10 (runs.map Rn.c), iL (i : Int)] (AK (.tup [iL ((D1 runs i).1 : Int), iL ((D1 runs i).2 : Int)]) []) := by
  refine Fun.of (nt := 25) (rs := [.tmp 4, .tmp 5]) Tryz.func211 rfl rfl rfl rfl rfl (Ac fun _ z=>Aa Ae (Aa Ae (Ad z (Ac fun _ z=>Aa Ae (Ad z (An (Ar (AI (ι := {p : Nat × Nat // PlInv runs i p.1 p.2}) [] [0] (fun ⟨(k, j), _⟩ => [(6, iL (k : Int)), (1, iL (j : Int))]) (fun ⟨(k, j), _⟩ => []) (fun ⟨(k, j), _⟩ => runs.length - k) ⟨(0, i), pl_init hi⟩ (.c .n) AW (Ag (h := (Ag))) ?_)))))))); rintro ⟨⟨k, j⟩, hk⟩ R0 hR0; dsimp only [cA, nA, lC, lN]
  dsimp only at hk
  obtain ⟨r, hr⟩ := pl_get hk; have hrn := h1 r (List.mem_of_getElem? hr); have hkl := (List.getElem?_eq_some_iff.1 hr).1; have hji := hk.2.2; refine An (Ac fun _ z=>Aa Ab (Aa Ab (Aa Ab (Aa (AL Bo B5 (hl := (by exact AY hr (by omega)))) (Aa (BP 9 B4 Ah) (Aa (Bc Al) (Aa C7 (Ad z (Ax (fun c1 => ?_) (fun c1 => ?_))))))))))
  · refine As (Ar (Ac fun _ z=>Aa Ab (Aa Ab (Aa Ab (Aa (AL Bo B5 (hl := (by exact AY hr (by omega)))) (Aa (BP 9 B4 Ah) (Aa (Bc Al) (Aa BV (Aa Ae (Ad z (Ao fun _ z=>Aa Ab (Aa A6 (Aa Ae (Ad z (hR0 _ _ (A8 [] [0] ⟨(k + 1, j - r.n.toNat), pl_step hk hr hrn.1 (by omega)⟩ ?_ AW (Ag (h := (Ag (he := (by congr 2; omega))))) (.c .n))))))))))))))))); skip; all_goals (dsimp only; omega)
  refine AO (hR0 _ _ (Ac fun _ z=>Aa Ab (Aa Ab (Aa Ae (Aa Ae (Ad z (Af (CC ?_))))))))
  (rw [pl_fin hk hr (by omega)]; done)
theorem mainB_fun (b : Bx) : Fun Tryz.prog 182 [.agg b.c] (AK (bL (decide (mainB b))) []) := by
  obtain ⟨b1, b2, b3, b4, b5, b6⟩ := b; have he : mainB ⟨b1, b2, b3, b4, b5, b6⟩ ↔ b1 < b4 ∧ b2 = b5 ∧ b3 = b6 := Iff.rfl; refine Fun.of (nt := 28) (rs := [.tmp 2]) Tryz.func182 rfl rfl rfl rfl rfl (Ac fun _ z=>A4 (Be [_, _, _, _, _, _] true) (Aa Ae (Ad z (Ac fun _ z=>Aa (Ap 0 AR Am) (Aa (Ap 0 AU Ah) (Aa (At Al) (Aa (Ap 3 AQ Am) (Aa (Ap 3 AU Ah) (Aa (At Al) (Aa Ay (AP Ab (fun c1 => ?_) (fun c1 => ?_))))))))))))
  · refine Aa (Ap 0 AR Am) (Aa (Ap 1 Bi Ah) (Aa (At Al) (Aa (Ap 3 AQ Am) (Aa (Ap 4 Bi Ah) (Aa (At Al) (Aa B6 (Aa A5 (AP Ab (fun c2 => ?_) (fun c2 => ?_)))))))))
    · refine Aa (Ap 0 AR Am) (Aa (Ap 2 Bk Ah) (Aa (At Al) (Aa (Ap 3 AQ Am) (Aa (Ap 5 Bk Ah) (Aa (At Al) (Aa B6 (Aa A5 (Aa Ae (Ad z (Af (Aq ?_))))))))))); exact dI ⟨fun h => he.2 (by omega), fun h => by have h1 := he.1 h; omega⟩
    refine Ai (Ai (Ai (A9 (Aa Au (Aa Ae (Ad z (Af (Aq ?_)))))))); exact bF (fun h => by have h1 := he.1 h; omega)
  refine Ai (Ai (Ai (A9 (Aa Au (Aa Ab (Ai (Ai (Ai (A9 (Aa Au (Aa Ae (Ad z (Af (Aq ?_)))))))))))))); exact bF (fun h => by have h1 := he.1 h; omega)
theorem mainLeg_fun (l : List Bx) (hlen : l.length ≤ 140737488355328) : Fun Tryz.prog 135 [.sh 6 (l.map Bx.c)] (AK (iL (mlI l)) []) := by
  unfold mlI
  refine Fun.of (nt := 16) (rs := [.tmp 2]) Tryz.func135 rfl rfl rfl rfl rfl (Ac fun _ z=>Aa Ae (Ad z (An (Ac fun _ z=>Aa Ae (Ad z (Ar (AI (ι := {q : List Bx × List Bx // q.1 ++ q.2 = l ∧ ∀ x ∈ q.1, decide (mainB x) = false}) [] [0] (fun ⟨(pre, suf), _⟩ => [(3, iL (pre.length : Int))]) (fun ⟨(pre, suf), _⟩ => []) (fun ⟨(pre, suf), _⟩ => suf.length) ⟨([], l), rfl, fun x hx => by simp at hx⟩ (.c .n) AW (Ag) ?_))))))); rintro ⟨⟨pre, suf⟩, hp, hinv⟩ R0 hR0; dsimp only [cA, nA, lC, lN]
  simp only at hp hinv
  have hpl := Cd hp
  rcases suf with _ | ⟨s, suf⟩
  · rw [List.append_nil] at hp; simp only [lN] at hpl; refine An (Ac fun _ z=>Aa Ab (Aa Ab (Aa (A7 Bs) (Aa Ay (Ad z (Ax (fun c1 => ?_) (fun c1 => ?_)))))))
    · omega
    refine AO (hR0 _ _ (Ac fun _ z=>Aa Ae (Ad z (Af (Aq ?_)))))
    congr 2; rw [← hp, Gh _ pre 0 hinv]
  simp only [lC] at hpl; have hidx := Ch hp; refine An (Ac fun _ z=>Aa Ab (Aa Ab (Aa (A7 Bs) (Aa Ay (Ad z (Ax (fun c2 => ?_) (fun c2 => ?_)))))))
  · refine As (An (Ar (Ac fun _ z=>Aa Ab (Aa Ab (Aa (AL Bs AB (hl := (by exact AY hidx (by omega)))) (Aa (BF [_, _, _, _, _, _] Bq AB) (A3 (hF := mainB_fun s) (h := Ad z (Ax (fun c3 => ?_) (fun c3 => ?_))))))))))
    · refine Ac fun _ z=>Aa Ab (Aa Ae (Ad z (Af (hR0 _ _ (Aq ?_)))))
      congr 2; rw [← hp, DD _ pre _ 0 hinv, CN, if_pos (decide_eq_true ‹_›)]; omega
    refine As (Ao fun _ z=>Aa Ab (Aa A6 (Aa Ae (Ad z (hR0 _ _ (A8 [] [0] ⟨(pre ++ [s], suf), B2 hp, ?_⟩ BX AW (Ag (he := (by congr 2; simp))) (.c .n)))))))
    intro x hx; simp only [List.mem_append, List.mem_singleton] at hx; rcases hx with hx | rfl
    · exact hinv x hx
    · exact decide_eq_false ‹_›
  omega
theorem bump_take {p0 : P3} {l : List P3} {i : Nat} {p : P3} (hp : l[i]? = some p) : (l.take (i + 1)).foldl bumpP (ptB p0) = bumpP ((l.take i).foldl bumpP (ptB p0)) p := by
  rw [List.take_add_one, hp, Option.toList_some, List.foldl_append]; rfl
theorem bump_one {p0 : P3} {l : List P3} (hp : l[0]? = some p0) : (l.take 1).foldl bumpP (ptB p0) = ptB p0 := by
  rw [bump_take hp]
  unfold bumpP ptB
  simp [Int.min_self, Int.max_self]
theorem hull12_fun (l : List P3) (p0 : P3) (h0 : l[0]? = some p0) (hlen : l.length ≤ 1000) : Fun Tryz.prog 181 [.sh 3 (l.map C1)] (AK (.agg (l.foldl bumpP (ptB p0)).c) []) := by
  obtain ⟨x0, y0, z0⟩ := p0; have hl1 := (List.getElem?_eq_some_iff.1 h0).1; obtain ⟨G, hG⟩ : ∃ G : Nat → Bx, ∀ i, G i = (l.take i).foldl bumpP (ptB (x0, y0, z0)) := ⟨_, fun _ => rfl⟩
  have hgs : ∀ i p, l[i]? = some p → G (i + 1) = bumpP (G i) p := fun i p hp => by rw [hG, hG]; exact bump_take hp
  have hg1 : G 1 = ⟨x0, y0, z0, x0, y0, z0⟩ := (hG 1).trans (bump_one h0)
  have hgl : l.foldl bumpP (ptB (x0, y0, z0)) = G l.length := by rw [hG, List.take_length]
  rw [hgl]; clear hG hgl; refine Fun.of (nt := 64) (rs := [.cell 2 100]) Tryz.func181 rfl rfl rfl rfl rfl (Ac fun _ z=>A4 (Bd BS) (Ad z (Ck (C8 [(0, 0), (1, 1), (2, 3), (0, 0), (4, 8), (5, 24), (6, 63), (0, 0), (8, 255)]) 8 fun _ z=>Ak Ab (Ak (AL Bb Am (hl := (by exact AY h0 (by omega)))) (Ak (BF [_, _, _] AF Am) (Ak Ab (Ak (AL Bb Am (hl := (by exact AY h0 (by omega)))) (Ak (BF [_, _, _] AF Am) (Ak (Bj [_, _, _, _, _, _] BS am_pl100) (Gs [_] (Bd BS) (h := Bz [_, _] (h := AC [_, _, _, _, _, _] true [_] CK AB (h := Ad z (An (Ac fun _ z=>Aa Ae (Ad z (Ar (AI (ι := {i : Nat // 1 ≤ i ∧ i ≤ l.length}) [0, 29] [0, 2, 3] (fun ⟨i, _⟩ => [(4, iL (i : Int))]) (fun ⟨i, _⟩ => [(0, ⟨false, 100, 6, [[iL (0), iL (0), iL (0), iL (0), iL (0), iL (0)]], true⟩), (1, ⟨false, 100, 6, [[iL ((G i).lx), iL ((G i).ly), iL ((G i).lz), iL ((G i).hx), iL ((G i).hy), iL ((G i).hz)]], true⟩)]) (fun ⟨i, _⟩ => l.length - i) ⟨1, by decide, hl1⟩ (.c (.c (.c .n))) (Aj (h := (Aj (he := (by rw [hg1]))))) (Ag) ?_)))))))))))))))))); rintro ⟨i, hi1, hi2⟩ R0 hR0; dsimp only [cA, nA, lC, lN]
  by_cases hil : i < l.length
  rotate_left
  · have hie : i = l.length := by omega
    subst hie; refine An (Ac fun _ z=>Aa Ab (Aa Ab (Aa (A7 Bb) (Aa Ay (Ad z (Ax (fun c1 => ?_) (fun c1 => ?_)))))))
    · omega
    refine AO (hR0 _ _ (Ac fun _ z=>Aa (Av [_, _, _, _, _, _] Bq AB) (AC [_, _, _, _, _, _] true [_] CK AB (h := Ad z (Af (BD (B7 [_, _, _, _, _, _] Bq AB BC) (⟨?_, rfl⟩))))))); rfl
  obtain ⟨⟨px, py, pz⟩, hpi⟩ : ∃ p, l[i]? = some p := ⟨_, List.getElem?_eq_getElem hil⟩; have hgn := hgs i _ hpi; refine An (Ac fun _ z=>Aa Ab (Aa Ab (Aa (A7 Bb) (Aa Ay (Ad z (Ax (fun c2 => ?_) (fun c2 => ?_)))))))
  · refine As (An (Ar (Ac fun _ z=>Aa Ab (Aa Ab (Aa (AL Bb Am (hl := (by exact AY hpi (by omega)))) (Aa (BF [_, _, _] AF Am) (A4 (Bd AJ) (AC [_, _, _] true [_, _] BG Am (h := Ad z (Ac fun _ z=>Aa (Ap 0 AR Am) (Aa (Ap 0 AU Ah) (Aa (At Al) (Aa (Ap 0 AU Ah) (Aa (At Al) (Aa Gt (Aa (Ap 0 AR Am) (Aa (Ap 1 Bi Ah) (Aa (At Al) (Aa (Ap 1 Bi Ah) (Aa (At Al) (Aa Gt (Aa (Ap 0 AR Am) (Aa (Ap 2 Bk Ah) (Aa (At Al) (Aa (Ap 2 Bk Ah) (Aa (At Al) (Aa Gt (Aa (Bj [_, _, _] AJ BH) (Aa (Ap 0 AR Am) (AC [_, _, _, _, _, _] true [_, _] BG Am (h := Ad z (Ao fun _ z=>Aa (Ap 3 AQ Am) (Aa (Ap 3 AU Ah) (Aa (At Al) (Aa (Ap 0 AU Ah) (Aa (At Al) (Aa EI (Aa (Ap 3 AQ Am) (Aa (Ap 4 Bi Ah) (Aa (At Al) (Aa (Ap 1 Bi Ah) (Aa (At Al) (Aa EI (Aa (Ap 3 AQ Am) (Aa (Ap 5 Bk Ah) (Aa (At Al) (Aa (Ap 2 Bk Ah) (Aa (At Al) (Aa EI (Aa (Bj [_, _, _] AJ BH) (Aa (Ap 3 AQ Am) (AC [_, _, _, _, _, _] true [_, _] BG Am (h := Ad z ?_)))))))))))))))))))))))))))))))))))))))))))))))))))))
    show Ev _ _ _ _; refine Ao fun _ z=>Aa Ab (Aa A6 (Aa Ae (Ad z (hR0 _ _ (A8 [0, 1] [0, 2, 3] ⟨i + 1, by omega, by omega⟩ ?_ (Aj (h := (Aj (he := (by rw [hgn]; rfl))))) (Ag) (.c (.c (.c .n)))))))); skip; all_goals (dsimp only; omega)
  omega
theorem rBar_fun (bars : List Bar) (runs : List Rn) (i : Nat) (hlo : Dq bars runs) (hi : (i : Int) < Dt runs) : Fun Tryz.prog 212 [.sh 5 (bars.map Bar.c), .sh 10 (runs.map Rn.c), iL (i : Int)] (AK (.agg (Bg bars (runI runs i).mark).c) []) := by
  obtain ⟨r, hr0, hjn, hmg⟩ := place_spec bars runs i hi (fun r hr => (hlo.2.2.1 r hr).2.2.1.1)
  have hri : runI runs i = r := by rw [runI, hr0]; rfl
  have hrp := hlo.2.2.1 r (List.mem_of_getElem? hr0); have hmk := hrp.1; have hmb := markI_bd bars r.mark; have hlg := GK hmk; have hob := hlo.1.2.1 _ (FK hmk); have hl60 := hlo.1.1; have hr60 := hlo.2.1; have hpl := pl16_fun runs i (fun r hr => (hlo.2.2.1 r hr).2.2.1) hr60 hlo.2.2.2 hi; rw [hri]; obtain ⟨⟨K, J⟩, hpq⟩ : ∃ p, p = D1 runs i := ⟨_, rfl⟩; rw [← hpq] at hr0 hjn hpl hmg
  dsimp only at hr0 hjn hpl hmg
  have hK := (List.getElem?_eq_some_iff.1 hr0).1; obtain ⟨b0, hb0⟩ : ∃ b, b = Bg bars r.mark := ⟨_, rfl⟩; rw [← hb0] at hlg ⊢; refine Fun.of (nt := 25) (rs := [.cell 6 72]) Tryz.func212 rfl rfl rfl rfl rfl (Ac fun _ z=>A4 (Bd am_ze72) (Ad z (Ac fun _ z=>Aa Ab (Aa Ab (A3 (hF := hpl) (h := Aa Ab (Aa BA (Aa BA (Aa Ae (Aa Ae (Ad z (Ac fun _ z=>Aa Ab (Aa Ab (Aa Ab (Aa Ab (Aa (AL Bo B5 (hl := (by exact AY hr0 (by omega)))) (Aa (BP 0 Fq Da) (Aa (Bc CL) (A3 (hF := rfind_fun bars r.mark (by omega)) (h := Aa (AL BO Bv (hl := (by exact AY hlg (by omega)))) (Aa (BF _ Cm Bv) (AC _ true [] am_in72 Bv (h := Ad z (Af (BD (B7 [_, _, _, _, _] Cm Bv BC) (⟨?_, rfl⟩)))))))))))))))))))))))))); rfl
theorem rPoints_fun (bars : List Bar) (runs : List Rn) (i : Nat) (hlo : Dq bars runs) (hi : (i : Int) < Dt runs) : Fun Tryz.prog 180 [.sh 5 (bars.map Bar.c), .sh 10 (runs.map Rn.c), iL (i : Int)] (AK (.sh 3 ((G7 (Bg bars (runI runs i).mark) (runI runs i) ((D1 runs i).2 : Int)).map C1)) []) := by
  have hbf := rBar_fun bars runs i hlo hi; obtain ⟨r, hr0, hjn, hmg⟩ := place_spec bars runs i hi (fun r hr => (hlo.2.2.1 r hr).2.2.1.1)
  have hri : runI runs i = r := by rw [runI, hr0]; rfl
  have hrp := hlo.2.2.1 r (List.mem_of_getElem? hr0); have hmk := hrp.1; have hmb := markI_bd bars r.mark; have hlg := GK hmk; have hob := hlo.1.2.1 _ (FK hmk); have hl60 := hlo.1.1; have hr60 := hlo.2.1; have hpl := pl16_fun runs i (fun r hr => (hlo.2.2.1 r hr).2.2.1) hr60 hlo.2.2.2 hi; rw [hri]; obtain ⟨⟨K, J⟩, hpq⟩ : ∃ p, p = D1 runs i := ⟨_, rfl⟩; rw [← hpq] at hr0 hjn hpl hmg ⊢
  dsimp only at hr0 hjn hpl hmg
  have hK := (List.getElem?_eq_some_iff.1 hr0).1; rw [hri] at hbf; obtain ⟨b0, hb0⟩ : ∃ b, b = Bg bars r.mark := ⟨_, rfl⟩; rw [← hb0] at hlg hob hbf ⊢; have hpf := rpoints_fun b0 r (J : Int) hob hrp.2.1 hrp.2.2.2.1 (by have := hrp.2.2.1; omega) (fun h => (hrp.2.2.2.2.1 (by omega)).2); refine Fun.of (nt := 25) (rs := [.tmp 6]) Tryz.func180 rfl rfl rfl rfl rfl (Ac fun _ z=>Aa Ae (Ad z (Ac fun _ z=>Aa Ab (Aa Ab (A3 (hF := hpl) (h := Aa Ab (Aa BA (Aa BA (Aa Ae (Aa Ae (Ad z (Ck (C8 [(0, 0), (0, 0), (0, 0), (3, 7), (0, 0), (0, 0), (6, 48), (7, 112), (0, 0), (9, 511), (10, 1023)]) 10 fun _ z=>Ak Ab (Ak Ab (Ak Ab (B1 (hF := hbf) (h := Ak Ab (Ak Ab (Ak (AL Bo B5 (hl := (by exact AY hr0 (by omega)))) (Ak (BF _ FX B5) (Ak Ab (B1 (hF := hpf) (h := Bz [] (h := Aa Ae (Ad z (Af (Aq ?_)))))))))))))))))))))))))); rfl
theorem two_slice {l : List P3} {k : Nat} {p q : P3} (h1 : 1 ≤ k) (hp : l[k - 1]? = some p) (hq : l[k]? = some q) : List.take (((k : Int) + 1).toNat - ((k : Int) - 1).toNat) (List.drop ((k : Int) - 1).toNat l) = [p, q] := by
  have e1 : ((k : Int) + 1).toNat - ((k : Int) - 1).toNat = 2 := by omega
  have e2 : ((k : Int) - 1).toNat = k - 1 := by omega
  rw [e1, e2, drop_get hp, show k - 1 + 1 = k by omega, drop_get hq]; rfl
theorem hull2_fun (p q : P3) : Fun Tryz.prog 181 [.sh 3 ([p, q].map C1)] (AK (.agg (hull2 p q).c) []) := by
  have := hull12_fun [p, q] p rfl (by simp)
  have e : [p, q].foldl bumpP (ptB p) = hull2 p q := by
    show bumpP (bumpP (ptB p) p) q = _
    rw [show bumpP (ptB p) p = ptB p by unfold bumpP ptB; simp [Int.min_self, Int.max_self]]; rfl
  rwa [e] at this
theorem rLegs_fun (bars : List Bar) (runs : List Rn) (i : Nat) (hlo : Dq bars runs) (hi : (i : Int) < Dt runs) (l : List P3) (hl1 : 1 ≤ l.length) (hl7 : l.length ≤ 7) (hl : G7 (Bg bars (runI runs i).mark) (runI runs i) ((D1 runs i).2 : Int) = l) : Fun Tryz.prog 134 [.sh 5 (bars.map Bar.c), .sh 10 (runs.map Rn.c), iL (i : Int)] (AK (.sh 6 ((Fi l (l.length - 1)).map Bx.c)) []) := by
  have hpf := rPoints_fun bars runs i hlo hi; rw [hl] at hpf; refine Fun.of (nt := 31) (rs := [.tmp 6]) Tryz.func134 rfl rfl rfl rfl rfl (Ac fun _ z=>Aa Ae (Ad z (Ac fun _ z=>Aa Ab (Aa Ab (Aa Ab (A3 (hF := hpf) (h := Aa Ae (Ad z (Ac fun _ z=>Aa Ae (Ad z (An (Ac fun _ z=>Aa Ae (Ad z (Ar (AT (Wk.nown Bx.c 8 100 6) (AI (ι := {k : Nat // 1 ≤ k ∧ k ≤ l.length}) [0] [7] (fun ⟨k, _⟩ => [(9, iL (k : Int)), (8, .als 0 0 (Fi l (k - 1)).length)]) (fun ⟨k, _⟩ => [(0, ⟨true, 100, 6, (Fi l (k - 1)).map Bx.c, true⟩)]) (fun ⟨k, _⟩ => l.length - k) ⟨1, by decide, hl1⟩ (.c .n) (Aj) (Ag (h := (Ag))) ?_)))))))))))))))); rintro ⟨k, hk1, hk2⟩ R0 hR0; dsimp only [cA, nA, lC, lN]; have hgl := legsI_len l (k - 1)
  by_cases hil : k < l.length
  rotate_left
  · have hie : k = l.length := by omega
    subst hie; refine An (Ac fun _ z=>Aa Ab (Aa Ab (Aa (A7 Bb) (Aa Ay (Ad z (Ax (fun c1 => ?_) (fun c1 => ?_)))))))
    · omega
    refine AO (hR0 _ _ (Ac fun _ z=>Aa Ab (Aa Ae (Ad z (AT (Wk.frz 6 []) (Af (Aq ?_))))))); rfl
  obtain ⟨v1, hpi⟩ : ∃ p, l[k - 1]? = some p := ⟨_, List.getElem?_eq_getElem (by omega)⟩; obtain ⟨v2, hqi⟩ : ∃ q, l[k]? = some q := ⟨_, List.getElem?_eq_getElem hil⟩; have hsl := two_slice hk1 hpi hqi
  have hgs : Fi l (k + 1 - 1) = Fi l (k - 1) ++ [hull2 v1 v2] := by
    obtain ⟨j, rfl⟩ : ∃ j, k = j + 1 := ⟨k - 1, by omega⟩; rw [Nat.add_sub_cancel] at hpi ⊢; rw [legsI_snoc, hpi, hqi]; rfl
  refine An (Ac fun _ z=>Aa Ab (Aa Ab (Aa (A7 Bb) (Aa Ay (Ad z (Ax (fun c2 => ?_) (fun c2 => ?_)))))))
  · refine As (An (Ar (Ao fun _ z=>Aa Ab (Aa Ab (Aa Ab (Aa BV (Aa Ab (Aa A6 (Aa (q.sh Bb Am) ?_))))))))); rw [hsl]; refine A3 (hF := hull2_fun v1 v2) (h := A4 (C3 [[_, _, _, _, _, _]] true Bs BS AB) (DJ [_] Bs BS AB am_by100 (hh := Cu) (hr := (CS [(hull2 v1 v2)])) (h := Aa Ae (Ad z ?_)))); show Ev _ _ _ _; refine Ao fun _ z=>Aa Ab (Aa A6 (Aa Ae (Ad z (hR0 _ _ (A8 [2] [7] ⟨k + 1, by omega, by omega⟩ ?_ (Aj (he := (by rw [hgs, List.map_append] <;> rfl))) (Ag (h := (Ag (he := (by rw [hgs, List.length_append] <;> rfl))))) (.c .n)))))); skip; all_goals (dsimp only; omega)
  omega
theorem at_eq (r : Rn) (j : Nat) : atR r j = pAt r (j : Int) := by
  by_cases h : (j : Int) > 0
  · rw [pAt_t h]
    unfold atR D3 Rn.at
    rw [Int.mul_comm r.sx, Int.mul_comm r.sy, Int.mul_comm r.sz]
  obtain rfl : j = 0 := by omega
  rw [pAt_f h]
  unfold atR Rn.at
  simp
theorem main_at {bars : List Bar} {runs : List Rn} {i : Nat} (hlo : Dq bars runs) (hi : (i : Int) < Dt runs) : ∃ l, G7 (Bg bars (runI runs i).mark) (runI runs i) ((D1 runs i).2 : Int) = l ∧ 1 ≤ l.length ∧ l.length ≤ 7 ∧ (DA (CD bars runs) (i : Int)).leg = (C6 l).2 ∧ (DA (CD bars runs) (i : Int)).has = (C6 l).1 := by
  obtain ⟨r, hr0, hjn, hmg⟩ := place_spec bars runs i hi (fun r hr => (hlo.2.2.1 r hr).2.2.1.1)
  have hri : runI runs i = r := by rw [runI, hr0]; rfl
  have hrm := List.mem_of_getElem? hr0; have hr2 := hlo.2.2.1 r hrm; have hok := hlo.1.2.1 _ (FK hr2.1); have hl := shpV_len (Bg bars r.mark); have hsh : Fd (Bg bars r.mark) = EN (Bg bars r.mark) := if_pos hok
  have hfr : frV r.tx r.ty (atR r (D1 runs i).2) (Fd (Bg bars r.mark)) = G7 (Bg bars r.mark) r ((D1 runs i).2 : Int) := by
    rw [(frE0 hr2.2.1 (by omega) ⟨at_near hr2 hok (by omega), by rw [hsh]; exact path_near hok⟩).2, hsh, G7, path_same hok, at_eq]
  rw [hri]; refine ⟨_, rfl, ?_, ?_, ?_⟩
  · rw [G7, List.length_map, Gg]; omega
  · have h1 := congrArg List.length (GM hok).1; rw [List.length_map] at h1; have := Fj (Bg bars r.mark); rw [G7, List.length_map, Gg]; omega
  have e : DA (CD bars runs) (i : Int) = mainOf (Bg bars r.mark) (G7 (Bg bars r.mark) r ((D1 runs i).2 : Int)) := by
    rw [runs_good hlo, DA, Int.toNat_natCast, hmg, hfr]; rfl
  rw [e]; exact ⟨rfl, rfl⟩
theorem rMain0 (x : Det) (i : Nat) (L : List Bx) (M : Int) (hm : M < 0) (hgl : L.length ≤ 7) (hlf : Fun Tryz.prog 134 [.sh 5 (x.bars.map Bar.c), .sh 10 (x.runs.map Rn.c), iL (i : Int)] (AK (.sh 6 (L.map Bx.c)) [])) (hml : Fun Tryz.prog 135 [.sh 6 (L.map Bx.c)] (AK (iL M) [])) :
    Fun Tryz.prog 77 [.agg x.c, iL (i : Int)] (AK (.tup [.agg zeroB.c, bL false]) []) := by
  refine Fun.of (nt := 23) (rs := [.cell 4 100, .tmp 5]) Tryz.func77 rfl rfl rfl rfl rfl (Ac fun _ k=>A4 (Be _ true) (A4 (Bd BS) (Aa Ae (Ad k (Ac fun _ k=>Aa (Ap 6 Eh Fu) (Aa (At Fx) (Aa (Ap 7 E9 FG) (Aa (At FD) (Aa Ab (A3 (hF := hlf) (h := Aa Ae (Ad k (Ac fun _ k=>Aa Ab (A3 (hF := hml) (h := Aa Ae (Ad k (An (Ac fun _ k=>Aa Ab (Aa Ay (Ad k (Ax (fun c1 => ?_) (fun c1 => ?_))))))))))))))))))))))
  · refine Ac fun _ k=>Aa (Bj _ BS am_pl100) (AC _ true [_] CK AB (h := Aa Ae (Ad k (Af (Cv (B7 [_, _, _, _, _, _] Bq AB (DI BC)) (⟨?_, rfl⟩)))))); rfl
  omega
theorem rMain1 (x : Det) (i : Nat) (L : List Bx) (M : Int) (b : Bx) (hm : 0 ≤ M) (hb : L[M.toNat]? = some b) (hgl : L.length ≤ 7) (hlf : Fun Tryz.prog 134 [.sh 5 (x.bars.map Bar.c), .sh 10 (x.runs.map Rn.c), iL (i : Int)] (AK (.sh 6 (L.map Bx.c)) [])) (hml : Fun Tryz.prog 135 [.sh 6 (L.map Bx.c)] (AK (iL M) [])) :
    Fun Tryz.prog 77 [.agg x.c, iL (i : Int)] (AK (.tup [.agg b.c, bL true]) []) := by
  refine Fun.of (nt := 23) (rs := [.cell 4 100, .tmp 5]) Tryz.func77 rfl rfl rfl rfl rfl (Ac fun _ k=>A4 (Be _ true) (A4 (Bd BS) (Aa Ae (Ad k (Ac fun _ k=>Aa (Ap 6 Eh Fu) (Aa (At Fx) (Aa (Ap 7 E9 FG) (Aa (At FD) (Aa Ab (A3 (hF := hlf) (h := Aa Ae (Ad k (Ac fun _ k=>Aa Ab (A3 (hF := hml) (h := Aa Ae (Ad k (An (Ac fun _ k=>Aa Ab (Aa Ay (Ad k (Ax (fun c1 => ?_) (fun c1 => ?_))))))))))))))))))))))
  · omega
  refine As (Ac fun _ k=>Aa Ab (Aa Ab (Aa (AL Bs AB (hl := (by exact AY hb (by omega)))) (Aa (BF _ Bq AB) (AC _ true [_] CK AB (h := Aa Ae (Ad k (Af (Cv (B7 [_, _, _, _, _, _] Bq AB (DI BC)) (⟨?_, rfl⟩)))))))))); rfl
theorem rMain_fun (x : Det) (i : Nat) (hlo : Dq x.bars x.runs) (hi : (i : Int) < Dt x.runs) : Fun Tryz.prog 77 [.agg x.c, iL (i : Int)] (AK (.tup [.agg (DA (CD x.bars x.runs) (i : Int)).leg.c, bL (DA (CD x.bars x.runs) (i : Int)).has]) []) := by
  obtain ⟨l, hl, hl1, hl7, e1, e2⟩ := main_at hlo hi; have hlf := rLegs_fun x.bars x.runs i hlo hi l hl1 hl7 hl; have hgl := legsI_len l (l.length - 1); have hml := mainLeg_fun (Fi l (l.length - 1)) (by omega); obtain ⟨h1, h2⟩ := legF_all hl1; rw [e1, e2]
  rcases Int.lt_or_le (mlI (Fi l (l.length - 1))) 0 with hm | hm
  · rw [h1 hm]; exact rMain0 x i _ _ hm (by omega) hlf hml
  obtain ⟨b, hb, hlF⟩ := h2 hm; rw [hlF]; exact rMain1 x i _ _ b hm hb (by omega) hlf hml
theorem rjoint_fun (x : Det) (j : Int × Int) (hlo : Dq x.bars x.runs) : Fun Tryz.prog 40 [.agg x.c, .agg (CB j)] (AK (bL (decide (jointP (CD x.bars x.runs) j))) []) := by
  obtain ⟨j1, j2⟩ := j; have hcf := rcount25_fun x hlo
  have hml : ((CD x.bars x.runs).length : Int) = Dt x.runs := by rw [runs_good hlo]; exact mainsG_len _ _ (fun r hr => (hlo.2.2.1 r hr).2.2.1.1)
  have hmf : ∀ j : Int, 0 ≤ j → j < Dt x.runs → Fun Tryz.prog 77 [.agg x.c, iL j] (AK (.tup [.agg (DA (CD x.bars x.runs) j).leg.c, bL (DA (CD x.bars x.runs) j).has]) []) := fun j h0 h1 => by
    obtain ⟨k, rfl⟩ := Int.eq_ofNat_of_zero_le h0; exact rMain_fun x k hlo h1
  have hjp : jointP (CD x.bars x.runs) (j1, j2) ↔ (0 ≤ j1 ∧ j1 < (CD x.bars x.runs).length ∧ 0 ≤ j2 ∧ j2 < (CD x.bars x.runs).length) ∧ (DA (CD x.bars x.runs) j1).has = true ∧ (DA (CD x.bars x.runs) j2).has = true ∧ (DA (CD x.bars x.runs) j1).leg.lx < (DA (CD x.bars x.runs) j2).leg.lx ∧ (DA (CD x.bars x.runs) j1).leg.hx < (DA (CD x.bars x.runs) j2).leg.hx ∧ (DA (CD x.bars x.runs) j2).leg.lx ≤ (DA (CD x.bars x.runs) j1).leg.hx := Iff.rfl; rw [hml] at hjp; have hc2 := hlo.2.2.2; have h1f := hmf j1; have h2f := hmf j2; clear hmf; obtain ⟨J, hJ⟩ : ∃ J, J = CD x.bars x.runs := ⟨_, rfl⟩; rw [← hJ] at h1f h2f hjp ⊢; obtain ⟨A1, hA1⟩ : ∃ A, A = DA J j1 := ⟨_, rfl⟩; obtain ⟨A2, hA2⟩ : ∃ A, A = DA J j2 := ⟨_, rfl⟩; rw [← hA1] at h1f hjp; rw [← hA2] at h2f hjp; clear hA1 hA2; obtain ⟨⟨a1, a2, a3, a4, a5, a6⟩, a7, a8, a9⟩ := A1; obtain ⟨⟨b1, b2, b3, b4, b5, b6⟩, b7, b8, b9⟩ := A2
  dsimp only at hjp h1f h2f
  refine Fun.of (nt := 77) (rs := [.tmp 4]) Tryz.func40 rfl rfl rfl rfl rfl (Ac fun _ z=>A4 (Be _ true) (A4 (Be _ true) (Aa Ae (Ad z (Ac fun _ z=>Aa (Av _ Dh Dl) (A3 (hF := hcf) (h := Aa Ae (Ad z (An (Ac fun _ z=>Aa (Ap 0 FA Ah) (Aa (At Al) (Aa Ay (AP Ab (fun c1 => ?_) (fun c1 => ?_))))))))))))))
  · refine Ai (Ai (Aa A5 (Aa Ab (Ai (A9 (Aa A5 (Aa Ab (Ai (Ai (Aa A5 (Ad z (B3 (Ac fun _ z=>Aa Ae (Ad z (Af (Aq ?_)))))))))))))))); exact bF (fun h => by have h1 := (hjp.1 h).1; omega)
  refine Aa (Ap 0 FA Ah) (Aa (At Al) (Aa Ab (Aa C7 (Aa Au (AP Ab (fun c2 => ?_) (fun c2 => ?_))))))
  · refine Ai (A9 (Aa A5 (Aa Ab (Ai (Ai (Aa A5 (Ad z (B3 (Ac fun _ z=>Aa Ae (Ad z (Af (Aq ?_)))))))))))); exact bF (fun h => by have h1 := (hjp.1 h).1; omega)
  refine Aa (Ap 1 FC Ah) (Aa (At Al) (Aa Ay (Aa Au (AP Ab (fun c3 => ?_) (fun c3 => ?_)))))
  · refine Ai (Ai (Aa A5 (Ad z (B3 (Ac fun _ z=>Aa Ae (Ad z (Af (Aq ?_)))))))); exact bF (fun h => by have h1 := (hjp.1 h).1; omega)
  refine Aa (Ap 1 FC Ah) (Aa (At Al) (Aa Ab (Aa C7 (Aa Au (Ad z (Ax (fun c4 => ?_) (fun c4 => ?_)))))))
  · refine Ac fun _ z=>Aa Ae (Ad z (Af (Aq ?_))); exact bF (fun h => by have h1 := (hjp.1 h).1; omega)
  refine As (Ac fun _ z=>Aa (Av _ Dh Dl) (Aa (Ap 0 FA Ah) (Aa (At Al) (A3 (hF := h1f (by omega) (by omega)) (h := Aa Ab (Aa BA (Aa BA (A4 (Bd BS) (AC _ true [_, _] CK AB (h := Aa Ae (Ad z (Ac fun _ z=>Aa (Av _ Dh Dl) (Aa (Ap 1 FC Ah) (Aa (At Al) (A3 (hF := h2f (by omega) (by omega)) (h := Aa Ab (Aa BA (Aa BA (A4 (Bd BS) (AC _ true [_, _, _] CK AB (h := Aa Ae (Ad z (Ac fun _ z=>Aa Ab (S.bb Ab (fun c5 => ?_) (fun c5 => ?_)))))))))))))))))))))))))
  · refine Aa Ab (Aa A5 (S.bb Ab (fun c6 => ?_) (fun c6 => ?_)))
    · refine Aa (Ap 0 AR Am) (Aa (Ap 0 AU Ah) (Aa (At Al) (Aa (Ap 0 AR Am) (Aa (Ap 0 AU Ah) (Aa (At Al) (Aa Ay (Aa A5 (AP Ab (fun c7 => ?_) (fun c7 => ?_)))))))))
      · refine Aa (Ap 3 AQ Am) (Aa (Ap 3 AU Ah) (Aa (At Al) (Aa (Ap 3 AQ Am) (Aa (Ap 3 AU Ah) (Aa (At Al) (Aa Ay (Aa A5 (AP Ab (fun c8 => ?_) (fun c8 => ?_)))))))))
        · refine Aa (Ap 3 AQ Am) (Aa (Ap 3 AU Ah) (Aa (At Al) (Aa (Ap 0 AR Am) (Aa (Ap 0 AU Ah) (Aa (At Al) (Aa C7 (Aa A5 (Aa Ae (Ad z (Af (Aq ?_))))))))))); exact dI ⟨fun h => hjp.2 ⟨by omega, ‹_›, ‹_›, by omega, by omega, by omega⟩, fun h => by have h1 := (hjp.1 h).2.2.2; omega⟩
        refine Ai (Ai (Ai (A9 (Aa Au (Aa Ae (Ad z (Af (Aq ?_)))))))); exact bF (fun h => by have h1 := (hjp.1 h).2.1; simp_all)
      refine Ai (Ai (Ai (A9 (Aa Au (Aa Ab (Ai (Ai (Ai (A9 (Aa Au (Aa Ae (Ad z (Af (Aq ?_)))))))))))))); exact bF (fun h => by have h1 := (hjp.1 h).2.1; simp_all)
    refine Ai (Ai (Ai (A9 (Aa Au (Aa Ab (Ai (Ai (Ai (A9 (Aa Au (Aa Ab (Ai (Ai (Ai (A9 (Aa Au (Aa Ae (Ad z (Af (Aq ?_)))))))))))))))))))); exact bF (fun h => by have h1 := (hjp.1 h).2.1; simp_all)
  refine A9 (Aa Au (Aa Ab (Ai (Ai (Ai (A9 (Aa Au (Aa Ab (Ai (Ai (Ai (A9 (Aa Au (Aa Ab (Ai (Ai (Ai (A9 (Aa Au (Aa Ae (Ad z (Af (Aq ?_))))))))))))))))))))))); exact bF (fun h => by have h1 := (hjp.1 h).2.1; simp_all)
theorem pre_at {T : Type} {pre suf l : List T} (hp : pre ++ suf = l) {k : Nat} (hk : k < pre.length) : ∃ b, l[k]? = some b ∧ pre[k]? = some b := by
  refine ⟨pre[k], ?_, List.getElem?_eq_getElem hk⟩; rw [← hp, List.getElem?_append_left hk]; exact List.getElem?_eq_getElem hk
def farK (s : Int × Int) (l : List (Int × Int)) (k : Nat) : Prop := ∀ j b, j < k → l[j]? = some b → b.1 ≠ s.1 ∧ b.2 ≠ s.2
theorem far_s {s b : Int × Int} {l : List (Int × Int)} {k : Nat} (h : farK s l k) (hb : l[k]? = some b) (h1 : b.1 ≠ s.1) (h2 : b.2 ≠ s.2) : farK s l (k + 1) := fun j c hj hc => by
  by_cases e : j = k
  · subst e; rw [hb] at hc
    cases hc
    exact ⟨h1, h2⟩
  · exact h j c (by omega) hc
theorem far_no {s : Int × Int} {l : List (Int × Int)} (h : farK s l l.length) : (¬ ∃ b ∈ l, b.1 = s.1) ∧ ¬ ∃ b ∈ l, b.2 = s.2 := by
  constructor
  · rintro ⟨b, hb, e⟩; obtain ⟨j, hj, rfl⟩ := List.getElem_of_mem hb; exact (h j _ hj (List.getElem?_eq_getElem hj)).1 e
  rintro ⟨b, hb, e⟩; obtain ⟨j, hj, rfl⟩ := List.getElem_of_mem hb; exact (h j _ hj (List.getElem?_eq_getElem hj)).2 e
theorem rdetValid_fun (x : Det) (hw : x.w) : Fun Tryz.prog 13 [.agg x.c] (AK (bL (decide (Do x))) []) := by
  obtain ⟨hw1, ⟨hw2, hw2b⟩, ⟨hw3, hw3b⟩, hw4, hw5, hw6⟩ := id hw; have hdo : Do x ↔ (memOK x.mem ∧ Dq x.bars x.runs ∧ okDems x.dems ∧ G6 x.rule ∧ x.laps.length ≤ 1000) ∧ lapsOK (CD x.bars x.runs) x.laps := Iff.rfl; have hf : ¬ ((memOK x.mem ∧ Dq x.bars x.runs ∧ okDems x.dems ∧ G6 x.rule ∧ x.laps.length ≤ 1000) ∧ lapsOK (CD x.bars x.runs) x.laps) → bL false = bL (decide (Do x)) := fun h => bF (fun h2 => h (hdo.1 h2)); refine Fun.of (nt := 83) (rs := [.tmp 2]) Tryz.func13 rfl rfl rfl rfl rfl (Ac fun _ z=>A4 (Be _ true) (Aa Ae (Ad z (An (Ac fun _ z=>Aa (Ap 0 am_fi34_0 am_cl26) (Aa (Av _ am_ag26 am_cl26) (A3 (hF := rmember_fun x.mem hw1) (h := Aa BB (DV Ab (fun c1 => ?_) (fun c1 => ?_))))))))))
  · refine Ai (Ai (Ai (Aa A5 (Aa Ab (Ai (Ai (Aa A5 (Aa Ab (Ai (Ai (Aa A5 (Aa Ab (Ai (Ai (Aa A5 (Ad z (B3 (Ac fun _ z=>Aa Ae (Ad z (Af (Aq ?_))))))))))))))))))))); exact hf (fun h => absurd h.1.1 ‹_›)
  refine Aa (Ap 6 Eh Fu) (Aa (At Fx) (Aa (Ap 7 E9 FG) (Aa (At FD) (A3 (hF := rlaidValid_fun x.bars x.runs hw2 hw2b hw3) (h := Aa BB (Aa Au (DV Ab (fun c2 => ?_) (fun c2 => ?_))))))))
  · refine Ai (Ai (Aa A5 (Aa Ab (Ai (Ai (Aa A5 (Aa Ab (Ai (Ai (Aa A5 (Ad z (B3 (Ac fun _ z=>Aa Ae (Ad z (Af (Aq ?_)))))))))))))))); exact hf (fun h => absurd h.1.2.1 ‹_›)
  refine Aa (Ap 9 am_fi34_4 am_cl30) (Aa (At am_ag30) (A3 (hF := rdemValid_fun x.dems hw5 hw6) (h := Aa BB (Aa Au (DV Ab (fun c3 => ?_) (fun c3 => ?_))))))
  · refine Ai (Ai (Aa A5 (Aa Ab (Ai (Ai (Aa A5 (Ad z (B3 (Ac fun _ z=>Aa Ae (Ad z (Af (Aq ?_)))))))))))); exact hf (fun h => absurd h.1.2.2.1 ‹_›)
  refine Aa (Ap 10 am_fi34_5 am_cl32) (Aa (Av _ am_ag32 am_cl32) (A3 (hF := rruleValid_fun x.rule) (h := Aa BB (Aa Au (DV Ab (fun c4 => ?_) (fun c4 => ?_))))))
  · refine Ai (Ai (Aa A5 (Ad z (B3 (Ac fun _ z=>Aa Ae (Ad z (Af (Aq ?_)))))))); exact hf (fun h => absurd h.1.2.2.2.1 ‹_›)
  refine Aa (Ap 8 EA FF) (Aa (At FI) (Aa (A7 EZ) (Aa Bh (Aa Au (Ad z (Ax (fun c5 => ?_) (fun c5 => ?_)))))))
  · refine Ac fun _ z=>Aa Ae (Ad z (Af (Aq ?_))); exact hf (fun h => by have h1 := h.1.2.2.2.2; omega)
  refine As (An ?_); have hba : memOK x.mem ∧ Dq x.bars x.runs ∧ okDems x.dems ∧ G6 x.rule ∧ x.laps.length ≤ 1000 := ⟨‹_›, ‹_›, ‹_›, ‹_›, by omega⟩; refine Ac fun _ z=>Aa Ae (Ad z (Ar (AI (ι := {q : List (Int × Int) × List (Int × Int) // q.1 ++ q.2 = x.laps ∧ lapsOK (CD x.bars x.runs) q.1}) [0] [1] (fun ⟨(pre, suf), _⟩ => [(3, iL (pre.length : Int))]) (fun ⟨(pre, suf), _⟩ => [(0, ⟨false, 34, 19, [[sL (x.mem.name), .sh 6 ((x.mem.bs).map Bx.c), .sh 6 ((x.mem.hs).map Bx.c), iL (x.mem.cov), iL (x.mem.agg), iL (x.mem.pok), .sh 5 ((x.bars).map Bar.c), .sh 10 ((x.runs).map Rn.c), .sh 2 ((x.laps).map CB), .sh 8 ((x.dems).map Dem.c), iL (x.rule.r1), iL (x.rule.r2), iL (x.rule.r3), iL (x.rule.r4), iL (x.rule.r5), iL (x.rule.r6), iL (x.rule.r7), iL (x.rule.r8), iL (x.rule.r9)]], true⟩)]) (fun ⟨(pre, suf), _⟩ => suf.length) ⟨([], x.laps), rfl, ⟨fun j hj => by simp at hj, by simp⟩⟩ (.c .n) (Aj) (Ag) ?_))); rintro ⟨⟨pre, suf⟩, hp, hinv⟩ R0 hR0; dsimp only [cA, nA, lC, lN]
  simp only at hp hinv
  have hpl := Cd hp
  rcases suf with _ | ⟨s, suf⟩
  · rw [List.append_nil] at hp; simp only [lN] at hpl; refine An (Ac fun _ z=>Aa Ab (Aa (Ap 8 EA FF) (Aa (At FI) (Aa (A7 EZ) (Aa Ay (Ad z (Ax (fun c6 => ?_) (fun c6 => ?_))))))))
    · omega
    refine AO (hR0 _ _ (Ac fun _ z=>Aa Ae (Ad z (Af (Aq ?_))))); exact bT (hdo.2 ⟨hba, by rw [← hp]; exact hinv⟩)
  simp only [lC] at hpl; have hidx := Ch hp; obtain ⟨s1, s2⟩ := s; refine An (Ac fun _ z=>Aa Ab (Aa (Ap 8 EA FF) (Aa (At FI) (Aa (A7 EZ) (Aa Ay (Ad z (Ax (fun c7 => ?_) (fun c7 => ?_))))))))
  · refine As (An (Ar (An (Ck (C8 [(0, 0), (0, 0), (2, 2), (0, 0), (4, 14), (5, 30), (6, 63), (7, 127)]) 8 fun _ z=>Ak (Av _ Dh Dl) (Ak (Ap 8 EA FF) (Ak (At FI) (Ak Ab (Ak (AL EZ G5 (hl := (by exact AY hidx (by omega)))) (Ak (BF _ am_ag94 G5) (B1 (hF := rjoint_fun x (s1, s2) hba.2.1) (h := Ak BB (Bz [_] (h := Ad z (Cb (fun c8 => ?_) (fun c8 => ?_)))))))))))))))
    · refine Ac fun _ z=>Aa Ae (Ad z (Af (hR0 _ _ (Aq ?_)))); exact hf (fun h => absurd (laps_cut hp h.2).1 ‹_›)
    refine As (Ac fun _ z=>Aa Ae (Ad z (Ar (AI (ι := {k : Nat // k ≤ pre.length ∧ farK (s1, s2) pre k}) [0] [1, 3] (fun ⟨k, _⟩ => [(4, iL (k : Int))]) (fun ⟨k, _⟩ => [(0, ⟨false, 34, 19, [[sL (x.mem.name), .sh 6 ((x.mem.bs).map Bx.c), .sh 6 ((x.mem.hs).map Bx.c), iL (x.mem.cov), iL (x.mem.agg), iL (x.mem.pok), .sh 5 ((x.bars).map Bar.c), .sh 10 ((x.runs).map Rn.c), .sh 2 ((x.laps).map CB), .sh 8 ((x.dems).map Dem.c), iL (x.rule.r1), iL (x.rule.r2), iL (x.rule.r3), iL (x.rule.r4), iL (x.rule.r5), iL (x.rule.r6), iL (x.rule.r7), iL (x.rule.r8), iL (x.rule.r9)]], true⟩)]) (fun ⟨k, _⟩ => pre.length - k) ⟨0, by omega, fun j b hj => absurd hj (by omega)⟩ (.c (.c .n)) (Aj) (Ag) ?_)))); rintro ⟨k, hk, hfk⟩ R2 hR2; dsimp only [cA, nA, lC, lN]
    by_cases hkp : k < pre.length
    rotate_left
    · obtain rfl : k = pre.length := by omega
      have hfar := hfk; refine An (Ac fun _ z=>Aa Ab (Aa Ab (Aa Ay (Ad z (Ax (fun c9 => ?_) (fun c9 => ?_))))))
      · omega
      refine AO (hR2 _ _ (Ao fun _ z=>Aa Ab (Aa A6 (Aa Ae (Ad z (hR0 _ _ (A8 [0] [1] ⟨(pre ++ [(s1, s2)], suf), B2 hp, ?_⟩ BX (Aj) (Ag (he := (by congr 2; simp))) (.c .n)))))))); exact laps_snoc hinv ‹jointP _ _› (far_no hfar).1 (far_no hfar).2
    obtain ⟨⟨b1, b2⟩, hb, hb2⟩ := pre_at hp hkp; refine An (Ac fun _ z=>Aa Ab (Aa Ab (Aa Ay (Ad z (Ax (fun c10 => ?_) (fun c10 => ?_))))))
    · refine As (An (Ar (Ck (C8 [(0, 0), (1, 1), (0, 0), (3, 7), (4, 15), (5, 31), (0, 0), (7, 64), (0, 0), (9, 448), (10, 960), (11, 1984), (12, 4095), (13, 8191), (14, 16383), (15, 32767), (14, 16383), (17, 131071), (18, 262143), (19, 524287), (14, 16383), (21, 1064959), (14, 16383), (23, 7356415), (24, 15745023), (25, 32522239), (26, 67108863), (27, 134217727)]) 28 fun _ z=>Ak (Ap 8 EA FF) (Ak (At FI) (Ak Ab (Ak (AL EZ G5 (hl := (by exact AY hb (by omega)))) (Ak (BP 0 FA Ah) (Ak (Bc Al) (Ak (Ap 8 EA FF) (Ak (At FI) (Ak Ab (Ak (AL EZ G5 (hl := (by exact AY hidx (by omega)))) (Ak (BP 0 FA Ah) (Ak (Bc Al) (Ak B6 (M.bd Ab (fun c11 => ?_) (fun c11 => ?_)))))))))))))))))
      · refine AE (AE (AE (AE (AE (AE (AE (AE (AE (AE (AE (AE (AE (Ak A5 (Bz [_] (h := Ad z (B3 (Ac fun _ z=>Aa Ae (Ad z (Af (hR2 _ _ (hR0 _ _ (Aq ?_)))))))))))))))))))))); exact hf (fun h => (laps_cut hp h.2).2.1 ⟨_, List.mem_of_getElem? hb2, by dsimp only; omega⟩)
      refine Ak (Ap 8 EA FF) (Ak (At FI) (Ak Ab (Ak (AL EZ G5 (hl := (by exact AY hb (by omega)))) (Ak (BP 1 FC Ah) (Ak (Bc Al) (Ak (Ap 8 EA FF) (Ak (At FI) (Ak Ab (Ak (AL EZ G5 (hl := (by exact AY hidx (by omega)))) (Ak (BP 1 FC Ah) (Ak (Bc Al) (Ak B6 (Ak Au (Bz [_] (h := Ad z (Ax (fun c12 => ?_) (fun c12 => ?_)))))))))))))))))
      · refine Ac fun _ z=>Aa Ae (Ad z (Af (hR2 _ _ (hR0 _ _ (Aq ?_))))); exact hf (fun h => (laps_cut hp h.2).2.2 ⟨_, List.mem_of_getElem? hb2, by dsimp only; omega⟩)
      refine As (Ao fun _ z=>Aa Ab (Aa A6 (Aa Ae (Ad z (hR2 _ _ (A8 [0] [1, 3] ⟨k + 1, by omega, far_s hfk hb2 (by dsimp only; omega) (by dsimp only; omega)⟩ ?_ (Aj) (Ag) (.c (.c .n)))))))); skip; all_goals (dsimp only; omega)
    omega
  omega
def laidX (bars : List Bar) (l : List Rn) (d : Int) : Int := l.foldl (fun a r => if d = 0 ∨ (Bg bars r.mark).size = d then a + r.n * Gw (Bg bars r.mark) else a) 0
theorem laidX_snoc (bars : List Bar) (l : List Rn) (s : Rn) (d : Int) : laidX bars (l ++ [s]) d = if d = 0 ∨ (Bg bars s.mark).size = d then laidX bars l d + s.n * Gw (Bg bars s.mark) else laidX bars l d := by simp [laidX]
theorem laidX_bd {bars : List Bar} (d : Int) : ∀ l : List Rn, runsOK bars l → 0 ≤ laidX bars l d ∧ laidX bars l d ≤ 10343154 * Dt l := by
  refine CY (fun _ => ⟨Int.le_refl _, Int.le_refl _⟩) ?_; intro l s ih h; obtain ⟨i1, i2⟩ := ih fun r hr => h r (by simp [hr]); obtain ⟨h1, h2⟩ := h s (by simp); obtain ⟨h3, h4, _, _⟩ := F6 h1; rw [laidX_snoc, cnt_snoc]; have h5 := Int.mul_nonneg h2 h3; have h6 := Int.mul_le_mul_of_nonneg_left h4 h2
  split <;> omega
theorem laidX_d {bars : List Bar} {d : Int} (hd : d ≠ 0) : ∀ l : List Rn, laidX bars l d = EJ bars l d := by
  refine CY rfl ?_; intro l s ih; rw [laidX_snoc, laidM_snoc, ih]
  by_cases h : (Bg bars s.mark).size = d
  · rw [if_pos (.inr h), if_pos h]
  rw [if_neg (fun g => g.elim hd h), if_neg h]
theorem laidX_0 {bars : List Bar} : ∀ l : List Rn, runsOK bars l → laidX bars l 0 = Ft bars l := by
  refine CY (fun _ => by simp [laidX, Ft, Em, EJ, BR, BU]) ?_; intro l s ih h; have h1 := ih fun r hr => h r (by simp [hr]); obtain ⟨h2, _⟩ := h s (by simp)
  obtain ⟨_, _, _, _, h5⟩ := at_step (f := EJ bars l) (g := EJ bars (l ++ [s])) h2.2.1 (v := s.n * Gw (Bg bars s.mark)) fun d => by
    rw [laidM_snoc]
  rw [laidX_snoc, if_pos (.inl rfl), h1]; exact h5.symm
theorem rLaidOf_fun (x : Det) (d : Int) (hlo : Dq x.bars x.runs) : Fun Tryz.prog 14 [.agg x.c, iL d] (AK (iL (laidX x.bars x.runs d)) []) := by
  have hrk := laid_runs hlo; have hl3 := hlo.2.2.1; have hc2 := hlo.2.2.2; have hb60 := hlo.1.1; have hr60 := hlo.2.1; refine Fun.of (nt := 48) (rs := [.tmp 4]) Tryz.func14 rfl rfl rfl rfl rfl (Ac fun _ w=>A4 (Be _ true) (Aa Ae (Ad w (Ac fun _ w=>Aa Ae (Ad w (An (Ac fun _ w=>Aa Ae (Ad w (Ar (AI (ι := {p : List (Rn) × List (Rn) // p.1 ++ p.2 = x.runs ∧ True}) [0] [1, 2] (fun ⟨(pre, suf), _⟩ => [(6, iL (pre.length : Int)), (5, iL (laidX x.bars pre d))]) (fun ⟨(pre, suf), _⟩ => [(0, ⟨false, 34, 19, [[sL (x.mem.name), .sh 6 ((x.mem.bs).map Bx.c), .sh 6 ((x.mem.hs).map Bx.c), iL (x.mem.cov), iL (x.mem.agg), iL (x.mem.pok), .sh 5 ((x.bars).map Bar.c), .sh 10 ((x.runs).map Rn.c), .sh 2 ((x.laps).map CB), .sh 8 ((x.dems).map Dem.c), iL (x.rule.r1), iL (x.rule.r2), iL (x.rule.r3), iL (x.rule.r4), iL (x.rule.r5), iL (x.rule.r6), iL (x.rule.r7), iL (x.rule.r8), iL (x.rule.r9)]], true⟩)]) (fun ⟨(pre, suf), _⟩ => suf.length) ⟨([], x.runs), rfl, trivial⟩ (.c (.c .n)) (Aj) (Ag (h := (Ag))) ?_)))))))))); rintro ⟨⟨pre, suf⟩, hp, hinv⟩ R0 hR0; dsimp only [cA, nA, lC, lN]
  simp only at hp hinv
  have hpl := Cd hp
  rcases suf with _ | ⟨s, suf⟩
  · rw [List.append_nil] at hp; simp only [lN] at hpl; refine An (Ac fun _ w=>Aa Ab (Aa (Ap 7 E9 FG) (Aa (At FD) (Aa (A7 Bo) (Aa Ay (Ad w (Ax (fun c1 => ?_) (fun c1 => ?_))))))))
    · omega
    refine AO (hR0 _ _ (Ac fun _ w=>Aa Ab (Aa Ae (Ad w (Af (Aq ?_)))))); rw [← hp]
  simp only [lC] at hpl; have hidx := Ch hp; have hms := GA hp; have hrp := hl3 s hms; have hmk := hrp.1; have hsn := hrp.2.2.1; have hlg := GK hmk; have hob := (hrk s hms).1; obtain ⟨hm3, hm4, _, _⟩ := F6 hob; have hct := cnt_cut hp (fun z hz => (hl3 z hz).2.2.1.1); obtain ⟨hx1, hx2⟩ := laidX_bd (bars := x.bars) d pre (fun r hr => hrk r (by rw [← hp]; simp [hr])); have hsx := laidX_snoc x.bars pre s d; obtain ⟨b0, hb0⟩ : ∃ b, b = Bg x.bars s.mark := ⟨_, rfl⟩; rw [← hb0] at hlg hob hm3 hm4 hsx; refine An (Ac fun _ w=>Aa Ab (Aa (Ap 7 E9 FG) (Aa (At FD) (Aa (A7 Bo) (Aa Ay (Ad w (Ax (fun c2 => ?_) (fun c2 => ?_))))))))
  · refine As (An (Ar (Ck (C8 [(0, 0), (1, 1), (0, 0), (3, 4), (0, 0), (5, 16), (0, 0), (7, 112), (8, 240), (9, 496), (10, 1020), (11, 2047), (12, 4095), (0, 0), (14, 16383)]) 14 fun _ w=>Ak (Ap 6 Eh Fu) (Ak (At Fx) (Ak (Ap 6 Eh Fu) (Ak (At Fx) (Ak (Ap 7 E9 FG) (Ak (At FD) (Ak Ab (Ak (AL Bo B5 (hl := (by exact AY hidx (by omega)))) (Ak (BP 0 Fq Da) (Ak (Bc CL) (B1 (hF := rfind_fun x.bars s.mark (by omega)) (h := Ak (AL BO Bv (hl := (by exact AY hlg (by omega)))) (Ak (BF _ Cm Bv) (Gs [_] (Bd am_ze72) (h := Bz [_, _] (h := AC _ true [_] am_in72 Bv (h := Ad w (Ac fun _ w=>Aa Ab (Aa B6 (AP Ab (fun c3 => ?_) (fun c3 => ?_)))))))))))))))))))))))
    · refine Ai (Ai (Aa A5 (Ad w (B3 ?_)))); have hm7 := mul_bd (k := s.n) (a := Gw b0) (K := 1000) (A := 10343154) (by omega) hsn.2 hm3 hm4; obtain ⟨hm7a, hm7b⟩ := hm7; refine CH (C8 [(0, 0), (0, 0), (2, 2), (0, 0), (4, 14), (5, 30), (6, 62), (0, 0), (8, 128), (9, 510), (10, 1023), (11, 2047)]) 11 fun _ w=>Ak Ab (Ak (Ap 7 E9 FG) (Ak (At FD) (Ak Ab (Ak (AL Bo B5 (hl := (by exact AY hidx (by omega)))) (Ak (BP 9 B4 Ah) (Ak (Bc Al) (Ak (Av _ Cm Bv) (B1 (hF := one_fun b0 hob) (h := Ak BM (Ak A6 (Bz [_, _] (h := Aa Ae (Ad w ?_))))))))))))); show Ev _ _ _ _; refine Ao fun _ w=>Aa Ab (Aa A6 (Aa Ae (Ad w (hR0 _ _ (A8 [0] [1, 2] ⟨(pre ++ [s], suf), B2 hp, trivial⟩ BX (Aj) (Ag (he := (by congr 2; simp)) (h := (Ag (he := (by rw [hsx, if_pos (.inl ‹_›)]))))) (.c (.c .n))))))); skip
    refine Aa (Ap 1 DT Ah) (Aa (At Al) (Aa Ab (Aa B6 (Aa Au (Ad w (Ax (fun c4 => ?_) (fun c4 => ?_)))))))
    · have hm7 := mul_bd (k := s.n) (a := Gw b0) (K := 1000) (A := 10343154) (by omega) hsn.2 hm3 hm4; obtain ⟨hm7a, hm7b⟩ := hm7; refine CH (C8 [(0, 0), (0, 0), (2, 2), (0, 0), (4, 14), (5, 30), (6, 62), (0, 0), (8, 128), (9, 510), (10, 1023), (11, 2047)]) 11 fun _ w=>Ak Ab (Ak (Ap 7 E9 FG) (Ak (At FD) (Ak Ab (Ak (AL Bo B5 (hl := (by exact AY hidx (by omega)))) (Ak (BP 9 B4 Ah) (Ak (Bc Al) (Ak (Av _ Cm Bv) (B1 (hF := one_fun b0 hob) (h := Ak BM (Ak A6 (Bz [_, _] (h := Aa Ae (Ad w ?_))))))))))))); show Ev _ _ _ _; refine Ao fun _ w=>Aa Ab (Aa A6 (Aa Ae (Ad w (hR0 _ _ (A8 [0] [1, 2] ⟨(pre ++ [s], suf), B2 hp, trivial⟩ BX (Aj) (Ag (he := (by congr 2; simp)) (h := (Ag (he := (by rw [hsx, if_pos (.inr ‹_›)]))))) (.c (.c .n))))))); skip
    refine As (Ao fun _ w=>Aa Ab (Aa A6 (Aa Ae (Ad w (hR0 _ _ (A8 [0] [1, 2] ⟨(pre ++ [s], suf), B2 hp, trivial⟩ BX (Aj) (Ag (he := (by congr 2; simp)) (h := (Ag (he := (by rw [hsx, if_neg (fun g => g.elim ‹_› ‹_›)]))))) (.c (.c .n)))))))); skip
  omega
def qbP (bars : List Bar) (runs : List Rn) (l : List (Int × Int)) : List (Int × List UInt8) := qbL bars runs (l.map (·.1))
theorem qbP_snoc (bars : List Bar) (runs : List Rn) (l : List (Int × Int)) (s : Int × Int) : qbP bars runs (l ++ [s]) = qbP bars runs l ++ qbOne bars runs s.1 := by
  unfold qbP
  rw [List.map_append, List.map_cons, List.map_nil, FP]
theorem qbP_len (bars : List Bar) (runs : List Rn) (l : List (Int × Int)) : (qbP bars runs l).length ≤ l.length := by
  have := qbL_len bars runs (l.map (·.1)); rw [List.length_map] at this; exact this
theorem masses_mem {bars : List Bar} {s : Int × Int} (h : s ∈ E8 bars BR) : s.2 = DB bars s.1 ∧ (∃ b ∈ bars, decide (b.size = s.1) = true) ∧ s.1 ∈ BR := by
  unfold E8 at h
  obtain ⟨d, hd, rfl⟩ := List.mem_map.1 h; obtain ⟨h1, h2⟩ := List.mem_filter.1 hd; exact ⟨rfl, of_decide_eq_true h2, h1⟩
theorem qbP_all (bars : List Bar) (runs : List Rn) : qbP bars runs (E8 bars BR) = qbL bars runs BR := by
  have key : ∀ l : List Int, qbP bars runs (E8 bars l) = qbL bars runs l := by
    refine CY rfl ?_; intro l d ih; rw [EM, FP]
    by_cases h : ∃ b ∈ bars, decide (b.size = d) = true
    · rw [if_pos h, qbP_snoc, ih]
    rw [if_neg h, ih, qb_0 h, List.append_nil]
  exact key BR
theorem rBalance_fun (x : Det) (hlo : Dq x.bars x.runs) : Fun Tryz.prog 16 [.agg x.c] (AK (.sh 2 ((qbL x.bars x.runs BR).map findC)) []) := by
  have hmf := rmasses_fun x.bars hlo.1; have hml := massesP_len x.bars BR; have hs9 : BR.length = 9 := rfl; have hmm := fun s h => masses_mem (bars := x.bars) (s := s) h; rw [← qbP_all]; obtain ⟨L, hL⟩ : ∃ L, L = E8 x.bars BR := ⟨_, rfl⟩; rw [← hL] at hmf hml hmm ⊢; clear hL
  refine Fun.of (nt := 56) (rs := [.tmp 2]) Tryz.func16 rfl rfl rfl rfl rfl (Ac fun _ w=>A4 (Be _ true) (Aa Ae (Ad w (Ac fun _ w=>Aa (Ap 6 Eh Fu) (Aa (At Fx) (A3 (hF := hmf) (h := Aa Ae (Ad w (Ac fun _ w=>Aa Ae (Ad w (An (Ac fun _ w=>Aa Ae (Ad w (Ar (AT (Wk.nown findC 4 54 2) (AI (ι := {p : List (Int × Int) × List (Int × Int) // p.1 ++ p.2 = L ∧ True}) [0, 1] [1, 3] (fun ⟨(pre, suf), _⟩ => [(5, iL (pre.length : Int)), (4, .als 1 0 (qbP x.bars x.runs pre).length)]) (fun ⟨(pre, suf), _⟩ => [(0, ⟨false, 34, 19, [[sL (x.mem.name), .sh 6 ((x.mem.bs).map Bx.c), .sh 6 ((x.mem.hs).map Bx.c), iL (x.mem.cov), iL (x.mem.agg), iL (x.mem.pok), .sh 5 ((x.bars).map Bar.c), .sh 10 ((x.runs).map Rn.c), .sh 2 ((x.laps).map CB), .sh 8 ((x.dems).map Dem.c), iL (x.rule.r1), iL (x.rule.r2), iL (x.rule.r3), iL (x.rule.r4), iL (x.rule.r5), iL (x.rule.r6), iL (x.rule.r7), iL (x.rule.r8), iL (x.rule.r9)]], true⟩), (1, ⟨true, 54, 2, (qbP x.bars x.runs pre).map findC, true⟩)]) (fun ⟨(pre, suf), _⟩ => suf.length) ⟨([], L), rfl, trivial⟩ (.c (.c .n)) (Aj (h := (Aj))) (Ag (h := (Ag))) ?_)))))))))))))))); rintro ⟨⟨pre, suf⟩, hp, hinv⟩ R0 hR0; dsimp only [cA, nA, lC, lN]
  simp only at hp hinv
  have hpl := Cd hp
  rcases suf with _ | ⟨s, suf⟩
  · rw [List.append_nil] at hp; simp only [lN] at hpl; refine An (Ac fun _ w=>Aa Ab (Aa Ab (Aa (A7 CG) (Aa Ay (Ad w (Ax (fun c1 => ?_) (fun c1 => ?_)))))))
    · omega
    refine AO (hR0 _ _ (Ac fun _ w=>Aa Ab (Aa Ae (Ad w (AT (Wk.frz 2 [_]) (Af (Aq ?_))))))); rw [← hp]
  simp only [lC] at hpl; have hidx := Ch hp; obtain ⟨hs1, hs2, hs3⟩ := hmm s (by rw [← hp]; simp); obtain ⟨sd, sv⟩ := s
  dsimp only at hs1 hs2 hs3
  obtain ⟨hz1, hz2⟩ := sizes_in hs3; have hlf := rLaidOf_fun x sd hlo; rw [laidX_d (by omega)] at hlf; have hql := qbP_len x.bars x.runs pre; have hil := itoa_len (N := sd) (by omega) (by omega); subst hs1; refine An (Ac fun _ w=>Aa Ab (Aa Ab (Aa (A7 CG) (Aa Ay (Ad w (Ax (fun c2 => ?_) (fun c2 => ?_)))))))
  · refine As (An (Ar (Ac fun _ w=>Aa Ab (Aa Ab (Aa (AL CG Dw (hl := (by exact AY hidx (by omega)))) (Aa (BP 0 GD Ah) (Aa (Bc Al) (A3 (hF := format_fun sd (by omega) (by omega)) (h := Aa q.sadd (Aa Ae (Ad w (Ck (C8 [(0, 0), (0, 0), (0, 0), (3, 6), (4, 14), (5, 30), (6, 63), (7, 127)]) 7 fun _ w=>Ak (Av _ Dh Dl) (Ak Ab (Ak Ab (Ak (AL CG Dw (hl := (by exact AY hidx (by omega)))) (Ak (BP 0 GD Ah) (Ak (Bc Al) (B1 (hF := hlf) (h := Bz [_, _] (h := Aa Ae (Ad w (An (Ac fun _ w=>Aa Ab (Aa Ab (Aa Ab (Aa (AL CG Dw (hl := (by exact AY hidx (by omega)))) (Aa (BP 1 am_fi62_1 Ah) (Aa (Bc Al) (Aa Ay (Ad w (Ax (fun c3 => ?_) (fun c3 => ?_))))))))))))))))))))))))))))))))
    · refine Ao fun _ w=>Aa Ab (Aa Ab (Aa (Bj _ FY am_pl54) (A4 (C3 [[_, _]] true Fw FY FZ) (DJ [_, _] Fw FY FZ am_by54 (hh := Cu) (hr := (CS [(⟨_, _⟩ : Int × List UInt8)])) (h := Aa Ae (Ad w ?_)))))); show Ev _ _ _ _; refine Ac fun _ w=>Aa Ab (Aa Ab (Aa Ab (Aa (AL CG Dw (hl := (by exact AY hidx (by omega)))) (Aa (BP 1 am_fi62_1 Ah) (Aa (Bc Al) (Aa Bh (Ad w (Ax (fun c4 => ?_) (fun c4 => ?_)))))))))
      · omega
      refine As (Ao fun _ w=>Aa Ab (Aa A6 (Aa Ae (Ad w (hR0 _ _ (A8 [0, 31] [1, 3] ⟨(pre ++ [(sd, DB x.bars sd)], suf), B2 hp, trivial⟩ BX (Aj (h := (Aj (he := (by rw [qbP_snoc, qb_1 hs2 ‹_›]))))) (Ag (he := (by congr 2; simp)) (h := (Ag (he := (by refine congrArg (AV.als _ 0) ?_; rw [qbP_snoc, qb_1 hs2 ‹_›]))))) (.c (.c .n)))))))); skip
    refine As (Ac fun _ w=>Aa Ab (Aa Ab (Aa Ab (Aa (AL CG Dw (hl := (by exact AY hidx (by omega)))) (Aa (BP 1 am_fi62_1 Ah) (Aa (Bc Al) (Aa Bh (Ad w (Ax (fun c5 => ?_) (fun c5 => ?_))))))))))
    · refine Ao fun _ w=>Aa Ab (Aa Ab (Aa (Bj _ FY am_pl54) (A4 (C3 [[_, _]] true Fw FY FZ) (DJ [_, _] Fw FY FZ am_by54 (hh := Cu) (hr := (CS [(⟨_, _⟩ : Int × List UInt8)])) (h := Aa Ae (Ad w ?_)))))); show Ev _ _ _ _; refine Ao fun _ w=>Aa Ab (Aa A6 (Aa Ae (Ad w (hR0 _ _ (A8 [0, 31] [1, 3] ⟨(pre ++ [(sd, DB x.bars sd)], suf), B2 hp, trivial⟩ BX (Aj (h := (Aj (he := (by rw [qbP_snoc, qb_2 hs2 ‹_› ‹_›]))))) (Ag (he := (by congr 2; simp)) (h := (Ag (he := (by refine congrArg (AV.als _ 0) ?_; rw [qbP_snoc, qb_2 hs2 ‹_› ‹_›]))))) (.c (.c .n))))))); skip
    refine As (Ao fun _ w=>Aa Ab (Aa A6 (Aa Ae (Ad w (hR0 _ _ (A8 [0, 1] [1, 3] ⟨(pre ++ [(sd, DB x.bars sd)], suf), B2 hp, trivial⟩ BX (Aj (h := (Aj (he := (by rw [qbP_snoc, qb_3 hs2 ‹_› ‹_›, List.append_nil]))))) (Ag (he := (by congr 2; simp)) (h := (Ag (he := (by refine congrArg (AV.als _ 0) ?_; rw [qbP_snoc, qb_3 hs2 ‹_› ‹_›, List.append_nil]))))) (.c (.c .n)))))))); skip
  omega
def Fm (h b : Bx) : Prop := b.lx < h.hx ∧ b.hx > h.lx ∧ b.ly < h.hy ∧ b.hy > h.ly ∧ b.lz < h.hz ∧ b.hz > h.lz
instance (h b) : Decidable (Fm h b) := by unfold Fm; infer_instance
def contA (a b : Bx) (k : Nat) : Prop := ¬ (loB b k < loB a k ∨ hiB b k > hiB a k)
def EU (a b : Bx) : Prop := (a.lx ≤ b.lx ∧ b.hx ≤ a.hx) ∧ (a.ly ≤ b.ly ∧ b.hy ≤ a.hy) ∧ a.lz ≤ b.lz ∧ b.hz ≤ a.hz
instance (a b) : Decidable (EU a b) := by unfold EU; infer_instance
theorem contP_ax (a b : Bx) : EU a b ↔ ∀ k, k < 3 → contA a b k := by
  have h0 : contA a b 0 ↔ a.lx ≤ b.lx ∧ b.hx ≤ a.hx := by show ¬ (b.lx < a.lx ∨ b.hx > a.hx) ↔ _; omega
  have h1 : contA a b 1 ↔ a.ly ≤ b.ly ∧ b.hy ≤ a.hy := by show ¬ (b.ly < a.ly ∨ b.hy > a.hy) ↔ _; omega
  have h2 : contA a b 2 ↔ a.lz ≤ b.lz ∧ b.hz ≤ a.hz := by show ¬ (b.lz < a.lz ∨ b.hz > a.hz) ↔ _; omega
  constructor
  · rintro ⟨g0, g1, g2⟩ k hk
    match k, hk with
    | 0, _ => exact h0.2 g0
    | 1, _ => exact h1.2 g1
    | 2, _ => exact h2.2 g2
  intro g; exact ⟨h0.1 (g 0 (by decide)), h1.1 (g 1 (by decide)), h2.1 (g 2 (by decide))⟩
theorem cont_snoc {a b : Bx} {k : Nat} (h : ∀ j, j < k → contA a b j) (h1 : contA a b k) : ∀ j, j < k + 1 → contA a b j := fun j hj => by
  by_cases e : j = k
  · subst e; exact h1
  · exact h j (by omega)
def bumpB (a b : Bx) : Bx := ⟨min a.lx b.lx, min a.ly b.ly, min a.lz b.lz, max a.hx b.hx, max a.hy b.hy, max a.hz b.hz⟩
def CO (b0 : Bx) (l : List Bx) : Bx := l.foldl bumpB b0
theorem hullG_snoc (b0 : Bx) (l : List Bx) (s : Bx) : CO b0 (l ++ [s]) = bumpB (CO b0 l) s := by simp [CO]
def Cc (l : List Bx) : Bx := CO ((l[0]?).getD zeroB) l
theorem opens_fun (h b : Bx) : Fun Tryz.prog 114 [.agg h.c, .agg b.c] (AK (bL (decide (Fm h b))) []) := by
  obtain ⟨h1, h2, h3, h4, h5, h6⟩ := h; obtain ⟨b1, b2, b3, b4, b5, b6⟩ := b; have he : Fm ⟨h1, h2, h3, h4, h5, h6⟩ ⟨b1, b2, b3, b4, b5, b6⟩ ↔ b1 < h4 ∧ b4 > h1 ∧ b2 < h5 ∧ b5 > h2 ∧ b3 < h6 ∧ b6 > h3 := Iff.rfl; refine Fun.of (nt := 57) (rs := [.tmp 4]) Tryz.func114 rfl rfl rfl rfl rfl (Ac fun _ z=>A4 (Be _ true) (A4 (Be _ true) (Aa Ae (Ad z (Ac fun _ z=>Aa (Ap 0 AR Am) (Aa (Ap 0 AU Ah) (Aa (At Al) (Aa (Ap 3 AQ Am) (Aa (Ap 3 AU Ah) (Aa (At Al) (Aa Ay (AP Ab (fun c1 => ?_) (fun c1 => ?_)))))))))))))
  · refine Aa (Ap 3 AQ Am) (Aa (Ap 3 AU Ah) (Aa (At Al) (Aa (Ap 0 AR Am) (Aa (Ap 0 AU Ah) (Aa (At Al) (Aa Bh (Aa A5 (AP Ab (fun c2 => ?_) (fun c2 => ?_)))))))))
    · refine Aa (Ap 0 AR Am) (Aa (Ap 1 Bi Ah) (Aa (At Al) (Aa (Ap 3 AQ Am) (Aa (Ap 4 Bi Ah) (Aa (At Al) (Aa Ay (Aa A5 (AP Ab (fun c3 => ?_) (fun c3 => ?_)))))))))
      · refine Aa (Ap 3 AQ Am) (Aa (Ap 4 Bi Ah) (Aa (At Al) (Aa (Ap 0 AR Am) (Aa (Ap 1 Bi Ah) (Aa (At Al) (Aa Bh (Aa A5 (AP Ab (fun c4 => ?_) (fun c4 => ?_)))))))))
        · refine Aa (Ap 0 AR Am) (Aa (Ap 2 Bk Ah) (Aa (At Al) (Aa (Ap 3 AQ Am) (Aa (Ap 5 Bk Ah) (Aa (At Al) (Aa Ay (Aa A5 (AP Ab (fun c5 => ?_) (fun c5 => ?_)))))))))
          · refine Aa (Ap 3 AQ Am) (Aa (Ap 5 Bk Ah) (Aa (At Al) (Aa (Ap 0 AR Am) (Aa (Ap 2 Bk Ah) (Aa (At Al) (Aa Bh (Aa A5 (Aa Ae (Ad z (Af (Aq ?_))))))))))); exact dI ⟨fun h => he.2 (by omega), fun h => by have h1 := he.1 h; omega⟩
          refine Ai (Ai (Ai (A9 (Aa Au (Aa Ae (Ad z (Af (Aq ?_)))))))); exact bF (fun h => by have h1 := he.1 h; omega)
        refine Ai (Ai (Ai (A9 (Aa Au (Aa Ab (Ai (Ai (Ai (A9 (Aa Au (Aa Ae (Ad z (Af (Aq ?_)))))))))))))); exact bF (fun h => by have h1 := he.1 h; omega)
      refine Ai (Ai (Ai (A9 (Aa Au (Aa Ab (Ai (Ai (Ai (A9 (Aa Au (Aa Ab (Ai (Ai (Ai (A9 (Aa Au (Aa Ae (Ad z (Af (Aq ?_)))))))))))))))))))); exact bF (fun h => by have h1 := he.1 h; omega)
    refine Ai (Ai (Ai (A9 (Aa Au (Aa Ab (Ai (Ai (Ai (A9 (Aa Au (Aa Ab (Ai (Ai (Ai (A9 (Aa Au (Aa Ab (Ai (Ai (Ai (A9 (Aa Au (Aa Ae (Ad z (Af (Aq ?_)))))))))))))))))))))))))); exact bF (fun h => by have h1 := he.1 h; omega)
  refine Ai (Ai (Ai (A9 (Aa Au (Aa Ab (Ai (Ai (Ai (A9 (Aa Au (Aa Ab (Ai (Ai (Ai (A9 (Aa Au (Aa Ab (Ai (Ai (Ai (A9 (Aa Au (Aa Ab (Ai (Ai (Ai (A9 (Aa Au (Aa Ae (Ad z (Af (Aq ?_)))))))))))))))))))))))))))))))); exact bF (fun h => by have h1 := he.1 h; omega)
theorem boxcont_fun (a b : Bx) : Fun Tryz.prog 163 [.agg a.c, .agg b.c] (AK (bL (decide (EU a b))) []) := by
  have hax := contP_ax a b; refine Fun.of (nt := 34) (rs := [.tmp 4]) Tryz.func163 rfl rfl rfl rfl rfl (Ac fun _ z=>A4 (Be _ true) (A4 (Be _ true) (Aa Ae (Ad z (An (Ac fun _ z=>Aa Ab (Ad z (Ar (AI (ι := {k : Nat // k ≤ 3 ∧ ∀ j, j < k → contA a b j}) [0, 1] [2, 3] (fun ⟨k, _⟩ => [(10, iL (k : Int))]) (fun ⟨k, _⟩ => [(0, ⟨false, 100, 6, [[iL (a.lx), iL (a.ly), iL (a.lz), iL (a.hx), iL (a.hy), iL (a.hz)]], true⟩), (1, ⟨false, 100, 6, [[iL (b.lx), iL (b.ly), iL (b.lz), iL (b.hx), iL (b.hy), iL (b.hz)]], true⟩)]) (fun ⟨k, _⟩ => 3 - k) ⟨0, by decide, fun j hj => absurd hj (by omega)⟩ (.c (.c .n)) (Aj (h := (Aj))) (Ag) ?_))))))))); rintro ⟨k, hk, hinv⟩ R0 hR0; dsimp only [cA, nA, lC, lN]
  by_cases hk3 : k < 3
  rotate_left
  · obtain rfl : k = 3 := by omega
    refine Ac fun _ z=>Aa Ay (Ad z (By (fun c1 => ?_) (fun c1 => ?_)))
    · omega
    refine AO (hR0 _ _ (Ac fun _ z=>Aa Ae (Ad z (Af (Aq ?_))))); exact bT (hax.2 (fun j hj => hinv j (by omega)))
  refine Ac fun _ z=>Aa Ay (Ad z (By (fun c2 => ?_) (fun c2 => ?_)))
  · refine An (Ar (Ac fun _ z=>Aa Ab (Aa Ae (Ad z (Ac fun _ z=>Aa (Av _ Bq AB) (Aa Ab (A3 (hF := ends_fun a k hk3) (h := Aa Ab (Aa BA (Aa BA (Aa Ae (Aa Ae (Ad z (Ac fun _ z=>Aa (Av _ Bq AB) (Aa Ab (A3 (hF := ends_fun b k hk3) (h := Aa Ab (Aa BA (Aa BA (Aa Ae (Aa Ae (Ad z (Ac fun _ z=>Aa Ab (Aa Ab (Aa Ay (AP Ab (fun c3 => ?_) (fun c3 => ?_)))))))))))))))))))))))))))
    · refine Ai (A9 (Aa A5 (Ad z (B3 (Ac fun _ z=>Aa Ae (Ad z (Af (hR0 _ _ (Aq ?_))))))))); exact bF (fun h => (hax.1 h k hk3) (by omega))
    refine Aa Ab (Aa Ab (Aa Bh (Aa Au (Ad z (Ax (fun c4 => ?_) (fun c4 => ?_))))))
    · refine Ac fun _ z=>Aa Ae (Ad z (Af (hR0 _ _ (Aq ?_)))); exact bF (fun h => (hax.1 h k hk3) (by omega))
    refine As (Ao fun _ z=>Aa A6 (Aa Ab (Ad z (hR0 _ _ (A8 [0, 1] [2, 3] ⟨k + 1, by omega, cont_snoc hinv (by show ¬ (loB b k < loB a k ∨ hiB b k > hiB a k); omega)⟩ ?_ (Aj (h := (Aj))) (Ag) (.c (.c .n))))))); skip; all_goals (dsimp only; omega)
  omega
theorem boxBad_fun (b : Bx) : Fun Tryz.prog 201 [.agg b.c] (AK (bL (decide (¬ C5 b))) []) := by
  refine Fun.of (nt := 6) (rs := [.tmp 2]) Tryz.func201 rfl rfl rfl rfl rfl (Ac fun _ z=>A4 (Be _ true) (Aa Ae (Ad z (Ac fun _ z=>Aa (Av _ Bq AB) (A3 (hF := boxValid_fun b) (h := Aa BB (Aa Ae (Ad z (Af (Aq ?_)))))))))); exact dN Iff.rfl
theorem allOk {l : List Bx} : (¬ ∃ x ∈ l, decide (¬ C5 x) = true) ↔ ∀ b ∈ l, C5 b := by
  constructor
  · intro h b hb
    by_cases ht : C5 b
    · exact ht
    exact absurd ⟨b, hb, decide_eq_true ht⟩ h
  rintro h ⟨b, hb, hd⟩; exact of_decide_eq_true hd (h b hb)
theorem boxAll_fun (l : List Bx) (hlen : l.length ≤ 140737488355328) : Fun Tryz.prog 159 [.sh 6 (l.map Bx.c)] (AK (bL (decide (∀ b ∈ l, C5 b))) []) := by
  refine Fun.of (nt := 6) (rs := [.tmp 2]) Tryz.func159 rfl rfl rfl rfl rfl (Ac fun _ z=>Aa Ae (Ad z (Ac fun _ z=>Aa Ab (A3 (hF := containsFuncBx0 _ _ boxBad_fun l (by omega)) (h := Aa BB (Aa Ae (Ad z (Af (Aq ?_))))))))); exact dN allOk
theorem hull_fun (l : List Bx) (hlen : l.length ≤ 1000) (hne : 1 ≤ l.length) (hok : ∀ b ∈ l, C5 b) : Fun Tryz.prog 106 [.sh 6 (l.map Bx.c)] (AK (.tup [.agg (Cc l).c, iL 0]) []) := by
  obtain ⟨b0, hb0⟩ : ∃ b, l[0]? = some b := ⟨_, List.getElem?_eq_getElem (by omega)⟩
  have he : Cc l = CO b0 l := by rw [Cc, hb0]; rfl
  rw [he]; refine Fun.of (nt := 74) (rs := [.cell 2 100, .tmp 3]) Tryz.func106 rfl rfl rfl rfl rfl (Ac fun _ z=>A4 (Bd BS) (Aa Ae (Ad z (An (Ar (Ac fun _ z=>Aa Ab (A3 (hF := boxAll_fun l (by omega)) (h := Aa BB (Aa Ae (Ad z (Cb (fun c1 => ?_) (fun c1 => ?_))))))))))))
  · contradiction
  refine Ac fun _ z=>Aa Ab (Aa (A7 Bs) (Aa B6 (Aa Ae (Ad z (Ax (fun c2 => ?_) (fun c2 => ?_))))))
  · omega
  refine As (Ac fun _ z=>Aa Ab (Aa (AL Bs AB (hl := (by exact AY hb0 (by omega)))) (Aa (BF _ Bq AB) (A4 (Bd BS) (AC _ true [_] CK AB (h := Ad z (An (Ac fun _ z=>Aa Ab (Aa (A7 Bs) (Aa Ab (Ad z (Ar (AI (ι := {p : List (Bx) × List (Bx) // p.1 ++ p.2 = l ∧ True}) [0, 1] [2, 4, 20, 21] (fun ⟨(pre, suf), _⟩ => [(22, iL (pre.length : Int))]) (fun ⟨(pre, suf), _⟩ => [(0, ⟨false, 100, 6, [[iL (0), iL (0), iL (0), iL (0), iL (0), iL (0)]], true⟩), (1, ⟨false, 100, 6, [[iL ((CO b0 pre).lx), iL ((CO b0 pre).ly), iL ((CO b0 pre).lz), iL ((CO b0 pre).hx), iL ((CO b0 pre).hy), iL ((CO b0 pre).hz)]], true⟩)]) (fun ⟨(pre, suf), _⟩ => suf.length) ⟨([], l), rfl, trivial⟩ (.c (.c (.c (.c .n)))) (Aj (h := (Aj))) (Ag) ?_))))))))))))); rintro ⟨⟨pre, suf⟩, hp, hinv⟩ R1 hR1; dsimp only [cA, nA, lC, lN]
  simp only at hp hinv
  have hpl := Cd hp
  rcases suf with _ | ⟨s, suf⟩
  · rw [List.append_nil] at hp; simp only [lN] at hpl; refine Ac fun _ z=>Aa Ay (Ad z (By (fun c3 => ?_) (fun c3 => ?_)))
    · omega
    refine AO (hR1 _ _ (Ac fun _ z=>Aa (Av _ Bq AB) (AC _ true [_] CK AB (h := Aa Ae (Ad z (Af (Cv (B7 [_, _, _, _, _, _] Bq AB (DI BC)) (⟨?_, rfl⟩)))))))); rw [← hp]; rfl
  simp only [lC] at hpl; have hidx := Ch hp; refine Ac fun _ z=>Aa Ay (Ad z (By (fun c4 => ?_) (fun c4 => ?_)))
  · refine An (Ar (Ac fun _ z=>Aa (AL Bs AB (hl := (by exact AY hidx (by omega)))) (Aa (BF _ Bq AB) (A4 (Bd BS) (AC _ true [_, _] CK AB (h := Ad z (Ac fun _ z=>Aa (Ap 0 AR Am) (Aa (Ap 0 AU Ah) (Aa (At Al) (Aa (Ap 0 AR Am) (Aa (Ap 0 AU Ah) (Aa (At Al) (Aa Gt (Aa (Ap 0 AR Am) (Aa (Ap 1 Bi Ah) (Aa (At Al) (Aa (Ap 0 AR Am) (Aa (Ap 1 Bi Ah) (Aa (At Al) (Aa Gt (Aa (Ap 0 AR Am) (Aa (Ap 2 Bk Ah) (Aa (At Al) (Aa (Ap 0 AR Am) (Aa (Ap 2 Bk Ah) (Aa (At Al) (Aa Gt (Aa (Bj _ AJ BH) (Aa (Ap 0 AR Am) (AC _ true [_, _] BG Am (h := Ad z (Ao fun _ z=>Aa (Ap 3 AQ Am) (Aa (Ap 3 AU Ah) (Aa (At Al) (Aa (Ap 3 AQ Am) (Aa (Ap 3 AU Ah) (Aa (At Al) (Aa EI (Aa (Ap 3 AQ Am) (Aa (Ap 4 Bi Ah) (Aa (At Al) (Aa (Ap 3 AQ Am) (Aa (Ap 4 Bi Ah) (Aa (At Al) (Aa EI (Aa (Ap 3 AQ Am) (Aa (Ap 5 Bk Ah) (Aa (At Al) (Aa (Ap 3 AQ Am) (Aa (Ap 5 Bk Ah) (Aa (At Al) (Aa EI (Aa (Bj _ AJ BH) (Aa (Ap 3 AQ Am) (AC _ true [_, _] BG Am (h := Ad z ?_))))))))))))))))))))))))))))))))))))))))))))))))))))))))
    show Ev _ _ _ _; refine Ao fun _ z=>Aa A6 (Aa Ab (Ad z (hR1 _ _ (A8 [0, 1] [2, 4, 20, 21] ⟨(pre ++ [s], suf), B2 hp, trivial⟩ BX (Aj (h := (Aj (he := (by rw [hullG_snoc]; rfl))))) (Ag (he := (by congr 2; simp))) (.c (.c (.c (.c .n)))))))); skip
  omega
theorem each1_fun (a b c : Int) : Fun Tryz.prog 108 [.agg [iL a, iL b, iL c]] (AK (iL a) []) := by
  refine Fun.of (nt := 5) (rs := [.tmp 2]) Tryz.func108 rfl rfl rfl rfl rfl (Ac fun _ z=>A4 (Be _ true) (Aa Ae (Ad z (Ac fun _ z=>Aa (Ap 0 AU Ah) (Aa (At Al) (Aa Ae (Ad z (Af (Aq ?_))))))))); rfl
theorem each2_fun (a b c : Int) : Fun Tryz.prog 109 [.agg [iL a, iL b, iL c]] (AK (iL b) []) := by
  refine Fun.of (nt := 5) (rs := [.tmp 2]) Tryz.func109 rfl rfl rfl rfl rfl (Ac fun _ z=>A4 (Be _ true) (Aa Ae (Ad z (Ac fun _ z=>Aa (Ap 1 Bi Ah) (Aa (At Al) (Aa Ae (Ad z (Af (Aq ?_))))))))); rfl
theorem each3_fun (a b c : Int) : Fun Tryz.prog 110 [.agg [iL a, iL b, iL c]] (AK (iL c) []) := by
  refine Fun.of (nt := 5) (rs := [.tmp 2]) Tryz.func110 rfl rfl rfl rfl rfl (Ac fun _ z=>A4 (Be _ true) (Aa Ae (Ad z (Ac fun _ z=>Aa (Ap 2 Bk Ah) (Aa (At Al) (Aa Ae (Ad z (Af (Aq ?_))))))))); rfl
theorem each5_fun (p h : Bx) : Fun Tryz.prog 113 [.agg h.c, .sadr p.c 0] (AK (bL (decide (Fm h p))) []) := by
  refine Fun.of (nt := 7) (rs := [.tmp 3]) Tryz.func113 rfl rfl rfl rfl rfl (Ac fun _ z=>A4 (Be _ true) (Aa Ae (Ad z (Ac fun _ z=>Aa (Av _ Bq AB) (Aa (BF _ Bq AB) (A3 (hF := opens_fun h p) (h := Aa Ae (Ad z (Af (Aq ?_)))))))))); rfl
def bxsC (l : List Bx) : List AV := [.sh 6 (l.map Bx.c)]
theorem flatB_len : ∀ ls : List (List Bx), (∀ x ∈ ls, x.length ≤ 1000) → ls.flatten.length ≤ 1000 * ls.length := by
  refine CY (fun _ => by simp) ?_; intro l s ih h; have h1 := ih fun x hx => h x (by simp [hx]); have h2 := h s (by simp); rw [List.flatten_append, List.length_append, List.length_append, List.flatten_singleton, List.length_singleton]; omega
theorem growBx_fun (n : Int) (h0 : 0 ≤ n) (h1 : n ≤ 1000000) : Fun Tryz.prog 202 [.lit (.slice none 0 0), iL n] (AK (.als 0 0 0) [(0, ⟨true, 100, 6, [], true⟩)]) := by
  refine Fun.of (nt := 27) (rs := [.tmp 4]) Tryz.func202 rfl rfl rfl rfl rfl (Ac fun _ k=>Aa Ae (Ad k (An (Ac fun _ k=>Aa Ab (Aa Ay (Ad k (Ax (fun c1 => ?_) (fun c1 => ?_))))))))
  · omega
  refine As (An (Ac fun _ k=>Aa Ab (Aa Ab (Aa (q.cap0 Bs) (Aa Ab (Aa (q.lenn Bs) (Aa BV (Aa BV (Aa Ae (Ad k (Ac fun _ k=>Aa Ab (Aa Bh (Ad k (Ax (fun c2 => ?_) (fun c2 => ?_)))))))))))))))
  · refine Ao fun _ k=>Aa Ab (Aa Ab (Aa (q.cap0 Bs) (S.sln Bs CK (h := Aa Ab (S.apz (f := Bx.c) (zeroB) Bs Cl BS AB am_by100 (h := Aa Ab (Aa (q.lenn Bs) (Aa (q.sl Bs AB) (Aa Ae (Ad k ?_)))))))))); show Ev _ _ _ _; refine AT (Wk.cut 0 [] BS AB) (Ac fun _ k=>Aa Ab (Aa Ae (Ad k (Af (Ev.own1 (⟨?_, ?_⟩)))))); all_goals rfl
  refine As (Ac fun _ k=>Aa Ab (Aa Ae (Ad k (AT (Wk.nown Bx.c 4 100 6) (Af (Ev.own1 (⟨?_, ?_⟩))))))); all_goals rfl
theorem concatBx_fun (ls : List (List Bx)) (hn : ls.length ≤ 100) (hx : ∀ x ∈ ls, x.length ≤ 1000) : Fun Tryz.prog 160 [.sh 1 (ls.map bxsC)] (AK (.als 0 0 ls.flatten.length) [(0, ⟨true, 100, 6, ls.flatten.map Bx.c, true⟩)]) := by
  have hfl := flatB_len ls hx; refine Fun.of (nt := 36) (rs := [.tmp 2]) Tryz.func160 rfl rfl rfl rfl rfl (Ac fun _ k=>Aa Ae (Ad k (Ac fun _ k=>Aa Ae (Ad k (An (Ac fun _ k=>Aa Ab (Aa (A7 am_el227) (Aa Ab (Ad k (Ar (AI (ι := {p : List (List Bx) × List (List Bx) // p.1 ++ p.2 = ls ∧ True}) [] [0, 9, 10] (fun ⟨(pre, suf), _⟩ => [(11, iL (pre.length : Int)), (3, iL (((pre.flatten).length : Int)))]) (fun ⟨(pre, suf), _⟩ => []) (fun ⟨(pre, suf), _⟩ => suf.length) ⟨([], ls), rfl, trivial⟩ (.c (.c (.c .n))) AW (Ag (h := (Ag))) ?_))))))))))); rintro ⟨⟨pre, suf⟩, hp, hinv⟩ R0 hR0; dsimp only [cA, nA, lC, lN]
  simp only at hp hinv
  have hpl := Cd hp
  rcases suf with _ | ⟨s, suf⟩
  · rw [List.append_nil] at hp; subst pre; simp only [List.length_nil] at hpl; refine Ac fun _ k=>Aa Ay (Ad k (By (fun c1 => ?_) (fun c1 => ?_)))
    · omega
    refine AO (hR0 _ _ (Ac fun _ k=>Aa Ab (S.c1 (hF := growBx_fun _ (by omega) (by omega)) (h := Aa Ae (Ad k (An (Ac fun _ k=>Aa Ab (Aa (A7 am_el227) (Aa Ab (Ad k (Ar (AI (ι := {p : List (List Bx) × List (List Bx) // p.1 ++ p.2 = ls ∧ True}) [0] [25, 26] (fun ⟨(pre, suf), _⟩ => [(27, iL (pre.length : Int)), (6, .als 0 0 (pre.flatten).length)]) (fun ⟨(pre, suf), _⟩ => [(0, ⟨true, 100, 6, (pre.flatten).map Bx.c, true⟩)]) (fun ⟨(pre, suf), _⟩ => suf.length) ⟨([], ls), rfl, trivial⟩ (.c (.c .n)) (Aj) (Ag (h := (Ag))) ?_)))))))))))); rintro ⟨⟨pre, suf⟩, hp, hinv⟩ R2 hR2; dsimp only [cA, nA, lC, lN]
    simp only at hp hinv
    have hpl := Cd hp
    rcases suf with _ | ⟨s, suf⟩
    · rw [List.append_nil] at hp; subst pre; simp only [List.length_nil] at hpl; refine Ac fun _ k=>Aa Ay (Ad k (By (fun c2 => ?_) (fun c2 => ?_)))
      · omega
      refine AO (hR2 _ _ (Ac fun _ k=>Aa Ab (Aa Ae (Ad k (Af (Ev.own1 (⟨?_, ?_⟩))))))); all_goals rfl
    simp only [lC] at hpl; have hidx := Ch hp; have hsl := hx s (by rw [← hp]; simp); have hpf := flatB_len pre (fun x h => hx x (by rw [← hp]; simp [h]))
    have hfs : (pre ++ [s]).flatten = pre.flatten ++ s := by simp
    refine Ac fun _ k=>Aa Ay (Ad k (By (fun c3 => ?_) (fun c3 => ?_)))
    · refine An (Ar (Ac fun _ k=>Aa (AL am_el227 CF (hl := (by exact AY hidx (by omega)))) (Aa (Bc CI) (Aa Ae (Ad k (Ao fun _ k=>Aa Ab (Aa Ab (DJ [] Bs BS AB am_by100 (hh := Cu) (hr := rows_sh) (h := Aa Ae (Ad k ?_)))))))))); show Ev _ _ _ _; refine Ao fun _ k=>Aa A6 (Aa Ab (Ad k (hR2 _ _ (A8 [1] [25, 26] ⟨(pre ++ [s], suf), B2 hp, trivial⟩ BX (Aj (he := (by rw [hfs, List.map_append]))) (Ag (he := (by congr 2; simp)) (h := (Ag (he := (by simp))))) (.c (.c .n))))))
    omega
  simp only [lC] at hpl; have hidx := Ch hp; have hsl := hx s (by rw [← hp]; simp); have hpf := flatB_len pre (fun x h => hx x (by rw [← hp]; simp [h]))
  have hfs : (pre ++ [s]).flatten = pre.flatten ++ s := by simp
  refine Ac fun _ k=>Aa Ay (Ad k (By (fun c4 => ?_) (fun c4 => ?_)))
  · refine An (Ar (Ac fun _ k=>Aa (AL am_el227 CF (hl := (by exact AY hidx (by omega)))) (Aa (Bc CI) (Aa Ae (Ad k (Ac fun _ k=>Aa Ab (Aa Ab (Aa (A7 Bs) (Aa A6 (Aa Ae (Ad k (Ac fun _ k=>Aa Ab (Aa Ay (Ad k (Ax (fun c5 => ?_) (fun c5 => ?_))))))))))))))))
    · omega
    refine As (Ao fun _ k=>Aa A6 (Aa Ab (Ad k (hR0 _ _ (A8 [] [0, 9, 10] ⟨(pre ++ [s], suf), B2 hp, trivial⟩ BX AW (Ag (he := (by congr 2; simp)) (h := (Ag (he := (by exact iE (by rw [hfs, List.length_append]; omega)))))) (.c (.c (.c .n))))))))
  omega
def Es (f : Int → Int → Int → Int) (b : Bx) : List Int := [f b.lx b.ly b.lz, f b.hx b.hy b.hz]
def inF (f : Int → Int → Int → Int) (h : Bx) (v : Int) : Bool := decide (v ≥ f h.lx h.ly h.lz ∧ v ≤ f h.hx h.hy h.hz)
def ptsF (f : Int → Int → Int → Int) (h : Bx) (l : List Bx) : List Int := l.flatMap fun b => (Es f b).filter (inF f h)
theorem ptsF_snoc (f : Int → Int → Int → Int) (h : Bx) (l : List Bx) (s : Bx) : ptsF f h (l ++ [s]) = ptsF f h l ++ (Es f s).filter (inF f h) := by simp [ptsF]
theorem ptsF_len (f : Int → Int → Int → Int) (h : Bx) : ∀ l : List Bx, (ptsF f h l).length ≤ 2 * l.length := by
  refine CY (Nat.le_refl _) ?_; intro l s ih; have h1 : ((Es f s).filter (inF f h)).length ≤ 2 := List.length_filter_le _ _; rw [ptsF_snoc, List.length_append, List.length_append, List.length_singleton]; omega
theorem in_t {f : Int → Int → Int → Int} {h : Bx} {v : Int} (h1 : v ≥ f h.lx h.ly h.lz) (h2 : v ≤ f h.hx h.hy h.hz) : inF f h v = true := decide_eq_true ⟨h1, h2⟩
theorem in_f1 {f : Int → Int → Int → Int} {h : Bx} {v : Int} (h1 : ¬ v ≥ f h.lx h.ly h.lz) : inF f h v = false := decide_eq_false fun h => h1 h.1
theorem in_f2 {f : Int → Int → Int → Int} {h : Bx} {v : Int} (h1 : ¬ v ≤ f h.hx h.hy h.hz) : inF f h v = false := decide_eq_false fun h => h1 h.2
theorem two_t {f : Int → Int → Int → Int} {h : Bx} {s : Bx} {k : Nat} {v : Int} (hv : (Es f s)[k]? = some v) (hi : inF f h v = true) : ((Es f s).take (k + 1)).filter (inF f h) = ((Es f s).take k).filter (inF f h) ++ [v] := by
  rw [List.take_add_one, hv, List.filter_append]
  simp [hi]
theorem two_f {f : Int → Int → Int → Int} {h : Bx} {s : Bx} {k : Nat} {v : Int} (hv : (Es f s)[k]? = some v) (hi : inF f h v = false) : ((Es f s).take (k + 1)).filter (inF f h) = ((Es f s).take k).filter (inF f h) := by
  rw [List.take_add_one, hv, List.filter_append]
  simp [hi]
def srt (l : List Int) : List Int := l.mergeSort fun x y => decide (x ≤ y)
theorem srt_mem (l : List Int) (x : Int) : x ∈ srt l ↔ x ∈ l := (List.mergeSort_perm l _).mem_iff
theorem srt_len (l : List Int) : (srt l).length = l.length := List.length_mergeSort l
theorem cmpR_take (l : List Int) : (cmpR l).take (Go.Lib.compact l).length = Go.Lib.compact l := by rw [cmpR, List.take_left]
open Go.Shelf in
shelf_lay Lays.n189 Nm 189 at Tryz as lays189
open Go.Shelf in
shelf_lay Lays2.n20 Nm2 20 at Tryz as lays2_20
theorem sortI2 (l : List Int) (n : Nat) (hn : n = l.length) (hl : l.length ≤ 1000000) : FunR Tryz.prog 161 [.als 0 0 n] [(0, ⟨true, 3, 1, l.map Cz, true⟩)] 1 (AK (.tup []) [(0, ⟨true, 3, 1, (srt l).map Cz, true⟩)]) := by
  subst hn
  exact (sortI_R lays189 ⟨_, Tryz.func161, rfl, rfl⟩ l hl).mono fun v objs ⟨l', h, h1, h2⟩ => by subst h; exact ⟨h1, h2⟩
theorem compactI2 (l : List Int) (n : Nat) (hn : n = l.length) (hl : l.length ≤ 1000000) : FunR Tryz.prog 162 [.als 0 0 n] [(0, ⟨true, 3, 1, l.map Cz, true⟩)] 1 (AK (.als 0 0 (Go.Lib.compact l).length) [(0, ⟨true, 3, 1, (cmpR l).map Cz, true⟩)]) := by
  subst hn
  exact (compactI_R lays2_20 ⟨_, Tryz.func162, rfl, rfl⟩ l hl).mono fun v objs ⟨l', h, h1, h2⟩ => by subst h; exact ⟨h1, h2⟩
theorem cmpR_len (l : List Int) : (Go.Lib.compact l).length ≤ (cmpR l).length := by rw [cmpR, List.length_append]; omega
def FJ (f : Int → Int → Int → Int) (h : Bx) (l : List Bx) : List Int := Go.Lib.compact (srt (ptsF f h l))
theorem cuts_fun (g : FuncId) (f : Int → Int → Int → Int) (hg : ∀ a b c, Fun Tryz.prog g [.agg [iL a, iL b, iL c]] (AK (iL (f a b c)) [])) (bs hs : List Bx) (h : Bx) (hbs : bs.length ≤ 20) (hhs : hs.length ≤ 20) :
    Fun Tryz.prog 107 [.agg [.sh 6 (bs.map Bx.c), .sh 6 (hs.map Bx.c)], .agg h.c, .fn (.func g) [] []] (AK (.sh 1 ((FJ f h (bs ++ hs)).map Cz)) []) := by
  have hfl : [bs, hs].flatten = bs ++ hs := by simp
  have hal : (bs ++ hs).length ≤ 40 := by rw [List.length_append]; omega
  have hpl0 := ptsF_len f h (bs ++ hs); have hsl := srt_len (ptsF f h (bs ++ hs)); have hcl := cmpR_len (srt (ptsF f h (bs ++ hs))); have hcb := concatBx_fun [bs, hs] (by simp) (fun x hx => by simp only [List.mem_cons, List.not_mem_nil, or_false] at hx; rcases hx with rfl | rfl <;> omega); rw [hfl] at hcb
  refine Fun.of (nt := 61) (rs := [.tmp 6]) Tryz.func107 rfl rfl rfl rfl rfl (Ac fun _ z=>A4 (Be _ true) (A4 (Be _ true) (Aa Ae (Ad z (Ac fun _ z=>Aa Ae (Ad z (An (Ac fun _ z=>Aa (Ap 0 DP CF) (Aa (At CI) (Aa (Ap 1 E6 CF) (Aa (At CI) (A4 (C3 [[_], [_]] true am_el227 am_ze22 CF) (SeqL.weaken (Wk.frzl (f := bxsC) [bs, hs] 17 [_, _]) (S.c1 (hF := hcb) (h := Aa (q.lena Bs) (Aa Ab (Ad z (Ar (AT (Wk.nown Cz 7 3 1) (AI (ι := {p : List (Bx) × List (Bx) // p.1 ++ p.2 = (bs ++ hs) ∧ True}) [0, 1, 3, 4] [2, 4, 19] (fun ⟨(pre, suf), _⟩ => [(20, iL (pre.length : Int)), (18, .als 2 0 ((bs ++ hs)).length), (7, .als 3 0 (ptsF f h pre).length)]) (fun ⟨(pre, suf), _⟩ => [(0, ⟨false, 24, 2, [[.sh 6 ((bs).map Bx.c), .sh 6 ((hs).map Bx.c)]], true⟩), (1, ⟨false, 100, 6, [[iL (h.lx), iL (h.ly), iL (h.lz), iL (h.hx), iL (h.hy), iL (h.hz)]], true⟩), (2, ⟨true, 100, 6, ((bs ++ hs)).map Bx.c, true⟩), (3, ⟨true, 3, 1, (ptsF f h pre).map Cz, true⟩)]) (fun ⟨(pre, suf), _⟩ => suf.length) ⟨([], (bs ++ hs)), rfl, trivial⟩ (.c (.c (.c .n))) (Aj (h := (Aj (h := (Aj (h := (Aj))))))) (Ag (h := (Ag (h := (Ag))))) ?_)))))))))))))))))))); rintro ⟨⟨pre, suf⟩, hp, hinv⟩ R0 hR0; dsimp only [cA, nA, lC, lN]
  simp only at hp hinv
  have hpl := Cd hp
  rcases suf with _ | ⟨s, suf⟩
  · rw [List.append_nil] at hp; simp only [lN] at hpl; subst hp; refine Ac fun _ z=>Aa Ay (Ad z (By (fun c1 => ?_) (fun c1 => ?_)))
    · omega
    refine AO (hR0 _ _ (Ac fun _ z=>Aa Ab (S.cR [3] _ [_, _, _, _] (hob := (Aj)) (hF := sortI2 (ptsF f h (bs ++ hs)) _ rfl (by omega)) (hn' := below1 (by decide)) (h := Ad z (Ac fun _ z=>Aa Ab (S.cR [3] _ [_, _, _, _] (hob := (Aj)) (hF := compactI2 (srt (ptsF f h (bs ++ hs))) _ hsl.symm (by omega)) (hn' := below1 (by decide)) (h := (SeqL.weaken (Wk.frzp (f := Cz) (cmpR (srt (ptsF f h (bs ++ hs)))) 60 [_, _, _]) ?_)))))))); rw [cmpR_take]; refine Aa Ae (Ad z (Af (Aq ?_))); rfl
  simp only [lC] at hpl; have hidx := Ch hp; have hgl := ptsF_len f h pre; refine Ac fun _ z=>Aa Ay (Ad z (By (fun c2 => ?_) (fun c2 => ?_)))
  · refine An (Ar (Ac fun _ z=>Aa (q.ia Bs AB) (Aa (q.lxA [_, _, _, _, _, _] Bq AB (hl := (by exact at_ hidx (by omega)))) (A4 (Bd BS) (AC _ true [_, _, _, _] CK AB (h := Ad z (Ac fun _ z=>Aa (Ap 0 AR Am) (Aa (Av _ AF Am) (Aa (Ap 3 AQ Am) (Aa (Av _ AF Am) (A4 (C3 [[_, _, _], [_, _, _]] true Bb AJ Am) (Aa (q.lena Bb) (Aa Ab (Ad z (Ar (AI (ι := {k : Nat // k ≤ 2}) [0, 1, 2, 4, 5, 3] [2, 4, 19, 20, 29] (fun ⟨k, _⟩ => [(30, iL (k : Int)), (18, .als 2 0 ((bs ++ hs)).length), (28, .als 4 0 ([((s.lx, s.ly, s.lz) : Int × Int × Int), (s.hx, s.hy, s.hz)]).length), (7, .als 5 0 (ptsF f h pre ++ ((Es f s).take k).filter (inF f h)).length)]) (fun ⟨k, _⟩ => [(0, ⟨false, 24, 2, [[.sh 6 ((bs).map Bx.c), .sh 6 ((hs).map Bx.c)]], true⟩), (1, ⟨false, 100, 6, [[iL (h.lx), iL (h.ly), iL (h.lz), iL (h.hx), iL (h.hy), iL (h.hz)]], true⟩), (2, ⟨true, 100, 6, ((bs ++ hs)).map Bx.c, true⟩), (3, ⟨false, 100, 6, [[iL (s.lx), iL (s.ly), iL (s.lz), iL (s.hx), iL (s.hy), iL (s.hz)]], true⟩), (4, ⟨true, 80, 3, ([((s.lx, s.ly, s.lz) : Int × Int × Int), (s.hx, s.hy, s.hz)]).map C1, true⟩), (5, ⟨true, 3, 1, (ptsF f h pre ++ ((Es f s).take k).filter (inF f h)).map Cz, true⟩)]) (fun ⟨k, _⟩ => 2 - k) ⟨0, by decide⟩ (.c (.c (.c (.c (.c .n))))) (Aj (h := (Aj (h := (Aj (h := (Aj (h := (Aj (h := (Aj (he := (by simp))))))))))))) (Ag (h := (Ag (h := (Ag (h := (Ag (he := (by refine congrArg (AV.als _ 0) ?_; simp))))))))) ?_))))))))))))))))
    rintro ⟨k, hk⟩ R2 hR2; dsimp only [cA, nA, lC, lN]; have hgk : (((Es f s).take k).filter (inF f h)).length ≤ 2 := Nat.le_trans (List.length_filter_le _ _) (by rw [List.length_take]; exact Nat.min_le_right _ _)
    have hk3 : k = 2 ∨ k = 0 ∨ k = 1 := by omega
    rcases hk3 with hk3 | hk3 | hk3
    · skip; refine Ac fun _ z=>Aa Ay (Ad z (By (fun c3 => ?_) (fun c3 => ?_)))
      · omega
      refine AO (hR2 _ _ (Ao fun _ z=>Aa A6 (Aa Ab (Ad z (hR0 _ _ (A8 [0, 1, 2, 5] [2, 4, 19] ⟨(pre ++ [s], suf), B2 hp, trivial⟩ BX (Aj (h := (Aj (h := (Aj (h := (Aj (he := (by rw [ptsF_snoc, hk3]; rfl))))))))) (Ag (he := (by congr 2; simp)) (h := (Ag (h := (Ag (he := (by refine congrArg (AV.als _ 0) ?_; (rw [ptsF_snoc, hk3]; rfl)))))))) (.c (.c (.c .n))))))))); skip
    · have hidx2 : [((s.lx, s.ly, s.lz) : Int × Int × Int), (s.hx, s.hy, s.hz)][k]? = some (s.lx, s.ly, s.lz) := by rw [hk3]; rfl
      obtain ⟨v, hvv⟩ : ∃ v, v = f s.lx s.ly s.lz := ⟨_, rfl⟩
      have hv : (Es f s)[k]? = some v := by rw [hvv, hk3]; rfl
      refine Ac fun _ z=>Aa Ay (Ad z (By (fun c4 => ?_) (fun c4 => ?_)))
      · refine An (Ar (Ac fun _ z=>Aa (q.ia Bb Am) (Aa (q.lxA [_, _, _] AF Am (hl := (by exact at_ hidx2 (by omega)))) (A4 (Bd AJ) (AC _ true [_, _, _, _, _, _] BG Am (h := Ad z (Ac fun _ z=>Aa Ab (Aa (Av _ AF Am) (A3 (hF := hg _ _ _) (h := Aa Ae (Ad z ?_))))))))))); rw [← hvv]; refine Ac fun _ z=>Aa Ab (Aa Ab (Aa (Ap 0 AR Am) (Aa (Av _ AF Am) (A3 (hF := hg _ _ _) (h := Aa C7 (AP Ab (fun c5 => ?_) (fun c5 => ?_)))))))
        · refine Aa Ab (Aa Ab (Aa (Ap 3 AQ Am) (Aa (Av _ AF Am) (A3 (hF := hg _ _ _) (h := Aa BJ (Aa A5 (Ad z (Ax (fun c6 => ?_) (fun c6 => ?_)))))))))
          · refine Ao fun _ z=>Aa Ab (Aa Ab (A4 (C3 [[_]] true AG Ed Ah) (DJ [_, _, _, _, _, _, _] AG Ed Ah am_by3 (hh := Cu) (hr := (CS [v])) (h := Aa Ae (Ad z ?_))))); show Ev _ _ _ _; refine Ao fun _ z=>Aa A6 (Aa Ab (Ad z (hR2 _ _ (A8 [0, 1, 2, 3, 4, 8] [2, 4, 19, 20, 29] ⟨k + 1, by omega⟩ ?_ (Aj (h := (Aj (h := (Aj (h := (Aj (h := (Aj (h := (Aj (he := (by rw [two_t hv (in_t ‹_› ‹_›), ← List.append_assoc]))))))))))))) (Ag (h := (Ag (h := (Ag (h := (Ag (he := (by refine congrArg (AV.als _ 0) ?_; rw [two_t hv (in_t ‹_› ‹_›), ← List.append_assoc]))))))))) (.c (.c (.c (.c (.c .n))))))))); skip; all_goals (dsimp only; omega)
          refine As (Ao fun _ z=>Aa A6 (Aa Ab (Ad z (hR2 _ _ (A8 [0, 1, 2, 3, 4, 5] [2, 4, 19, 20, 29] ⟨k + 1, by omega⟩ ?_ (Aj (h := (Aj (h := (Aj (h := (Aj (h := (Aj (h := (Aj (he := (by rw [two_f hv (in_f2 ‹_›)]))))))))))))) (Ag (h := (Ag (h := (Ag (h := (Ag (he := (by refine congrArg (AV.als _ 0) ?_; rw [two_f hv (in_f2 ‹_›)]))))))))) (.c (.c (.c (.c (.c .n)))))))))); skip; all_goals (dsimp only; omega)
        refine Ai (Ai (Ai (Aa Au (Ad z (Ei (As (Ao fun _ z=>Aa A6 (Aa Ab (Ad z (hR2 _ _ (A8 [0, 1, 2, 3, 4, 5] [2, 4, 19, 20, 29] ⟨k + 1, by omega⟩ ?_ (Aj (h := (Aj (h := (Aj (h := (Aj (h := (Aj (h := (Aj (he := (by rw [two_f hv (in_f1 ‹_›)]))))))))))))) (Ag (h := (Ag (h := (Ag (h := (Ag (he := (by refine congrArg (AV.als _ 0) ?_; rw [two_f hv (in_f1 ‹_›)]))))))))) (.c (.c (.c (.c (.c .n)))))))))))))))); skip; all_goals (dsimp only; omega)
      omega
    have hidx2 : [((s.lx, s.ly, s.lz) : Int × Int × Int), (s.hx, s.hy, s.hz)][k]? = some (s.hx, s.hy, s.hz) := by rw [hk3]; rfl
    obtain ⟨v, hvv⟩ : ∃ v, v = f s.hx s.hy s.hz := ⟨_, rfl⟩
    have hv : (Es f s)[k]? = some v := by rw [hvv, hk3]; rfl
    refine Ac fun _ z=>Aa Ay (Ad z (By (fun c7 => ?_) (fun c7 => ?_)))
    · refine An (Ar (Ac fun _ z=>Aa (q.ia Bb Am) (Aa (q.lxA [_, _, _] AF Am (hl := (by exact at_ hidx2 (by omega)))) (A4 (Bd AJ) (AC _ true [_, _, _, _, _, _] BG Am (h := Ad z (Ac fun _ z=>Aa Ab (Aa (Av _ AF Am) (A3 (hF := hg _ _ _) (h := Aa Ae (Ad z ?_))))))))))); rw [← hvv]; refine Ac fun _ z=>Aa Ab (Aa Ab (Aa (Ap 0 AR Am) (Aa (Av _ AF Am) (A3 (hF := hg _ _ _) (h := Aa C7 (AP Ab (fun c8 => ?_) (fun c8 => ?_)))))))
      · refine Aa Ab (Aa Ab (Aa (Ap 3 AQ Am) (Aa (Av _ AF Am) (A3 (hF := hg _ _ _) (h := Aa BJ (Aa A5 (Ad z (Ax (fun c9 => ?_) (fun c9 => ?_)))))))))
        · refine Ao fun _ z=>Aa Ab (Aa Ab (A4 (C3 [[_]] true AG Ed Ah) (DJ [_, _, _, _, _, _, _] AG Ed Ah am_by3 (hh := Cu) (hr := (CS [v])) (h := Aa Ae (Ad z ?_))))); show Ev _ _ _ _; refine Ao fun _ z=>Aa A6 (Aa Ab (Ad z (hR2 _ _ (A8 [0, 1, 2, 3, 4, 8] [2, 4, 19, 20, 29] ⟨k + 1, by omega⟩ ?_ (Aj (h := (Aj (h := (Aj (h := (Aj (h := (Aj (h := (Aj (he := (by rw [two_t hv (in_t ‹_› ‹_›), ← List.append_assoc]))))))))))))) (Ag (h := (Ag (h := (Ag (h := (Ag (he := (by refine congrArg (AV.als _ 0) ?_; rw [two_t hv (in_t ‹_› ‹_›), ← List.append_assoc]))))))))) (.c (.c (.c (.c (.c .n))))))))); skip; all_goals (dsimp only; omega)
        refine As (Ao fun _ z=>Aa A6 (Aa Ab (Ad z (hR2 _ _ (A8 [0, 1, 2, 3, 4, 5] [2, 4, 19, 20, 29] ⟨k + 1, by omega⟩ ?_ (Aj (h := (Aj (h := (Aj (h := (Aj (h := (Aj (h := (Aj (he := (by rw [two_f hv (in_f2 ‹_›)]))))))))))))) (Ag (h := (Ag (h := (Ag (h := (Ag (he := (by refine congrArg (AV.als _ 0) ?_; rw [two_f hv (in_f2 ‹_›)]))))))))) (.c (.c (.c (.c (.c .n)))))))))); skip; all_goals (dsimp only; omega)
      refine Ai (Ai (Ai (Aa Au (Ad z (Ei (As (Ao fun _ z=>Aa A6 (Aa Ab (Ad z (hR2 _ _ (A8 [0, 1, 2, 3, 4, 5] [2, 4, 19, 20, 29] ⟨k + 1, by omega⟩ ?_ (Aj (h := (Aj (h := (Aj (h := (Aj (h := (Aj (h := (Aj (he := (by rw [two_f hv (in_f1 ‹_›)]))))))))))))) (Ag (h := (Ag (h := (Ag (h := (Ag (he := (by refine congrArg (AV.als _ 0) ?_; rw [two_f hv (in_f1 ‹_›)]))))))))) (.c (.c (.c (.c (.c .n)))))))))))))))); skip; all_goals (dsimp only; omega)
    omega
  omega
theorem srt_le (l : List Int) : (srt l).Pairwise (fun a b => a ≤ b) := by
  have h := List.pairwise_mergeSort (le := fun x y : Int => decide (x ≤ y)) (fun a b c h1 h2 => by simp only [decide_eq_true_eq] at *; omega) (fun a b => by simp only [Bool.or_eq_true, decide_eq_true_eq]; omega) l; exact h.imp fun h => of_decide_eq_true h
theorem get_bang {l : List Int} {j : Nat} (h : j < l.length) : l.toArray[j]! = l[j] := by
  simp [h]
theorem keep_iff {l : List Int} {j : Nat} (h : j < l.length) : Go.Lib.keeps l.toArray j = true ↔ j = 0 ∨ ∃ p, l[j - 1]? = some p ∧ p ≠ l[j] := by
  unfold Go.Lib.keeps
  rw [decide_eq_true_eq, get_bang h, get_bang (show j - 1 < l.length by omega)]; refine or_congr Iff.rfl ⟨fun hne => ⟨_, List.getElem?_eq_getElem (by omega), fun e => hne e.symm⟩, ?_⟩; rintro ⟨p, h1, h2⟩ e; rw [List.getElem?_eq_getElem (by omega)] at h1; exact h2 (by rw [← Option.some.inj h1, e])
theorem le_at {l : List Int} (h : l.Pairwise (fun a b => a ≤ b)) {i j : Nat} (hi : i ≤ j) (hj : j < l.length) : l[i] ≤ l[j] := by
  rcases Nat.lt_or_eq_of_le hi with h1 | rfl
  · exact List.pairwise_iff_getElem.1 h i j (by omega) hj h1
  exact Int.le_refl _
theorem compact_asc {l : List Int} (h : l.Pairwise (fun a b => a ≤ b)) : (Go.Lib.compact l).Pairwise (fun a b => a < b) := by
  unfold Go.Lib.compact Go.Lib.compactUpTo
  rw [List.pairwise_map]; refine ((List.pairwise_lt_range (n := l.length)).filter (Go.Lib.keeps l.toArray)).imp_of_mem ?_; intro i j hi hj hij; obtain ⟨hj1, hj2⟩ := List.mem_filter.1 hj; have hjl := List.mem_range.1 hj1; rw [get_bang (show i < l.length by omega), get_bang hjl]
  rcases (keep_iff hjl).1 hj2 with e | ⟨p, h1, h2⟩
  · omega
  rw [List.getElem?_eq_getElem (show j - 1 < l.length by omega)] at h1; have e := Option.some.inj h1; have g1 := le_at h (show i ≤ j - 1 by omega) (show j - 1 < l.length by omega); have g2 := le_at h (show j - 1 ≤ j by omega) hjl; omega
theorem compact_mem {l : List Int} (x : Int) : x ∈ Go.Lib.compact l ↔ x ∈ l := by
  unfold Go.Lib.compact Go.Lib.compactUpTo
  rw [List.mem_map]
  constructor
  · rintro ⟨j, hj, rfl⟩; have h1 := List.mem_range.1 (List.mem_filter.1 hj).1; rw [get_bang h1]; exact List.getElem_mem _
  intro hx; obtain ⟨j, hj, e⟩ := List.getElem_of_mem hx
  have key : ∀ n j, j < n → (hj : j < l.length) → l[j] = x → ∃ a, a ∈ (List.range l.length).filter (Go.Lib.keeps l.toArray) ∧ l.toArray[a]! = x := by
    intro n
    induction n with
    | zero => intro j h; omega
    | succ n ih =>
      intro j hn hj e
      by_cases hk : Go.Lib.keeps l.toArray j = true
      · exact ⟨j, List.mem_filter.2 ⟨List.mem_range.2 hj, hk⟩, by rw [get_bang hj]; exact e⟩
      have h0 : j ≠ 0 := fun h0 => hk ((keep_iff hj).2 (.inl h0)); refine ih (j - 1) (by omega) (by omega) ?_
      by_cases hp : l[j - 1] = l[j]
      · rw [hp]; exact e
      exact absurd ((keep_iff hj).2 (.inr ⟨_, List.getElem?_eq_getElem (show j - 1 < l.length by omega), hp⟩)) hk
  exact key (j + 1) j (by omega) hj e
def nxS (last a n : Int) : Int := if n > last ∧ n < a then n else a
def nxF (hi last : Int) (l : List Int) : Int := l.foldl (nxS last) hi
theorem nxF_snoc (hi last : Int) (l : List Int) (n : Int) : nxF hi last (l ++ [n]) = nxS last (nxF hi last l) n := by simp [nxF]
theorem nxF_spec (hi last : Int) : ∀ l : List Int, (nxF hi last l = hi ∨ (nxF hi last l ∈ l ∧ nxF hi last l > last)) ∧ nxF hi last l ≤ hi ∧ ∀ p ∈ l, p > last → nxF hi last l ≤ p := by
  refine CY ⟨.inl rfl, Int.le_refl _, fun p hp => by cases hp⟩ ?_; intro l n ih; obtain ⟨h1, h2, h3⟩ := ih; rw [nxF_snoc]
  by_cases h : n > last ∧ n < nxF hi last l
  · rw [nxS, if_pos h]; refine ⟨.inr ⟨by simp, h.1⟩, by omega, fun p hp hl => ?_⟩
    rcases List.mem_append.1 hp with hp | hp
    · have := h3 p hp hl; omega
    rw [List.mem_singleton] at hp; omega
  rw [nxS, if_neg h]; refine ⟨?_, h2, fun p hp hl => ?_⟩
  · rcases h1 with h1 | h1
    · exact .inl h1
    exact .inr ⟨by simp [h1.1], h1.2⟩
  rcases List.mem_append.1 hp with hp | hp
  · exact h3 p hp hl
  rw [List.mem_singleton] at hp; subst hp; omega
structure CutOK (T pts : List Int) (lo hi : Int) : Prop where
  asc : T.Pairwise (fun a b => a < b)
  mem : ∀ x, x ∈ T ↔ x ∈ pts ∧ lo ≤ x ∧ x ≤ hi
  lo_ : lo ∈ pts
  hi_ : hi ∈ pts
  lt : lo < hi
theorem asc_lt {T : List Int} (h : T.Pairwise (fun a b => a < b)) {i j : Nat} {a b : Int} (hi : T[i]? = some a) (hj : T[j]? = some b) : i < j ↔ a < b := by
  obtain ⟨h1, rfl⟩ := List.getElem?_eq_some_iff.1 hi; obtain ⟨h2, rfl⟩ := List.getElem?_eq_some_iff.1 hj; have key := List.pairwise_iff_getElem.1 h
  constructor
  · exact fun e => key i j h1 h2 e
  intro e
  rcases Nat.lt_trichotomy i j with g | g | g
  · exact g
  · subst g; omega
  have := key j i h2 h1 g; omega
theorem CutOK.at0 {T pts : List Int} {lo hi : Int} (h : CutOK T pts lo hi) : T[0]? = some lo := by
  have hm := (h.mem lo).2 ⟨h.lo_, Int.le_refl _, by have := h.lt; omega⟩; obtain ⟨j, hj, e⟩ := List.getElem_of_mem hm; have h0 : T[0]? = some (T[0]'(by omega)) := List.getElem?_eq_getElem _; have hb := ((h.mem _).1 (List.mem_of_getElem? h0)).2.1
  have hj' : T[j]? = some lo := by rw [← e]; exact List.getElem?_eq_getElem _
  by_cases hz : j = 0
  · subst hz; exact hj'
  have := (asc_lt h.asc h0 hj').1 (by omega); omega
theorem CutOK.atl {T pts : List Int} {lo hi : Int} (h : CutOK T pts lo hi) : T[T.length - 1]? = some hi ∧ 2 ≤ T.length := by
  have hm := (h.mem hi).2 ⟨h.hi_, by have := h.lt; omega, Int.le_refl _⟩; obtain ⟨j, hj, e⟩ := List.getElem_of_mem hm; have h0 : T[T.length - 1]? = some (T[T.length - 1]'(by omega)) := List.getElem?_eq_getElem _; have hb := ((h.mem _).1 (List.mem_of_getElem? h0)).2.2
  have hj' : T[j]? = some hi := by rw [← e]; exact List.getElem?_eq_getElem _
  have hj0 : j ≠ 0 := fun e => by
    subst e; rw [h.at0] at hj'; have := Option.some.inj hj'; have := h.lt; omega
  refine ⟨?_, by omega⟩
  by_cases hz : j = T.length - 1
  · rw [← hz]; exact hj'
  have := (asc_lt h.asc hj' h0).1 (by omega); omega
theorem CutOK.next {T pts : List Int} {lo hi : Int} (h : CutOK T pts lo hi) {k : Nat} {last : Int} (hk : T[k]? = some last) (hl : last < hi) : T[k + 1]? = some (nxF hi last pts) := by
  obtain ⟨g1, g2⟩ := h.atl; have hk1 := (asc_lt h.asc hk g1).2 hl; have e1 : T[k + 1]? = some (T[k + 1]'(by omega)) := List.getElem?_eq_getElem _
  generalize T[k + 1]'(by omega) = t at e1
  obtain ⟨m1, m2, m3⟩ := (h.mem t).1 (List.mem_of_getElem? e1); obtain ⟨s1, s2, s3⟩ := nxF_spec hi last pts; have hlt : last < t := (asc_lt h.asc hk e1).1 (by omega)
  have hr : last < nxF hi last pts := by rcases s1 with e | e <;> omega
  obtain ⟨b1, b2, b3⟩ := (h.mem last).1 (List.mem_of_getElem? hk); have hrm : nxF hi last pts ∈ T := (h.mem _).2 ⟨by rcases s1 with e | e; rw [e]; exact h.hi_; exact e.1, by omega, s2⟩; have hle := s3 t m1 hlt; obtain ⟨j, hj, e⟩ := List.getElem_of_mem hrm
  have hj' : T[j]? = some (nxF hi last pts) := by rw [← e]; exact List.getElem?_eq_getElem _
  have hjk := (asc_lt h.asc hk hj').2 hr
  by_cases hz : j = k + 1
  · rw [← hz]; exact hj'
  have := (asc_lt h.asc e1 hj').1 (by omega); omega
theorem CutOK.end_ {T pts : List Int} {lo hi : Int} (h : CutOK T pts lo hi) {k : Nat} {last : Int} (hk : T[k]? = some last) (hl : ¬ last < hi) : T.take (k + 1) = T := by
  obtain ⟨g1, g2⟩ := h.atl; have hk2 : k < T.length := (List.getElem?_eq_some_iff.1 hk).1; rw [List.take_of_length_le]
  rcases Nat.lt_or_ge k (T.length - 1) with e | e
  · exact absurd ((asc_lt h.asc hk g1).1 e) hl
  omega
def Dy (l : List Int) (n : Nat) : List (Int × Int) := (List.range n).map fun i => ((l[i]?).getD 0, (l[i + 1]?).getD 0)
theorem sgs_snoc (l : List Int) (n : Nat) : Dy l (n + 1) = Dy l n ++ [((l[n]?).getD 0, (l[n + 1]?).getD 0)] := by simp [Dy, List.range_succ]
theorem sgs_len (l : List Int) (n : Nat) : (Dy l n).length = n := by simp [Dy]
def bxOf (x y z : Int × Int) : Bx := ⟨x.1, y.1, z.1, x.2, y.2, z.2⟩
def DG (p : Bx → Bool) (x y : Int × Int) (Z : List (Int × Int)) : List Bx := (Z.map (bxOf x y)).filter p
def DU (p : Bx → Bool) (x : Int × Int) (Y Z : List (Int × Int)) : List Bx := Y.flatMap fun y => DG p x y Z
def DO (p : Bx → Bool) (X Y Z : List (Int × Int)) : List Bx := X.flatMap fun x => DU p x Y Z
theorem cellsX_snoc (p : Bx → Bool) (X Y Z : List (Int × Int)) (x : Int × Int) : DO p (X ++ [x]) Y Z = DO p X Y Z ++ DU p x Y Z := by simp [DO]
theorem cellsY_snoc (p : Bx → Bool) (x : Int × Int) (Y Z : List (Int × Int)) (y : Int × Int) : DU p x (Y ++ [y]) Z = DU p x Y Z ++ DG p x y Z := by simp [DU]
theorem cellsZ_t {p : Bx → Bool} {x y z : Int × Int} {Z : List (Int × Int)} (h : p (bxOf x y z) = true) : DG p x y (Z ++ [z]) = DG p x y Z ++ [bxOf x y z] := by simp [DG, h]
theorem cellsZ_f {p : Bx → Bool} {x y z : Int × Int} {Z : List (Int × Int)} (h : p (bxOf x y z) = false) : DG p x y (Z ++ [z]) = DG p x y Z := by simp [DG, h]
theorem cellsX_filter (p : Bx → Bool) (X Y Z : List (Int × Int)) : DO p X Y Z = (DO (fun _ => true) X Y Z).filter p := by
  simp [DO, DU, DG, List.filter_flatMap]
def volB (b : Bx) : Int := (b.hx - b.lx) * (b.hy - b.ly) * (b.hz - b.lz)
def C9 (l : List Bx) : Int := (l.map volB).sum
theorem sumV_snoc (l : List Bx) (b : Bx) : C9 (l ++ [b]) = C9 l + volB b := by simp [C9]
theorem sumV_app (l m : List Bx) : C9 (l ++ m) = C9 l + C9 m := by simp [C9]
def upS (l : List (Int × Int)) : Prop := ∀ s ∈ l, s.1 < s.2
def Gq (l : List (Int × Int)) : Int := (l.map fun s => s.2 - s.1).sum
theorem lenS_snoc (l : List (Int × Int)) (s : Int × Int) : Gq (l ++ [s]) = Gq l + (s.2 - s.1) := by simp [Gq]
theorem sumZ_le {p : Bx → Bool} {x y : Int × Int} (hx : x.1 < x.2) (hy : y.1 < y.2) : ∀ {Z : List (Int × Int)}, upS Z → 0 ≤ C9 (DG p x y Z) ∧ C9 (DG p x y Z) ≤ (x.2 - x.1) * (y.2 - y.1) * Gq Z := by
  intro Z; refine CY (P := fun Z => upS Z → 0 ≤ C9 (DG p x y Z) ∧ C9 (DG p x y Z) ≤ (x.2 - x.1) * (y.2 - y.1) * Gq Z) (fun _ => by simp [C9, DG, Gq]) ?_ Z; intro Z z ih h; obtain ⟨h1, h2⟩ := ih fun t ht => h t (by simp [ht]); have h3 := h z (by simp); have h4 : 0 ≤ (x.2 - x.1) * (y.2 - y.1) * (z.2 - z.1) := Int.mul_nonneg (Int.mul_nonneg (by omega) (by omega)) (by omega); rw [lenS_snoc, Int.mul_add]
  by_cases hp : p (bxOf x y z) = true
  · rw [cellsZ_t hp, sumV_snoc, show volB (bxOf x y z) = (x.2 - x.1) * (y.2 - y.1) * (z.2 - z.1) from rfl]; omega
  rw [cellsZ_f (by simpa using hp)]; omega
theorem sumY_le {p : Bx → Bool} {x : Int × Int} (hx : x.1 < x.2) {Z : List (Int × Int)} (hZ : upS Z) : ∀ {Y : List (Int × Int)}, upS Y → 0 ≤ C9 (DU p x Y Z) ∧ C9 (DU p x Y Z) ≤ (x.2 - x.1) * Gq Y * Gq Z := by
  intro Y; refine CY (P := fun Y => upS Y → 0 ≤ C9 (DU p x Y Z) ∧ C9 (DU p x Y Z) ≤ (x.2 - x.1) * Gq Y * Gq Z) (fun _ => by simp [C9, DU, Gq]) ?_ Y; intro Y y ih h; obtain ⟨h1, h2⟩ := ih fun t ht => h t (by simp [ht]); obtain ⟨h3, h4⟩ := sumZ_le (p := p) hx (h y (by simp)) hZ; rw [cellsY_snoc, sumV_app, lenS_snoc, Int.mul_add, Int.add_mul]; omega
theorem sumX_le {p : Bx → Bool} {Y Z : List (Int × Int)} (hY : upS Y) (hZ : upS Z) : ∀ {X : List (Int × Int)}, upS X → 0 ≤ C9 (DO p X Y Z) ∧ C9 (DO p X Y Z) ≤ Gq X * Gq Y * Gq Z := by
  intro X; refine CY (P := fun X => upS X → 0 ≤ C9 (DO p X Y Z) ∧ C9 (DO p X Y Z) ≤ Gq X * Gq Y * Gq Z) (fun _ => by simp [C9, DO, Gq]) ?_ X; intro X x ih h; obtain ⟨h1, h2⟩ := ih fun t ht => h t (by simp [ht]); obtain ⟨h3, h4⟩ := sumY_le (p := p) (h x (by simp)) hZ hY; rw [cellsX_snoc, sumV_app, lenS_snoc, Int.add_mul, Int.add_mul]; omega
theorem sgs_up {T : List Int} (h : T.Pairwise (fun a b => a < b)) {n : Nat} (hn : n < T.length) : upS (Dy T n) := by
  intro s hs; obtain ⟨i, hi, rfl⟩ := List.mem_map.1 hs; have hi2 := List.mem_range.1 hi; have e1 : T[i]? = some (T[i]'(by omega)) := List.getElem?_eq_getElem _; have e2 : T[i + 1]? = some (T[i + 1]'(by omega)) := List.getElem?_eq_getElem _; rw [e1, e2]; exact (asc_lt h e1 e2).1 (by omega)
theorem sgs_lenS {T : List Int} : ∀ {n : Nat}, n < T.length → Gq (Dy T n) = (T[n]?).getD 0 - (T[0]?).getD 0 := by
  intro n
  induction n with
  | zero => intro _; simp [Dy, Gq]
  | succ n ih =>
    intro h; rw [sgs_snoc, lenS_snoc, ih (by omega)]; omega
theorem CutOK.segs {T pts : List Int} {lo hi : Int} (h : CutOK T pts lo hi) : upS (Dy T (T.length - 1)) ∧ Gq (Dy T (T.length - 1)) = hi - lo := by
  obtain ⟨g1, g2⟩ := h.atl; refine ⟨sgs_up h.asc (by omega), ?_⟩; rw [sgs_lenS (by omega), g1, h.at0]; rfl
def ED (f : Int → Int → Int → Int) (l : List Bx) : List Int := l.flatMap (Es f)
theorem ptsF_mem (f : Int → Int → Int → Int) (h : Bx) (l : List Bx) (x : Int) : x ∈ ptsF f h l ↔ x ∈ ED f l ∧ f h.lx h.ly h.lz ≤ x ∧ x ≤ f h.hx h.hy h.hz := by
  unfold ptsF ED inF
  simp only [List.mem_flatMap, List.mem_filter, decide_eq_true_eq]
  constructor
  · rintro ⟨b, hb, h1, h2, h3⟩; exact ⟨⟨b, hb, h1⟩, h2, h3⟩
  rintro ⟨⟨b, hb, h1⟩, h2, h3⟩; exact ⟨b, hb, h1, h2, h3⟩
theorem cut_okF {f : Int → Int → Int → Int} {h : Bx} {l : List Bx} (h1 : f h.lx h.ly h.lz ∈ ED f l) (h2 : f h.hx h.hy h.hz ∈ ED f l) (h3 : f h.lx h.ly h.lz < f h.hx h.hy h.hz) : CutOK (FJ f h l) (ED f l) (f h.lx h.ly h.lz) (f h.hx h.hy h.hz) :=
  ⟨compact_asc (srt_le _), fun x => by rw [FJ, compact_mem, srt_mem, ptsF_mem], h1, h2, h3⟩
def fX (a b c : Int) : Int := a
def fY (a b c : Int) : Int := b
def fZ (a b c : Int) : Int := c
theorem hull_in (b0 : Bx) : ∀ l : List Bx, b0 ∈ l → (∃ b ∈ l, (CO b0 l).lx = b.lx) ∧ (∃ b ∈ l, (CO b0 l).ly = b.ly) ∧ (∃ b ∈ l, (CO b0 l).lz = b.lz) ∧ (∃ b ∈ l, (CO b0 l).hx = b.hx) ∧ (∃ b ∈ l, (CO b0 l).hy = b.hy) ∧ ∃ b ∈ l, (CO b0 l).hz = b.hz := by
  have key : ∀ l : List Bx, (∃ b ∈ b0 :: l, (CO b0 l).lx = b.lx) ∧ (∃ b ∈ b0 :: l, (CO b0 l).ly = b.ly) ∧ (∃ b ∈ b0 :: l, (CO b0 l).lz = b.lz) ∧ (∃ b ∈ b0 :: l, (CO b0 l).hx = b.hx) ∧ (∃ b ∈ b0 :: l, (CO b0 l).hy = b.hy) ∧ ∃ b ∈ b0 :: l, (CO b0 l).hz = b.hz := by
    refine CY ⟨⟨b0, by simp, rfl⟩, ⟨b0, by simp, rfl⟩, ⟨b0, by simp, rfl⟩, ⟨b0, by simp, rfl⟩, ⟨b0, by simp, rfl⟩, ⟨b0, by simp, rfl⟩⟩ ?_; intro l s ih
    have up : ∀ b, b ∈ b0 :: l → b ∈ b0 :: (l ++ [s]) := fun b hb => by
      rcases List.mem_cons.1 hb with rfl | hb
      · simp
      simp [hb]
    have hs : s ∈ b0 :: (l ++ [s]) := by simp
    obtain ⟨⟨x1, m1, e1⟩, ⟨x2, m2, e2⟩, ⟨x3, m3, e3⟩, ⟨x4, m4, e4⟩, ⟨x5, m5, e5⟩, ⟨x6, m6, e6⟩⟩ := ih; rw [hullG_snoc]
    unfold bumpB
    dsimp only
    rw [e1, e2, e3, e4, e5, e6]; refine ⟨?_, ?_, ?_, ?_, ?_, ?_⟩
    · rcases Int.le_total x1.lx s.lx with g | g
      · exact ⟨x1, up _ m1, Int.min_eq_left g⟩
      exact ⟨s, hs, Int.min_eq_right g⟩
    · rcases Int.le_total x2.ly s.ly with g | g
      · exact ⟨x2, up _ m2, Int.min_eq_left g⟩
      exact ⟨s, hs, Int.min_eq_right g⟩
    · rcases Int.le_total x3.lz s.lz with g | g
      · exact ⟨x3, up _ m3, Int.min_eq_left g⟩
      exact ⟨s, hs, Int.min_eq_right g⟩
    · rcases Int.le_total x4.hx s.hx with g | g
      · exact ⟨s, hs, Int.max_eq_right g⟩
      exact ⟨x4, up _ m4, Int.max_eq_left g⟩
    · rcases Int.le_total x5.hy s.hy with g | g
      · exact ⟨s, hs, Int.max_eq_right g⟩
      exact ⟨x5, up _ m5, Int.max_eq_left g⟩
    rcases Int.le_total x6.hz s.hz with g | g
    · exact ⟨s, hs, Int.max_eq_right g⟩
    exact ⟨x6, up _ m6, Int.max_eq_left g⟩
  intro l hb
  have dn : ∀ b, b ∈ b0 :: l → b ∈ l := fun b h => by
    rcases List.mem_cons.1 h with rfl | h
    · exact hb
    exact h
  obtain ⟨⟨x1, m1, e1⟩, ⟨x2, m2, e2⟩, ⟨x3, m3, e3⟩, ⟨x4, m4, e4⟩, ⟨x5, m5, e5⟩, ⟨x6, m6, e6⟩⟩ := key l; exact ⟨⟨x1, dn _ m1, e1⟩, ⟨x2, dn _ m2, e2⟩, ⟨x3, dn _ m3, e3⟩, ⟨x4, dn _ m4, e4⟩, ⟨x5, dn _ m5, e5⟩, ⟨x6, dn _ m6, e6⟩⟩
theorem hull_le (b0 : Bx) : ∀ l : List Bx, ((CO b0 l).lx ≤ b0.lx ∧ (CO b0 l).ly ≤ b0.ly ∧ (CO b0 l).lz ≤ b0.lz) ∧ b0.hx ≤ (CO b0 l).hx ∧ b0.hy ≤ (CO b0 l).hy ∧ b0.hz ≤ (CO b0 l).hz := by
  refine CY ⟨⟨Int.le_refl _, Int.le_refl _, Int.le_refl _⟩, Int.le_refl _, Int.le_refl _, Int.le_refl _⟩ ?_; intro l s ih; rw [hullG_snoc]
  unfold bumpB
  dsimp only
  omega
structure HullOK (bs : List Bx) (h : Bx) : Prop where
  lx : fX h.lx h.ly h.lz ∈ ED fX bs
  ly : fY h.lx h.ly h.lz ∈ ED fY bs
  lz : fZ h.lx h.ly h.lz ∈ ED fZ bs
  hx : fX h.hx h.hy h.hz ∈ ED fX bs
  hy : fY h.hx h.hy h.hz ∈ ED fY bs
  hz : fZ h.hx h.hy h.hz ∈ ED fZ bs
  lt : h.lx < h.hx ∧ h.ly < h.hy ∧ h.lz < h.hz
  bd : (-1048576 ≤ h.lx ∧ h.hx ≤ 1048576) ∧ (-1048576 ≤ h.ly ∧ h.hy ≤ 1048576) ∧ -1048576 ≤ h.lz ∧ h.hz ≤ 1048576
theorem hull_ok {bs hs : List Bx} (h : Eo bs hs) : HullOK bs (Cc bs) := by
  obtain ⟨⟨h1, h2⟩, h3, h4, h5⟩ := h; obtain ⟨b0, hb0⟩ : ∃ b, bs[0]? = some b := ⟨_, List.getElem?_eq_getElem (by omega)⟩
  have he : Cc bs = CO b0 bs := by rw [Cc, hb0]; rfl
  have hm := List.mem_of_getElem? hb0; obtain ⟨⟨x1, m1, e1⟩, ⟨x2, m2, e2⟩, ⟨x3, m3, e3⟩, ⟨x4, m4, e4⟩, ⟨x5, m5, e5⟩, ⟨x6, m6, e6⟩⟩ := hull_in b0 bs hm; obtain ⟨⟨l1, l2, l3⟩, l4, l5, l6⟩ := hull_le b0 bs; obtain ⟨t1, t2, t3, t4⟩ := h4 b0 hm; have o1 := (h4 x1 m1).1; have o2 := (h4 x2 m2).1; have o3 := (h4 x3 m3).1; have o4 := (h4 x4 m4).1; have o5 := (h4 x5 m5).1; have o6 := (h4 x6 m6).1
  unfold C5 at o1 o2 o3 o4 o5 o6
  rw [he]; refine ⟨?_, ?_, ?_, ?_, ?_, ?_, ?_, ?_⟩
  · exact List.mem_flatMap.2 ⟨x1, m1, by rw [show fX (CO b0 bs).lx _ _ = x1.lx from e1]; simp [Es, fX]⟩
  · exact List.mem_flatMap.2 ⟨x2, m2, by rw [show fY _ (CO b0 bs).ly _ = x2.ly from e2]; simp [Es, fY]⟩
  · exact List.mem_flatMap.2 ⟨x3, m3, by rw [show fZ _ _ (CO b0 bs).lz = x3.lz from e3]; simp [Es, fZ]⟩
  · exact List.mem_flatMap.2 ⟨x4, m4, by rw [show fX (CO b0 bs).hx _ _ = x4.hx from e4]; simp [Es, fX]⟩
  · exact List.mem_flatMap.2 ⟨x5, m5, by rw [show fY _ (CO b0 bs).hy _ = x5.hy from e5]; simp [Es, fY]⟩
  · exact List.mem_flatMap.2 ⟨x6, m6, by rw [show fZ _ _ (CO b0 bs).hz = x6.hz from e6]; simp [Es, fZ]⟩
  · omega
  omega
theorem ptsA_app (f : Int → Int → Int → Int) (l m : List Bx) (x : Int) (h : x ∈ ED f l) : x ∈ ED f (l ++ m) := by
  unfold ED at *
  rw [List.flatMap_append]; exact List.mem_append_left _ h
theorem cuts_ok {bs hs : List Bx} (h : Eo bs hs) : CutOK (FJ fX (Cc bs) (bs ++ hs)) (ED fX (bs ++ hs)) (Cc bs).lx (Cc bs).hx ∧ CutOK (FJ fY (Cc bs) (bs ++ hs)) (ED fY (bs ++ hs)) (Cc bs).ly (Cc bs).hy ∧ CutOK (FJ fZ (Cc bs) (bs ++ hs)) (ED fZ (bs ++ hs)) (Cc bs).lz (Cc bs).hz := by
  have g := hull_ok h; exact ⟨cut_okF (ptsA_app _ _ _ _ g.lx) (ptsA_app _ _ _ _ g.hx) g.lt.1, cut_okF (ptsA_app _ _ _ _ g.ly) (ptsA_app _ _ _ _ g.hy) g.lt.2.1, cut_okF (ptsA_app _ _ _ _ g.lz) (ptsA_app _ _ _ _ g.hz) g.lt.2.2⟩
theorem cut_len {f : Int → Int → Int → Int} {h : Bx} {bs hs : List Bx} (hb : bs.length ≤ 20) (hh : hs.length ≤ 20) : (FJ f h (bs ++ hs)).length ≤ 80 := by
  have h1 := cmpR_len (srt (ptsF f h (bs ++ hs))); have h2 := compact_len (srt (ptsF f h (bs ++ hs))); have h3 := srt_len (ptsF f h (bs ++ hs)); have h4 := ptsF_len f h (bs ++ hs); rw [List.length_append] at h4
  unfold FJ
  omega
def Ew (l : List Int) (n : Nat) : Int × Int := ((l[n]?).getD 0, (l[n + 1]?).getD 0)
def Ct (p : Bx → Bool) (xs ys zs : List Int) (i k j : Nat) : List Bx :=
  DO p (Dy xs (i - 1)) (Dy ys (ys.length - 1)) (Dy zs (zs.length - 1)) ++ (DU p (Ew xs (i - 1)) (Dy ys (k - 1)) (Dy zs (zs.length - 1)) ++ DG p (Ew xs (i - 1)) (Ew ys (k - 1)) (Dy zs (j - 1)))
def Ff (p : Bx → Bool) (xs ys zs : List Int) : List Bx := DO p (Dy xs (xs.length - 1)) (Dy ys (ys.length - 1)) (Dy zs (zs.length - 1))
section
variable {p : Bx → Bool} {xs ys zs : List Int} {i k j : Nat}
theorem cA_n (i : Nat) : Ct p xs ys zs i 1 1 = DO p (Dy xs (i - 1)) (Dy ys (ys.length - 1)) (Dy zs (zs.length - 1)) := by
  unfold Ct
  show _ ++ ([] ++ []) = _
  simp
theorem cA_end : Ct p xs ys zs xs.length 1 1 = Ff p xs ys zs := cA_n _
theorem cA_z (hk : 1 ≤ k) : Ct p xs ys zs i k zs.length = Ct p xs ys zs i (k + 1) 1 := by
  obtain ⟨k, rfl⟩ : ∃ n, k = n + 1 := ⟨k - 1, by omega⟩
  have e : DU p (Ew xs (i - 1)) (Dy ys (k + 1)) (Dy zs (zs.length - 1)) = DU p (Ew xs (i - 1)) (Dy ys k) (Dy zs (zs.length - 1)) ++ DG p (Ew xs (i - 1)) (Ew ys k) (Dy zs (zs.length - 1)) := by
    rw [sgs_snoc, cellsY_snoc]; rfl
  unfold Ct
  simp only [Nat.add_sub_cancel]; rw [e]
  show _ = _ ++ ((_ ++ _) ++ [])
  rw [List.append_nil]
theorem cA_y (hi : 1 ≤ i) : Ct p xs ys zs i ys.length 1 = Ct p xs ys zs (i + 1) 1 1 := by
  obtain ⟨i, rfl⟩ : ∃ n, i = n + 1 := ⟨i - 1, by omega⟩
  have e : DO p (Dy xs (i + 1)) (Dy ys (ys.length - 1)) (Dy zs (zs.length - 1)) = DO p (Dy xs i) (Dy ys (ys.length - 1)) (Dy zs (zs.length - 1)) ++ DU p (Ew xs i) (Dy ys (ys.length - 1)) (Dy zs (zs.length - 1)) := by
    rw [sgs_snoc, cellsX_snoc]; rfl
  rw [cA_n]
  unfold Ct
  simp only [Nat.add_sub_cancel]; rw [e]
  show _ ++ (_ ++ []) = _
  rw [List.append_nil]
theorem cA_t (hj : 1 ≤ j) (h : p (bxOf (Ew xs (i - 1)) (Ew ys (k - 1)) (Ew zs (j - 1))) = true) : Ct p xs ys zs i k (j + 1) = Ct p xs ys zs i k j ++ [bxOf (Ew xs (i - 1)) (Ew ys (k - 1)) (Ew zs (j - 1))] := by
  obtain ⟨j, rfl⟩ : ∃ n, j = n + 1 := ⟨j - 1, by omega⟩
  unfold Ct
  simp only [Nat.add_sub_cancel] at h ⊢; rw [sgs_snoc, show ((zs[j]?).getD 0, (zs[j + 1]?).getD 0) = Ew zs j from rfl, cellsZ_t h, List.append_assoc, List.append_assoc]
theorem cA_f (hj : 1 ≤ j) (h : p (bxOf (Ew xs (i - 1)) (Ew ys (k - 1)) (Ew zs (j - 1))) = false) : Ct p xs ys zs i k (j + 1) = Ct p xs ys zs i k j := by
  obtain ⟨j, rfl⟩ : ∃ n, j = n + 1 := ⟨j - 1, by omega⟩
  unfold Ct
  simp only [Nat.add_sub_cancel] at h ⊢; rw [sgs_snoc, show ((zs[j]?).getD 0, (zs[j + 1]?).getD 0) = Ew zs j from rfl, cellsZ_f h]
theorem sgs_pre {l : List Int} {n m : Nat} (h : n ≤ m) : ∃ t, Dy l m = Dy l n ++ t := by
  refine ⟨(Dy l m).drop n, ?_⟩
  have : Dy l n = (Dy l m).take n := by
    unfold Dy
    rw [← List.map_take, List.take_range, Nat.min_eq_left h]
  rw [this, List.take_append_drop]
theorem cA_pre (hi : 1 ≤ i) (hi2 : i < xs.length) (hk : 1 ≤ k) (hk2 : k < ys.length) (hj2 : j ≤ zs.length) : ∃ t, Ff p xs ys zs = Ct p xs ys zs i k j ++ t := by
  obtain ⟨t1, h1⟩ := sgs_pre (l := zs) (n := j - 1) (m := zs.length - 1) (by omega); obtain ⟨t2, h2⟩ := sgs_pre (l := ys) (n := k) (m := ys.length - 1) (by omega); obtain ⟨t3, h3⟩ := sgs_pre (l := xs) (n := i) (m := xs.length - 1) (by omega)
  have a1 : ∃ t, Ct p xs ys zs i k zs.length = Ct p xs ys zs i k j ++ t := ⟨DG p (Ew xs (i - 1)) (Ew ys (k - 1)) t1, by
    unfold Ct
    rw [show DG p (Ew xs (i - 1)) (Ew ys (k - 1)) (Dy zs (zs.length - 1)) = DG p (Ew xs (i - 1)) (Ew ys (k - 1)) (Dy zs (j - 1)) ++ DG p (Ew xs (i - 1)) (Ew ys (k - 1)) t1 by rw [h1]; simp [DG]]
    simp only [List.append_assoc]⟩
  have a2 : ∃ t, Ct p xs ys zs i ys.length 1 = Ct p xs ys zs i (k + 1) 1 ++ t := ⟨DU p (Ew xs (i - 1)) t2 (Dy zs (zs.length - 1)), by
    unfold Ct
    simp only [Nat.add_sub_cancel]; rw [show DU p (Ew xs (i - 1)) (Dy ys (ys.length - 1)) (Dy zs (zs.length - 1)) = DU p (Ew xs (i - 1)) (Dy ys k) (Dy zs (zs.length - 1)) ++ DU p (Ew xs (i - 1)) t2 (Dy zs (zs.length - 1)) by rw [h2]; simp [DU]]
    show _ ++ (_ ++ []) = _ ++ (_ ++ []) ++ _
    simp only [List.append_nil, List.append_assoc]⟩
  have a3 : ∃ t, Ff p xs ys zs = Ct p xs ys zs (i + 1) 1 1 ++ t := ⟨DO p t3 (Dy ys (ys.length - 1)) (Dy zs (zs.length - 1)), by
    rw [cA_n]; simp only [Nat.add_sub_cancel]
    unfold Ff
    rw [h3]
    simp [DO]⟩
  obtain ⟨u1, g1⟩ := a1; obtain ⟨u2, g2⟩ := a2; obtain ⟨u3, g3⟩ := a3; rw [cA_z hk] at g1; rw [cA_y hi] at g2; exact ⟨u1 ++ u2 ++ u3, by rw [g3, g2, g1]; simp only [List.append_assoc]⟩
end
end Go.Proofs.YtlpgjlnkfgacbaaGreatDoor
