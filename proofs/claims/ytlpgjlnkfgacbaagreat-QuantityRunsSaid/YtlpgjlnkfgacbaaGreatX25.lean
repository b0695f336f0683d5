/-
  Part 25 of the proof: functions walked on the abstract machine.
  Conditions: none.
-/
import Derived.Test.YtlpgjlnkfgacbaaGreatX24
set_option linter.unusedSimpArgs false
set_option linter.unusedVariables false
set_option maxRecDepth 100000
set_option maxHeartbeats 1000000
namespace Go.Proofs.YtlpgjlnkfgacbaaGreat
open Go Go.AM
theorem turned_bd {bars : List Bar} {r : Rn} {p : P3} (h : p ∈ turnedV bars r) : isPl p 10000000 := by
  unfold turnedV frV at h
  split at h
  · rename_i he
    obtain ⟨q, hq, rfl⟩ := List.mem_map.1 h
    have hn : nearL (shpV (lineOf bars r.mark)) := by
      unfold frE at he
      by_cases h1 : turnOK r.tx r.ty
      · rw [if_pos h1] at he
        by_cases h2 : (shpV (lineOf bars r.mark)).length ≤ 1000
        · rw [if_pos h2] at he
          by_cases h3 : near1 (0, 0, 0) ∧ nearL (shpV (lineOf bars r.mark))
          · exact h3.2
          rw [if_neg h3] at he; omega
        rw [if_neg h2] at he; omega
      rw [if_neg h1] at he; omega
    have hq1 := hn q hq; obtain ⟨e1, e2⟩ := im_bd (x := r.tx) (y := r.ty) hq1 1; obtain ⟨e3, e4⟩ := im_bd (x := r.tx) (y := r.ty) hq1 2; obtain ⟨e5, e6⟩ := im_bd (x := r.tx) (y := r.ty) hq1 3; obtain ⟨e7, e8, e9⟩ := im_bd3 (x := r.tx) (y := r.ty) hq1
    unfold isPl addP imP
    dsimp only
    omega
  cases h
theorem turnedV_len (bars : List Bar) (r : Rn) : (turnedV bars r).length ≤ 7 := by
  have := shpV_len (lineOf bars r.mark)
  unfold turnedV frV
  split
  · rw [List.length_map]; omega
  simp
theorem pl_mono {p : P3} {a b : Int} (h : isPl p a) (hab : a ≤ b) : isPl p b := by
  unfold isPl at *
  omega
theorem plus_bd {p q : P3} {k : Int} (hp : isPl p 10000000) (hq : isPl q 2097152) (hk : k = 1) : isPl (plusP p q k) 100000000 := by
  subst hk
  unfold isPl plusP at *
  dsimp only
  omega
theorem pt_t {r : Rn} {k : Int} {p : P3} (h : k > 0) : ptP r k p = plusP (plusP p r.at 1) r.st k := if_pos h
theorem pt_f {r : Rn} {k : Int} {p : P3} (h : ¬ k > 0) : ptP r k p = plusP p r.at 1 := if_neg h
def ptsOK (bars : List Bar) (r : Rn) (k : Nat) : Prop := (1 ≤ k → ∀ p ∈ turnedV bars r, isPl (ptP r 0 p) 1048576) ∧ (2 ≤ k → ∀ p ∈ turnedV bars r, isPl (ptP r (r.n - 1) p) 1048576)
theorem laidRight_fun (bars : List Bar) (r : Rn) (hlen : bars.length ≤ 140737488355328) (hw : schedW bars) (hrw : r.mark.length ≤ 140737488355328) : Fun Tryz.prog 92 [.sh 5 (bars.map Bar.c), .agg r.c] (Ret (bL (decide (rightP bars r))) []) := by
  have hmb := markI_bd bars r.mark; have htl := turnedV_len bars r; refine Fun.of (nt := 87) (rs := [.tmp 4]) Tryz.func92 rfl rfl rfl rfl rfl (Ev.sr fun _ z=>S.nn (q.bx _ true) (S.o q.as (S.e z (Ev.seq (Ev.sr fun _ z=>S.o q.mv (S.o (q.fa 0 am_fi40_0 am_cl9) (S.o (q.lv am_ag9) (S.c0 (hF := laidFind_fun bars r.mark hlen) (h := S.o q.lss (S.bd q.mv (fun c1 => ?_) (fun c1 => ?_)))))))))))
  · refine S.s2 (S.s2 (S.o q.pt (S.o q.mv (S.s2 (S.sk (S.o q.pt (S.o q.mv (S.s2 (S.sk (S.o q.pt (S.o q.mv (S.s2 (S.s2 (S.o q.pt (S.e z (Ev.ct (Ev.sr fun _ z=>S.o q.as (S.e z (Ev.ret (Ev.p1 ?_)))))))))))))))))))); exact bF (fun h => by have h1 := h.1; omega)
  refine S.o (q.fa 1 am_fi40_1 am_cl36) (S.o (q.lvA _ am_ag36 am_cl36) (S.c0 (hF := turnValid_fun r.tx r.ty) (h := S.o q.not (S.o q.pf (S.bn q.mv (fun c2 => ?_) (fun c2 => ?_))))))
  · refine S.s2 (S.sk (S.o q.pt (S.o q.mv (S.s2 (S.sk (S.o q.pt (S.o q.mv (S.s2 (S.s2 (S.o q.pt (S.e z (Ev.ct (Ev.sr fun _ z=>S.o q.as (S.e z (Ev.ret (Ev.p1 ?_)))))))))))))))); exact bF (fun h => absurd h.2.1 ‹¬ turnOK r.tx r.ty›)
  refine S.o (q.fa 9 am_fi40_4 am_cl3) (S.o (q.lv am_ag3) (S.o q.lss (S.o q.pf (S.bd q.mv (fun c3 => ?_) (fun c3 => ?_)))))
  · refine S.s2 (S.sk (S.o q.pt (S.o q.mv (S.s2 (S.s2 (S.o q.pt (S.e z (Ev.ct (Ev.sr fun _ z=>S.o q.as (S.e z (Ev.ret (Ev.p1 ?_)))))))))))); exact bF (fun h => by have h1 := h.2.2.1; omega)
  refine S.o (q.fa 9 am_fi40_4 am_cl3) (S.o (q.lv am_ag3) (S.o q.gtr (S.o q.pf (S.bd q.mv (fun c4 => ?_) (fun c4 => ?_)))))
  · refine S.s2 (S.s2 (S.o q.pt (S.e z (Ev.ct (Ev.sr fun _ z=>S.o q.as (S.e z (Ev.ret (Ev.p1 ?_)))))))); exact bF (fun h => by have h1 := h.2.2.1; omega)
  refine S.o (q.fa 3 am_fi40_2 am_cl38) (S.o (q.lvA _ am_ag38 am_cl38) (S.c0 (hF := isPlace_fun r.at 1048576 (by omega)) (h := S.o q.not (S.o q.pf (S.e z (Ev.cn (fun c5 => ?_) (fun c5 => ?_)))))))
  · refine Ev.sr fun _ z=>S.o q.as (S.e z (Ev.ret (Ev.p1 ?_))); exact bF (fun h => absurd h.2.2.2.1 ‹¬ isPl r.at 1048576›)
  refine Ev.skip (Ev.seq (Ev.sr fun _ z=>S.o (q.fa 9 am_fi40_4 am_cl3) (S.o (q.lv am_ag3) (S.o q.gtr (S.bd q.mv (fun c6 => ?_) (fun c6 => ?_))))))
  · refine S.o (q.fa 6 am_fi40_3 am_cl38) (S.o (q.lvA _ am_ag38 am_cl38) (S.o (q.bd _ am_ze38 am_pl38) (S.o (q.seql am_eq38 (am_sq38 _ _ _ _ _ _)) (S.bb q.mv (fun c7 => ?_) (fun c7 => ?_)))))
    · refine S.s2 (S.s2 (S.o q.pt (S.o q.pt (S.e z (Ev.ct (Ev.sr fun _ z=>S.o q.as (S.e z (Ev.ret (Ev.p1 ?_))))))))); exact bF (fun h => by have h1 := (h.2.2.2.2.1 (by omega)).1; simp_all)
    refine S.o (q.fa 6 am_fi40_3 am_cl38) (S.o (q.lvA _ am_ag38 am_cl38) (S.c0 (hF := isPlace_fun r.st 2097152 (by omega)) (h := S.o q.not (S.o q.pf (S.o q.pt (S.e z (Ev.cn (fun c8 => ?_) (fun c8 => ?_))))))))
    · refine Ev.sr fun _ z=>S.o q.as (S.e z (Ev.ret (Ev.p1 ?_))); exact bF (fun h => absurd (h.2.2.2.2.1 (by omega)).2 ‹¬ isPl r.st 2097152›)
    refine Ev.skip ?_; have hto : turnOK r.tx r.ty := ‹_›; have hat : isPl r.at 1048576 := ‹_›
    have hst : r.n > 1 → isPl r.st 2097152 := by exact fun _ => ‹isPl r.st 2097152›
    have hst2 : r.n > 1 → ¬ (r.sx = 0 ∧ r.sy = 0 ∧ r.sz = 0) := by intro _ hz; simp_all
    refine Ev.sr fun _ z=>S.o q.mv (S.o (q.lvA _ am_ag40 am_cl40) (S.c0 (hF := turned_fun bars r hlen hw (by omega)) (h := S.o q.as (S.e z (Ev.seq (Ev.sr fun _ z=>S.o (q.fa 9 am_fi40_4 am_cl3) (S.o (q.lv am_ag3) (S.o q.sub (S.nn (q.bs [[_], [_]] true am_el56 am_ze3 am_cl3) (S.o (q.lena am_el56) (S.o q.mv (S.e z (Ev.block (Ev.loopU (ι := {k : Nat // k ≤ 2 ∧ ptsOK bars r k}) [1, 0] [3, 5, 60] (fun ⟨k, _⟩ => [(61, iL (k : Int)), (59, .als 0 0 ([0, r.n - 1]).length)]) (fun ⟨k, _⟩ => [(0, ⟨true, 3, 1, ([0, r.n - 1]).map intC, true⟩), (1, ⟨false, 40, 10, [[sL (r.mark), iL (r.tx), iL (r.ty), iL (r.ax), iL (r.ay), iL (r.az), iL (r.sx), iL (r.sy), iL (r.sz), iL (r.n)]], true⟩)]) (fun ⟨k, _⟩ => 2 - k) ⟨0, by decide, fun h => absurd h (by decide), fun h => absurd h (by decide)⟩ (.c (.c (.c .n))) (keep_c (h := (keep_c))) (slots_c (h := (slots_c))) ?_)))))))))))))); rintro ⟨k, hk, hok⟩ R0 hR0; dsimp only [cA, nA, lC, lN]
    have hk3 : k = 2 ∨ k = 0 ∨ k = 1 := by omega
    rcases hk3 with hk3 | hk3 | hk3
    · subst hk3; refine Ev.sr fun _ z=>S.o q.lss (S.e z (Ev.ud (fun c9 => ?_) (fun c9 => ?_)))
      · omega
      refine Ev.exit (hR0 _ _ (Ev.sr fun _ z=>S.o q.as (S.e z (Ev.ret (Ev.p1 ?_))))); exact bT ⟨by omega, hto, by omega, hat, fun h => ⟨hst2 h, hst h⟩, hok.1 (by omega), hok.2 (by omega)⟩
    · subst hk3; obtain ⟨v, hv⟩ : ∃ v : Int, v = 0 := ⟨_, rfl⟩
      have hidx : [0, r.n - 1][0]? = some v := by rw [hv]; rfl
      have hv0 : 0 ≤ v ∧ v ≤ 1000 ∧ (v > 0 → r.n > 1) := by omega
      have hnx : (∀ p ∈ turnedV bars r, isPl (ptP r v p) 1048576) → ptsOK bars r 1 := fun h => ⟨fun _ => by rw [← hv]; exact h, fun h2 => absurd h2 (by decide)⟩
      have hall0 : rightP bars r → ∀ p ∈ turnedV bars r, isPl (ptP r v p) 1048576 := fun h => by rw [hv]; exact h.2.2.2.2.2.1
      refine Ev.sr fun _ z=>S.o q.lss (S.e z (Ev.ud (fun c10 => ?_) (fun c10 => ?_)))
      · refine Ev.seq (Ev.block (Ev.sr fun _ z=>S.o (q.ia am_el56 am_cl3) (S.o (q.lx am_ag3 (hl := (by exact at_ hidx (by omega)))) (S.o q.as (S.e z (Ev.sr fun _ z=>S.o q.mv (S.o (q.lens am_el136) (S.o q.mv (S.e z (Ev.block (Ev.loopU (ι := {q : List (Int × Int × Int) × List (Int × Int × Int) // q.1 ++ q.2 = turnedV bars r ∧ ∀ p ∈ q.1, isPl (ptP r v p) 1048576}) [0, 1] [3, 5, 7, 60, 61, 65, 66] (fun ⟨(pre, suf), _⟩ => [(67, iL (pre.length : Int)), (59, .als 0 0 ([0, r.n - 1]).length)]) (fun ⟨(pre, suf), _⟩ => [(0, ⟨true, 3, 1, ([0, r.n - 1]).map intC, true⟩), (1, ⟨false, 40, 10, [[sL (r.mark), iL (r.tx), iL (r.ty), iL (r.ax), iL (r.ay), iL (r.az), iL (r.sx), iL (r.sy), iL (r.sz), iL (r.n)]], true⟩)]) (fun ⟨(pre, suf), _⟩ => suf.length) ⟨([], (turnedV bars r)), rfl, fun x hx => by simp at hx⟩ (.c (.c (.c (.c (.c (.c (.c .n))))))) (keep_c (h := (keep_c))) (slots_c (h := (slots_c))) ?_))))))))))); rintro ⟨⟨pre, suf⟩, hp, hinv⟩ R2 hR2; dsimp only [cA, nA, lC, lN]
        simp only at hp hinv
        have hpl := lenA hp
        rcases suf with _ | ⟨s, suf⟩
        · rw [List.append_nil] at hp; simp only [lN] at hpl; refine Ev.sr fun _ z=>S.o q.lss (S.e z (Ev.ud (fun c11 => ?_) (fun c11 => ?_)))
          · omega
          refine Ev.exit (hR2 _ _ (Ev.region_S fun _ z=>S.o q.add (S.o q.mv (S.e z (hR0 _ _ (roundU [0, 1] [3, 5, 60] ⟨_, by decide, hnx (by rw [← hp]; exact hinv)⟩ ?_ (keep_c (h := (keep_c))) (slots_c (h := (slots_c))) (.c (.c (.c .n))))))))); skip; all_goals (dsimp only; omega)
        simp only [lC] at hpl
        have hidx2 : (turnedV bars r)[pre.length]? = some s := by rw [← hp]; simp
        have hms := memA hp; obtain ⟨a, b, c⟩ := s; have hpb := turned_bd hms; have hall := fun h => hall0 h _ hms; refine Ev.sr fun _ z=>S.o q.lss (S.e z (Ev.ud (fun c12 => ?_) (fun c12 => ?_)))
        · refine Ev.seq (Ev.block (Ev.sr fun _ z=>S.o (q.ix am_el136 am_cl38 (hl := (by exact ati hidx2 (by omega)))) (S.o (q.lsA _ am_ag38 am_cl38) (S.nn (q.al am_ze38) (S.sv _ true [_, _] am_in38 am_cl38 (h := S.e z (Ev.sr fun _ z=>S.o (q.lvA _ am_ag38 am_cl38) (S.o (q.fa 3 am_fi40_2 am_cl38) (S.o (q.lvA _ am_ag38 am_cl38) (S.c0 (hF := plus_fun (a, b, c) r.at 1 (pl_mono hpb (by omega)) (pl_mono hat (by omega)) (by omega)) (h := S.nn (q.al am_ze38) (S.sv _ true [_, _, _] am_in38 am_cl38 (h := S.e z (Ev.seq (Ev.sr fun _ z=>S.o q.mv (S.o q.gtr (S.e z (Ev.cd (fun c13 => ?_) (fun c13 => ?_)))))))))))))))))))
          · omega
          refine Ev.skip (Ev.sr fun _ z=>S.o (q.lvA _ am_ag38 am_cl38) (S.c0 (hF := (by exact isPlace_fun (plusP (a, b, c) r.at 1) 1048576 (by omega))) (h := S.o q.not (S.e z (Ev.cn (fun c15 => ?_) (fun c15 => ?_))))))
          · refine Ev.sr fun _ z=>S.o q.as (S.e z (Ev.ret (hR2 _ _ (hR0 _ _ (Ev.p1 ?_))))); exact bF (fun h => by have h1 := hall h; rw [pt_f ‹_›] at h1; exact absurd h1 ‹_›)
          refine Ev.skip (Ev.region_S fun _ z=>S.o q.add (S.o q.mv (S.e z (hR2 _ _ (roundU [0, 1] [3, 5, 7, 60, 61, 65, 66] ⟨(pre ++ [(a, b, c)], suf), sucA hp, ?_⟩ muL (keep_c (h := (keep_c))) (slots_c (he := (by congr 2; simp)) (h := (slots_c))) (.c (.c (.c (.c (.c (.c (.c .n)))))))))))); intro x hx
          rcases List.mem_append.1 hx with hx | hx
          · exact hinv x hx
          · rw [List.mem_singleton] at hx; subst hx; (rw [pt_f ‹_›]; assumption)
        omega
      omega
    subst hk3; obtain ⟨v, hv⟩ : ∃ v : Int, v = r.n - 1 := ⟨_, rfl⟩
    have hidx : [0, r.n - 1][1]? = some v := by rw [hv]; rfl
    have hv0 : 0 ≤ v ∧ v ≤ 1000 ∧ (v > 0 → r.n > 1) := by omega
    have hnx : (∀ p ∈ turnedV bars r, isPl (ptP r v p) 1048576) → ptsOK bars r 2 := fun h => ⟨fun _ => hok.1 (by decide), fun _ => by rw [← hv]; exact h⟩
    have hall0 : rightP bars r → ∀ p ∈ turnedV bars r, isPl (ptP r v p) 1048576 := fun h => by rw [hv]; exact h.2.2.2.2.2.2
    refine Ev.sr fun _ z=>S.o q.lss (S.e z (Ev.ud (fun c16 => ?_) (fun c16 => ?_)))
    · refine Ev.seq (Ev.block (Ev.sr fun _ z=>S.o (q.ia am_el56 am_cl3) (S.o (q.lx am_ag3 (hl := (by exact at_ hidx (by omega)))) (S.o q.as (S.e z (Ev.sr fun _ z=>S.o q.mv (S.o (q.lens am_el136) (S.o q.mv (S.e z (Ev.block (Ev.loopU (ι := {q : List (Int × Int × Int) × List (Int × Int × Int) // q.1 ++ q.2 = turnedV bars r ∧ ∀ p ∈ q.1, isPl (ptP r v p) 1048576}) [0, 1] [3, 5, 7, 60, 61, 65, 66] (fun ⟨(pre, suf), _⟩ => [(67, iL (pre.length : Int)), (59, .als 0 0 ([0, r.n - 1]).length)]) (fun ⟨(pre, suf), _⟩ => [(0, ⟨true, 3, 1, ([0, r.n - 1]).map intC, true⟩), (1, ⟨false, 40, 10, [[sL (r.mark), iL (r.tx), iL (r.ty), iL (r.ax), iL (r.ay), iL (r.az), iL (r.sx), iL (r.sy), iL (r.sz), iL (r.n)]], true⟩)]) (fun ⟨(pre, suf), _⟩ => suf.length) ⟨([], (turnedV bars r)), rfl, fun x hx => by simp at hx⟩ (.c (.c (.c (.c (.c (.c (.c .n))))))) (keep_c (h := (keep_c))) (slots_c (h := (slots_c))) ?_))))))))))); rintro ⟨⟨pre, suf⟩, hp, hinv⟩ R2 hR2; dsimp only [cA, nA, lC, lN]
      simp only at hp hinv
      have hpl := lenA hp
      rcases suf with _ | ⟨s, suf⟩
      · rw [List.append_nil] at hp; simp only [lN] at hpl; refine Ev.sr fun _ z=>S.o q.lss (S.e z (Ev.ud (fun c17 => ?_) (fun c17 => ?_)))
        · omega
        refine Ev.exit (hR2 _ _ (Ev.region_S fun _ z=>S.o q.add (S.o q.mv (S.e z (hR0 _ _ (roundU [0, 1] [3, 5, 60] ⟨_, by decide, hnx (by rw [← hp]; exact hinv)⟩ ?_ (keep_c (h := (keep_c))) (slots_c (h := (slots_c))) (.c (.c (.c .n))))))))); skip; all_goals (dsimp only; omega)
      simp only [lC] at hpl
      have hidx2 : (turnedV bars r)[pre.length]? = some s := by rw [← hp]; simp
      have hms := memA hp; obtain ⟨a, b, c⟩ := s; have hpb := turned_bd hms; have hall := fun h => hall0 h _ hms; refine Ev.sr fun _ z=>S.o q.lss (S.e z (Ev.ud (fun c18 => ?_) (fun c18 => ?_)))
      · refine Ev.seq (Ev.block (Ev.sr fun _ z=>S.o (q.ix am_el136 am_cl38 (hl := (by exact ati hidx2 (by omega)))) (S.o (q.lsA _ am_ag38 am_cl38) (S.nn (q.al am_ze38) (S.sv _ true [_, _] am_in38 am_cl38 (h := S.e z (Ev.sr fun _ z=>S.o (q.lvA _ am_ag38 am_cl38) (S.o (q.fa 3 am_fi40_2 am_cl38) (S.o (q.lvA _ am_ag38 am_cl38) (S.c0 (hF := plus_fun (a, b, c) r.at 1 (pl_mono hpb (by omega)) (pl_mono hat (by omega)) (by omega)) (h := S.nn (q.al am_ze38) (S.sv _ true [_, _, _] am_in38 am_cl38 (h := S.e z (Ev.seq (Ev.sr fun _ z=>S.o q.mv (S.o q.gtr (S.e z (Ev.cd (fun c19 => ?_) (fun c19 => ?_)))))))))))))))))))
        · refine Ev.region_S fun _ z=>S.o (q.lvA _ am_ag38 am_cl38) (S.o (q.fa 6 am_fi40_3 am_cl38) (S.o (q.lvA _ am_ag38 am_cl38) (S.o q.mv (S.c0 (hF := plus_fun (plusP (a, b, c) r.at 1) r.st v (plus_bd hpb (pl_mono hat (by omega)) rfl) (hst (by omega)) (by omega)) (h := S.sv _ true [_, _, _] am_in38 am_cl38 (h := S.e z ?_)))))); show Ev _ _ _ _; refine Ev.sr fun _ z=>S.o (q.lvA _ am_ag38 am_cl38) (S.c0 (hF := (by exact isPlace_fun (plusP (plusP (a, b, c) r.at 1) r.st v) 1048576 (by omega))) (h := S.o q.not (S.e z (Ev.cn (fun c20 => ?_) (fun c20 => ?_)))))
          · refine Ev.sr fun _ z=>S.o q.as (S.e z (Ev.ret (hR2 _ _ (hR0 _ _ (Ev.p1 ?_))))); exact bF (fun h => by have h1 := hall h; rw [pt_t ‹_›] at h1; exact absurd h1 ‹_›)
          refine Ev.skip (Ev.region_S fun _ z=>S.o q.add (S.o q.mv (S.e z (hR2 _ _ (roundU [0, 1] [3, 5, 7, 60, 61, 65, 66] ⟨(pre ++ [(a, b, c)], suf), sucA hp, ?_⟩ muL (keep_c (h := (keep_c))) (slots_c (he := (by congr 2; simp)) (h := (slots_c))) (.c (.c (.c (.c (.c (.c (.c .n)))))))))))); intro x hx
          rcases List.mem_append.1 hx with hx | hx
          · exact hinv x hx
          · rw [List.mem_singleton] at hx; subst hx; (rw [pt_t ‹_›]; assumption)
        omega
      omega
    omega
  refine S.s2 (S.s2 (S.s2 (S.s2 (S.s2 (S.o q.pf (S.e z (Ev.cf (Ev.skip ?_)))))))); have hto : turnOK r.tx r.ty := ‹_›; have hat : isPl r.at 1048576 := ‹_›
  have hst : r.n > 1 → isPl r.st 2097152 := by exact fun h => absurd h (by omega)
  have hst2 : r.n > 1 → ¬ (r.sx = 0 ∧ r.sy = 0 ∧ r.sz = 0) := by exact fun h => absurd h (by omega)
  refine Ev.sr fun _ z=>S.o q.mv (S.o (q.lvA _ am_ag40 am_cl40) (S.c0 (hF := turned_fun bars r hlen hw (by omega)) (h := S.o q.as (S.e z (Ev.seq (Ev.sr fun _ z=>S.o (q.fa 9 am_fi40_4 am_cl3) (S.o (q.lv am_ag3) (S.o q.sub (S.nn (q.bs [[_], [_]] true am_el56 am_ze3 am_cl3) (S.o (q.lena am_el56) (S.o q.mv (S.e z (Ev.block (Ev.loopU (ι := {k : Nat // k ≤ 2 ∧ ptsOK bars r k}) [1, 0] [3, 5, 60] (fun ⟨k, _⟩ => [(61, iL (k : Int)), (59, .als 0 0 ([0, r.n - 1]).length)]) (fun ⟨k, _⟩ => [(0, ⟨true, 3, 1, ([0, r.n - 1]).map intC, true⟩), (1, ⟨false, 40, 10, [[sL (r.mark), iL (r.tx), iL (r.ty), iL (r.ax), iL (r.ay), iL (r.az), iL (r.sx), iL (r.sy), iL (r.sz), iL (r.n)]], true⟩)]) (fun ⟨k, _⟩ => 2 - k) ⟨0, by decide, fun h => absurd h (by decide), fun h => absurd h (by decide)⟩ (.c (.c (.c .n))) (keep_c (h := (keep_c))) (slots_c (h := (slots_c))) ?_)))))))))))))); rintro ⟨k, hk, hok⟩ R0 hR0; dsimp only [cA, nA, lC, lN]
  have hk3 : k = 2 ∨ k = 0 ∨ k = 1 := by omega
  rcases hk3 with hk3 | hk3 | hk3
  · subst hk3; refine Ev.sr fun _ z=>S.o q.lss (S.e z (Ev.ud (fun c22 => ?_) (fun c22 => ?_)))
    · omega
    refine Ev.exit (hR0 _ _ (Ev.sr fun _ z=>S.o q.as (S.e z (Ev.ret (Ev.p1 ?_))))); exact bT ⟨by omega, hto, by omega, hat, fun h => ⟨hst2 h, hst h⟩, hok.1 (by omega), hok.2 (by omega)⟩
  · subst hk3; obtain ⟨v, hv⟩ : ∃ v : Int, v = 0 := ⟨_, rfl⟩
    have hidx : [0, r.n - 1][0]? = some v := by rw [hv]; rfl
    have hv0 : 0 ≤ v ∧ v ≤ 1000 ∧ (v > 0 → r.n > 1) := by omega
    have hnx : (∀ p ∈ turnedV bars r, isPl (ptP r v p) 1048576) → ptsOK bars r 1 := fun h => ⟨fun _ => by rw [← hv]; exact h, fun h2 => absurd h2 (by decide)⟩
    have hall0 : rightP bars r → ∀ p ∈ turnedV bars r, isPl (ptP r v p) 1048576 := fun h => by rw [hv]; exact h.2.2.2.2.2.1
    refine Ev.sr fun _ z=>S.o q.lss (S.e z (Ev.ud (fun c23 => ?_) (fun c23 => ?_)))
    · refine Ev.seq (Ev.block (Ev.sr fun _ z=>S.o (q.ia am_el56 am_cl3) (S.o (q.lx am_ag3 (hl := (by exact at_ hidx (by omega)))) (S.o q.as (S.e z (Ev.sr fun _ z=>S.o q.mv (S.o (q.lens am_el136) (S.o q.mv (S.e z (Ev.block (Ev.loopU (ι := {q : List (Int × Int × Int) × List (Int × Int × Int) // q.1 ++ q.2 = turnedV bars r ∧ ∀ p ∈ q.1, isPl (ptP r v p) 1048576}) [0, 1] [3, 5, 7, 60, 61, 65, 66] (fun ⟨(pre, suf), _⟩ => [(67, iL (pre.length : Int)), (59, .als 0 0 ([0, r.n - 1]).length)]) (fun ⟨(pre, suf), _⟩ => [(0, ⟨true, 3, 1, ([0, r.n - 1]).map intC, true⟩), (1, ⟨false, 40, 10, [[sL (r.mark), iL (r.tx), iL (r.ty), iL (r.ax), iL (r.ay), iL (r.az), iL (r.sx), iL (r.sy), iL (r.sz), iL (r.n)]], true⟩)]) (fun ⟨(pre, suf), _⟩ => suf.length) ⟨([], (turnedV bars r)), rfl, fun x hx => by simp at hx⟩ (.c (.c (.c (.c (.c (.c (.c .n))))))) (keep_c (h := (keep_c))) (slots_c (h := (slots_c))) ?_))))))))))); rintro ⟨⟨pre, suf⟩, hp, hinv⟩ R2 hR2; dsimp only [cA, nA, lC, lN]
      simp only at hp hinv
      have hpl := lenA hp
      rcases suf with _ | ⟨s, suf⟩
      · rw [List.append_nil] at hp; simp only [lN] at hpl; refine Ev.sr fun _ z=>S.o q.lss (S.e z (Ev.ud (fun c24 => ?_) (fun c24 => ?_)))
        · omega
        refine Ev.exit (hR2 _ _ (Ev.region_S fun _ z=>S.o q.add (S.o q.mv (S.e z (hR0 _ _ (roundU [0, 1] [3, 5, 60] ⟨_, by decide, hnx (by rw [← hp]; exact hinv)⟩ ?_ (keep_c (h := (keep_c))) (slots_c (h := (slots_c))) (.c (.c (.c .n))))))))); skip; all_goals (dsimp only; omega)
      simp only [lC] at hpl
      have hidx2 : (turnedV bars r)[pre.length]? = some s := by rw [← hp]; simp
      have hms := memA hp; obtain ⟨a, b, c⟩ := s; have hpb := turned_bd hms; have hall := fun h => hall0 h _ hms; refine Ev.sr fun _ z=>S.o q.lss (S.e z (Ev.ud (fun c25 => ?_) (fun c25 => ?_)))
      · refine Ev.seq (Ev.block (Ev.sr fun _ z=>S.o (q.ix am_el136 am_cl38 (hl := (by exact ati hidx2 (by omega)))) (S.o (q.lsA _ am_ag38 am_cl38) (S.nn (q.al am_ze38) (S.sv _ true [_, _] am_in38 am_cl38 (h := S.e z (Ev.sr fun _ z=>S.o (q.lvA _ am_ag38 am_cl38) (S.o (q.fa 3 am_fi40_2 am_cl38) (S.o (q.lvA _ am_ag38 am_cl38) (S.c0 (hF := plus_fun (a, b, c) r.at 1 (pl_mono hpb (by omega)) (pl_mono hat (by omega)) (by omega)) (h := S.nn (q.al am_ze38) (S.sv _ true [_, _, _] am_in38 am_cl38 (h := S.e z (Ev.seq (Ev.sr fun _ z=>S.o q.mv (S.o q.gtr (S.e z (Ev.cd (fun c26 => ?_) (fun c26 => ?_)))))))))))))))))))
        · omega
        refine Ev.skip (Ev.sr fun _ z=>S.o (q.lvA _ am_ag38 am_cl38) (S.c0 (hF := (by exact isPlace_fun (plusP (a, b, c) r.at 1) 1048576 (by omega))) (h := S.o q.not (S.e z (Ev.cn (fun c28 => ?_) (fun c28 => ?_))))))
        · refine Ev.sr fun _ z=>S.o q.as (S.e z (Ev.ret (hR2 _ _ (hR0 _ _ (Ev.p1 ?_))))); exact bF (fun h => by have h1 := hall h; rw [pt_f ‹_›] at h1; exact absurd h1 ‹_›)
        refine Ev.skip (Ev.region_S fun _ z=>S.o q.add (S.o q.mv (S.e z (hR2 _ _ (roundU [0, 1] [3, 5, 7, 60, 61, 65, 66] ⟨(pre ++ [(a, b, c)], suf), sucA hp, ?_⟩ muL (keep_c (h := (keep_c))) (slots_c (he := (by congr 2; simp)) (h := (slots_c))) (.c (.c (.c (.c (.c (.c (.c .n)))))))))))); intro x hx
        rcases List.mem_append.1 hx with hx | hx
        · exact hinv x hx
        · rw [List.mem_singleton] at hx; subst hx; (rw [pt_f ‹_›]; assumption)
      omega
    omega
  subst hk3; obtain ⟨v, hv⟩ : ∃ v : Int, v = r.n - 1 := ⟨_, rfl⟩
  have hidx : [0, r.n - 1][1]? = some v := by rw [hv]; rfl
  have hv0 : 0 ≤ v ∧ v ≤ 1000 ∧ (v > 0 → r.n > 1) := by omega
  have hnx : (∀ p ∈ turnedV bars r, isPl (ptP r v p) 1048576) → ptsOK bars r 2 := fun h => ⟨fun _ => hok.1 (by decide), fun _ => by rw [← hv]; exact h⟩
  have hall0 : rightP bars r → ∀ p ∈ turnedV bars r, isPl (ptP r v p) 1048576 := fun h => by rw [hv]; exact h.2.2.2.2.2.2
  refine Ev.sr fun _ z=>S.o q.lss (S.e z (Ev.ud (fun c29 => ?_) (fun c29 => ?_)))
  · refine Ev.seq (Ev.block (Ev.sr fun _ z=>S.o (q.ia am_el56 am_cl3) (S.o (q.lx am_ag3 (hl := (by exact at_ hidx (by omega)))) (S.o q.as (S.e z (Ev.sr fun _ z=>S.o q.mv (S.o (q.lens am_el136) (S.o q.mv (S.e z (Ev.block (Ev.loopU (ι := {q : List (Int × Int × Int) × List (Int × Int × Int) // q.1 ++ q.2 = turnedV bars r ∧ ∀ p ∈ q.1, isPl (ptP r v p) 1048576}) [0, 1] [3, 5, 7, 60, 61, 65, 66] (fun ⟨(pre, suf), _⟩ => [(67, iL (pre.length : Int)), (59, .als 0 0 ([0, r.n - 1]).length)]) (fun ⟨(pre, suf), _⟩ => [(0, ⟨true, 3, 1, ([0, r.n - 1]).map intC, true⟩), (1, ⟨false, 40, 10, [[sL (r.mark), iL (r.tx), iL (r.ty), iL (r.ax), iL (r.ay), iL (r.az), iL (r.sx), iL (r.sy), iL (r.sz), iL (r.n)]], true⟩)]) (fun ⟨(pre, suf), _⟩ => suf.length) ⟨([], (turnedV bars r)), rfl, fun x hx => by simp at hx⟩ (.c (.c (.c (.c (.c (.c (.c .n))))))) (keep_c (h := (keep_c))) (slots_c (h := (slots_c))) ?_))))))))))); rintro ⟨⟨pre, suf⟩, hp, hinv⟩ R2 hR2; dsimp only [cA, nA, lC, lN]
    simp only at hp hinv
    have hpl := lenA hp
    rcases suf with _ | ⟨s, suf⟩
    · rw [List.append_nil] at hp; simp only [lN] at hpl; refine Ev.sr fun _ z=>S.o q.lss (S.e z (Ev.ud (fun c30 => ?_) (fun c30 => ?_)))
      · omega
      refine Ev.exit (hR2 _ _ (Ev.region_S fun _ z=>S.o q.add (S.o q.mv (S.e z (hR0 _ _ (roundU [0, 1] [3, 5, 60] ⟨_, by decide, hnx (by rw [← hp]; exact hinv)⟩ ?_ (keep_c (h := (keep_c))) (slots_c (h := (slots_c))) (.c (.c (.c .n))))))))); skip; all_goals (dsimp only; omega)
    simp only [lC] at hpl
    have hidx2 : (turnedV bars r)[pre.length]? = some s := by rw [← hp]; simp
    have hms := memA hp; obtain ⟨a, b, c⟩ := s; have hpb := turned_bd hms; have hall := fun h => hall0 h _ hms; refine Ev.sr fun _ z=>S.o q.lss (S.e z (Ev.ud (fun c31 => ?_) (fun c31 => ?_)))
    · refine Ev.seq (Ev.block (Ev.sr fun _ z=>S.o (q.ix am_el136 am_cl38 (hl := (by exact ati hidx2 (by omega)))) (S.o (q.lsA _ am_ag38 am_cl38) (S.nn (q.al am_ze38) (S.sv _ true [_, _] am_in38 am_cl38 (h := S.e z (Ev.sr fun _ z=>S.o (q.lvA _ am_ag38 am_cl38) (S.o (q.fa 3 am_fi40_2 am_cl38) (S.o (q.lvA _ am_ag38 am_cl38) (S.c0 (hF := plus_fun (a, b, c) r.at 1 (pl_mono hpb (by omega)) (pl_mono hat (by omega)) (by omega)) (h := S.nn (q.al am_ze38) (S.sv _ true [_, _, _] am_in38 am_cl38 (h := S.e z (Ev.seq (Ev.sr fun _ z=>S.o q.mv (S.o q.gtr (S.e z (Ev.cd (fun c32 => ?_) (fun c32 => ?_)))))))))))))))))))
      · omega
      refine Ev.skip (Ev.sr fun _ z=>S.o (q.lvA _ am_ag38 am_cl38) (S.c0 (hF := (by exact isPlace_fun (plusP (a, b, c) r.at 1) 1048576 (by omega))) (h := S.o q.not (S.e z (Ev.cn (fun c34 => ?_) (fun c34 => ?_))))))
      · refine Ev.sr fun _ z=>S.o q.as (S.e z (Ev.ret (hR2 _ _ (hR0 _ _ (Ev.p1 ?_))))); exact bF (fun h => by have h1 := hall h; rw [pt_f ‹_›] at h1; exact absurd h1 ‹_›)
      refine Ev.skip (Ev.region_S fun _ z=>S.o q.add (S.o q.mv (S.e z (hR2 _ _ (roundU [0, 1] [3, 5, 7, 60, 61, 65, 66] ⟨(pre ++ [(a, b, c)], suf), sucA hp, ?_⟩ muL (keep_c (h := (keep_c))) (slots_c (he := (by congr 2; simp)) (h := (slots_c))) (.c (.c (.c (.c (.c (.c (.c .n)))))))))))); intro x hx
      rcases List.mem_append.1 hx with hx | hx
      · exact hinv x hx
      · rw [List.mem_singleton] at hx; subst hx; (rw [pt_f ‹_›]; assumption)
    omega
  omega
theorem cnt_nn {l : List Rn} (h : ∀ r ∈ l, 1 ≤ r.n) : 0 ≤ cntS l := by
  induction l with
  | nil => exact Int.le_refl _
  | cons r l ih =>
    have h1 := h r (by simp); have h2 := ih fun x hx => h x (by simp [hx]); simp only [cntS, List.map_cons, List.sum_cons] at *; omega
theorem cnt_cut {pre suf l : List Rn} {s : Rn} (hp : pre ++ s :: suf = l) (h : ∀ r ∈ l, 1 ≤ r.n) : cntS l = cntS pre + s.n + cntS suf ∧ 0 ≤ cntS suf := by
  have h2 := cnt_nn (l := suf) fun r hr => h r (by rw [← hp]; simp [hr]); refine ⟨?_, h2⟩; rw [← hp]; simp only [cntS, List.map_append, List.map_cons, List.sum_append, List.sum_cons]; omega
theorem cnt_snoc (pre : List Rn) (s : Rn) : cntS (pre ++ [s]) = cntS pre + s.n := by simp [cntS]
theorem laidValid_fun (bars : List Bar) (runs : List Rn) (hlen : bars.length ≤ 140737488355328) (hw : schedW bars) (hrl : runs.length ≤ 140737488355328) (hrw : runW runs) : Fun Tryz.prog 70 [.sh 5 (bars.map Bar.c), .sh 10 (runs.map Rn.c)] (Ret (bL (decide (laidOK bars runs))) []) := by
  refine Fun.of (nt := 37) (rs := [.tmp 4]) Tryz.func70 rfl rfl rfl rfl rfl (Ev.sr fun _ z=>S.o q.as (S.e z (Ev.seq (Ev.sr fun _ z=>S.o q.mv (S.c0 (hF := schedValid_fun bars hlen hw) (h := S.o q.not (S.bn q.mv (fun c1 => ?_) (fun c1 => ?_))))))))
  · refine S.s2 (S.sk (S.o q.pt (S.e z (Ev.ct (Ev.sr fun _ z=>S.o q.as (S.e z (Ev.ret (Ev.p1 ?_)))))))); exact bF (fun h => absurd h.1 ‹¬ okSched bars›)
  refine S.o q.mv (S.o (q.lens am_el28) (S.o q.gtr (S.o q.pf (S.e z (Ev.cd (fun c2 => ?_) (fun c2 => ?_))))))
  · refine Ev.sr fun _ z=>S.o q.as (S.e z (Ev.ret (Ev.p1 ?_))); exact bF (fun h => by have h1 := h.2.1; omega)
  refine Ev.skip (Ev.sr fun _ z=>S.o q.as (S.e z (Ev.seq (Ev.sr fun _ z=>S.o q.mv (S.o (q.lens am_el28) (S.o q.mv (S.e z (Ev.block (Ev.loopU (ι := {q : List Rn × List Rn // q.1 ++ q.2 = runs ∧ ((∀ r ∈ q.1, rightP bars r) ∧ 0 ≤ cntS q.1 ∧ cntS q.1 ≤ 2000)}) [] [0, 16, 17] (fun ⟨(pre, suf), _⟩ => [(18, iL (pre.length : Int)), (5, iL (2000 - cntS pre))]) (fun ⟨(pre, suf), _⟩ => []) (fun ⟨(pre, suf), _⟩ => suf.length) ⟨([], runs), rfl, ⟨fun x hx => by simp at hx, Int.le_refl 0, (by show (0:Int) ≤ 2000; omega)⟩⟩ (.c (.c (.c .n))) keep_n (slots_c (h := (slots_c))) ?_))))))))); rintro ⟨⟨pre, suf⟩, hp, hinv⟩ R0 hR0; dsimp only [cA, nA, lC, lN]
  simp only at hp hinv
  have hpl := lenA hp
  rcases suf with _ | ⟨s, suf⟩
  · rw [List.append_nil] at hp; simp only [lN] at hpl; obtain ⟨hinv, hi1, hi2⟩ := hinv; refine Ev.sr fun _ z=>S.o q.lss (S.e z (Ev.ud (fun c3 => ?_) (fun c3 => ?_)))
    · omega
    refine Ev.exit (hR0 _ _ (Ev.sr fun _ z=>S.o q.as (S.e z (Ev.ret (Ev.p1 ?_))))); exact bT ⟨‹okSched bars›, by omega, by rw [← hp]; exact hinv, by rw [← hp]; omega⟩
  simp only [lC] at hpl; have hidx := getA hp; have hms := memA hp; obtain ⟨hinv, hi1, hi2⟩ := hinv; have hsn := cnt_snoc pre s; refine Ev.sr fun _ z=>S.o q.lss (S.e z (Ev.ud (fun c4 => ?_) (fun c4 => ?_)))
  · refine Ev.seq (Ev.block (Ev.sr fun _ z=>S.o (q.ix am_el28 am_cl40 (hl := (by exact ati hidx (by omega)))) (S.o (q.lsA _ am_ag40 am_cl40) (S.nn (q.al am_ze40) (S.sv _ true [] am_in40 am_cl40 (h := S.e z (Ev.seq (Ev.sr fun _ z=>S.o q.mv (S.o (q.lvA _ am_ag40 am_cl40) (S.c0 (hF := laidRight_fun bars s hlen hw (hrw s hms)) (h := S.o q.not (S.bn q.mv (fun c5 => ?_) (fun c5 => ?_)))))))))))))
    · refine S.s2 (S.s2 (S.o q.pt (S.e z (Ev.ct (Ev.sr fun _ z=>S.o q.as (S.e z (Ev.ret (hR0 _ _ (Ev.p1 ?_))))))))); exact bF (fun h => absurd (h.2.2.1 s hms) ‹¬ rightP bars s›)
    refine S.o (q.fa 9 am_fi40_4 am_cl3) (S.o (q.lv am_ag3) (S.o q.mv (S.o q.gtr (S.o q.pf (S.e z (Ev.cd (fun c6 => ?_) (fun c6 => ?_)))))))
    · refine Ev.sr fun _ z=>S.o q.as (S.e z (Ev.ret (hR0 _ _ (Ev.p1 ?_)))); exact bF (fun h => by have h1 := cnt_cut hp (fun x hx => (h.2.2.1 x hx).2.2.1.1); have h2 := h.2.2.2; omega)
    refine Ev.skip ?_; have hrs0 := (‹rightP bars s›).2.2.1; refine Ev.region_S fun _ z=>S.o q.mv (S.o (q.fa 9 am_fi40_4 am_cl3) (S.o (q.lv am_ag3) (S.o q.sub (S.o q.as (S.e z ?_))))); show Ev _ _ _ _; refine Ev.region_S fun _ z=>S.o q.add (S.o q.mv (S.e z (hR0 _ _ (roundU [] [0, 16, 17] ⟨(pre ++ [s], suf), sucA hp, ?_⟩ muL keep_n (slots_c (he := (by congr 2; simp)) (h := (slots_c (he := (by exact iE (by rw [cnt_snoc]; omega)))))) (.c (.c (.c .n))))))); have hrs := (‹rightP bars s›).2.2.1; exact ⟨fun x hx => by rcases List.mem_append.1 hx with hx | hx; exact hinv x hx; rw [List.mem_singleton] at hx; subst hx; assumption, by dsimp only; omega, by dsimp only; omega⟩
  omega
def thickB (b : Bx) : Prop := okBx b ∧ b.lx < b.hx ∧ b.ly < b.hy ∧ b.lz < b.hz
instance (b) : Decidable (thickB b) := by unfold thickB; infer_instance
def solOK (bs hs : List Bx) : Prop := (1 ≤ bs.length ∧ bs.length ≤ 20) ∧ hs.length ≤ 20 ∧ (∀ b ∈ bs, thickB b) ∧ ∀ b ∈ hs, thickB b
instance (bs hs) : Decidable (solOK bs hs) := by unfold solOK; infer_instance
structure Mem where
  name : List UInt8
  bs : List Bx
  hs : List Bx
  cov : Int
  agg : Int
  pok : Int
def Mem.c : Mem → List AV
  | ⟨n, bs, hs, a, b, c⟩ => [sL n, .sh 6 (bs.map Bx.c), .sh 6 (hs.map Bx.c), iL a, iL b, iL c]
def memOK (m : Mem) : Prop := IsName m.name ∧ solOK m.bs m.hs ∧ (0 ≤ m.cov ∧ m.cov ≤ 200) ∧ (1 ≤ m.agg ∧ m.agg ≤ 100) ∧ 1 ≤ m.pok ∧ m.pok ≤ 200
instance (m) : Decidable (memOK m) := by unfold memOK; infer_instance
def Mem.w (m : Mem) : Prop := m.name.length ≤ 140737488355328 ∧ m.bs.length ≤ 140737488355328 ∧ m.hs.length ≤ 140737488355328
structure Rul where
  r1 : Int
  r2 : Int
  r3 : Int
  r4 : Int
  r5 : Int
  r6 : Int
  r7 : Int
  r8 : Int
  r9 : Int
def Rul.c : Rul → List AV
  | ⟨a, b, c, d, e, f, g, h, i⟩ => [iL a, iL b, iL c, iL d, iL e, iL f, iL g, iL h, iL i]
def Rul.l (r : Rul) : List Int := [r.r1, r.r2, r.r3, r.r4, r.r5, r.r6, r.r7, r.r8]
def ruleOK (r : Rul) : Prop := (∀ n ∈ r.l, 1 ≤ n ∧ n ≤ 1000) ∧ r.r4 ≤ r.r3 ∧ r.r8 ≤ r.r7 ∧ r.r5 ≤ r.r6 ∧ 0 ≤ r.r9 ∧ r.r9 ≤ 1000
instance (r) : Decidable (ruleOK r) := by unfold ruleOK; infer_instance
structure Det where
  mem : Mem
  bars : List Bar
  runs : List Rn
  laps : List (Int × Int)
  dems : List Dem
  rule : Rul
def Det.c : Det → List AV
  | ⟨⟨n, bs, hs, a, b, c⟩, bars, runs, laps, dems, ⟨r1, r2, r3, r4, r5, r6, r7, r8, r9⟩⟩ => [sL n, .sh 6 (bs.map Bx.c), .sh 6 (hs.map Bx.c), iL a, iL b, iL c, .sh 5 (bars.map Bar.c), .sh 10 (runs.map Rn.c), .sh 2 (laps.map pairC), .sh 8 (dems.map Dem.c), iL r1, iL r2, iL r3, iL r4, iL r5, iL r6, iL r7, iL r8, iL r9]
def Det.w (x : Det) : Prop := x.mem.w ∧ (x.bars.length ≤ 140737488355328 ∧ schedW x.bars) ∧ (x.runs.length ≤ 140737488355328 ∧ runW x.runs) ∧ x.laps.length ≤ 140737488355328 ∧ x.dems.length ≤ 140737488355328 ∧ demW x.dems
structure Mn where
  leg : Bx
  has : Bool
  size : Int
  mark : List UInt8
def Mn.c : Mn → List AV
  | ⟨⟨a, b, c, d, e, f⟩, h, s, m⟩ => [iL a, iL b, iL c, iL d, iL e, iL f, bL h, iL s, sL m]
def isLeg (p q : P3) : Prop := p.1 ≠ q.1 ∧ p.2.1 = q.2.1 ∧ p.2.2 = q.2.2
instance (p q) : Decidable (isLeg p q) := by unfold isLeg; infer_instance
def legB (p q : P3) : Bx := ⟨min p.1 q.1, p.2.1, p.2.2, max p.1 q.1, p.2.1, p.2.2⟩
def zeroB : Bx := ⟨0, 0, 0, 0, 0, 0⟩
def legF : List P3 → Bool × Bx
  | p :: q :: l => if isLeg p q then (true, legB p q) else legF (q :: l)
  | _ => (false, zeroB)
def mainOf (b : Bar) (l : List P3) : Mn := ⟨(legF l).2, (legF l).1, b.size, b.mark⟩
def atR (r : Rn) (k : Nat) : P3 := (r.ax + (k : Int) * r.sx, r.ay + (k : Int) * r.sy, r.az + (k : Int) * r.sz)
def runGood (bars : List Bar) (r : Rn) (n : Nat) : Prop := ∀ k, k < n → frE r.tx r.ty (atR r k) (shpV (lineOf bars r.mark)) = 0
instance (bars r n) : Decidable (runGood bars r n) := Nat.decidableBallLT n _
def runMains (bars : List Bar) (r : Rn) (n : Nat) : List Mn := (List.range n).map fun k => mainOf (lineOf bars r.mark) (frV r.tx r.ty (atR r k) (shpV (lineOf bars r.mark)))
def mainsG (bars : List Bar) (runs : List Rn) : List Mn := runs.flatMap fun r => runMains bars r r.n.toNat
def mainsV (bars : List Bar) (runs : List Rn) : List Mn := if ∀ r ∈ runs, runGood bars r r.n.toNat then mainsG bars runs else []
def mnAt (l : List Mn) (i : Int) : Mn := (l[i.toNat]?).getD ⟨zeroB, false, 0, []⟩
def jointP (l : List Mn) (j : Int × Int) : Prop := (0 ≤ j.1 ∧ j.1 < l.length ∧ 0 ≤ j.2 ∧ j.2 < l.length) ∧ (mnAt l j.1).has = true ∧ (mnAt l j.2).has = true ∧ (mnAt l j.1).leg.lx < (mnAt l j.2).leg.lx ∧ (mnAt l j.1).leg.hx < (mnAt l j.2).leg.hx ∧ (mnAt l j.2).leg.lx ≤ (mnAt l j.1).leg.hx
instance (l j) : Decidable (jointP l j) := by unfold jointP; infer_instance
def lapsOK (l : List Mn) (laps : List (Int × Int)) : Prop := (∀ j ∈ laps, jointP l j) ∧ laps.Pairwise fun i j => i.1 ≠ j.1 ∧ i.2 ≠ j.2
instance (l laps) : Decidable (lapsOK l laps) := by unfold lapsOK; infer_instance
def baseOK (x : Det) : Prop := memOK x.mem ∧ laidOK x.bars x.runs ∧ okDems x.dems ∧ ruleOK x.rule ∧ x.laps.length ≤ 1000
instance (x) : Decidable (baseOK x) := by unfold baseOK; infer_instance
def detOK (x : Det) : Prop := baseOK x ∧ lapsOK (mainsV x.bars x.runs) x.laps
instance (x) : Decidable (detOK x) := by unfold detOK; infer_instance
theorem thick_fun (b : Bx) : Fun Tryz.prog 49 [.agg b.c] (Ret (bL (decide (thickB b))) []) := by
  refine Fun.of (nt := 32) (rs := [.tmp 2]) Tryz.func49 rfl rfl rfl rfl rfl (Ev.sr fun _ z=>S.nn (q.bx _ true) (S.o q.as (S.e z (Ev.sr fun _ z=>S.o (q.lvA _ am_ag75 am_cl75) (S.c0 (hF := boxValid_fun b) (h := S.bd q.mv (fun c1 => ?_) (fun c1 => ?_)))))))
  · refine S.o (q.fa 0 am_fi75_0 am_cl38) (S.o (q.fa 0 am_fi38_0 am_cl3) (S.o (q.lv am_ag3) (S.o (q.fa 3 am_fi75_1 am_cl38) (S.o (q.fa 3 am_fi38_0 am_cl3) (S.o (q.lv am_ag3) (S.o q.lss (S.o q.pt (S.bd q.mv (fun c2 => ?_) (fun c2 => ?_)))))))))
    · refine S.o (q.fa 0 am_fi75_0 am_cl38) (S.o (q.fa 1 am_fi38_1 am_cl3) (S.o (q.lv am_ag3) (S.o (q.fa 3 am_fi75_1 am_cl38) (S.o (q.fa 4 am_fi38_1 am_cl3) (S.o (q.lv am_ag3) (S.o q.lss (S.o q.pt (S.bd q.mv (fun c3 => ?_) (fun c3 => ?_)))))))))
      · refine S.o (q.fa 0 am_fi75_0 am_cl38) (S.o (q.fa 2 am_fi38_2 am_cl3) (S.o (q.lv am_ag3) (S.o (q.fa 3 am_fi75_1 am_cl38) (S.o (q.fa 5 am_fi38_2 am_cl3) (S.o (q.lv am_ag3) (S.o q.lss (S.o q.pt (S.o q.as (S.e z (Ev.ret (Ev.p1 ?_))))))))))); exact dI ⟨fun h => ⟨‹_›, by omega, by omega, h⟩, fun h => h.2.2.2⟩
      refine S.s2 (S.s2 (S.s2 (S.sk (S.o q.pf (S.o q.as (S.e z (Ev.ret (Ev.p1 ?_)))))))); exact bF (fun h => by have h1 := h.2.2.1; omega)
    refine S.s2 (S.s2 (S.s2 (S.sk (S.o q.pf (S.o q.mv (S.s2 (S.s2 (S.s2 (S.sk (S.o q.pf (S.o q.as (S.e z (Ev.ret (Ev.p1 ?_)))))))))))))); exact bF (fun h => by have h1 := h.2.1; omega)
  refine S.s2 (S.s2 (S.s2 (S.sk (S.o q.pf (S.o q.mv (S.s2 (S.s2 (S.s2 (S.sk (S.o q.pf (S.o q.mv (S.s2 (S.s2 (S.s2 (S.sk (S.o q.pf (S.o q.as (S.e z (Ev.ret (Ev.p1 ?_)))))))))))))))))))); exact bF (fun h => absurd h.1 ‹_›)
theorem indexFuncBx0 (g : FuncId)  (p : Bx → Bool) (hg : ∀ s, Fun Tryz.prog g [.agg (Bx.c s)] (Ret (bL (p s)) [])) (l : List (Bx)) (hlen : l.length ≤ 140737488355328) :
    Fun Tryz.prog 76 [.sh 6 (l.map Bx.c), .fn (.func g) [] []] (Ret (iL (idxP p l 0)) []) := by
  refine Fun.of (nt := 19) (rs := [.tmp 4]) Tryz.func76 rfl rfl rfl rfl rfl (Ev.sr fun _ z=>S.o q.as (S.e z (Ev.seq (Ev.sr fun _ z=>S.o q.mv (S.o (q.lens am_el22) (S.o q.mv (S.e z (Ev.block (Ev.loopU (ι := {q : List (Bx) × List (Bx) // q.1 ++ q.2 = l ∧ ∀ x ∈ q.1, p x = false}) [] [0, 1, 7] (fun ⟨(pre, suf), _⟩ => [(8, iL (pre.length : Int))]) (fun ⟨(pre, suf), _⟩ => []) (fun ⟨(pre, suf), _⟩ => suf.length) ⟨([], l), rfl, fun x hx => by simp at hx⟩ (.c (.c (.c .n))) keep_n (slots_c) ?_))))))))); rintro ⟨⟨pre, suf⟩, hp, hinv⟩ R0 hR0; dsimp only [cA, nA, lC, lN]
  simp only at hp hinv
  have hpl := lenA hp
  rcases suf with _ | ⟨s, suf⟩
  · rw [List.append_nil] at hp; subst hp; simp only [List.length_nil] at hpl; refine Ev.sr fun _ z=>S.o q.lss (S.e z (Ev.ud (fun c1 => ?_) (fun c1 => ?_)))
    · omega
    refine Ev.exit (hR0 _ _ (Ev.sr fun _ z=>S.o q.as (S.e z (Ev.ret (Ev.p1 ?_)))))
    congr 2; rw [idxP_none p pre 0 hinv]
  simp only [lC] at hpl; have hidx := getA hp; refine Ev.sr fun _ z=>S.o q.lss (S.e z (Ev.ud (fun c3 => ?_) (fun c3 => ?_)))
  · refine Ev.seq (Ev.block (Ev.sr fun _ z=>S.o q.mv (S.o q.as (S.e z (Ev.sr fun _ z=>S.o q.mv (S.o q.mv (S.o q.mv (S.o (q.ix am_el22 am_cl75 (hl := (by exact ati hidx (by omega)))) (S.o (q.lsA _ am_ag75 am_cl75) (S.c0 (hF := hg s) (h := S.e z (Ev.c (fun c4 => ?_) (fun c4 => ?_)))))))))))))
    · refine Ev.sr fun _ z=>S.o q.mv (S.o q.as (S.e z (Ev.ret (hR0 _ _ (Ev.p1 ?_)))))
      congr 2; rw [← hp, idxP_append p pre _ 0 hinv, idxP, if_pos ‹_›]; omega
    refine Ev.skip (Ev.region_S fun _ z=>S.o q.add (S.o q.mv (S.e z (hR0 _ _ (roundU [] [0, 1, 7] ⟨(pre ++ [s], suf), sucA hp, ?_⟩ muL keep_n (slots_c (he := (by simp))) (.c (.c (.c .n))))))))
    intro x hx; simp only [List.mem_append, List.mem_singleton] at hx; rcases hx with hx | rfl
    · exact hinv x hx
    · assumption
  omega
theorem containsFuncBx0 (g : FuncId)  (p : Bx → Bool) (hg : ∀ s, Fun Tryz.prog g [.agg (Bx.c s)] (Ret (bL (p s)) [])) (l : List (Bx)) (hlen : l.length ≤ 140737488355328) :
    Fun Tryz.prog 50 [.sh 6 (l.map Bx.c), .fn (.func g) [] []] (Ret (bL (decide (∃ x ∈ l, p x = true))) []) := by
  have hd : (decide (∃ x ∈ l, p x = true)) = decide (0 ≤ idxP p l 0) := by simp only [idxP_nonneg p l 0 (Int.le_refl _)]
  rw [hd]; refine Fun.of (nt := 9) (rs := [.tmp 4]) Tryz.func50 rfl rfl rfl rfl rfl (Ev.sr fun _ z=>S.o q.as (S.e z (Ev.sr fun _ z=>S.o q.mv (S.o q.mv (S.c0 (hF := indexFuncBx0 g  p hg l hlen) (h := S.o q.geq (S.o q.as (S.e z (Ev.ret (Ev.p1 ?_)))))))))); rfl
theorem indexFuncInt0 (g : FuncId)  (p : Int → Bool) (hg : ∀ s, Fun Tryz.prog g [(intC s).headD .top] (Ret (bL (p s)) [])) (l : List (Int)) (hlen : l.length ≤ 140737488355328) :
    Fun Tryz.prog 137 [.sh 1 (l.map intC), .fn (.func g) [] []] (Ret (iL (idxP p l 0)) []) := by
  refine Fun.of (nt := 19) (rs := [.tmp 4]) Tryz.func137 rfl rfl rfl rfl rfl (Ev.sr fun _ z=>S.o q.as (S.e z (Ev.seq (Ev.sr fun _ z=>S.o q.mv (S.o (q.lens am_el56) (S.o q.mv (S.e z (Ev.block (Ev.loopU (ι := {q : List (Int) × List (Int) // q.1 ++ q.2 = l ∧ ∀ x ∈ q.1, p x = false}) [] [0, 1, 7] (fun ⟨(pre, suf), _⟩ => [(8, iL (pre.length : Int))]) (fun ⟨(pre, suf), _⟩ => []) (fun ⟨(pre, suf), _⟩ => suf.length) ⟨([], l), rfl, fun x hx => by simp at hx⟩ (.c (.c (.c .n))) keep_n (slots_c) ?_))))))))); rintro ⟨⟨pre, suf⟩, hp, hinv⟩ R0 hR0; dsimp only [cA, nA, lC, lN]
  simp only at hp hinv
  have hpl := lenA hp
  rcases suf with _ | ⟨s, suf⟩
  · rw [List.append_nil] at hp; subst hp; simp only [List.length_nil] at hpl; refine Ev.sr fun _ z=>S.o q.lss (S.e z (Ev.ud (fun c1 => ?_) (fun c1 => ?_)))
    · omega
    refine Ev.exit (hR0 _ _ (Ev.sr fun _ z=>S.o q.as (S.e z (Ev.ret (Ev.p1 ?_)))))
    congr 2; rw [idxP_none p pre 0 hinv]
  simp only [lC] at hpl; have hidx := getA hp; refine Ev.sr fun _ z=>S.o q.lss (S.e z (Ev.ud (fun c3 => ?_) (fun c3 => ?_)))
  · refine Ev.seq (Ev.block (Ev.sr fun _ z=>S.o q.mv (S.o q.as (S.e z (Ev.sr fun _ z=>S.o q.mv (S.o q.mv (S.o q.mv (S.o (q.ix am_el56 am_cl3 (hl := (by exact ati hidx (by omega)))) (S.o (q.ls am_ag3) (S.c0 (hF := hg s) (h := S.e z (Ev.c (fun c4 => ?_) (fun c4 => ?_)))))))))))))
    · refine Ev.sr fun _ z=>S.o q.mv (S.o q.as (S.e z (Ev.ret (hR0 _ _ (Ev.p1 ?_)))))
      congr 2; rw [← hp, idxP_append p pre _ 0 hinv, idxP, if_pos ‹_›]; omega
    refine Ev.skip (Ev.region_S fun _ z=>S.o q.add (S.o q.mv (S.e z (hR0 _ _ (roundU [] [0, 1, 7] ⟨(pre ++ [s], suf), sucA hp, ?_⟩ muL keep_n (slots_c (he := (by simp))) (.c (.c (.c .n))))))))
    intro x hx; simp only [List.mem_append, List.mem_singleton] at hx; rcases hx with hx | rfl
    · exact hinv x hx
    · assumption
  omega
theorem containsFuncInt0 (g : FuncId)  (p : Int → Bool) (hg : ∀ s, Fun Tryz.prog g [(intC s).headD .top] (Ret (bL (p s)) [])) (l : List (Int)) (hlen : l.length ≤ 140737488355328) :
    Fun Tryz.prog 116 [.sh 1 (l.map intC), .fn (.func g) [] []] (Ret (bL (decide (∃ x ∈ l, p x = true))) []) := by
  have hd : (decide (∃ x ∈ l, p x = true)) = decide (0 ≤ idxP p l 0) := by simp only [idxP_nonneg p l 0 (Int.le_refl _)]
  rw [hd]; refine Fun.of (nt := 9) (rs := [.tmp 4]) Tryz.func116 rfl rfl rfl rfl rfl (Ev.sr fun _ z=>S.o q.as (S.e z (Ev.sr fun _ z=>S.o q.mv (S.o q.mv (S.c0 (hF := indexFuncInt0 g  p hg l hlen) (h := S.o q.geq (S.o q.as (S.e z (Ev.ret (Ev.p1 ?_)))))))))); rfl
theorem thin_fun (b : Bx) : Fun Tryz.prog 48 [.agg b.c] (Ret (bL (decide (¬ thickB b))) []) := by
  refine Fun.of (nt := 6) (rs := [.tmp 2]) Tryz.func48 rfl rfl rfl rfl rfl (Ev.sr fun _ z=>S.nn (q.bx _ true) (S.o q.as (S.e z (Ev.sr fun _ z=>S.o (q.lvA _ am_ag75 am_cl75) (S.c0 (hF := thick_fun b) (h := S.o q.not (S.o q.as (S.e z (Ev.ret (Ev.p1 ?_)))))))))); exact dN Iff.rfl
theorem allThick {l : List Bx} : (¬ ∃ x ∈ l, decide (¬ thickB x) = true) ↔ ∀ b ∈ l, thickB b := by
  constructor
  · intro h b hb
    by_cases ht : thickB b
    · exact ht
    exact absurd ⟨b, hb, decide_eq_true ht⟩ h
  rintro h ⟨b, hb, hd⟩; exact of_decide_eq_true hd (h b hb)
theorem solValid_fun (bs hs : List Bx) (h1 : bs.length ≤ 140737488355328) (h2 : hs.length ≤ 140737488355328) : Fun Tryz.prog 26 [.agg [.sh 6 (bs.map Bx.c), .sh 6 (hs.map Bx.c)]] (Ret (bL (decide (solOK bs hs))) []) := by
  refine Fun.of (nt := 34) (rs := [.tmp 2]) Tryz.func26 rfl rfl rfl rfl rfl (Ev.sr fun _ z=>S.nn (q.bx _ true) (S.o q.as (S.e z (Ev.sr fun _ z=>S.o q.as (S.e z (Ev.sr fun _ z=>S.o (q.fa 0 am_fi24_0 am_cl22) (S.o (q.lv am_ag22) (S.o (q.lens am_el22) (S.o q.geq (S.bd q.mv (fun c1 => ?_) (fun c1 => ?_)))))))))))
  · refine S.o (q.fa 0 am_fi24_0 am_cl22) (S.o (q.lv am_ag22) (S.o (q.lens am_el22) (S.o q.leq (S.o q.pt (S.bd q.mv (fun c2 => ?_) (fun c2 => ?_))))))
    · refine S.o (q.fa 1 am_fi24_1 am_cl22) (S.o (q.lv am_ag22) (S.o (q.lens am_el22) (S.o q.leq (S.o q.pt (S.bd q.mv (fun c3 => ?_) (fun c3 => ?_))))))
      · refine S.o (q.fa 0 am_fi24_0 am_cl22) (S.o (q.lv am_ag22) (S.o q.mv (S.c0 (hF := containsFuncBx0 _ _ thin_fun bs (by omega)) (h := S.o q.not (S.o q.pt (S.bn q.mv (fun c4 => ?_) (fun c4 => ?_)))))))
        · refine S.o (q.fa 1 am_fi24_1 am_cl22) (S.o (q.lv am_ag22) (S.o q.mv (S.c0 (hF := containsFuncBx0 _ _ thin_fun hs (by omega)) (h := S.o q.not (S.o q.pt (S.o q.as (S.e z (Ev.ret (Ev.p1 ?_))))))))); exact dN ⟨fun h => ⟨⟨by omega, by omega⟩, by omega, allThick.1 ‹_›, allThick.1 h⟩, fun h => allThick.2 h.2.2.2⟩
        refine S.s2 (S.s2 (S.sk (S.o q.pf (S.o q.as (S.e z (Ev.ret (Ev.p1 ?_))))))); exact bF (fun h => allThick.2 h.2.2.1 ‹_›)
      refine S.s2 (S.s2 (S.sk (S.o q.pf (S.o q.mv (S.s2 (S.s2 (S.sk (S.o q.pf (S.o q.as (S.e z (Ev.ret (Ev.p1 ?_)))))))))))); exact bF (fun h => by have h1 := h.1; have h2 := h.2.1; omega)
    refine S.s2 (S.s2 (S.o q.pf (S.o q.mv (S.s2 (S.s2 (S.sk (S.o q.pf (S.o q.mv (S.s2 (S.s2 (S.sk (S.o q.pf (S.o q.as (S.e z (Ev.ret (Ev.p1 ?_)))))))))))))))); exact bF (fun h => by have h1 := h.1; have h2 := h.2.1; omega)
  refine S.s2 (S.s2 (S.o q.pf (S.o q.mv (S.s2 (S.s2 (S.o q.pf (S.o q.mv (S.s2 (S.s2 (S.sk (S.o q.pf (S.o q.mv (S.s2 (S.s2 (S.sk (S.o q.pf (S.o q.as (S.e z (Ev.ret (Ev.p1 ?_)))))))))))))))))))); exact bF (fun h => by have h1 := h.1; have h2 := h.2.1; omega)
theorem mwithin_fun (n lo hi : Int) : Fun Tryz.prog 91 [iL n, iL lo, iL hi] (Ret (bL (decide (lo ≤ n ∧ n ≤ hi))) []) := by
  refine Fun.of (nt := 15) (rs := [.tmp 6]) Tryz.func91 rfl rfl rfl rfl rfl (Ev.sr fun _ z=>S.o q.as (S.e z (Ev.sr fun _ z=>S.o q.mv (S.o q.mv (S.o q.geq (S.bd q.mv (fun c1 => ?_) (fun c1 => ?_)))))))
  · refine S.o q.mv (S.o q.mv (S.o q.leq (S.o q.pt (S.o q.as (S.e z (Ev.ret (Ev.p1 ?_))))))); exact dI ⟨fun h => by omega, fun h => by omega⟩
  refine S.s2 (S.sk (S.o q.pf (S.o q.as (S.e z (Ev.ret (Ev.p1 ?_)))))); exact bF (fun h => by omega)
theorem member_fun (x : Mem) (hw : x.w) : Fun Tryz.prog 69 [.agg x.c] (Ret (bL (decide (memOK x))) []) := by
  obtain ⟨hw1, hw2, hw3⟩ := hw; refine Fun.of (nt := 30) (rs := [.tmp 2]) Tryz.func69 rfl rfl rfl rfl rfl (Ev.sr fun _ z=>S.nn (q.bx _ true) (S.o q.as (S.e z (Ev.sr fun _ z=>S.o q.as (S.e z (Ev.sr fun _ z=>S.o (q.fa 0 am_fi26_0 am_cl9) (S.o (q.lv am_ag9) (S.c0 (hF := isName_fun x.name (by omega)) (h := S.bd q.mv (fun c1 => ?_) (fun c1 => ?_))))))))))
  · refine S.o (q.fa 1 am_fi26_1 am_cl24) (S.o (q.lvA _ am_ag24 am_cl24) (S.c0 (hF := solValid_fun x.bs x.hs (by omega) (by omega)) (h := S.o q.pt (S.bd q.mv (fun c2 => ?_) (fun c2 => ?_)))))
    · refine S.o q.mv (S.o (q.fa 3 am_fi26_2 am_cl3) (S.o (q.lv am_ag3) (S.c0 (hF := mwithin_fun x.cov 0 200) (h := S.o q.pt (S.bd q.mv (fun c3 => ?_) (fun c3 => ?_))))))
      · refine S.o q.mv (S.o (q.fa 4 am_fi26_3 am_cl3) (S.o (q.lv am_ag3) (S.c0 (hF := mwithin_fun x.agg 1 100) (h := S.o q.pt (S.bd q.mv (fun c4 => ?_) (fun c4 => ?_))))))
        · refine S.o q.mv (S.o (q.fa 5 am_fi26_4 am_cl3) (S.o (q.lv am_ag3) (S.c0 (hF := mwithin_fun x.pok 1 200) (h := S.o q.pt (S.o q.as (S.e z (Ev.ret (Ev.p1 ?_)))))))); exact dI ⟨fun h => ⟨‹_›, ‹_›, ‹_›, ‹_›, h⟩, fun h => h.2.2.2.2⟩
        refine S.s2 (S.s2 (S.o q.pf (S.o q.as (S.e z (Ev.ret (Ev.p1 ?_)))))); exact bF (fun h => absurd h.2.2.2.1 ‹_›)
      refine S.s2 (S.s2 (S.o q.pf (S.o q.mv (S.s2 (S.s2 (S.o q.pf (S.o q.as (S.e z (Ev.ret (Ev.p1 ?_)))))))))); exact bF (fun h => absurd h.2.2.1 ‹_›)
    refine S.s2 (S.s2 (S.o q.pf (S.o q.mv (S.s2 (S.s2 (S.o q.pf (S.o q.mv (S.s2 (S.s2 (S.o q.pf (S.o q.as (S.e z (Ev.ret (Ev.p1 ?_)))))))))))))); exact bF (fun h => absurd h.2.1 ‹_›)
  refine S.s2 (S.sk (S.o q.pf (S.o q.mv (S.s2 (S.s2 (S.o q.pf (S.o q.mv (S.s2 (S.s2 (S.o q.pf (S.o q.mv (S.s2 (S.s2 (S.o q.pf (S.o q.as (S.e z (Ev.ret (Ev.p1 ?_)))))))))))))))))); exact bF (fun h => absurd h.1 ‹_›)
theorem anw_fun (s : Int) : Fun Tryz.prog 117 [iL s] (Ret (bL (decide (¬ (1 ≤ s ∧ s ≤ 1000)))) []) := by
  refine Fun.of (nt := 9) (rs := [.tmp 2]) Tryz.func117 rfl rfl rfl rfl rfl (Ev.sr fun _ z=>S.o q.as (S.e z (Ev.sr fun _ z=>S.o q.mv (S.o q.lss (S.bd q.mv (fun c1 => ?_) (fun c1 => ?_))))))
  · refine S.s2 (S.o q.pt (S.o q.as (S.e z (Ev.ret (Ev.p1 ?_))))); exact bT (fun h => by omega)
  refine S.o q.mv (S.o q.gtr (S.o q.pf (S.o q.as (S.e z (Ev.ret (Ev.p1 ?_)))))); exact dI ⟨fun h h2 => by omega, fun h => by omega⟩
theorem allIn {l : List Int} : (¬ ∃ x ∈ l, decide (¬ (1 ≤ x ∧ x ≤ 1000)) = true) ↔ ∀ b ∈ l, 1 ≤ b ∧ b ≤ 1000 := by
  constructor
  · intro h b hb
    by_cases ht : 1 ≤ b ∧ b ≤ 1000
    · exact ht
    exact absurd ⟨b, hb, decide_eq_true ht⟩ h
  rintro h ⟨b, hb, hd⟩; exact of_decide_eq_true hd (h b hb)
theorem within_fun (l : List Int) (h1 : l.length ≤ 140737488355328) : Fun Tryz.prog 96 [.sh 1 (l.map intC)] (Ret (bL (decide (∀ n ∈ l, 1 ≤ n ∧ n ≤ 1000))) []) := by
  refine Fun.of (nt := 6) (rs := [.tmp 2]) Tryz.func96 rfl rfl rfl rfl rfl (Ev.sr fun _ z=>S.o q.as (S.e z (Ev.sr fun _ z=>S.o q.mv (S.c0 (hF := containsFuncInt0 _ _ anw_fun l (by omega)) (h := S.o q.not (S.o q.as (S.e z (Ev.ret (Ev.p1 ?_))))))))); exact dN allIn
theorem ruleValid_fun (r : Rul) : Fun Tryz.prog 72 [.agg r.c] (Ret (bL (decide (ruleOK r))) []) := by
  refine Fun.of (nt := 52) (rs := [.tmp 2]) Tryz.func72 rfl rfl rfl rfl rfl (Ev.sr fun _ z=>S.nn (q.bx _ true) (S.o q.as (S.e z (Ev.sr fun _ z=>S.o (q.fa 0 am_fi32_0 am_cl3) (S.o (q.lv am_ag3) (S.o (q.fa 1 am_fi32_1 am_cl3) (S.o (q.lv am_ag3) (S.o (q.fa 2 am_fi32_2 am_cl3) (S.o (q.lv am_ag3) (S.o (q.fa 3 am_fi32_3 am_cl3) (S.o (q.lv am_ag3) (S.o (q.fa 4 am_fi32_4 am_cl3) (S.o (q.lv am_ag3) (S.o (q.fa 5 am_fi32_5 am_cl3) (S.o (q.lv am_ag3) (S.o (q.fa 6 am_fi32_6 am_cl3) (S.o (q.lv am_ag3) (S.o (q.fa 7 am_fi32_7 am_cl3) (S.o (q.lv am_ag3) (S.nn (q.bs [[_], [_], [_], [_], [_], [_], [_], [_]] true am_el56 am_ze3 am_cl3) (SeqL.weaken (Wk.frzl (f := intC) r.l 19 [_]) (S.c0 (hF := within_fun r.l (show 8 ≤ 140737488355328 by decide)) (h := S.bd q.mv (fun c1 => ?_) (fun c1 => ?_))))))))))))))))))))))))
  · refine S.o (q.fa 2 am_fi32_2 am_cl3) (S.o (q.lv am_ag3) (S.o (q.fa 3 am_fi32_3 am_cl3) (S.o (q.lv am_ag3) (S.o q.geq (S.o q.pt (S.bd q.mv (fun c2 => ?_) (fun c2 => ?_)))))))
    · refine S.o (q.fa 6 am_fi32_6 am_cl3) (S.o (q.lv am_ag3) (S.o (q.fa 7 am_fi32_7 am_cl3) (S.o (q.lv am_ag3) (S.o q.geq (S.o q.pt (S.bd q.mv (fun c3 => ?_) (fun c3 => ?_)))))))
      · refine S.o (q.fa 4 am_fi32_4 am_cl3) (S.o (q.lv am_ag3) (S.o (q.fa 5 am_fi32_5 am_cl3) (S.o (q.lv am_ag3) (S.o q.leq (S.o q.pt (S.bd q.mv (fun c4 => ?_) (fun c4 => ?_)))))))
        · refine S.o (q.fa 8 am_fi32_8 am_cl3) (S.o (q.lv am_ag3) (S.o q.geq (S.o q.pt (S.bd q.mv (fun c5 => ?_) (fun c5 => ?_)))))
          · refine S.o (q.fa 8 am_fi32_8 am_cl3) (S.o (q.lv am_ag3) (S.o q.leq (S.o q.pt (S.o q.as (S.e z (Ev.ret (Ev.p1 ?_))))))); exact dI ⟨fun h => ⟨‹_›, by omega, by omega, by omega, by omega, h⟩, fun h => h.2.2.2.2.2⟩
          refine S.s2 (S.sk (S.o q.pf (S.o q.as (S.e z (Ev.ret (Ev.p1 ?_)))))); exact bF (fun h => by have h1 := h.2; omega)
        refine S.s2 (S.sk (S.o q.pf (S.o q.mv (S.s2 (S.sk (S.o q.pf (S.o q.as (S.e z (Ev.ret (Ev.p1 ?_)))))))))); exact bF (fun h => by have h1 := h.2; omega)
      refine S.s2 (S.s2 (S.sk (S.o q.pf (S.o q.mv (S.s2 (S.sk (S.o q.pf (S.o q.mv (S.s2 (S.sk (S.o q.pf (S.o q.as (S.e z (Ev.ret (Ev.p1 ?_))))))))))))))); exact bF (fun h => by have h1 := h.2; omega)
    refine S.s2 (S.s2 (S.sk (S.o q.pf (S.o q.mv (S.s2 (S.s2 (S.sk (S.o q.pf (S.o q.mv (S.s2 (S.sk (S.o q.pf (S.o q.mv (S.s2 (S.sk (S.o q.pf (S.o q.as (S.e z (Ev.ret (Ev.p1 ?_)))))))))))))))))))); exact bF (fun h => by have h1 := h.2; omega)
  refine S.s2 (S.s2 (S.sk (S.o q.pf (S.o q.mv (S.s2 (S.s2 (S.sk (S.o q.pf (S.o q.mv (S.s2 (S.s2 (S.sk (S.o q.pf (S.o q.mv (S.s2 (S.sk (S.o q.pf (S.o q.mv (S.s2 (S.sk (S.o q.pf (S.o q.as (S.e z (Ev.ret (Ev.p1 ?_))))))))))))))))))))))))); exact bF (fun h => absurd h.1 ‹_›)
def findV (l : List Bar) (mk : List UInt8) : Int := if okSched l then (if 0 ≤ markI l mk then markI l mk else 0) else 0
def findE (l : List Bar) (mk : List UInt8) : Int := if okSched l then (if 0 ≤ markI l mk then 0 else 9) else 1
theorem find_t {l : List Bar} {mk : List UInt8} (h : okSched l) (h2 : 0 ≤ markI l mk) : findV l mk = markI l mk ∧ findE l mk = 0 := ⟨(if_pos h).trans (if_pos h2), (if_pos h).trans (if_pos h2)⟩
theorem find_f {l : List Bar} {mk : List UInt8} (h : okSched l) (h2 : ¬ 0 ≤ markI l mk) : findV l mk = 0 ∧ findE l mk = 9 := ⟨(if_pos h).trans (if_neg h2), (if_pos h).trans (if_neg h2)⟩
theorem find_n {l : List Bar} {mk : List UInt8} (h : ¬ okSched l) : findV l mk = 0 ∧ findE l mk = 1 := ⟨if_neg h, if_neg h⟩
theorem find_fun (l : List Bar) (mk : List UInt8) (hlen : l.length ≤ 140737488355328) (hw : schedW l) : Fun Tryz.prog 11 [.sh 5 (l.map Bar.c), sL mk] (Ret (.tup [iL (findV l mk), iL (findE l mk)]) []) := by
  have hmb := markI_bd l mk; refine Fun.of (nt := 16) (rs := [.tmp 4, .tmp 5]) Tryz.func11 rfl rfl rfl rfl rfl (Ev.sr fun _ G=>S.o q.as (S.o q.as (S.e G (Ev.seq (Ev.sr fun _ G=>S.o q.mv (S.c0 (hF := schedValid_fun _ (by omega) (by assumption)) (h := S.o q.not (S.e G (Ev.cn (fun c1 => ?_) (fun c1 => ?_))))))))))
  · refine Ev.sr fun _ G=>S.o q.as (S.o q.as (S.e G (Ev.ret (Ev.p2 ?_)))); rw [(find_n ‹¬ okSched l›).1, (find_n ‹¬ okSched l›).2]
  refine Ev.skip (Ev.sr fun _ G=>S.o q.mv (S.o q.mv (S.c0 (hF := schedIndex_fun _ _ (by omega)) (h := S.o q.as (S.e G (Ev.seq (Ev.sr fun _ G=>S.o q.mv (S.o q.lss (S.e G (Ev.cd (fun c2 => ?_) (fun c2 => ?_)))))))))))
  · refine Ev.sr fun _ G=>S.o q.as (S.o q.as (S.e G (Ev.ret (Ev.p2 ?_)))); rw [(find_f ‹okSched l› (by omega)).1, (find_f ‹okSched l› (by omega)).2]
  refine Ev.skip (Ev.sr fun _ G=>S.o q.mv (S.o q.as (S.o q.as (S.e G (Ev.ret (Ev.p2 ?_)))))); rw [(find_t ‹okSched l› (by omega)).1, (find_t ‹okSched l› (by omega)).2]
theorem find_ok {l : List Bar} {mk : List UInt8} (hlen : l.length ≤ 140737488355328) (hw : schedW l) (h : okSched l) (h2 : 0 ≤ markI l mk) : Fun Tryz.prog 11 [.sh 5 (l.map Bar.c), sL mk] (Ret (.tup [iL (markI l mk), iL 0]) []) := by
  have h1 := find_fun l mk hlen hw
  rwa [(find_t h h2).1, (find_t h h2).2] at h1
theorem path_ok {b : Bar} (hw : b.w) (h : okBar b) : Fun Tryz.prog 97 [.agg b.c] (Ret (.tup [.sh 3 ((shpV b).map pntC), iL 0]) []) := by
  have h1 := shapePath_fun b hw
  rwa [okE_in h] at h1
theorem legF_1 (l : List P3) : legF (l.take 1) = (false, ⟨0, 0, 0, 0, 0, 0⟩) := by
  rcases l with _ | ⟨a, l⟩ <;> rfl
theorem legF_s : ∀ (l : List P3) (i : Nat) (p q : P3), 1 ≤ i → (legF (l.take i)).1 = false → l[i - 1]? = some p → l[i]? = some q →
    legF (l.take (i + 1)) = (if isLeg p q then (true, legB p q) else (false, ⟨0, 0, 0, 0, 0, 0⟩)) ∧ legF (l.take i) = (false, ⟨0, 0, 0, 0, 0, 0⟩)
  | [], i, p, q, h1, h2, h3, h4 => by simp at h4
  | a :: t, 0, p, q, h1, h2, h3, h4 => absurd h1 (by omega)
  | a :: t, 1, p, q, h1, h2, h3, h4 => by
    simp only [Nat.sub_self, List.getElem?_cons_zero, Option.some.injEq] at h3; subst h3
    rcases t with _ | ⟨b, t⟩
    · simp at h4
    · simp only [List.getElem?_cons_succ, List.getElem?_cons_zero, Option.some.injEq] at h4; subst h4; exact ⟨rfl, rfl⟩
  | a :: t, j + 2, p, q, h1, h2, h3, h4 => by
    rcases t with _ | ⟨b, t⟩
    · simp at h4
    · have e : ∀ n, legF ((a :: b :: t).take (n + 2)) = if isLeg a b then (true, legB a b) else legF ((b :: t).take (n + 1)) := fun n => rfl; rw [e] at h2; rw [e, e]
      have hn : ¬ isLeg a b := fun h => by rw [if_pos h] at h2; cases h2
      rw [if_neg hn] at h2 ⊢; rw [if_neg hn]; exact legF_s (b :: t) (j + 1) p q (by omega) h2 (by simpa using h3) (by simpa using h4)
theorem legF_end : ∀ (l : List P3) (i : Nat), (legF (l.take i)).1 = true → legF l = legF (l.take i)
  | [], i, h => by simp [legF] at h
  | a :: t, 0, h => by cases h
  | a :: t, 1, h => by cases h
  | a :: [], j + 2, h => by simp [legF] at h
  | a :: b :: t, j + 2, h => by
    have e : ∀ n, legF ((a :: b :: t).take (n + 2)) = if isLeg a b then (true, legB a b) else legF ((b :: t).take (n + 1)) := fun n => rfl; have e2 : legF (a :: b :: t) = if isLeg a b then (true, legB a b) else legF (b :: t) := rfl; rw [e] at h ⊢; rw [e2]
    split
    · rfl
    · rename_i hn
      rw [if_neg hn] at h; exact legF_end (b :: t) (j + 1) h
theorem legF_full {l : List P3} {i : Nat} (h : l.length ≤ i) : legF l = legF (l.take i) := by rw [List.take_of_length_le h]
theorem leg_t {l : List P3} {i : Nat} {p q : P3} (h1 : 1 ≤ i) (h2 : (legF (l.take i)).1 = false) (h3 : l[i - 1]? = some p) (h4 : l[i]? = some q) (h : isLeg p q) : legF (l.take (i + 1)) = (true, ⟨min p.1 q.1, p.2.1, p.2.2, max p.1 q.1, p.2.1, p.2.2⟩) := by
  rw [(legF_s l i p q h1 h2 h3 h4).1, if_pos h]; rfl
theorem leg_n {l : List P3} {i : Nat} {p q : P3} (h1 : 1 ≤ i) (h2 : (legF (l.take i)).1 = false) (h3 : l[i - 1]? = some p) (h4 : l[i]? = some q) (h : ¬ isLeg p q) : legF (l.take (i + 1)) = legF (l.take i) := by
  rw [(legF_s l i p q h1 h2 h3 h4).1, (legF_s l i p q h1 h2 h3 h4).2, if_neg h]
def legRow (v : Bool × Bx) (s : Int) (mk : List UInt8) : List AV := [iL v.2.lx, iL v.2.ly, iL v.2.lz, iL v.2.hx, iL v.2.hy, iL v.2.hz, bL v.1, iL s, sL mk]
theorem leg_row {v w : Bool × Bx} {s : Int} {mk : List UInt8} (e : v = w) : [legRow w s mk] = [legRow v s mk] := by rw [e]
theorem runMains_succ (bars : List Bar) (r : Rn) (k : Nat) : runMains bars r (k + 1) = runMains bars r k ++ [mainOf (lineOf bars r.mark) (frV r.tx r.ty (atR r k) (shpV (lineOf bars r.mark)))] := by
  rw [runMains, List.range_succ, List.map_append]; rfl
theorem runMains_len (bars : List Bar) (r : Rn) (k : Nat) : (runMains bars r k).length = k := by simp [runMains]
theorem runGood_succ {bars : List Bar} {r : Rn} {k : Nat} (h : runGood bars r k) (h1 : frE r.tx r.ty (atR r k) (shpV (lineOf bars r.mark)) = 0) : runGood bars r (k + 1) := fun j hj => by
  by_cases e : j = k
  · subst e; exact h1
  · exact h j (by omega)
theorem mainsG_snoc (bars : List Bar) (pre : List Rn) (s : Rn) : mainsG bars (pre ++ [s]) = mainsG bars pre ++ runMains bars s s.n.toNat := by simp [mainsG]
theorem mainsG_len (bars : List Bar) : ∀ l : List Rn, (∀ r ∈ l, 1 ≤ r.n) → ((mainsG bars l).length : Int) = cntS l := by
  refine snoc_ind (fun _ => rfl) ?_; intro l s ih h; have h1 := ih fun r hr => h r (by simp [hr]); have h2 := h s (by simp); rw [mainsG_snoc, List.length_append, runMains_len, cnt_snoc]; omega
theorem mains_row {bars : List Bar} {r : Rn} {k : Nat} {l : List P3} {i : Nat} (X : List Mn) (e : legF l = legF (l.take i)) (hl : l = frV r.tx r.ty (atR r k) (shpV (lineOf bars r.mark))) :
    (X ++ runMains bars r k ++ [(⟨⟨(legF (l.take i)).2.lx, (legF (l.take i)).2.ly, (legF (l.take i)).2.lz, (legF (l.take i)).2.hx, (legF (l.take i)).2.hy, (legF (l.take i)).2.hz⟩, (legF (l.take i)).1, (lineOf bars r.mark).size, (lineOf bars r.mark).mark⟩ : Mn)]).map Mn.c = (X ++ runMains bars r (k + 1)).map Mn.c := by
  rw [runMains_succ, ← List.append_assoc, ← hl, mainOf, e]
theorem mains_row_t {bars : List Bar} {r : Rn} {k : Nat} {l : List P3} {i : Nat} (X : List Mn) (e : legF l = legF (l.take i)) (hl : l = frV r.tx r.ty (atR r k) (shpV (lineOf bars r.mark))) (hb : (legF (l.take i)).1 = true) :
    (X ++ runMains bars r k ++ [(⟨⟨(legF (l.take i)).2.lx, (legF (l.take i)).2.ly, (legF (l.take i)).2.lz, (legF (l.take i)).2.hx, (legF (l.take i)).2.hy, (legF (l.take i)).2.hz⟩, true, (lineOf bars r.mark).size, (lineOf bars r.mark).mark⟩ : Mn)]).map Mn.c = (X ++ runMains bars r (k + 1)).map Mn.c := by
  rw [← hb]; exact mains_row X e hl
theorem leg_row_n {v w : Bool × Bx} {s : Int} {mk : List UInt8} (e : v = w) (hb : w.1 = false) : [[iL w.2.lx, iL w.2.ly, iL w.2.lz, iL w.2.hx, iL w.2.hy, iL w.2.hz, bL false, iL s, sL mk]] = [legRow v s mk] := by
  subst e; rw [legRow, hb]
theorem run_bd {bars : List Bar} {r : Rn} {k : Nat} (h : rightP bars r) (hk : (k : Int) < r.n) : (-2097152000 ≤ (k : Int) * r.sx ∧ (k : Int) * r.sx ≤ 2097152000) ∧ (-2097152000 ≤ (k : Int) * r.sy ∧ (k : Int) * r.sy ≤ 2097152000) ∧ (-2097152000 ≤ (k : Int) * r.sz ∧ (k : Int) * r.sz ≤ 2097152000) ∧ (-1048576 ≤ r.ax ∧ r.ax ≤ 1048576) ∧ (-1048576 ≤ r.ay ∧ r.ay ≤ 1048576) ∧ -1048576 ≤ r.az ∧ r.az ≤ 1048576 := by
  obtain ⟨g1, g2, g3, g4, g5, g6, g7⟩ := h; have ha : (-1048576 ≤ r.ax ∧ r.ax ≤ 1048576) ∧ (-1048576 ≤ r.ay ∧ r.ay ≤ 1048576) ∧ -1048576 ≤ r.az ∧ r.az ≤ 1048576 := g4
  by_cases h1 : r.n > 1
  · have hs : (-2097152 ≤ r.sx ∧ r.sx ≤ 2097152) ∧ (-2097152 ≤ r.sy ∧ r.sy ≤ 2097152) ∧ -2097152 ≤ r.sz ∧ r.sz ≤ 2097152 := (g5 h1).2; have m1 := mulB (a := (k : Int)) (b := r.sx) (A := 1000) (B := 2097152) (by omega) hs.1; have m2 := mulB (a := (k : Int)) (b := r.sy) (A := 1000) (B := 2097152) (by omega) hs.2.1; have m3 := mulB (a := (k : Int)) (b := r.sz) (A := 1000) (B := 2097152) (by omega) hs.2.2; refine ⟨by omega, by omega, by omega, ha⟩
  obtain rfl : k = 0 := by omega
  refine ⟨?_, ?_, ?_, ha⟩ <;> simp
theorem frV_len (x y : Int) (q : P3) (b : Bar) : (frV x y q (shpV b)).length ≤ 7 := by
  have := shpV_len b
  unfold frV
  split
  · rw [List.length_map]; omega
  simp
theorem mains_len {bars : List Bar} {runs : List Rn} (h : laidOK bars runs) : (mainsV bars runs).length ≤ 2000 := by
  have h1 := mainsG_len bars runs fun r hr => (h.2.2.1 r hr).2.2.1.1; have h2 := h.2.2.2
  unfold mainsV
  split
  · omega
  simp
theorem mains_bad {bars : List Bar} {runs pre suf : List Rn} {s : Rn} {k : Nat} (hp : pre ++ s :: suf = runs) (hk : (k : Int) < s.n) (h : ¬ frE s.tx s.ty (atR s k) (shpV (lineOf bars s.mark)) = 0) : mainsV bars runs = [] :=
  if_neg fun h2 => h (h2 s (by rw [← hp]; simp) k (by omega))
theorem mains_fun (x : Det) (hw : x.w) (hlo : laidOK x.bars x.runs) : Fun Tryz.prog 73 [.agg x.c] (Ret (.sh 9 ((mainsV x.bars x.runs).map Mn.c)) []) := by
  obtain ⟨hw1, ⟨hw2, hw2b⟩, ⟨hw3, hw3b⟩, hw4, hw5, hw6⟩ := hw; obtain ⟨hl1, hl2, hl3, hl4⟩ := id hlo; refine Fun.of (nt := 164) (rs := [.tmp 2]) Tryz.func73 rfl rfl rfl rfl rfl (Ev.sr fun _ G=>S.nn (q.bx _ true) (S.o q.as (S.e G (Ev.sr fun _ G=>S.o q.as (S.e G (Ev.seq (Ev.sr fun _ G=>S.o (q.fa 7 am_fi34_2 am_cl28) (S.o (q.lv am_ag28) (S.o (q.lens am_el28) (S.o q.mv (S.e G (Ev.block (Ev.weaken (Wk.nown Mn.c 3 156 9) (Ev.loopU (ι := {q : List Rn × List Rn // q.1 ++ q.2 = x.runs ∧ ∀ r ∈ q.1, runGood x.bars r r.n.toNat}) [0, 1] [1, 19, 20] (fun ⟨(pre, suf), _⟩ => [(21, iL (pre.length : Int)), (3, .als 1 0 (mainsG x.bars pre).length)]) (fun ⟨(pre, suf), _⟩ => [(0, ⟨false, 34, 19, [[sL (x.mem.name), .sh 6 ((x.mem.bs).map Bx.c), .sh 6 ((x.mem.hs).map Bx.c), iL (x.mem.cov), iL (x.mem.agg), iL (x.mem.pok), .sh 5 ((x.bars).map Bar.c), .sh 10 ((x.runs).map Rn.c), .sh 2 ((x.laps).map pairC), .sh 8 ((x.dems).map Dem.c), iL (x.rule.r1), iL (x.rule.r2), iL (x.rule.r3), iL (x.rule.r4), iL (x.rule.r5), iL (x.rule.r6), iL (x.rule.r7), iL (x.rule.r8), iL (x.rule.r9)]], true⟩), (1, ⟨true, 156, 9, (mainsG x.bars pre).map Mn.c, true⟩)]) (fun ⟨(pre, suf), _⟩ => suf.length) ⟨([], x.runs), rfl, fun x hx => by simp at hx⟩ (.c (.c (.c .n))) (keep_c (h := (keep_c))) (slots_c (h := (slots_c))) ?_)))))))))))))); rintro ⟨⟨pre, suf⟩, hp, hinv⟩ R0 hR0; dsimp only [cA, nA, lC, lN]
  simp only at hp hinv
  have hpl := lenA hp
  rcases suf with _ | ⟨s, suf⟩
  · rw [List.append_nil] at hp; simp only [lN] at hpl; refine Ev.sr fun _ G=>S.o q.lss (S.e G (Ev.ud (fun c1 => ?_) (fun c1 => ?_)))
    · omega
    refine Ev.exit (hR0 _ _ (Ev.sr fun _ G=>S.o q.mv (S.o q.as (S.e G (Ev.weaken (Wk.frz 2 [_]) (Ev.ret (Ev.p1 ?_))))))); rw [mainsV, if_pos (by rw [← hp]; exact hinv), ← hp]
  simp only [lC] at hpl; have hidx := getA hp; have hms := memA hp; have hrp := hl3 s hms; have hmk := hrp.1; have hsn := hrp.2.2.1; have hlg := line_get hmk; have hwl := hw2b _ (line_mem hmk); have hob := hl1.2.1 _ (line_mem hmk); have hsl := shpV_len (lineOf x.bars s.mark); have hct := cnt_cut hp (fun z hz => (hl3 z hz).2.2.1.1); have hgl := mainsG_len x.bars pre (fun z hz => (hl3 z (by rw [← hp]; simp [hz])).2.2.1.1); have hmb := markI_bd x.bars s.mark; refine Ev.sr fun _ G=>S.o q.lss (S.e G (Ev.ud (fun c2 => ?_) (fun c2 => ?_)))
  · refine Ev.seq (Ev.block (Ev.sr fun _ G=>S.o (q.ix am_el28 am_cl40 (hl := (by exact ati hidx (by omega)))) (S.o (q.lsA _ am_ag40 am_cl40) (S.nn (q.al am_ze40) (S.sv _ true [_, _] am_in40 am_cl40 (h := S.e G (Ev.sr fun _ G=>S.o (q.fa 6 am_fi34_1 am_cl27) (S.o (q.lv am_ag27) (S.o (q.fa 0 am_fi40_0 am_cl9) (S.o (q.lv am_ag9) (S.c0 (hF := find_ok hw2 hw2b hl1 hmk) (h := S.o q.mv (S.o q.ex (S.o q.ex (S.o q.as (S.o q.as (S.e G (Ev.seq (Ev.sr fun _ G=>S.o q.mv (S.o q.neq (S.e G (Ev.cn (fun c3 => ?_) (fun c3 => ?_)))))))))))))))))))))))
    · omega
    refine Ev.skip (Ev.sr fun _ G=>S.o (q.fa 6 am_fi34_1 am_cl27) (S.o (q.lv am_ag27) (S.o q.mv (S.o (q.ix am_el27 am_cl58 (hl := (by exact ati hlg (by omega)))) (S.o (q.lsA _ am_ag58 am_cl58) (S.nn (q.al am_ze58) (S.sv _ true [_, _, _] am_in58 am_cl58 (h := S.e G (Ev.sr fun _ G=>S.o (q.lvA _ am_ag58 am_cl58) (S.c0 (hF := path_ok hwl hob) (h := S.o q.mv (S.o q.ex (S.o q.ex (S.o q.as (S.o q.as (S.e G (Ev.seq (Ev.sr fun _ G=>S.o q.mv (S.o q.neq (S.e G (Ev.cn (fun c4 => ?_) (fun c4 => ?_))))))))))))))))))))))
    · omega
    refine Ev.skip (Ev.sr fun _ G=>S.o (q.fa 9 am_fi40_4 am_cl3) (S.o (q.lv am_ag3) (S.o q.mv (S.e G (Ev.block (Ev.loopU (ι := {k : Nat // (k : Int) ≤ s.n ∧ runGood x.bars s k}) [0, 1, 2, 3] [1, 5, 8, 9, 19, 20, 21, 48] (fun ⟨k, _⟩ => [(49, iL (k : Int)), (3, .als 1 0 (mainsG x.bars pre ++ runMains x.bars s k).length)]) (fun ⟨k, _⟩ => [(0, ⟨false, 34, 19, [[sL (x.mem.name), .sh 6 ((x.mem.bs).map Bx.c), .sh 6 ((x.mem.hs).map Bx.c), iL (x.mem.cov), iL (x.mem.agg), iL (x.mem.pok), .sh 5 ((x.bars).map Bar.c), .sh 10 ((x.runs).map Rn.c), .sh 2 ((x.laps).map pairC), .sh 8 ((x.dems).map Dem.c), iL (x.rule.r1), iL (x.rule.r2), iL (x.rule.r3), iL (x.rule.r4), iL (x.rule.r5), iL (x.rule.r6), iL (x.rule.r7), iL (x.rule.r8), iL (x.rule.r9)]], true⟩), (1, ⟨true, 156, 9, (mainsG x.bars pre ++ runMains x.bars s k).map Mn.c, true⟩), (2, ⟨false, 40, 10, [[sL (s.mark), iL (s.tx), iL (s.ty), iL (s.ax), iL (s.ay), iL (s.az), iL (s.sx), iL (s.sy), iL (s.sz), iL (s.n)]], true⟩), (3, ⟨false, 58, 5, [[sL ((lineOf x.bars s.mark).mark), iL ((lineOf x.bars s.mark).size), iL ((lineOf x.bars s.mark).count), iL ((lineOf x.bars s.mark).code), .sh 1 (((lineOf x.bars s.mark).dims).map intC)]], true⟩)]) (fun ⟨k, _⟩ => s.n.toNat - k) ⟨0, by omega, fun j hj => absurd hj (by omega)⟩ (.c (.c (.c (.c (.c (.c (.c (.c .n)))))))) (keep_c (h := (keep_c (he := (by simp [runMains])) (h := (keep_c (h := (keep_c))))))) (slots_c (h := (slots_c (he := (by exact congrArg (fun q => AV.als 1 0 q) (by simp only [List.length_append, runMains_len, List.length_cons, List.length_nil]; omega)))))) ?_))))))
    rintro ⟨k, hk, hgk⟩ R2 hR2; dsimp only [cA, nA, lC, lN]
    by_cases hkn : (k : Int) < s.n
    rotate_left
    · have hke : k = s.n.toNat := by omega
      refine Ev.sr fun _ G=>S.o q.lss (S.e G (Ev.ud (fun c5 => ?_) (fun c5 => ?_)))
      · omega
      refine Ev.exit (hR2 _ _ (Ev.region_S fun _ G=>S.o q.add (S.o q.mv (S.e G (hR0 _ _ (roundU [0, 1] [1, 19, 20] ⟨(pre ++ [s], suf), sucA hp, ?_⟩ muL (keep_c (h := (keep_c (he := (by rw [mainsG_snoc, hke]))))) (slots_c (he := (by congr 2; simp)) (h := (slots_c (he := (by exact congrArg (fun q => AV.als 1 0 q) (by rw [mainsG_snoc, hke])))))) (.c (.c (.c .n))))))))); intro z hz
      rcases List.mem_append.1 hz with hz | hz
      · exact hinv z hz
      · rw [List.mem_singleton] at hz; subst hz; rw [← hke]; exact hgk
    obtain ⟨b1, b2, b3, b4, b5, b6⟩ := run_bd hrp hkn; have hrl := runMains_len x.bars s k; refine Ev.sr fun _ G=>S.o q.lss (S.e G (Ev.ud (fun c6 => ?_) (fun c6 => ?_)))
    · refine Ev.seq (Ev.block (Ev.sr fun _ G=>S.o q.mv (S.o q.as (S.e G (Ev.sr fun _ G=>S.o (q.fa 3 am_fi40_2 am_cl38) (S.o (q.fa 3 am_fi38_0 am_cl3) (S.o (q.lv am_ag3) (S.o q.mv (S.o (q.fa 6 am_fi40_3 am_cl38) (S.o (q.fa 6 am_fi38_0 am_cl3) (S.o (q.lv am_ag3) (S.o q.mul (S.o q.add (S.o (q.fa 3 am_fi40_2 am_cl38) (S.o (q.fa 4 am_fi38_1 am_cl3) (S.o (q.lv am_ag3) (S.o q.mv (S.o (q.fa 6 am_fi40_3 am_cl38) (S.o (q.fa 7 am_fi38_1 am_cl3) (S.o (q.lv am_ag3) (S.o q.mul (S.o q.add (S.o (q.fa 3 am_fi40_2 am_cl38) (S.o (q.fa 5 am_fi38_2 am_cl3) (S.o (q.lv am_ag3) (S.o q.mv (S.o (q.fa 6 am_fi40_3 am_cl38) (S.o (q.fa 8 am_fi38_2 am_cl3) (S.o (q.lv am_ag3) (S.o q.mul (S.o q.add (S.o (q.bd _ am_ze38 am_pl38) (S.nn (q.al am_ze38) (S.sv _ true [_, _, _, _] am_in38 am_cl38 (h := S.e G (Ev.sr fun _ G=>S.o (q.fa 1 am_fi40_1 am_cl36) (S.o (q.lvA _ am_ag36 am_cl36) (S.o (q.lvA _ am_ag38 am_cl38) (S.o q.mv (S.c0 (hF := framePath_fun s.tx s.ty (atR s k) (shpV (lineOf x.bars s.mark)) (by omega)) (h := S.o q.mv (S.o q.ex (S.o q.ex (S.o q.as (S.o q.as (S.e G (Ev.seq (Ev.sr fun _ G=>S.o q.mv (S.o q.neq (S.e G (Ev.cn (fun c7 => ?_) (fun c7 => ?_))))))))))))))))))))))))))))))))))))))))))))))))))))
      · refine Ev.sr fun _ G=>S.o q.as (S.e G (Ev.weaken (Wk.nsh Mn.c 2 9) (Ev.ret (hR2 _ _ (hR0 _ _ (Ev.p1 ?_)))))); rw [mains_bad (k := k) hp hkn ‹_›]
      refine Ev.skip (Ev.sr fun _ G=>S.o (q.fa 1 am_fi58_1 am_cl3) (S.o (q.lv am_ag3) (S.o (q.fa 0 am_fi58_0 am_cl9) (S.o (q.lv am_ag9) (S.o (q.bd _ am_ze156 am_pl156) (S.nn (q.al am_ze156) (S.sv _ true [_, _, _, _, _] am_in156 am_cl156 (h := S.e G (Ev.seq ?_)))))))))
      have hgd : frE s.tx s.ty (atR s k) (shpV (lineOf x.bars s.mark)) = 0 := by omega
      obtain ⟨l, hl⟩ : ∃ l, l = frV s.tx s.ty (atR s k) (shpV (lineOf x.bars s.mark)) := ⟨_, rfl⟩; have hll := frV_len s.tx s.ty (atR s k) (lineOf x.bars s.mark); rw [← hl] at hll; rw [← hl]
      refine Ev.sr fun _ G=>S.o q.as (S.e G (Ev.block (Ev.loopU (ι := {i : Nat // 1 ≤ i ∧ i ≤ 8}) [0, 1, 2, 3, 4, 5] [1, 5, 8, 9, 12, 14, 19, 20, 21, 48, 49] (fun ⟨i, _⟩ => [(15, iL (i : Int)), (3, .als 1 0 (mainsG x.bars pre ++ runMains x.bars s k).length)]) (fun ⟨i, _⟩ => [(0, ⟨false, 34, 19, [[sL (x.mem.name), .sh 6 ((x.mem.bs).map Bx.c), .sh 6 ((x.mem.hs).map Bx.c), iL (x.mem.cov), iL (x.mem.agg), iL (x.mem.pok), .sh 5 ((x.bars).map Bar.c), .sh 10 ((x.runs).map Rn.c), .sh 2 ((x.laps).map pairC), .sh 8 ((x.dems).map Dem.c), iL (x.rule.r1), iL (x.rule.r2), iL (x.rule.r3), iL (x.rule.r4), iL (x.rule.r5), iL (x.rule.r6), iL (x.rule.r7), iL (x.rule.r8), iL (x.rule.r9)]], true⟩), (1, ⟨true, 156, 9, (mainsG x.bars pre ++ runMains x.bars s k).map Mn.c, true⟩), (2, ⟨false, 40, 10, [[sL (s.mark), iL (s.tx), iL (s.ty), iL (s.ax), iL (s.ay), iL (s.az), iL (s.sx), iL (s.sy), iL (s.sz), iL (s.n)]], true⟩), (3, ⟨false, 58, 5, [[sL ((lineOf x.bars s.mark).mark), iL ((lineOf x.bars s.mark).size), iL ((lineOf x.bars s.mark).count), iL ((lineOf x.bars s.mark).code), .sh 1 (((lineOf x.bars s.mark).dims).map intC)]], true⟩), (4, ⟨false, 38, 3, [[iL ((atR s k).1), iL ((atR s k).2.1), iL ((atR s k).2.2)]], true⟩), (5, ⟨false, 156, 9, [[iL ((legF (l.take i)).2.lx), iL ((legF (l.take i)).2.ly), iL ((legF (l.take i)).2.lz), iL ((legF (l.take i)).2.hx), iL ((legF (l.take i)).2.hy), iL ((legF (l.take i)).2.hz), bL ((legF (l.take i)).1), iL ((lineOf x.bars s.mark).size), sL ((lineOf x.bars s.mark).mark)]], true⟩)]) (fun ⟨i, _⟩ => 8 - i) ⟨1, by decide, by decide⟩ (.c (.c (.c (.c (.c (.c (.c (.c (.c (.c (.c .n))))))))))) (keep_c (h := (keep_c (h := (keep_c (h := (keep_c (h := (keep_c (h := (keep_c (he := (by exact leg_row (legF_1 _)))))))))))))) (slots_c (h := (slots_c))) ?_)))
      rintro ⟨i, hi1, hi2⟩ R4 hR4; dsimp only [cA, nA, lC, lN]
      by_cases hil : i < l.length
      rotate_left
      rotate_left
      rcases hbl : (legF (l.take i)).1
      rotate_left
      · have hle := legF_end l i hbl; refine Ev.seq (Ev.sr fun _ G=>S.o q.mv (S.o q.mv (S.o (q.lens am_el136) (S.o q.lss (S.bd q.mv (fun c8 => ?_) (fun c8 => ?_))))))
        · refine S.o (q.fa 6 am_fi156_1 am_cl4) (S.o (q.lv am_ag4) (S.o q.not (S.o q.pt (S.e G (Ev.c (fun c9 => ?_) (fun c9 => ?_))))))
          · contradiction
          refine Ev.exit (hR4 _ _ (Ev.region_S fun _ G=>S.o q.mv (S.o (q.lvA _ am_ag156 am_cl156) (S.nn (q.bs [[_, _, _, _, _, _, _, _, _]] true am_el97 am_ze156 am_cl156) (S.ap' [_, _, _, _, _, _] am_el97 am_ze156 am_cl156 am_by156 (hh := head_own') (hr := (rows_lit [(⟨⟨_, _, _, _, _, _⟩, _, _, _⟩ : Mn)])) (h := S.o q.as (S.e G ?_))))))); show Ev _ _ _ _; refine Ev.region_S fun _ G=>S.o q.add (S.o q.mv (S.e G (hR2 _ _ (roundU [0, 7, 2, 3] [1, 5, 8, 9, 19, 20, 21, 48] ⟨k + 1, by omega, runGood_succ hgk hgd⟩ ?_ (keep_c (h := (keep_c (he := (by exact mains_row_t _ hle hl hbl)) (h := (keep_c (h := (keep_c))))))) (slots_c (h := (slots_c (he := (by exact congrArg (fun q => AV.als 1 0 q) (by simp only [List.length_append, runMains_len, List.length_cons, List.length_nil]; omega)))))) (.c (.c (.c (.c (.c (.c (.c (.c .n)))))))))))); skip; all_goals (dsimp only; omega)
        omega
      · have hle := legF_full (l := l) (i := i) (by omega); refine Ev.seq (Ev.sr fun _ G=>S.o q.mv (S.o q.mv (S.o (q.lens am_el136) (S.o q.lss (S.bd q.mv (fun c13 => ?_) (fun c13 => ?_))))))
        · omega
        refine S.s2 (S.sk (S.o q.pf (S.e G (Ev.cf (Ev.exit (hR4 _ _ (Ev.region_S fun _ G=>S.o q.mv (S.o (q.lvA _ am_ag156 am_cl156) (S.nn (q.bs [[_, _, _, _, _, _, _, _, _]] true am_el97 am_ze156 am_cl156) (S.ap' [_, _, _, _, _, _] am_el97 am_ze156 am_cl156 am_by156 (hh := head_own') (hr := (rows_lit [(⟨⟨_, _, _, _, _, _⟩, _, _, _⟩ : Mn)])) (h := S.o q.as (S.e G ?_)))))))))))); show Ev _ _ _ _; refine Ev.region_S fun _ G=>S.o q.add (S.o q.mv (S.e G (hR2 _ _ (roundU [0, 7, 2, 3] [1, 5, 8, 9, 19, 20, 21, 48] ⟨k + 1, by omega, runGood_succ hgk hgd⟩ ?_ (keep_c (h := (keep_c (he := (by exact mains_row _ hle hl)) (h := (keep_c (h := (keep_c))))))) (slots_c (h := (slots_c (he := (by exact congrArg (fun q => AV.als 1 0 q) (by simp only [List.length_append, runMains_len, List.length_cons, List.length_nil]; omega)))))) (.c (.c (.c (.c (.c (.c (.c (.c .n)))))))))))); skip; all_goals (dsimp only; omega)
      obtain ⟨⟨p1, p2, p3⟩, hp1⟩ : ∃ p, l[i - 1]? = some p := ⟨_, List.getElem?_eq_getElem (by omega)⟩; obtain ⟨⟨q1, q2, q3⟩, hq1⟩ : ∃ q, l[i]? = some q := ⟨_, List.getElem?_eq_getElem (by omega)⟩
      have hp2 : l[((i : Int) - 1).toNat]? = some (p1, p2, p3) := by rw [← hp1]; congr 1; omega
      refine Ev.seq (Ev.sr fun _ G=>S.o q.mv (S.o q.mv (S.o (q.lens am_el136) (S.o q.lss (S.bd q.mv (fun c18 => ?_) (fun c18 => ?_))))))
      · refine S.o (q.fa 6 am_fi156_1 am_cl4) (S.o (q.lv am_ag4) (S.o q.not (S.o q.pt (S.e G (Ev.c (fun c19 => ?_) (fun c19 => ?_))))))
        · refine Ev.skip (Ev.seq (Ev.block (Ev.sl (tbs [(0, 0), (0, 0), (2, 2), (3, 7), (4, 15), (0, 0), (0, 0), (7, 96), (8, 224), (0, 0), (0, 0), (11, 1567), (12, 4095)]) 11 fun _ G=>M.o q.mv (M.o q.mv (M.o q.sub (M.o (q.ix am_el136 am_cl38 (hl := (by exact ati hp2 (by omega)))) (M.o (q.lsA _ am_ag38 am_cl38) (M.o q.mv (M.o q.mv (M.o (q.ix am_el136 am_cl38 (hl := (by exact ati hq1 (by omega)))) (M.o (q.lsA _ am_ag38 am_cl38) (M.nn [_] (q.al am_ze38) (h := M.nn [_, _] (q.al am_ze38) (h := M.late [_, _, _] true [_, _, _, _, _, _, _, _] am_in38 am_cl38 (h := S.sv _ true [_, _, _, _, _, _, _] am_in38 am_cl38 (h := S.e G (Ev.sr fun _ G=>S.o (q.fa 0 am_fi38_0 am_cl3) (S.o (q.lv am_ag3) (S.o (q.fa 0 am_fi38_0 am_cl3) (S.o (q.lv am_ag3) (S.o q.neq (S.bn q.mv (fun c20 => ?_) (fun c20 => ?_)))))))))))))))))))))))
          · refine S.o (q.fa 1 am_fi38_1 am_cl3) (S.o (q.lv am_ag3) (S.o (q.fa 1 am_fi38_1 am_cl3) (S.o (q.lv am_ag3) (S.o q.eql (S.o q.pt (S.bd q.mv (fun c21 => ?_) (fun c21 => ?_)))))))
            · refine S.o (q.fa 2 am_fi38_2 am_cl3) (S.o (q.lv am_ag3) (S.o (q.fa 2 am_fi38_2 am_cl3) (S.o (q.lv am_ag3) (S.o q.eql (S.o q.pt (S.e G (Ev.cd (fun c22 => ?_) (fun c22 => ?_))))))))
              · refine Ev.region_S fun _ G=>S.o (q.fa 0 am_fi38_0 am_cl3) (S.o (q.lv am_ag3) (S.o (q.fa 0 am_fi38_0 am_cl3) (S.o (q.lv am_ag3) (S.o q.min (S.o (q.fa 1 am_fi38_1 am_cl3) (S.o (q.lv am_ag3) (S.o (q.fa 2 am_fi38_2 am_cl3) (S.o (q.lv am_ag3) (S.o (q.bd _ am_ze38 am_pl38) (S.o (q.fa 0 am_fi38_0 am_cl3) (S.o (q.lv am_ag3) (S.o (q.fa 0 am_fi38_0 am_cl3) (S.o (q.lv am_ag3) (S.o q.max (S.o (q.fa 1 am_fi38_1 am_cl3) (S.o (q.lv am_ag3) (S.o (q.fa 2 am_fi38_2 am_cl3) (S.o (q.lv am_ag3) (S.o (q.bd _ am_ze38 am_pl38) (S.o (q.bd _ am_ze75 am_pl75) (S.o (q.fa 0 am_fi156_0 am_cl75) (S.sv _ true [_, _, _, _, _, _, _] am_in75 am_cl75 (h := S.o (q.fa 6 am_fi156_1 am_cl4) (S.sv _ true [_, _, _, _, _, _, _] am_in4 am_cl4 (h := S.e G ?_))))))))))))))))))))))))); show Ev _ _ _ _; refine Ev.region_S fun _ G=>S.o q.mv (S.o q.add (S.o q.as (S.e G (hR4 _ _ (roundU [0, 1, 2, 3, 4, 5] [1, 5, 8, 9, 12, 14, 19, 20, 21, 48, 49] ⟨i + 1, by omega, by omega⟩ ?_ (keep_c (h := (keep_c (h := (keep_c (h := (keep_c (h := (keep_c (h := (keep_c (he := (by exact leg_row (leg_t hi1 hbl hp1 hq1 ⟨by assumption, by assumption, by assumption⟩)))))))))))))) (slots_c (h := (slots_c))) (.c (.c (.c (.c (.c (.c (.c (.c (.c (.c (.c .n)))))))))))))))); skip; all_goals (dsimp only; omega)
              refine Ev.skip (Ev.region_S fun _ G=>S.o q.mv (S.o q.add (S.o q.as (S.e G (hR4 _ _ (roundU [0, 1, 2, 3, 4, 5] [1, 5, 8, 9, 12, 14, 19, 20, 21, 48, 49] ⟨i + 1, by omega, by omega⟩ ?_ (keep_c (h := (keep_c (h := (keep_c (h := (keep_c (h := (keep_c (h := (keep_c (he := (by exact leg_row_n (leg_n hi1 hbl hp1 hq1 (fun hh => by have h1 := hh.1; have h2 := hh.2.1; have h3 := hh.2.2; contradiction)) hbl))))))))))))) (slots_c (h := (slots_c))) (.c (.c (.c (.c (.c (.c (.c (.c (.c (.c (.c .n))))))))))))))))); skip; all_goals (dsimp only; omega)
            refine S.s2 (S.s2 (S.sk (S.o q.pf (S.e G (Ev.cf (Ev.skip (Ev.region_S fun _ G=>S.o q.mv (S.o q.add (S.o q.as (S.e G (hR4 _ _ (roundU [0, 1, 2, 3, 4, 5] [1, 5, 8, 9, 12, 14, 19, 20, 21, 48, 49] ⟨i + 1, by omega, by omega⟩ ?_ (keep_c (h := (keep_c (h := (keep_c (h := (keep_c (h := (keep_c (h := (keep_c (he := (by exact leg_row_n (leg_n hi1 hbl hp1 hq1 (fun hh => by have h1 := hh.1; have h2 := hh.2.1; have h3 := hh.2.2; contradiction)) hbl))))))))))))) (slots_c (h := (slots_c))) (.c (.c (.c (.c (.c (.c (.c (.c (.c (.c (.c .n))))))))))))))))))))))); skip; all_goals (dsimp only; omega)
          refine S.s2 (S.s2 (S.sk (S.o q.pf (S.o q.mv (S.s2 (S.s2 (S.sk (S.o q.pf (S.e G (Ev.cf (Ev.skip (Ev.region_S fun _ G=>S.o q.mv (S.o q.add (S.o q.as (S.e G (hR4 _ _ (roundU [0, 1, 2, 3, 4, 5] [1, 5, 8, 9, 12, 14, 19, 20, 21, 48, 49] ⟨i + 1, by omega, by omega⟩ ?_ (keep_c (h := (keep_c (h := (keep_c (h := (keep_c (h := (keep_c (h := (keep_c (he := (by exact leg_row_n (leg_n hi1 hbl hp1 hq1 (fun hh => by have h1 := hh.1; have h2 := hh.2.1; have h3 := hh.2.2; contradiction)) hbl))))))))))))) (slots_c (h := (slots_c))) (.c (.c (.c (.c (.c (.c (.c (.c (.c (.c (.c .n)))))))))))))))))))))))))))); skip; all_goals (dsimp only; omega)
        contradiction
      omega
    omega
  omega
end Go.Proofs.YtlpgjlnkfgacbaaGreat
