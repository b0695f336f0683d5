/-
  Laid masses, walked.
  Conditions: none.
-/
import Derived.Test.YtkbpignlggahaaaGreatDoorLp8
import Derived.Test.YtkbpignlggahaaaGreatDoorBend
import Derived.Test.YtkbpignlggahaaaGreatDoorAmClone
import Derived.Test.YtkbpignlggahaaaGreatDoorBase
import Derived.Test.YtkbpignlggahaaaGreatDoorAmItoa
import Derived.Shelf.Lay
import Derived.Ground.NamesProg
namespace Go.Proofs.YtkbpignlggahaaaGreatDoor
open Go Go.AM
set_option linter.unusedSimpArgs false
set_option linter.unusedVariables false
set_option maxRecDepth 100000
set_option maxHeartbeats 1000000
def laidM (bars : List Bar) (l : List Rn) (d : Int) : Int := l.foldl (fun a r => if (lineOf bars r.mark).size = d then a + r.n * oneOf (lineOf bars r.mark) else a) 0
theorem laidM_snoc (bars : List Bar) (l : List Rn) (s : Rn) (d : Int) : laidM bars (l ++ [s]) d = if (lineOf bars s.mark).size = d then laidM bars l d + s.n * oneOf (lineOf bars s.mark) else laidM bars l d := by simp [laidM]
def laidAt (bars : List Bar) (l : List Rn) : List Int := sizes.map (laidM bars l)
def Rn.cut (s : Rn) (k : Int) : Rn := { s with n := k }
theorem cut_all (s : Rn) : s.cut s.n = s := rfl
theorem at_step {f g : Int → Int} {z v : Int} (h : z ∈ sizes) (e : ∀ d, g d = if z = d then f d + v else f d) : 0 ≤ idxI sizes z ∧ idxI sizes z < 9 ∧ (sizes.map f)[(idxI sizes z).toNat]? = some (f z) ∧ (sizes.map f).set (idxI sizes z).toNat (f z + v) = sizes.map g ∧ sumI (sizes.map g) = sumI (sizes.map f) + v := by
  have h' := h; simp only [sizes, List.mem_cons, List.not_mem_nil, or_false] at h'
  rcases h' with h' | h' | h' | h' | h' | h' | h' | h' | h' <;> rw [h'] at e ⊢ <;> refine ⟨by decide, by decide, rfl, ?_, ?_⟩ <;>
    simp only [sizes, List.map_cons, List.map_nil, e] <;> simp [idxI, idxP, sumI] <;> omega
theorem laid_step (bars : List Bar) (pre : List Rn) (s : Rn) (k : Int) (h : (lineOf bars s.mark).size ∈ sizes) : 0 ≤ idxI sizes (lineOf bars s.mark).size ∧ idxI sizes (lineOf bars s.mark).size < 9 ∧ (laidAt bars (pre ++ [s.cut k]))[(idxI sizes (lineOf bars s.mark).size).toNat]? = some (laidM bars (pre ++ [s.cut k]) (lineOf bars s.mark).size) ∧
    (laidAt bars (pre ++ [s.cut k])).set (idxI sizes (lineOf bars s.mark).size).toNat (laidM bars (pre ++ [s.cut k]) (lineOf bars s.mark).size + oneOf (lineOf bars s.mark)) = laidAt bars (pre ++ [s.cut (k + 1)]) := by
  obtain ⟨h1, h2, h3, h4, _⟩ := at_step (f := laidM bars (pre ++ [s.cut k])) (g := laidM bars (pre ++ [s.cut (k + 1)])) h (v := oneOf (lineOf bars s.mark)) fun d => by
    rw [laidM_snoc, laidM_snoc]; have e1 : (s.cut (k + 1)).n = k + 1 := rfl; have e2 : (s.cut k).n = k := rfl; have e3 : (s.cut (k + 1)).mark = s.mark := rfl; have e4 : (s.cut k).mark = s.mark := rfl; rw [e1, e2, e3, e4, Int.add_mul, Int.one_mul]
    by_cases hd : (lineOf bars s.mark).size = d
    · simp only [if_pos hd]; omega
    · simp only [if_neg hd]
  exact ⟨h1, h2, h3, h4⟩
theorem laidAt_zero (bars : List Bar) (pre : List Rn) (s : Rn) : laidAt bars pre = laidAt bars (pre ++ [s.cut 0]) := by
  unfold laidAt
  congr 1
  funext d
  rw [laidM_snoc]; have e2 : (s.cut 0).n = 0 := rfl; rw [e2, Int.zero_mul, Int.add_zero, ite_self]
theorem laidAt_len (bars : List Bar) (l : List Rn) : (laidAt bars l).length = 9 := by simp [laidAt, sizes]
def runsOK (bars : List Bar) (l : List Rn) : Prop := ∀ r ∈ l, okBar (lineOf bars r.mark) ∧ 0 ≤ r.n
theorem laidM_bd {bars : List Bar} (d : Int) : ∀ l : List Rn, runsOK bars l → 0 ≤ laidM bars l d ∧ laidM bars l d ≤ 10343154 * cntS l := by
  refine snoc_ind (fun _ => ⟨Int.le_refl _, Int.le_refl _⟩) ?_; intro l s ih h; obtain ⟨i1, i2⟩ := ih fun r hr => h r (by simp [hr]); obtain ⟨h1, h2⟩ := h s (by simp); obtain ⟨h3, h4, _, _⟩ := barMass_bd h1; rw [laidM_snoc, cnt_snoc]; have h5 := Int.mul_nonneg h2 h3; have h6 := Int.mul_le_mul_of_nonneg_left h4 h2
  split <;> omega
theorem laid_runs {bars : List Bar} {runs : List Rn} (h : laidOK bars runs) : runsOK bars runs := fun r hr => ⟨h.1.2.1 _ (line_mem (h.2.2.1 r hr).1), by have := (h.2.2.1 r hr).2.2.1; omega⟩
theorem okV_cut {b : Bar} (h : okBar b) : okV b (cutOf b) = cutOf b ∧ okE b = 0 ∧ szV b.size (massOf b.size (cutOf b)) = oneOf b ∧ szE b.size = 0 ∧ 0 ≤ cutOf b ∧ cutOf b ≤ 1048576 := by
  obtain ⟨h1, h2⟩ := cutOf_bd h; exact ⟨okV_in h, okE_in h, szV_in h.2.1, szE_in h.2.1, by omega, h2⟩
def laidT (bars : List Bar) (l : List Rn) : Int := sumI (laidAt bars l)
def detV (x : Det) (v : Int) : Int := if detOK x then v else 0
def detE (x : Det) : Int := if detOK x then 0 else 1
theorem lbIs_fun (r : Rn) (b : Bar) : Fun Tryz.prog 51 [.agg b.c, .sadr r.c 0] (Ret (.lit (.bool (decide (b.mark = r.mark)))) []) := by
  refine Fun.of (nt := 9) (rs := [.tmp 3]) Tryz.func51 rfl rfl rfl rfl rfl ?_; refine Ev.sr fun K hK => S.nn (q.bx [_, _, _, _, _] true) (S.o q.as (S.end (hK _ ?_))); clear hK K; refine Ev.sr fun K hK => S.o (q.fa 0 am_fi72_0 am_cl9) (S.o (q.lv am_ag9) (S.o (q.fs 0 am_fi82_0 am_cl9) (S.o (q.ls am_ag9) (S.o q.seqs (S.o q.as (S.end (hK _ ?_))))))); clear hK K; refine Ev.ret ?_; refine Ev.ret1 ?_; refine ⟨?_, rfl⟩; rfl
theorem laidBy_fun (x : Det) (hw : x.w) (hlo : laidOK x.bars x.runs) : Fun Tryz.prog 25 [.agg x.c] (Ret (.sh 1 ((laidAt x.bars x.runs).map intC)) []) := by
  obtain ⟨hw1, ⟨hw2, hw2b⟩, ⟨hw3, hw3b⟩, hw4, hw5, hw6⟩ := id hw; have hs9 : sizes.length = 9 := rfl; have hrk := laid_runs hlo; have hl3 := hlo.2.2.1; have hc2 := hlo.2.2.2; refine Fun.of (nt := 60) (rs := [.tmp 2]) Tryz.func25 rfl rfl rfl rfl rfl ?_; refine Ev.sr fun K hK => S.nn (q.bx [_, _, _, _, _, _, _, _, _, _, _, _, _, _, _, _, _, _, _] true) (S.o q.as (S.end (hK _ ?_))); clear hK K; refine Ev.sr fun K hK => S.c0 (hF := sizes_fun) (h := S.o q.as (S.end (hK _ ?_))); clear hK K; refine Ev.sr fun K hK => S.o q.mv (S.o (q.lens am_el66) (S.mkf (f := intC) (0) am_el66 am_ze3 am_cl3 am_by3 (h := S.o q.as (S.end (hK _ ?_))))); clear hK K; refine Ev.seq ?_; refine Ev.sr fun K hK => S.o (q.fa 7 am_fi34_2 am_cl28) (S.o (q.lv am_ag28) (S.o (q.lens am_el28) (S.o q.mv (S.end (hK _ ?_))))); clear hK K; refine Ev.block ?_
  refine Ev.loopU (ι := {p : List (Rn) × List (Rn) // p.1 ++ p.2 = x.runs ∧ True}) [0, 1] [1, 2, 3, 17, 18] (fun ⟨(pre, suf), _⟩ => [(19, .lit (.int .i64 ((pre.length : Int)))), (4, .als 1 0 (laidAt x.bars pre).length)]) (fun ⟨(pre, suf), _⟩ => [(0, ⟨false, 34, 19, [[.lit (str (x.mem.name)), .sh 6 ((x.mem.bs).map Bx.c), .sh 6 ((x.mem.hs).map Bx.c), .lit (.int .i64 (x.mem.cov)), .lit (.int .i64 (x.mem.agg)), .lit (.int .i64 (x.mem.pok)), .sh 5 ((x.bars).map Bar.c), .sh 10 ((x.runs).map Rn.c), .sh 2 ((x.laps).map pairC), .sh 8 ((x.dems).map Dem.c), .lit (.int .i64 (x.rule.r1)), .lit (.int .i64 (x.rule.r2)), .lit (.int .i64 (x.rule.r3)), .lit (.int .i64 (x.rule.r4)), .lit (.int .i64 (x.rule.r5)), .lit (.int .i64 (x.rule.r6)), .lit (.int .i64 (x.rule.r7)), .lit (.int .i64 (x.rule.r8)), .lit (.int .i64 (x.rule.r9))]], true⟩), (1, ⟨true, 3, 1, (laidAt x.bars pre).map intC, true⟩)]) (fun ⟨(pre, suf), _⟩ => suf.length) ⟨([], x.runs), rfl, trivial⟩ (.c (.c (.c (.c (.c .n))))) (keep_c (he := rfl) (h := (keep_c (he := (by first | rfl | (rw [hke, cut_all]; done))) (h := keep_n)))) (slots_c (he := (by first | rfl | (congr 2; simp; done))) (h := (slots_c (he := (by first | rfl | exact congrArg (fun q => AV.als 1 0 q) (by rw [laidAt_len, laidAt_len]))) (h := trivial)))) ?_; rintro ⟨⟨pre, suf⟩, hp, hinv⟩ R0 hR0; dsimp only [List.cons_append, List.nil_append, List.length_cons, List.length_nil]
  simp only at hp hinv
  have hpl : pre.length + suf.length = (x.runs).length := by rw [← hp, List.length_append]
  rcases suf with _ | ⟨s, suf⟩
  · rw [List.append_nil] at hp; simp only [List.length_nil] at hpl; refine Ev.sr fun K hK => S.o q.lss (S.end (hK _ ?_)); clear hK K; refine Ev.ud (fun c1 => ?_) (fun c1 => ?_)
    · first | omega | contradiction | (exfalso; simp at *; done)
    · first
    | omega | contradiction
    | refine Ev.exit ?_; refine hR0 _ _ ?_; show Ev _ _ _ _; refine Ev.sr fun K hK => S.o q.mv (S.o q.as (S.end (hK _ ?_))); clear hK K; refine Ev.weaken (Wk.frz 2 [_]) ?_; refine Ev.ret ?_; refine Ev.ret1 ?_; refine ⟨?_, rfl⟩
      first | (rw [← hp]; done) | rfl
  · simp only [List.length_cons] at hpl
    have hidx : x.runs[pre.length]? = some s := by rw [← hp]; simp
    have hms : s ∈ x.runs := by rw [← hp]; simp
    have hrp := hl3 s hms; have hmk := hrp.1; have hsn := hrp.2.2.1; have hlg := line_get hmk; have hwl := hw2b _ (line_mem hmk); have hob := (hrk s hms).1; have hct := cnt_cut hp (fun z hz => (hl3 z hz).2.2.1.1); have hpk : runsOK x.bars pre := fun r hr => hrk r (by rw [← hp]; simp [hr]); have hmk2 : 0 ≤ idxP (fun b : Bar => decide (b.mark = s.mark)) x.bars 0 := hmk; have hlg2 : x.bars[(idxP (fun b : Bar => decide (b.mark = s.mark)) x.bars 0).toNat]? = some (lineOf x.bars s.mark) := hlg; obtain ⟨b0, hb0⟩ : ∃ b, b = lineOf x.bars s.mark := ⟨_, rfl⟩; rw [← hb0] at hwl hob hlg2; clear hlg; refine Ev.sr fun K hK => S.o q.lss (S.end (hK _ ?_)); clear hK K; refine Ev.ud (fun c2 => ?_) (fun c2 => ?_)
    · first
    | omega | contradiction
    | refine Ev.seq ?_; refine Ev.block ?_; refine Ev.sr fun K hK => S.o (q.ix am_el28 am_cl82 (hl := (by first | exact ati hidx (by omega) | exact ati hlg2 (by omega) | exact atig (by omega)))) (S.o (q.lsA [_, _, _, _, _, _, _, _, _, _] am_ag82 am_cl82) (S.nn (q.al am_ze82) (S.sv [_, _, _, _, _, _, _, _, _, _] true [_, _] am_in82 am_cl82 (h := S.end (hK _ ?_))))); clear hK K; refine Ev.sm (tbs [(0, 0), (1, 1), (0, 0), (3, 4), (0, 0), (5, 28), (6, 63), (7, 127), (0, 0), (9, 511)]) 9 fun K hK => M.o (q.fa 6 am_fi34_1 am_cl27) (M.o (q.lv am_ag27) (M.o (q.fa 6 am_fi34_1 am_cl27) (M.o (q.lv am_ag27) (M.o q.mf (M.c0 (hF := indexFuncBar1 _ _ _ (lbIs_fun s) x.bars (by omega)) (h := M.o (q.ix am_el27 am_cl72 (hl := (by first | exact ati hidx (by omega) | exact ati hlg2 (by omega) | exact atig (by omega)))) (M.o (q.lsA [_, _, _, _, _] am_ag72 am_cl72) (M.nn [_] (q.al am_ze72) (h := M.end [_, _, _, _] (h := S.sv [_, _, _, _, _] true [_, _, _] am_in72 am_cl72 (h := S.end (hK _ ?_)))))))))))); clear hK K; refine Ev.sr fun K hK => S.o (q.lvA [_, _, _, _, _] am_ag72 am_cl72) (S.c0 (hF := cut_fun _ (by assumption)) (h := S.o q.mv (S.o q.ex (S.o q.ex (S.o q.as (S.o q.as (S.end (hK _ ?_)))))))); clear hK K; obtain ⟨e1, e2, e3, e4, e5, e6⟩ := okV_cut hob; rw [e1]
      refine Ev.sr fun K hK => S.o (q.fa 1 am_fi72_1 am_cl3) (S.o (q.lv am_ag3) (S.o q.mv (S.c0 (hF := Mass_fun _ _ (by omega) (by omega)) (h := S.o q.mv (S.o q.ex (S.o q.ex (S.o q.as (S.o q.as (S.end (hK _ ?_)))))))))); clear hK K; rw [e3]; refine Ev.sr fun K hK => S.o (q.fa 9 am_fi82_4 am_cl3) (S.o (q.lv am_ag3) (S.o q.mv (S.end (hK _ ?_)))); clear hK K; refine Ev.block ?_
      refine Ev.loopU (ι := {k : Nat // (k : Int) ≤ s.n}) [0, 1, 2, 35] [1, 2, 3, 6, 7, 8, 10, 17, 18, 19, 20, 21, 22, 23, 24, 25, 26, 27, 28, 29, 30, 31, 32, 33, 34, 35, 36, 37, 38, 39, 40, 41, 42, 43, 44] (fun ⟨k, _⟩ => [(45, .lit (.int .i64 ((k : Int)))), (4, .als 1 0 (laidAt x.bars (pre ++ [s.cut (k : Int)])).length)]) (fun ⟨k, _⟩ => [(0, ⟨false, 34, 19, [[.lit (str (x.mem.name)), .sh 6 ((x.mem.bs).map Bx.c), .sh 6 ((x.mem.hs).map Bx.c), .lit (.int .i64 (x.mem.cov)), .lit (.int .i64 (x.mem.agg)), .lit (.int .i64 (x.mem.pok)), .sh 5 ((x.bars).map Bar.c), .sh 10 ((x.runs).map Rn.c), .sh 2 ((x.laps).map pairC), .sh 8 ((x.dems).map Dem.c), .lit (.int .i64 (x.rule.r1)), .lit (.int .i64 (x.rule.r2)), .lit (.int .i64 (x.rule.r3)), .lit (.int .i64 (x.rule.r4)), .lit (.int .i64 (x.rule.r5)), .lit (.int .i64 (x.rule.r6)), .lit (.int .i64 (x.rule.r7)), .lit (.int .i64 (x.rule.r8)), .lit (.int .i64 (x.rule.r9))]], true⟩), (1, ⟨true, 3, 1, (laidAt x.bars (pre ++ [s.cut (k : Int)])).map intC, true⟩), (2, ⟨false, 82, 10, [[.lit (str (s.mark)), .lit (.int .i64 (s.tx)), .lit (.int .i64 (s.ty)), .lit (.int .i64 (s.ax)), .lit (.int .i64 (s.ay)), .lit (.int .i64 (s.az)), .lit (.int .i64 (s.sx)), .lit (.int .i64 (s.sy)), .lit (.int .i64 (s.sz)), .lit (.int .i64 (s.n))]], true⟩), (3, ⟨false, 72, 5, [[.lit (str (b0.mark)), .lit (.int .i64 (b0.size)), .lit (.int .i64 (b0.count)), .lit (.int .i64 (b0.code)), .sh 1 ((b0.dims).map intC)]], true⟩)]) (fun ⟨k, _⟩ => s.n.toNat - k) ⟨0, by omega⟩ (.c (.c (.c (.c (.c (.c (.c (.c (.c (.c (.c (.c (.c (.c (.c (.c (.c (.c (.c (.c (.c (.c (.c (.c (.c (.c (.c (.c (.c (.c (.c (.c (.c (.c (.c .n))))))))))))))))))))))))))))))))))) (keep_c (he := rfl) (h := (keep_c (he := (by first | rfl | (rw [← laidAt_zero]; done) | exact congrArg _ (laidAt_zero _ _ _) | exact congrArg _ i4 | (rw [i4]; done))) (h := (keep_c (he := rfl) (h := (keep_c (he := rfl) (h := keep_n)))))))) (slots_c (he := (by first | rfl | (congr 2; omega))) (h := (slots_c (he := (by first | rfl | exact congrArg (fun q => AV.als 1 0 q) (by rw [laidAt_len, laidAt_len]) | exact congrArg (fun q => AV.als 1 0 q) (by rw [List.length_set, laidAt_len, laidAt_len]))) (h := trivial)))) ?_
      rintro ⟨k, hk⟩ R2 hR2; dsimp only [List.cons_append, List.nil_append, List.length_cons, List.length_nil]
      by_cases hkn : (k : Int) < s.n
      rotate_left
      · have hke : (k : Int) = s.n := by omega
        refine Ev.sr fun K hK => S.o q.lss (S.end (hK _ ?_)); clear hK K; refine Ev.ud (fun c3 => ?_) (fun c3 => ?_)
        · first | omega | contradiction | (exfalso; simp at *; done)
        · first
        | omega | contradiction
        | refine Ev.exit ?_; refine hR2 _ _ ?_; show Ev _ _ _ _; refine Ev.region_S fun K hK => S.o q.add (S.o q.mv (S.end (hK _ ?_))); clear hK K; refine hR0 _ _ ?_; refine roundU [0, 1] [1, 2, 3, 17, 18] ⟨(pre ++ [s], suf), by rw [← hp]; simp, trivial⟩ ?_ (keep_c (he := rfl) (h := (keep_c (he := (by first | rfl | (rw [hke, cut_all]; done))) (h := keep_n)))) (slots_c (he := (by first | rfl | (congr 2; simp; done))) (h := (slots_c (he := (by first | rfl | exact congrArg (fun q => AV.als 1 0 q) (by rw [laidAt_len, laidAt_len]))) (h := trivial)))) (.c (.c (.c (.c (.c .n))))); skip; all_goals (dsimp only; simp only [List.length_cons]; omega)
      · obtain ⟨i1, i2, i3, i4⟩ := laid_step x.bars pre s k (hb0 ▸ hob.2.1); have hsl := laidAt_len x.bars (pre ++ [s.cut k]); obtain ⟨b1, b2⟩ := laidM_bd (bars := x.bars) b0.size (pre ++ [s.cut k]) (fun r hr => by rcases List.mem_append.1 hr with hr | hr; exact hpk r hr; rw [List.mem_singleton] at hr; subst hr; exact ⟨hb0 ▸ hob, Int.natCast_nonneg k⟩); rw [cnt_snoc, show (s.cut k).n = k from rfl] at b2; obtain ⟨m1, m2, m3, m4⟩ := barMass_bd hob; rw [← hb0] at i1 i2 i3 i4; refine Ev.sr fun K hK => S.o q.lss (S.end (hK _ ?_)); clear hK K; refine Ev.ud (fun c4 => ?_) (fun c4 => ?_)
        · first
        | omega | contradiction
        | refine Ev.seq ?_; refine Ev.block ?_; refine Ev.region_S fun K hK => S.o q.mv (S.o q.mv (S.o (q.fa 1 am_fi72_1 am_cl3) (S.o (q.lv am_ag3) (S.c0 (hF := index_fun _ _ (by omega)) (h := S.o (q.ia am_el66 am_cl3) (S.o (q.lx am_ag3 (hl := (by first | exact at_ hidx (by omega) | exact at_ hlg2 (by omega) | exact at_ hidx (by omega) | exact at_ hlg2 (by omega) | exact at_ i3 (by omega) | exact at_g (by omega)))) (S.o q.mv (S.o q.add (S.o (q.ia am_el66 am_cl3) (S.sx _ [_, _, _] am_in3 am_cl3 (hl := (by first | exact at_ hidx (by omega) | exact at_ hlg2 (by omega) | exact at_ hidx (by omega) | exact at_ hlg2 (by omega) | exact at_ i3 (by omega) | exact at_g (by omega))) (h := S.end (hK _ ?_)))))))))))); clear hK K; show Ev _ _ _ _; refine Ev.region_S fun K hK => S.o q.add (S.o q.mv (S.end (hK _ ?_))); clear hK K; refine hR2 _ _ ?_
          refine roundU [0, 1, 2, 3] [1, 2, 3, 6, 7, 8, 10, 17, 18, 19, 20, 21, 22, 23, 24, 25, 26, 27, 28, 29, 30, 31, 32, 33, 34, 35, 36, 37, 38, 39, 40, 41, 42, 43, 44] ⟨k + 1, by omega⟩ ?_ (keep_c (he := rfl) (h := (keep_c (he := (by first | rfl | (rw [← laidAt_zero]; done) | exact congrArg _ (laidAt_zero _ _ _) | exact congrArg _ i4 | (rw [i4]; done))) (h := (keep_c (he := rfl) (h := (keep_c (he := rfl) (h := keep_n)))))))) (slots_c (he := (by first | rfl | (congr 2; omega))) (h := (slots_c (he := (by first | rfl | exact congrArg (fun q => AV.als 1 0 q) (by rw [laidAt_len, laidAt_len]) | exact congrArg (fun q => AV.als 1 0 q) (by rw [List.length_set, laidAt_len, laidAt_len]))) (h := trivial)))) (.c (.c (.c (.c (.c (.c (.c (.c (.c (.c (.c (.c (.c (.c (.c (.c (.c (.c (.c (.c (.c (.c (.c (.c (.c (.c (.c (.c (.c (.c (.c (.c (.c (.c (.c .n))))))))))))))))))))))))))))))))))); skip; all_goals (dsimp only; omega)
        · first | omega | contradiction | (exfalso; simp at *; done)
    · first | omega | contradiction | (exfalso; simp at *; done)
theorem Laid_fun (x : Det) (hw : x.w) : Fun Tryz.prog 8 [.agg x.c] (Ret (.tup [.lit (.int .i64 (detV x (laidT x.bars x.runs))), .lit (.int .i64 (detE x))]) []) := by
  have hsl := laidAt_len x.bars x.runs; refine Fun.of (nt := 22) (rs := [.tmp 2, .tmp 3]) Tryz.func8 rfl rfl rfl rfl rfl ?_; refine Ev.sr fun K hK => S.nn (q.bx [_, _, _, _, _, _, _, _, _, _, _, _, _, _, _, _, _, _, _] true) (S.o q.as (S.o q.as (S.end (hK _ ?_)))); clear hK K; refine Ev.seq ?_; refine Ev.sr fun K hK => S.o (q.lvA [_, _, _, _, _, _, _, _, _, _, _, _, _, _, _, _, _, _, _] am_ag34 am_cl34) (S.c0 (hF := detValid_fun x hw) (h := S.o q.not (S.end (hK _ ?_)))); clear hK K; refine Ev.cn (fun c1 => ?_) (fun c1 => ?_)
  · first
  | omega | contradiction
  | refine Ev.sr fun K hK => S.o q.as (S.o q.as (S.end (hK _ ?_))); clear hK K; refine Ev.ret ?_; refine Ev.ret2 ?_; refine ⟨?_, rfl⟩
    first
     | (rw [detV, detE, if_neg ‹_›, if_neg ‹_›]; done)
     | (rw [detV, detE, if_pos hok, if_pos hok, laidT, ← hp]; done)
  · first
  | omega | contradiction
  | refine Ev.skip ?_; show Ev _ _ _ _; have hok : detOK x := ‹_›; have hrk := laid_runs hok.1.2.1
    have hob : ∀ n ∈ laidAt x.bars x.runs, 0 ≤ n ∧ n ≤ 20686308000 := fun n hn => by
      rw [laidAt, List.mem_map] at hn; obtain ⟨d, _, rfl⟩ := hn; have h1 := laidM_bd d x.runs hrk; have h2 := hok.1.2.1.2.2.2; omega
    refine Ev.sr fun K hK => S.o q.as (S.end (hK _ ?_)); clear hK K; refine Ev.seq ?_; refine Ev.sr fun K hK => S.o (q.lvA [_, _, _, _, _, _, _, _, _, _, _, _, _, _, _, _, _, _, _] am_ag34 am_cl34) (S.c0 (hF := laidBy_fun x hw hok.1.2.1) (h := S.o (q.lens am_el66) (S.o q.mv (S.end (hK _ ?_))))); clear hK K; refine Ev.block ?_
    refine Ev.loopU (ι := {q : List Int × List Int // q.1 ++ q.2 = laidAt x.bars x.runs ∧ 0 ≤ sumI q.1 ∧ sumI q.1 ≤ 20686308000 * q.1.length}) [0] [2, 3, 11, 12] (fun ⟨(pre, suf), _⟩ => [(13, .lit (.int .i64 ((pre.length : Int)))), (4, .lit (.int .i64 (sumI pre)))]) (fun ⟨(pre, suf), _⟩ => [(0, ⟨false, 34, 19, [[.lit (str (x.mem.name)), .sh 6 ((x.mem.bs).map Bx.c), .sh 6 ((x.mem.hs).map Bx.c), .lit (.int .i64 (x.mem.cov)), .lit (.int .i64 (x.mem.agg)), .lit (.int .i64 (x.mem.pok)), .sh 5 ((x.bars).map Bar.c), .sh 10 ((x.runs).map Rn.c), .sh 2 ((x.laps).map pairC), .sh 8 ((x.dems).map Dem.c), .lit (.int .i64 (x.rule.r1)), .lit (.int .i64 (x.rule.r2)), .lit (.int .i64 (x.rule.r3)), .lit (.int .i64 (x.rule.r4)), .lit (.int .i64 (x.rule.r5)), .lit (.int .i64 (x.rule.r6)), .lit (.int .i64 (x.rule.r7)), .lit (.int .i64 (x.rule.r8)), .lit (.int .i64 (x.rule.r9))]], true⟩)]) (fun ⟨(pre, suf), _⟩ => suf.length) ⟨([], (laidAt x.bars x.runs)), rfl, (by decide : 0 ≤ sumI [] ∧ sumI [] ≤ 20686308000 * (([] : List Int).length : Int))⟩ (.c (.c (.c (.c .n)))) (keep_c (he := (by first | rfl | (simp; done))) (h := keep_n)) (slots_c (he := (by first | rfl | (congr 2; simp; done))) (h := (slots_c (he := (by first | rfl | (congr 2; rw [sumI_app, show sumI [s] = s by simp [sumI]]; done))) (h := trivial)))) ?_; rintro ⟨⟨pre, suf⟩, hp, hinv⟩ R0 hR0
    dsimp only [List.cons_append, List.nil_append, List.length_cons, List.length_nil]
    simp only at hp hinv
    have hpl : pre.length + suf.length = ((laidAt x.bars x.runs)).length := by rw [← hp, List.length_append]
    rcases suf with _ | ⟨s, suf⟩
    · rw [List.append_nil] at hp; simp only [List.length_nil] at hpl; refine Ev.sr fun K hK => S.o q.lss (S.end (hK _ ?_)); clear hK K; refine Ev.ud (fun c2 => ?_) (fun c2 => ?_)
      · first | omega | contradiction | (exfalso; simp at *; done)
      · first
      | omega | contradiction
      | refine Ev.exit ?_; refine hR0 _ _ ?_; show Ev _ _ _ _; refine Ev.sr fun K hK => S.o q.mv (S.o q.as (S.o q.as (S.end (hK _ ?_)))); clear hK K; refine Ev.ret ?_; refine Ev.ret2 ?_; refine ⟨?_, rfl⟩
        first
         | (rw [detV, detE, if_neg ‹_›, if_neg ‹_›]; done)
         | (rw [detV, detE, if_pos hok, if_pos hok, laidT, ← hp]; done)
    · simp only [List.length_cons] at hpl
      have hidx : (laidAt x.bars x.runs)[pre.length]? = some s := by rw [← hp]; simp
      have hsb := hob s (by rw [← hp]; simp); obtain ⟨v1, v2⟩ := hinv; refine Ev.sr fun K hK => S.o q.lss (S.end (hK _ ?_)); clear hK K; refine Ev.ud (fun c3 => ?_) (fun c3 => ?_)
      · first
      | omega | contradiction
      | refine Ev.seq ?_; refine Ev.block ?_; refine Ev.sr fun K hK => S.o (q.ix am_el66 am_cl3 (hl := (by first | exact ati hidx (by omega) | exact atig (by omega)))) (S.o (q.ls am_ag3) (S.o q.as (S.end (hK _ ?_)))); clear hK K; refine Ev.region_S fun K hK => S.o q.mv (S.o q.mv (S.o q.add (S.o q.as (S.end (hK _ ?_))))); clear hK K; show Ev _ _ _ _; refine Ev.region_S fun K hK => S.o q.add (S.o q.mv (S.end (hK _ ?_))); clear hK K; refine hR0 _ _ ?_; refine roundU [0] [2, 3, 11, 12] ⟨(pre ++ [s], suf), by rw [← hp]; simp, ?_⟩ ?_ (keep_c (he := (by first | rfl | (simp; done))) (h := keep_n)) (slots_c (he := (by first | rfl | (congr 2; simp; done))) (h := (slots_c (he := (by first | rfl | (congr 2; rw [sumI_app, show sumI [s] = s by simp [sumI]]; done))) (h := trivial)))) (.c (.c (.c (.c .n))))
        (rw [sumI_app, show sumI [s] = s by simp [sumI], List.length_append, List.length_singleton]; omega)
        all_goals (dsimp only; simp only [List.length_cons]; omega)
      · first | omega | contradiction | (exfalso; simp at *; done)
end Go.Proofs.YtkbpignlggahaaaGreatDoor
namespace Go.Proofs.YtkbpignlggahaaaGreatDoor
open Go Go.AM
set_option linter.unusedSimpArgs false
set_option linter.unusedVariables false
set_option maxRecDepth 100000
set_option maxHeartbeats 1000000
def cnt0 (bars : List Bar) : List (List UInt8 × Int) := bars.foldl (fun m b => mput m b.mark b.count) []
theorem cnt0_snoc (l : List Bar) (s : Bar) : cnt0 (l ++ [s]) = mput (cnt0 l) s.mark s.count := by simp [cnt0, List.foldl_append]
def misStep (m : List (List UInt8 × Int)) (r : Rn) : List (List UInt8 × Int) :=
  if (mget (mput m r.mark ((mget m r.mark).getD 0 - r.n)) r.mark).getD 0 = 0 then mdel (mput m r.mark ((mget m r.mark).getD 0 - r.n)) r.mark else mput m r.mark ((mget m r.mark).getD 0 - r.n)
def misF (bars : List Bar) (l : List Rn) : List (List UInt8 × Int) := l.foldl misStep (cnt0 bars)
theorem misF_snoc (bars : List Bar) (l : List Rn) (s : Rn) : misF bars (l ++ [s]) = misStep (misF bars l) s := by simp [misF, List.foldl_append]
def laidN (l : List Rn) (k : List UInt8) : Int := l.foldl (fun a r => if r.mark = k then a + r.n else a) 0
theorem laidN_snoc (l : List Rn) (s : Rn) (k : List UInt8) : laidN (l ++ [s]) k = if s.mark = k then laidN l k + s.n else laidN l k := by simp [laidN]
def needN (bars : List Bar) (k : List UInt8) : Int := (mget (cnt0 bars) k).getD 0
theorem cnt0_nd : ∀ l : List Bar, ((cnt0 l).map (·.1)).Nodup := by
  refine snoc_ind (by simp [cnt0]) ?_; intro l s ih; rw [cnt0_snoc]; exact mput_nodup ih _ _
theorem misStep_nd {m : List (List UInt8 × Int)} (h : (m.map (·.1)).Nodup) (r : Rn) : ((misStep m r).map (·.1)).Nodup := by
  unfold misStep
  split
  · exact mdel_nodup (mput_nodup h _ _) _
  · exact mput_nodup h _ _
theorem misStep_get {m : List (List UInt8 × Int)} (h : (m.map (·.1)).Nodup) (r : Rn) (k : List UInt8) : (mget (misStep m r) k).getD 0 = if k = r.mark then (mget m k).getD 0 - r.n else (mget m k).getD 0 := by
  unfold misStep
  split
  · rename_i h0
    rw [mget_mput, if_pos rfl, Option.getD_some] at h0; rw [mget_mdel (mput_nodup h _ _)]
    split
    · rename_i e; subst e; exact h0.symm
    · rename_i e; rw [mget_mput, if_neg e]
  · rw [mget_mput]
    split
    · rename_i e; subst e; rfl
    · rfl
theorem misF_spec (bars : List Bar) : ∀ l : List Rn, ((misF bars l).map (·.1)).Nodup ∧ ∀ k, (mget (misF bars l) k).getD 0 = needN bars k - laidN l k := by
  refine snoc_ind ⟨cnt0_nd bars, fun k => by show needN bars k = needN bars k - 0; omega⟩ ?_; intro l s ih; rw [misF_snoc]; refine ⟨misStep_nd ih.1 s, fun k => ?_⟩; rw [misStep_get ih.1, ih.2, laidN_snoc]
  by_cases e : k = s.mark
  · rw [if_pos e, if_pos e.symm]; omega
  · rw [if_neg e, if_neg fun h => e h.symm]
theorem misF_get (bars : List Bar) (l : List Rn) (k : List UInt8) : (mget (misF bars l) k).getD 0 = needN bars k - laidN l k := (misF_spec bars l).2 k
theorem needN_bd {bars : List Bar} (h : ∀ b ∈ bars, okBar b) (k : List UInt8) : 0 ≤ needN bars k ∧ needN bars k ≤ 1000 := by
  have : ∀ l : List Bar, (∀ b ∈ l, okBar b) → 0 ≤ needN l k ∧ needN l k ≤ 1000 := by
    refine snoc_ind (fun _ => by simp [needN, cnt0, mget]) ?_; intro l s ih h; have h1 := ih fun b hb => h b (by simp [hb]); have h2 := (h s (by simp)).2.2.1; have h3 := (h s (by simp)).2.2.2.1
    unfold needN at *
    rw [cnt0_snoc, mget_mput]
    split
    · rw [Option.getD_some]; omega
    · exact h1
  exact this bars h
theorem laidN_bd (k : List UInt8) : ∀ l : List Rn, (∀ r ∈ l, 1 ≤ r.n) → 0 ≤ laidN l k ∧ laidN l k ≤ cntS l := by
  refine snoc_ind (fun _ => ⟨Int.le_refl _, Int.le_refl _⟩) ?_; intro l s ih h; have h1 := ih fun r hr => h r (by simp [hr]); have h2 := h s (by simp); rw [laidN_snoc, cnt_snoc]
  split <;> omega
def balOne (bars : List Bar) (runs : List Rn) (b : Bar) : List (Int × List UInt8) := if needN bars b.mark - laidN runs b.mark > 0 then [(1, b.mark)] else if needN bars b.mark - laidN runs b.mark < 0 then [(2, b.mark)] else []
def balL (bars : List Bar) (runs : List Rn) (l : List Bar) : List (Int × List UInt8) := l.flatMap (balOne bars runs)
theorem balL_snoc (bars : List Bar) (runs : List Rn) (l : List Bar) (s : Bar) : balL bars runs (l ++ [s]) = balL bars runs l ++ balOne bars runs s := by simp [balL]
theorem balOne_len (bars : List Bar) (runs : List Rn) (b : Bar) : (balOne bars runs b).length ≤ 1 := by
  unfold balOne
  split
  · simp
  · split <;> simp
theorem balL_len (bars : List Bar) (runs : List Rn) : ∀ l : List Bar, (balL bars runs l).length ≤ l.length := by
  refine snoc_ind (Nat.le_refl _) ?_; intro l s ih; have := balOne_len bars runs s; rw [balL_snoc, List.length_append, List.length_append, List.length_singleton]; omega
theorem bal_t {bars : List Bar} {runs : List Rn} {b : Bar} (h : needN bars b.mark - laidN runs b.mark > 0) : balOne bars runs b = [(1, b.mark)] := if_pos h
theorem bal_u {bars : List Bar} {runs : List Rn} {b : Bar} (h : ¬ needN bars b.mark - laidN runs b.mark > 0) (h2 : needN bars b.mark - laidN runs b.mark < 0) : balOne bars runs b = [(2, b.mark)] := (if_neg h).trans (if_pos h2)
theorem bal_n {bars : List Bar} {runs : List Rn} {b : Bar} (h : ¬ needN bars b.mark - laidN runs b.mark > 0) (h2 : ¬ needN bars b.mark - laidN runs b.mark < 0) : balOne bars runs b = [] := (if_neg h).trans (if_neg h2)
def balV (bars : List Bar) (runs : List Rn) : List (Int × List UInt8) := if laidOK bars runs then balL bars runs bars else []
def balE (bars : List Bar) (runs : List Rn) : Int := if laidOK bars runs then 0 else 1
theorem laidBal_fun (bars : List Bar) (runs : List Rn) (hlen : bars.length ≤ 140737488355328) (hw : schedW bars) (hrl : runs.length ≤ 140737488355328) (hrw : runW runs) : Fun Tryz.prog 9 [.sh 5 (bars.map Bar.c), .sh 10 (runs.map Rn.c)] (Ret (.tup [.sh 2 ((balV bars runs).map findC), .lit (.int .i64 (balE bars runs))]) []) := by
  refine Fun.of (nt := 84) (rs := [.tmp 4, .tmp 5]) Tryz.func9 rfl rfl rfl rfl rfl ?_; refine Ev.sr fun K hK => S.o q.as (S.o q.as (S.end (hK _ ?_))); clear hK K; refine Ev.seq ?_; refine Ev.sr fun K hK => S.o q.mv (S.o q.mv (S.c0 (hF := laidValid_fun bars runs hlen hw hrl hrw) (h := S.o q.not (S.end (hK _ ?_))))); clear hK K; refine Ev.cn (fun c1 => ?_) (fun c1 => ?_)
  · first
  | omega | contradiction
  | refine Ev.sr fun K hK => S.o q.as (S.o q.as (S.end (hK _ ?_))); clear hK K; refine Ev.weaken (Wk.nsh findC 4 2) ?_; refine Ev.ret ?_; refine Ev.ret2 ?_; refine ⟨?_, rfl⟩
    first
     | (rw [balV, balE, if_neg ‹_›, if_neg ‹_›]; done)
     | (rw [balV, balE, if_pos hok, if_pos hok]; done)
  · first
  | omega | contradiction
  | refine Ev.skip ?_; show Ev _ _ _ _; have hok : laidOK bars runs := ‹_›; have hb60 := hok.1.1; have hr60 := hok.2.1; have hc2 := hok.2.2.2; refine Ev.sr fun K hK => S.nn (v := .hd 0) (o := ⟨true, 76, 3, ([] : List (List UInt8 × Int)).map (rowK (str) (Value.int .i64)), true⟩) (q.mm am_mt76) (S.o q.as (S.end (hK _ ?_))); clear hK K; refine Ev.seq ?_; refine Ev.sr fun K hK => S.o q.mv (S.o (q.lens am_el27) (S.o q.mv (S.end (hK _ ?_)))); clear hK K; refine Ev.block ?_; refine Ev.loopU (ι := {p : List (Bar) × List (Bar) // p.1 ++ p.2 = bars ∧ True}) [0] [0, 1, 4, 5, 6, 20, 21] (fun ⟨(pre, suf), _⟩ => [(22, .lit (.int .i64 ((pre.length : Int))))]) (fun ⟨(pre, suf), _⟩ => [(0, ⟨true, 76, 3, (cnt0 pre).map (rowK (str) (Value.int .i64)), true⟩)]) (fun ⟨(pre, suf), _⟩ => suf.length) ⟨([], bars), rfl, trivial⟩ (.c (.c (.c (.c (.c (.c (.c .n))))))) (keep_c (he := (by first | rfl | (rw [cnt0_snoc]; done))) (h := keep_n)) (slots_c (he := (by first | rfl | (congr 2; simp; done))) (h := trivial)) ?_; rintro ⟨⟨pre, suf⟩, hp, hinv⟩ R0 hR0; dsimp only [List.cons_append, List.nil_append, List.length_cons, List.length_nil]
    simp only at hp hinv
    have hpl : pre.length + suf.length = (bars).length := by rw [← hp, List.length_append]
    rcases suf with _ | ⟨s, suf⟩
    · rw [List.append_nil] at hp; subst pre; simp only [List.length_nil] at hpl; refine Ev.sr fun K hK => S.o q.lss (S.end (hK _ ?_)); clear hK K; refine Ev.ud (fun c2 => ?_) (fun c2 => ?_)
      · first | omega | contradiction | (exfalso; simp at *; done)
      · first
      | omega | contradiction
      | refine Ev.exit ?_; refine hR0 _ _ ?_; show Ev _ _ _ _; refine Ev.seq ?_; refine Ev.sr fun K hK => S.o q.mv (S.o (q.lens am_el28) (S.o q.mv (S.end (hK _ ?_)))); clear hK K; refine Ev.block ?_; refine Ev.loopU (ι := {p : List (Rn) × List (Rn) // p.1 ++ p.2 = runs ∧ True}) [0] [0, 1, 4, 5, 6, 20, 21, 22, 23, 32, 33] (fun ⟨(pre, suf), _⟩ => [(34, .lit (.int .i64 ((pre.length : Int))))]) (fun ⟨(pre, suf), _⟩ => [(0, ⟨true, 76, 3, (misF bars pre).map (rowK (str) (Value.int .i64)), true⟩)]) (fun ⟨(pre, suf), _⟩ => suf.length) ⟨([], runs), rfl, trivial⟩ (.c (.c (.c (.c (.c (.c (.c (.c (.c (.c (.c .n))))))))))) (keep_c (he := (by first | rfl | (rw [misF_snoc, misStep, if_pos ‹_›]; done) | (rw [misF_snoc, misStep, if_neg ‹_›]; done))) (h := keep_n)) (slots_c (he := (by first | rfl | (congr 2; simp; done))) (h := trivial)) ?_; rintro ⟨⟨pre, suf⟩, hp, hinv⟩ R2 hR2; dsimp only [List.cons_append, List.nil_append, List.length_cons, List.length_nil]
        simp only at hp hinv
        have hpl : pre.length + suf.length = (runs).length := by rw [← hp, List.length_append]
        rcases suf with _ | ⟨s, suf⟩
        · rw [List.append_nil] at hp; subst pre; simp only [List.length_nil] at hpl; refine Ev.sr fun K hK => S.o q.lss (S.end (hK _ ?_)); clear hK K; refine Ev.ud (fun c3 => ?_) (fun c3 => ?_)
          · first | omega | contradiction | (exfalso; simp at *; done)
          · first
          | omega | contradiction
          | refine Ev.exit ?_; refine hR2 _ _ ?_; show Ev _ _ _ _; refine Ev.sr fun K hK => S.o q.as (S.end (hK _ ?_)); clear hK K; refine Ev.seq ?_; refine Ev.sr fun K hK => S.o q.mv (S.o (q.lens am_el27) (S.o q.mv (S.end (hK _ ?_)))); clear hK K; refine Ev.block ?_; refine Ev.weaken (Wk.nown findC 11 54 2) ?_
            refine Ev.loopU (ι := {p : List (Bar) × List (Bar) // p.1 ++ p.2 = bars ∧ True}) [0, 1] [0, 1, 4, 5, 6, 20, 21, 22, 23, 32, 33, 34, 35, 54, 55] (fun ⟨(pre, suf), _⟩ => [(56, .lit (.int .i64 ((pre.length : Int)))), (11, .als 1 0 (balL bars runs pre).length)]) (fun ⟨(pre, suf), _⟩ => [(0, ⟨true, 76, 3, (misF bars runs).map (rowK (str) (Value.int .i64)), true⟩), (1, ⟨true, 54, 2, (balL bars runs pre).map findC, true⟩)]) (fun ⟨(pre, suf), _⟩ => suf.length) ⟨([], bars), rfl, trivial⟩ (.c (.c (.c (.c (.c (.c (.c (.c (.c (.c (.c (.c (.c (.c (.c .n))))))))))))))) (keep_c (he := (by rfl)) (h := (keep_c (he := (by first | rfl | (rw [balL_snoc, bal_t (by omega)]; done) | (rw [balL_snoc, bal_u (by omega) (by omega)]; done) | (rw [balL_snoc, bal_n (by omega) (by omega), List.append_nil]; done))) (h := keep_n)))) (slots_c (he := (by first | rfl | (congr 2; simp; done))) (h := (slots_c (he := (by first | rfl | (refine congrArg (AV.als _ 0) ?_; first | rfl | (rw [balL_snoc, bal_t (by omega)]; done) | (rw [balL_snoc, bal_u (by omega) (by omega)]; done) | (rw [balL_snoc, bal_n (by omega) (by omega), List.append_nil]; done)))) (h := trivial)))) ?_; rintro ⟨⟨pre, suf⟩, hp, hinv⟩ R4 hR4; dsimp only [List.cons_append, List.nil_append, List.length_cons, List.length_nil]
            simp only at hp hinv
            have hpl : pre.length + suf.length = (bars).length := by rw [← hp, List.length_append]
            rcases suf with _ | ⟨s, suf⟩
            · rw [List.append_nil] at hp; subst pre; simp only [List.length_nil] at hpl; refine Ev.sr fun K hK => S.o q.lss (S.end (hK _ ?_)); clear hK K; refine Ev.ud (fun c4 => ?_) (fun c4 => ?_)
              · first | omega | contradiction | (exfalso; simp at *; done)
              · first
              | omega | contradiction
              | refine Ev.exit ?_; refine hR4 _ _ ?_; show Ev _ _ _ _; refine Ev.sr fun K hK => S.o q.mv (S.o q.as (S.o q.as (S.end (hK _ ?_)))); clear hK K; refine Ev.weaken (Wk.frz 4 [_]) ?_; refine Ev.ret ?_; refine Ev.ret2 ?_; refine ⟨?_, rfl⟩
                first
                 | (rw [balV, balE, if_neg ‹_›, if_neg ‹_›]; done)
                 | (rw [balV, balE, if_pos hok, if_pos hok]; done)
            · simp only [List.length_cons] at hpl
              have hidx : (bars)[pre.length]? = some s := by rw [← hp]; simp
              have hsok : okBar s := hok.1.2.1 s (by rw [← hp]; simp); have hsw : s.w := hw s (by rw [← hp]; simp); have hgt := misF_get bars runs s.mark; have hbl := balL_len bars runs pre; refine Ev.sr fun K hK => S.o q.lss (S.end (hK _ ?_)); clear hK K; refine Ev.ud (fun c5 => ?_) (fun c5 => ?_)
              · first
              | omega | contradiction
              | refine Ev.seq ?_; refine Ev.block ?_; refine Ev.sr fun K hK => S.o (q.ix am_el27 am_cl72 (hl := (by first | exact ati hidx (by omega) | exact atig (by omega)))) (S.o (q.lsA [_, _, _, _, _] am_ag72 am_cl72) (S.nn (q.al am_ze72) (S.sv [_, _, _, _, _] true [_, _] am_in72 am_cl72 (h := S.end (hK _ ?_))))); clear hK K; refine Ev.sr fun K hK => S.o q.mv (S.o (q.fa 0 am_fi72_0 am_cl9) (S.o (q.lv am_ag9) (S.o (q.lk (vv := (Value.int .i64)) klS am_mt76) (S.o q.as (S.end (hK _ ?_)))))); clear hK K; refine Ev.block ?_; rw [misF_get] at *; refine Ev.sr fun K hK => S.o q.mv (S.o q.gtr (S.o q.as (S.end (hK _ ?_)))); clear hK K; refine Ev.cd (fun c6 => ?_) (fun c6 => ?_)
                · first
                | omega | contradiction
                | refine Ev.region_S fun K hK => S.o q.mv (S.o (q.fa 0 am_fi72_0 am_cl9) (S.o (q.lv am_ag9) (S.o (q.bd [_, _] am_ze54 am_pl54) (S.nn (q.bs [[_, _]] true am_el37 am_ze54 am_cl54) (S.ap' [_, _, _] am_el37 am_ze54 am_cl54 am_by54 (hh := head_own') (hr := (rows_lit [(⟨_, _⟩ : Int × List UInt8)])) (h := S.o q.as (S.end (hK _ ?_)))))))); clear hK K; show Ev _ _ _ _; refine Ev.region_S fun K hK => S.o q.add (S.o q.mv (S.end (hK _ ?_))); clear hK K; refine hR4 _ _ ?_; refine roundU [0, 4] [0, 1, 4, 5, 6, 20, 21, 22, 23, 32, 33, 34, 35, 54, 55] ⟨(pre ++ [s], suf), by rw [← hp]; simp, ?_⟩ ?_ (keep_c (he := (by rfl)) (h := (keep_c (he := (by first | rfl | (rw [balL_snoc, bal_t (by omega)]; done) | (rw [balL_snoc, bal_u (by omega) (by omega)]; done) | (rw [balL_snoc, bal_n (by omega) (by omega), List.append_nil]; done))) (h := keep_n)))) (slots_c (he := (by first | rfl | (congr 2; simp; done))) (h := (slots_c (he := (by first | rfl | (refine congrArg (AV.als _ 0) ?_; first | rfl | (rw [balL_snoc, bal_t (by omega)]; done) | (rw [balL_snoc, bal_u (by omega) (by omega)]; done) | (rw [balL_snoc, bal_n (by omega) (by omega), List.append_nil]; done)))) (h := trivial)))) (.c (.c (.c (.c (.c (.c (.c (.c (.c (.c (.c (.c (.c (.c (.c .n))))))))))))))); trivial; all_goals (dsimp only; simp only [List.length_cons]; omega)
                · first
                | omega | contradiction
                | refine Ev.sr fun K hK => S.o q.mv (S.o q.lss (S.o q.as (S.end (hK _ ?_)))); clear hK K; refine Ev.cd (fun c7 => ?_) (fun c7 => ?_)
                  · first
                  | omega | contradiction
                  | refine Ev.region_S fun K hK => S.o q.mv (S.o (q.fa 0 am_fi72_0 am_cl9) (S.o (q.lv am_ag9) (S.o (q.bd [_, _] am_ze54 am_pl54) (S.nn (q.bs [[_, _]] true am_el37 am_ze54 am_cl54) (S.ap' [_, _, _] am_el37 am_ze54 am_cl54 am_by54 (hh := head_own') (hr := (rows_lit [(⟨_, _⟩ : Int × List UInt8)])) (h := S.o q.as (S.end (hK _ ?_)))))))); clear hK K; show Ev _ _ _ _; refine Ev.region_S fun K hK => S.o q.add (S.o q.mv (S.end (hK _ ?_))); clear hK K; refine hR4 _ _ ?_; refine roundU [0, 4] [0, 1, 4, 5, 6, 20, 21, 22, 23, 32, 33, 34, 35, 54, 55] ⟨(pre ++ [s], suf), by rw [← hp]; simp, ?_⟩ ?_ (keep_c (he := (by rfl)) (h := (keep_c (he := (by first | rfl | (rw [balL_snoc, bal_t (by omega)]; done) | (rw [balL_snoc, bal_u (by omega) (by omega)]; done) | (rw [balL_snoc, bal_n (by omega) (by omega), List.append_nil]; done))) (h := keep_n)))) (slots_c (he := (by first | rfl | (congr 2; simp; done))) (h := (slots_c (he := (by first | rfl | (refine congrArg (AV.als _ 0) ?_; first | rfl | (rw [balL_snoc, bal_t (by omega)]; done) | (rw [balL_snoc, bal_u (by omega) (by omega)]; done) | (rw [balL_snoc, bal_n (by omega) (by omega), List.append_nil]; done)))) (h := trivial)))) (.c (.c (.c (.c (.c (.c (.c (.c (.c (.c (.c (.c (.c (.c (.c .n))))))))))))))); trivial; all_goals (dsimp only; simp only [List.length_cons]; omega)
                  · first
                  | omega | contradiction
                  | refine Ev.skip ?_; show Ev _ _ _ _; refine Ev.region_S fun K hK => S.o q.add (S.o q.mv (S.end (hK _ ?_))); clear hK K; refine hR4 _ _ ?_; refine roundU [0, 1] [0, 1, 4, 5, 6, 20, 21, 22, 23, 32, 33, 34, 35, 54, 55] ⟨(pre ++ [s], suf), by rw [← hp]; simp, ?_⟩ ?_ (keep_c (he := (by rfl)) (h := (keep_c (he := (by first | rfl | (rw [balL_snoc, bal_t (by omega)]; done) | (rw [balL_snoc, bal_u (by omega) (by omega)]; done) | (rw [balL_snoc, bal_n (by omega) (by omega), List.append_nil]; done))) (h := keep_n)))) (slots_c (he := (by first | rfl | (congr 2; simp; done))) (h := (slots_c (he := (by first | rfl | (refine congrArg (AV.als _ 0) ?_; first | rfl | (rw [balL_snoc, bal_t (by omega)]; done) | (rw [balL_snoc, bal_u (by omega) (by omega)]; done) | (rw [balL_snoc, bal_n (by omega) (by omega), List.append_nil]; done)))) (h := trivial)))) (.c (.c (.c (.c (.c (.c (.c (.c (.c (.c (.c (.c (.c (.c (.c .n))))))))))))))); trivial; all_goals (dsimp only; simp only [List.length_cons]; omega)
              · first | omega | contradiction | (exfalso; simp at *; done)
        · simp only [List.length_cons] at hpl
          have hidx : (runs)[pre.length]? = some s := by rw [← hp]; simp
          have hsn := (hok.2.2.1 s (by rw [← hp]; simp)).2.2.1; have hct := cnt_cut hp (fun z hz => (hok.2.2.1 z hz).2.2.1.1); have hgt := misF_get bars pre s.mark; have hnb := needN_bd hok.1.2.1 s.mark; have hnl := laidN_bd s.mark pre (fun z hz => (hok.2.2.1 z (by rw [← hp]; simp [hz])).2.2.1.1); refine Ev.sr fun K hK => S.o q.lss (S.end (hK _ ?_)); clear hK K; refine Ev.ud (fun c8 => ?_) (fun c8 => ?_)
          · first
          | omega | contradiction
          | refine Ev.seq ?_; refine Ev.block ?_; refine Ev.sr fun K hK => S.o (q.ix am_el28 am_cl82 (hl := (by first | exact ati hidx (by omega) | exact atig (by omega)))) (S.o (q.lsA [_, _, _, _, _, _, _, _, _, _] am_ag82 am_cl82) (S.nn (q.al am_ze82) (S.sv [_, _, _, _, _, _, _, _, _, _] true [_] am_in82 am_cl82 (h := S.end (hK _ ?_))))); clear hK K; refine Ev.sr fun K hK => S.o q.mv (S.o (q.fa 0 am_fi82_0 am_cl9) (S.o (q.lv am_ag9) (S.o (q.lk (vv := (Value.int .i64)) klS am_mt76) (S.o (q.fa 9 am_fi82_4 am_cl3) (S.o (q.lv am_ag3) (S.o q.sub (S.mu (vv := (Value.int .i64)) [_] klS am_mt76 (fun _ => rfl) (hn := S.end (hK _ ?_))))))))); clear hK K; refine Ev.sr fun K hK => S.o q.mv (S.o (q.fa 0 am_fi82_0 am_cl9) (S.o (q.lv am_ag9) (S.o (q.lk (vv := (Value.int .i64)) klS am_mt76) (S.o q.eql (S.end (hK _ ?_)))))); clear hK K; refine Ev.cd (fun c9 => ?_) (fun c9 => ?_)
            · first
            | omega | contradiction
            | refine Ev.region_S fun K hK => S.o q.mv (S.o (q.fa 0 am_fi82_0 am_cl9) (S.o (q.lv am_ag9) (S.del (vv := (Value.int .i64)) [_] klS am_mt76 (hn := S.end (hK _ ?_))))); clear hK K; show Ev _ _ _ _; refine Ev.region_S fun K hK => S.o q.add (S.o q.mv (S.end (hK _ ?_))); clear hK K; refine hR2 _ _ ?_; refine roundU [0] [0, 1, 4, 5, 6, 20, 21, 22, 23, 32, 33] ⟨(pre ++ [s], suf), by rw [← hp]; simp, ?_⟩ ?_ (keep_c (he := (by first | rfl | (rw [misF_snoc, misStep, if_pos ‹_›]; done) | (rw [misF_snoc, misStep, if_neg ‹_›]; done))) (h := keep_n)) (slots_c (he := (by first | rfl | (congr 2; simp; done))) (h := trivial)) (.c (.c (.c (.c (.c (.c (.c (.c (.c (.c (.c .n))))))))))); trivial; all_goals (dsimp only; simp only [List.length_cons]; omega)
            · first
            | omega | contradiction
            | refine Ev.skip ?_; show Ev _ _ _ _; refine Ev.region_S fun K hK => S.o q.add (S.o q.mv (S.end (hK _ ?_))); clear hK K; refine hR2 _ _ ?_; refine roundU [0] [0, 1, 4, 5, 6, 20, 21, 22, 23, 32, 33] ⟨(pre ++ [s], suf), by rw [← hp]; simp, ?_⟩ ?_ (keep_c (he := (by first | rfl | (rw [misF_snoc, misStep, if_pos ‹_›]; done) | (rw [misF_snoc, misStep, if_neg ‹_›]; done))) (h := keep_n)) (slots_c (he := (by first | rfl | (congr 2; simp; done))) (h := trivial)) (.c (.c (.c (.c (.c (.c (.c (.c (.c (.c (.c .n))))))))))); trivial; all_goals (dsimp only; simp only [List.length_cons]; omega)
          · first | omega | contradiction | (exfalso; simp at *; done)
    · simp only [List.length_cons] at hpl
      have hidx : (bars)[pre.length]? = some s := by rw [← hp]; simp
      have hsok : okBar s := hok.1.2.1 s (by rw [← hp]; simp); have hsw : s.w := hw s (by rw [← hp]; simp); refine Ev.sr fun K hK => S.o q.lss (S.end (hK _ ?_)); clear hK K; refine Ev.ud (fun c10 => ?_) (fun c10 => ?_)
      · first
      | omega | contradiction
      | refine Ev.seq ?_; refine Ev.block ?_; refine Ev.sr fun K hK => S.o (q.ix am_el27 am_cl72 (hl := (by first | exact ati hidx (by omega) | exact atig (by omega)))) (S.o (q.lsA [_, _, _, _, _] am_ag72 am_cl72) (S.nn (q.al am_ze72) (S.sv [_, _, _, _, _] true [_] am_in72 am_cl72 (h := S.end (hK _ ?_))))); clear hK K; refine Ev.region_S fun K hK => S.o q.mv (S.o (q.fa 0 am_fi72_0 am_cl9) (S.o (q.lv am_ag9) (S.o (q.fa 2 am_fi72_2 am_cl3) (S.o (q.lv am_ag3) (S.mu (vv := (Value.int .i64)) [_] klS am_mt76 (fun _ => rfl) (hn := S.end (hK _ ?_))))))); clear hK K; show Ev _ _ _ _; refine Ev.region_S fun K hK => S.o q.add (S.o q.mv (S.end (hK _ ?_))); clear hK K; refine hR0 _ _ ?_; refine roundU [0] [0, 1, 4, 5, 6, 20, 21] ⟨(pre ++ [s], suf), by rw [← hp]; simp, ?_⟩ ?_ (keep_c (he := (by first | rfl | (rw [cnt0_snoc]; done))) (h := keep_n)) (slots_c (he := (by first | rfl | (congr 2; simp; done))) (h := trivial)) (.c (.c (.c (.c (.c (.c (.c .n))))))); trivial; all_goals (dsimp only; simp only [List.length_cons]; omega)
      · first | omega | contradiction | (exfalso; simp at *; done)
end Go.Proofs.YtkbpignlggahaaaGreatDoor
namespace Go.Proofs.YtkbpignlggahaaaGreatDoor
open Go Go.AM
set_option linter.unusedSimpArgs false
set_option linter.unusedVariables false
set_option maxRecDepth 100000
open Go.Lib in
theorem dec_len : ∀ (k u : Nat), u < 10 ^ (k + 1) → (decDigits u).length ≤ k + 1 := by
  intro k
  induction k with
  | zero =>
    intro u h; rw [decDigits, dif_pos (by omega)]
    simp
  | succ k ih =>
    intro u h; rw [decDigits]
    split
    · simp
    · have := ih (u / 10) (by rw [Nat.pow_succ] at h; omega); simp only [List.length_append, List.length_singleton]; omega
theorem itoa_len {N : Int} (h0 : 0 ≤ N) (h1 : N ≤ 1099511627777) : (Go.Lib.itoa N).length ≤ 21 := by
  obtain ⟨u, rfl⟩ : ∃ u : Nat, N = u := ⟨N.toNat, by omega⟩; rw [Go.Lib.itoa_nonneg]; have := dec_len 20 u (by omega); omega
open Go.Shelf in
shelf_lay LaysM.n171 Nm 171 at Tryz as lays171
theorem itoa41_fun {n : Int} (h0 : 0 ≤ n) (h1 : n ≤ 1099511627777) : Fun Tryz.prog 29 [.lit (.int .i64 n)] (Ret (.lit (str (Go.Lib.itoa n))) []) :=
  itoa_fun lays171 ⟨_, Tryz.func29, rfl, rfl⟩ (g := 0) (by kernel_rfl) (by unfold laidG; exact List.mem_singleton.2 rfl) (by omega) (by omega)
end Go.Proofs.YtkbpignlggahaaaGreatDoor
namespace Go.Proofs.YtkbpignlggahaaaGreatDoor
open Go Go.AM
set_option linter.unusedSimpArgs false
set_option linter.unusedVariables false
set_option maxRecDepth 100000
set_option maxHeartbeats 1000000
def qbOne (bars : List Bar) (runs : List Rn) (d : Int) : List (Int × List UInt8) := if ∃ b ∈ bars, decide (b.size = d) = true then (if laidM bars runs d < ofSum bars d then [(1, [100] ++ Go.Lib.itoa d)] else if laidM bars runs d > ofSum bars d then [(2, [100] ++ Go.Lib.itoa d)] else []) else []
def qbL (bars : List Bar) (runs : List Rn) (l : List Int) : List (Int × List UInt8) := l.flatMap (qbOne bars runs)
theorem qbL_snoc (bars : List Bar) (runs : List Rn) (l : List Int) (s : Int) : qbL bars runs (l ++ [s]) = qbL bars runs l ++ qbOne bars runs s := by simp [qbL]
theorem qb_0 {bars : List Bar} {runs : List Rn} {d : Int} (h : ¬ ∃ b ∈ bars, decide (b.size = d) = true) : qbOne bars runs d = [] := if_neg h
theorem qb_1 {bars : List Bar} {runs : List Rn} {d : Int} (h : ∃ b ∈ bars, decide (b.size = d) = true) (h1 : laidM bars runs d < ofSum bars d) : qbOne bars runs d = [(1, [100] ++ Go.Lib.itoa d)] := (if_pos h).trans (if_pos h1)
theorem qb_2 {bars : List Bar} {runs : List Rn} {d : Int} (h : ∃ b ∈ bars, decide (b.size = d) = true) (h1 : ¬ laidM bars runs d < ofSum bars d) (h2 : laidM bars runs d > ofSum bars d) : qbOne bars runs d = [(2, [100] ++ Go.Lib.itoa d)] := (if_pos h).trans ((if_neg h1).trans (if_pos h2))
theorem qb_3 {bars : List Bar} {runs : List Rn} {d : Int} (h : ∃ b ∈ bars, decide (b.size = d) = true) (h1 : ¬ laidM bars runs d < ofSum bars d) (h2 : ¬ laidM bars runs d > ofSum bars d) : qbOne bars runs d = [] := (if_pos h).trans ((if_neg h1).trans (if_neg h2))
theorem qbOne_len (bars : List Bar) (runs : List Rn) (d : Int) : (qbOne bars runs d).length ≤ 1 := by
  unfold qbOne
  split
  · split
    · simp
    · split <;> simp
  · simp
theorem qbL_len (bars : List Bar) (runs : List Rn) : ∀ l : List Int, (qbL bars runs l).length ≤ l.length := by
  refine snoc_ind (Nat.le_refl _) ?_; intro l s ih; have := qbOne_len bars runs s; rw [qbL_snoc, List.length_append, List.length_append, List.length_singleton]; omega
def qbV (x : Det) : List (Int × List UInt8) := if detOK x then qbL x.bars x.runs sizes else []
theorem sizes_in {d : Int} (h : d ∈ sizes) : 6 ≤ d ∧ d ≤ 100 := by
  simp only [sizes, List.mem_cons, List.not_mem_nil, or_false] at h
  rcases h with h | h | h | h | h | h | h | h | h <;> rw [h] <;> decide
theorem qbIs_fun (d : Int) (b : Bar) : Fun Tryz.prog 28 [.agg b.c, .sadr [.lit (.int .i64 d)] 0] (Ret (.lit (.bool (decide (b.size = d)))) []) := by
  refine Fun.of (nt := 8) (rs := [.tmp 3]) Tryz.func28 rfl rfl rfl rfl rfl ?_; refine Ev.sr fun K hK => S.nn (q.bx [_, _, _, _, _] true) (S.o q.as (S.end (hK _ ?_))); clear hK K; refine Ev.sr fun K hK => S.o (q.fa 1 am_fi72_1 am_cl3) (S.o (q.lv am_ag3) (S.o (q.ls am_ag3) (S.o q.eql (S.o q.as (S.end (hK _ ?_)))))); clear hK K; refine Ev.ret ?_; refine Ev.ret1 ?_; refine ⟨?_, rfl⟩; rfl
theorem qBal_fun (x : Det) (hw : x.w) : Fun Tryz.prog 7 [.agg x.c] (Ret (.tup [.sh 2 ((qbV x).map findC), .lit (.int .i64 (detE x))]) []) := by
  obtain ⟨hw1, ⟨hw2, hw2b⟩, ⟨hw3, hw3b⟩, hw4, hw5, hw6⟩ := id hw; have hs9 : sizes.length = 9 := rfl; refine Fun.of (nt := 65) (rs := [.tmp 2, .tmp 3]) Tryz.func7 rfl rfl rfl rfl rfl ?_; refine Ev.sr fun K hK => S.nn (q.bx [_, _, _, _, _, _, _, _, _, _, _, _, _, _, _, _, _, _, _] true) (S.o q.as (S.o q.as (S.end (hK _ ?_)))); clear hK K; refine Ev.seq ?_; refine Ev.sr fun K hK => S.o (q.lvA [_, _, _, _, _, _, _, _, _, _, _, _, _, _, _, _, _, _, _] am_ag34 am_cl34) (S.c0 (hF := detValid_fun x hw) (h := S.o q.not (S.end (hK _ ?_)))); clear hK K; refine Ev.cn (fun c1 => ?_) (fun c1 => ?_)
  · first
  | omega | contradiction
  | refine Ev.sr fun K hK => S.o q.as (S.o q.as (S.end (hK _ ?_))); clear hK K; refine Ev.weaken (Wk.nsh findC 2 2) ?_; refine Ev.ret ?_; refine Ev.ret2 ?_; refine ⟨?_, rfl⟩
    first
     | (rw [qbV, detE, if_neg ‹_›, if_neg ‹_›]; done)
     | (rw [qbV, detE, if_pos hok, if_pos hok]; done)
  · first
  | omega | contradiction
  | refine Ev.skip ?_; show Ev _ _ _ _; have hok : detOK x := ‹_›; have hsa := sums_len x.bars; have hla := laidAt_len x.bars x.runs; refine Ev.sm (tbs [(0, 0), (1, 1), (2, 3), (0, 0), (4, 15), (5, 31), (6, 63)]) 5 fun K hK => M.o (q.fa 6 am_fi34_1 am_cl27) (M.o (q.lv am_ag27) (M.c0 (hF := masses_fun x.bars hw2b hok.1.2.1.1) (h := M.o (q.lvA [_, _, _, _, _, _, _, _, _, _, _, _, _, _, _, _, _, _, _] am_ag34 am_cl34) (M.c0 (hF := laidBy_fun x hw hok.1.2.1) (h := M.end [_] (h := S.o q.as (S.o q.as (S.end (hK _ ?_))))))))); clear hK K; refine Ev.sr fun K hK => S.o q.as (S.end (hK _ ?_)); clear hK K; refine Ev.seq ?_; refine Ev.sr fun K hK => S.c0 (hF := sizes_fun) (h := S.o (q.lens am_el66) (S.o q.mv (S.end (hK _ ?_)))); clear hK K; refine Ev.block ?_; refine Ev.weaken (Wk.nown findC 6 54 2) ?_
    refine Ev.loopU (ι := {p : List (Int) × List (Int) // p.1 ++ p.2 = sizes ∧ True}) [0, 21] [1, 2, 3, 4, 5, 18, 19] (fun ⟨(pre, suf), _⟩ => [(20, .lit (.int .i64 ((pre.length : Int)))), (6, .als 1 0 (qbL x.bars x.runs pre).length)]) (fun ⟨(pre, suf), _⟩ => [(0, ⟨false, 34, 19, [[.lit (str (x.mem.name)), .sh 6 ((x.mem.bs).map Bx.c), .sh 6 ((x.mem.hs).map Bx.c), .lit (.int .i64 (x.mem.cov)), .lit (.int .i64 (x.mem.agg)), .lit (.int .i64 (x.mem.pok)), .sh 5 ((x.bars).map Bar.c), .sh 10 ((x.runs).map Rn.c), .sh 2 ((x.laps).map pairC), .sh 8 ((x.dems).map Dem.c), .lit (.int .i64 (x.rule.r1)), .lit (.int .i64 (x.rule.r2)), .lit (.int .i64 (x.rule.r3)), .lit (.int .i64 (x.rule.r4)), .lit (.int .i64 (x.rule.r5)), .lit (.int .i64 (x.rule.r6)), .lit (.int .i64 (x.rule.r7)), .lit (.int .i64 (x.rule.r8)), .lit (.int .i64 (x.rule.r9))]], true⟩), (1, ⟨true, 54, 2, (qbL x.bars x.runs pre).map findC, true⟩)]) (fun ⟨(pre, suf), _⟩ => suf.length) ⟨([], sizes), rfl, trivial⟩ (.c (.c (.c (.c (.c (.c (.c .n))))))) (keep_c (he := rfl) (h := (keep_c (he := (by first | rfl | (rw [qbL_snoc, qb_1 ‹_› ‹_›]; done) | (rw [qbL_snoc, qb_2 ‹_› ‹_› ‹_›]; done) | (rw [qbL_snoc, qb_3 ‹_› ‹_› ‹_›, List.append_nil]; done) | (rw [qbL_snoc, qb_0 ‹_›, List.append_nil]; done))) (h := keep_n)))) (slots_c (he := (by first | rfl | (congr 2; simp; done))) (h := (slots_c (he := (by first | rfl | (refine congrArg (AV.als _ 0) ?_; first | rfl | (rw [qbL_snoc, qb_1 ‹_› ‹_›]; done) | (rw [qbL_snoc, qb_2 ‹_› ‹_› ‹_›]; done) | (rw [qbL_snoc, qb_3 ‹_› ‹_› ‹_›, List.append_nil]; done) | (rw [qbL_snoc, qb_0 ‹_›, List.append_nil]; done)))) (h := trivial)))) ?_
    rintro ⟨⟨pre, suf⟩, hp, hinv⟩ R0 hR0; dsimp only [List.cons_append, List.nil_append, List.length_cons, List.length_nil]
    simp only at hp hinv
    have hpl : pre.length + suf.length = (sizes).length := by rw [← hp, List.length_append]
    rcases suf with _ | ⟨s, suf⟩
    · rw [List.append_nil] at hp; subst pre; simp only [List.length_nil] at hpl; refine Ev.sr fun K hK => S.o q.lss (S.end (hK _ ?_)); clear hK K; refine Ev.ud (fun c2 => ?_) (fun c2 => ?_)
      · first | omega | contradiction | (exfalso; simp at *; done)
      · first
      | omega | contradiction
      | refine Ev.exit ?_; refine hR0 _ _ ?_; show Ev _ _ _ _; refine Ev.sr fun K hK => S.o q.mv (S.o q.as (S.o q.as (S.end (hK _ ?_)))); clear hK K; refine Ev.weaken (Wk.frz 2 [_]) ?_; refine Ev.ret ?_; refine Ev.ret2 ?_; refine ⟨?_, rfl⟩
        first
         | (rw [qbV, detE, if_neg ‹_›, if_neg ‹_›]; done)
         | (rw [qbV, detE, if_pos hok, if_pos hok]; done)
    · simp only [List.length_cons] at hpl
      have hidx : sizes[pre.length]? = some s := by rw [← hp]; simp
      have hsum : (sumsAt x.bars)[pre.length]? = some (ofSum x.bars s) := by rw [sumsAt, List.getElem?_map, hidx]; rfl
      have hlad : (laidAt x.bars x.runs)[pre.length]? = some (laidM x.bars x.runs s) := by rw [laidAt, List.getElem?_map, hidx]; rfl
      have hms : s ∈ sizes := by rw [← hp]; simp
      have hsb := sizes_in hms; have hil := itoa_len (N := s) (by omega) (by omega); have hql := qbL_len x.bars x.runs pre; refine Ev.sr fun K hK => S.o q.lss (S.end (hK _ ?_)); clear hK K; refine Ev.ud (fun c3 => ?_) (fun c3 => ?_)
      · first
      | omega | contradiction
      | refine Ev.seq ?_; refine Ev.block ?_; refine Ev.sr fun K hK => S.o q.mv (S.o (q.ix am_el66 am_cl3 (hl := (by first | exact ati hidx (by omega) | exact ati hsum (by omega) | exact ati hlad (by omega) | exact atig (by omega)))) (S.o (q.ls am_ag3) (S.nn (q.al am_ze3) (S.o q.as (S.sv [_] true [_, _] am_in3 am_cl3 (h := S.end (hK _ ?_))))))); clear hK K; refine Ev.seq ?_; refine Ev.sr fun K hK => S.o (q.fa 6 am_fi34_1 am_cl27) (S.o (q.lv am_ag27) (S.o q.mf (S.c0 (hF := containsFuncBar1 _ _ _ (qbIs_fun s) x.bars (by omega)) (h := S.o q.not (S.end (hK _ ?_)))))); clear hK K; refine Ev.cn (fun c4 => ?_) (fun c4 => ?_)
        · first
        | omega | contradiction
        | refine Ev.exit ?_; show Ev _ _ _ _; refine Ev.region_S fun K hK => S.o q.add (S.o q.mv (S.end (hK _ ?_))); clear hK K; refine hR0 _ _ ?_; refine roundU [0, 1] [1, 2, 3, 4, 5, 18, 19] ⟨(pre ++ [s], suf), by rw [← hp]; simp, ?_⟩ ?_ (keep_c (he := rfl) (h := (keep_c (he := (by first | rfl | (rw [qbL_snoc, qb_1 ‹_› ‹_›]; done) | (rw [qbL_snoc, qb_2 ‹_› ‹_› ‹_›]; done) | (rw [qbL_snoc, qb_3 ‹_› ‹_› ‹_›, List.append_nil]; done) | (rw [qbL_snoc, qb_0 ‹_›, List.append_nil]; done))) (h := keep_n)))) (slots_c (he := (by first | rfl | (congr 2; simp; done))) (h := (slots_c (he := (by first | rfl | (refine congrArg (AV.als _ 0) ?_; first | rfl | (rw [qbL_snoc, qb_1 ‹_› ‹_›]; done) | (rw [qbL_snoc, qb_2 ‹_› ‹_› ‹_›]; done) | (rw [qbL_snoc, qb_3 ‹_› ‹_› ‹_›, List.append_nil]; done) | (rw [qbL_snoc, qb_0 ‹_›, List.append_nil]; done)))) (h := trivial)))) (.c (.c (.c (.c (.c (.c (.c .n))))))); trivial; all_goals (dsimp only; simp only [List.length_cons]; omega)
        · first
        | omega | contradiction
        | refine Ev.skip ?_; show Ev _ _ _ _; refine Ev.sr fun K hK => S.o (q.lv am_ag3) (S.c0 (hF := itoa41_fun (by omega) (by omega)) (h := S.o q.sadd (S.o q.as (S.end (hK _ ?_))))); clear hK K; refine Ev.block ?_; refine Ev.sm (tbs [(0, 0), (0, 0), (2, 3), (3, 7), (0, 0), (0, 0), (6, 48), (7, 112), (8, 255), (9, 511)]) 9 fun K hK => M.o q.mv (M.o q.mv (M.o (q.ix am_el66 am_cl3 (hl := (by first | exact ati hidx (by omega) | exact ati hsum (by omega) | exact ati hlad (by omega) | exact atig (by omega)))) (M.o (q.ls am_ag3) (M.o q.mv (M.o q.mv (M.o (q.ix am_el66 am_cl3 (hl := (by first | exact ati hidx (by omega) | exact ati hsum (by omega) | exact ati hlad (by omega) | exact atig (by omega)))) (M.o (q.ls am_ag3) (M.o q.lss (M.end [_, _, _] (h := S.o q.as (S.end (hK _ ?_)))))))))))); clear hK K; refine Ev.cd (fun c5 => ?_) (fun c5 => ?_)
          · first
          | omega | contradiction
          | refine Ev.region_S fun K hK => S.o q.mv (S.o q.mv (S.o (q.bd [_, _] am_ze54 am_pl54) (S.nn (q.bs [[_, _]] true am_el37 am_ze54 am_cl54) (S.ap' [_, _, _] am_el37 am_ze54 am_cl54 am_by54 (hh := head_own') (hr := (rows_lit [(⟨_, _⟩ : Int × List UInt8)])) (h := S.o q.as (S.end (hK _ ?_))))))); clear hK K; show Ev _ _ _ _; refine Ev.region_S fun K hK => S.o q.add (S.o q.mv (S.end (hK _ ?_))); clear hK K; refine hR0 _ _ ?_; refine roundU [0, 40] [1, 2, 3, 4, 5, 18, 19] ⟨(pre ++ [s], suf), by rw [← hp]; simp, ?_⟩ ?_ (keep_c (he := rfl) (h := (keep_c (he := (by first | rfl | (rw [qbL_snoc, qb_1 ‹_› ‹_›]; done) | (rw [qbL_snoc, qb_2 ‹_› ‹_› ‹_›]; done) | (rw [qbL_snoc, qb_3 ‹_› ‹_› ‹_›, List.append_nil]; done) | (rw [qbL_snoc, qb_0 ‹_›, List.append_nil]; done))) (h := keep_n)))) (slots_c (he := (by first | rfl | (congr 2; simp; done))) (h := (slots_c (he := (by first | rfl | (refine congrArg (AV.als _ 0) ?_; first | rfl | (rw [qbL_snoc, qb_1 ‹_› ‹_›]; done) | (rw [qbL_snoc, qb_2 ‹_› ‹_› ‹_›]; done) | (rw [qbL_snoc, qb_3 ‹_› ‹_› ‹_›, List.append_nil]; done) | (rw [qbL_snoc, qb_0 ‹_›, List.append_nil]; done)))) (h := trivial)))) (.c (.c (.c (.c (.c (.c (.c .n))))))); trivial; all_goals (dsimp only; simp only [List.length_cons]; omega)
          · first
          | omega | contradiction
          | refine Ev.sm (tbs [(0, 0), (0, 0), (2, 3), (3, 7), (0, 0), (0, 0), (6, 48), (7, 112), (8, 255), (9, 511)]) 9 fun K hK => M.o q.mv (M.o q.mv (M.o (q.ix am_el66 am_cl3 (hl := (by first | exact ati hidx (by omega) | exact ati hsum (by omega) | exact ati hlad (by omega) | exact atig (by omega)))) (M.o (q.ls am_ag3) (M.o q.mv (M.o q.mv (M.o (q.ix am_el66 am_cl3 (hl := (by first | exact ati hidx (by omega) | exact ati hsum (by omega) | exact ati hlad (by omega) | exact atig (by omega)))) (M.o (q.ls am_ag3) (M.o q.gtr (M.end [_, _, _] (h := S.o q.as (S.end (hK _ ?_)))))))))))); clear hK K; refine Ev.cd (fun c6 => ?_) (fun c6 => ?_)
            · first
            | omega | contradiction
            | refine Ev.region_S fun K hK => S.o q.mv (S.o q.mv (S.o (q.bd [_, _] am_ze54 am_pl54) (S.nn (q.bs [[_, _]] true am_el37 am_ze54 am_cl54) (S.ap' [_, _, _] am_el37 am_ze54 am_cl54 am_by54 (hh := head_own') (hr := (rows_lit [(⟨_, _⟩ : Int × List UInt8)])) (h := S.o q.as (S.end (hK _ ?_))))))); clear hK K; show Ev _ _ _ _; refine Ev.region_S fun K hK => S.o q.add (S.o q.mv (S.end (hK _ ?_))); clear hK K; refine hR0 _ _ ?_; refine roundU [0, 76] [1, 2, 3, 4, 5, 18, 19] ⟨(pre ++ [s], suf), by rw [← hp]; simp, ?_⟩ ?_ (keep_c (he := rfl) (h := (keep_c (he := (by first | rfl | (rw [qbL_snoc, qb_1 ‹_› ‹_›]; done) | (rw [qbL_snoc, qb_2 ‹_› ‹_› ‹_›]; done) | (rw [qbL_snoc, qb_3 ‹_› ‹_› ‹_›, List.append_nil]; done) | (rw [qbL_snoc, qb_0 ‹_›, List.append_nil]; done))) (h := keep_n)))) (slots_c (he := (by first | rfl | (congr 2; simp; done))) (h := (slots_c (he := (by first | rfl | (refine congrArg (AV.als _ 0) ?_; first | rfl | (rw [qbL_snoc, qb_1 ‹_› ‹_›]; done) | (rw [qbL_snoc, qb_2 ‹_› ‹_› ‹_›]; done) | (rw [qbL_snoc, qb_3 ‹_› ‹_› ‹_›, List.append_nil]; done) | (rw [qbL_snoc, qb_0 ‹_›, List.append_nil]; done)))) (h := trivial)))) (.c (.c (.c (.c (.c (.c (.c .n))))))); trivial; all_goals (dsimp only; simp only [List.length_cons]; omega)
            · first
            | omega | contradiction
            | refine Ev.skip ?_; show Ev _ _ _ _; refine Ev.region_S fun K hK => S.o q.add (S.o q.mv (S.end (hK _ ?_))); clear hK K; refine hR0 _ _ ?_; refine roundU [0, 1] [1, 2, 3, 4, 5, 18, 19] ⟨(pre ++ [s], suf), by rw [← hp]; simp, ?_⟩ ?_ (keep_c (he := rfl) (h := (keep_c (he := (by first | rfl | (rw [qbL_snoc, qb_1 ‹_› ‹_›]; done) | (rw [qbL_snoc, qb_2 ‹_› ‹_› ‹_›]; done) | (rw [qbL_snoc, qb_3 ‹_› ‹_› ‹_›, List.append_nil]; done) | (rw [qbL_snoc, qb_0 ‹_›, List.append_nil]; done))) (h := keep_n)))) (slots_c (he := (by first | rfl | (congr 2; simp; done))) (h := (slots_c (he := (by first | rfl | (refine congrArg (AV.als _ 0) ?_; first | rfl | (rw [qbL_snoc, qb_1 ‹_› ‹_›]; done) | (rw [qbL_snoc, qb_2 ‹_› ‹_› ‹_›]; done) | (rw [qbL_snoc, qb_3 ‹_› ‹_› ‹_›, List.append_nil]; done) | (rw [qbL_snoc, qb_0 ‹_›, List.append_nil]; done)))) (h := trivial)))) (.c (.c (.c (.c (.c (.c (.c .n))))))); trivial; all_goals (dsimp only; simp only [List.length_cons]; omega)
      · first | omega | contradiction | (exfalso; simp at *; done)
end Go.Proofs.YtkbpignlggahaaaGreatDoor
