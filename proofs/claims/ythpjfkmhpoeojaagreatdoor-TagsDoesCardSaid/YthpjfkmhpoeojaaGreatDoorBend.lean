/-
  Layer 13: bends, cutting lengths, masses.
  Conditions: none.
-/
import Derived.Test.YthpjfkmhpoeojaaGreatDoorBars
import Derived.Test.YthpjfkmhpoeojaaGreatDoorAmRes
namespace Go.Proofs.YthpjfkmhpoeojaaGreatDoor
open Go Go.AM
set_option linter.unusedSimpArgs false
set_option linter.unusedVariables false
set_option maxRecDepth 100000
theorem szE_zero {d : Int} (h : szE d = 0) : d ∈ sizes := by
  by_cases hd : d ∈ sizes
  · exact hd
  · rw [szE, if_neg hd] at h; cases h
theorem szV_in {d v : Int} (h : d ∈ sizes) : szV d v = v := if_pos h
theorem szE_in {d : Int} (h : d ∈ sizes) : szE d = 0 := if_pos h
theorem szV_out {d v : Int} (h : ¬ szE d = 0) : szV d v = 0 := if_neg (fun h' => h (szE_in h'))
theorem szE_out {d : Int} (h : ¬ szE d = 0) : szE d = 1 := if_neg (fun h' => h (szE_in h'))
def massOf (d n : Int) : Int := (6165 * d * d * n + 500000) / 1000000
theorem mass_pre {d n : Int} (h : d ∈ sizes) (h0 : 0 ≤ n) (h1 : n ≤ 1048576) : 0 ≤ 6165 * d ∧ 6165 * d ≤ 246600 ∧ 0 ≤ 6165 * d * d ∧ 6165 * d * d ≤ 9864000 ∧ 0 ≤ 6165 * d * d * n ∧ 6165 * d * d * n ≤ 9864000 * 1048576 := by
  simp only [sizes, List.mem_cons, List.not_mem_nil, or_false] at h
  rcases h with h | h | h | h | h | h | h | h | h <;> subst h <;> omega
theorem massOf_bd {d n : Int} (h : d ∈ sizes) (h0 : 0 ≤ n) (h1 : n ≤ 1048576) : 0 ≤ massOf d n ∧ massOf d n ≤ 10343154 := by
  have := mass_pre h h0 h1
  unfold massOf
  omega
theorem mass1_fun (d n : Int) (h : d ∈ sizes) (h0 : 0 ≤ n) (h1 : n ≤ 1048576) : Fun Tryz.prog 88 [.sadr [.lit (.int .i64 d)] 0, .sadr [.lit (.int .i64 n)] 0] (Ret (.lit (.int .i64 (massOf d n))) []) := by
  obtain ⟨m1, m2, m3, m4, m5, m6⟩ := mass_pre h h0 h1; refine Fun.of (nt := 11) (rs := [.tmp 2]) Tryz.func88 rfl rfl rfl rfl rfl ?_; refine Ev.sr fun K hK => S.o q.as (S.end (hK _ ?_)); clear hK K; refine Ev.sr fun K hK => S.o (q.ls am_ag3) (S.o q.mul (S.o (q.ls am_ag3) (S.o q.mul (S.o (q.ls am_ag3) (S.o q.mul (S.o q.add (S.o q.quo (S.o q.as (S.end (hK _ ?_)))))))))); clear hK K; refine Ev.ret ?_; refine Ev.ret1 ?_; refine ⟨?_, rfl⟩; rfl
theorem Mass_fun (d n : Int) (h0 : 0 ≤ n) (h1 : n ≤ 1048576) : Fun Tryz.prog 71 [.lit (.int .i64 d), .lit (.int .i64 n)] (Ret (.tup [.lit (.int .i64 (szV d (massOf d n))), .lit (.int .i64 (szE d))]) []) := by
  refine Fun.of (nt := 21) (rs := [.tmp 4, .tmp 5]) Tryz.func71 rfl rfl rfl rfl rfl ?_; refine Ev.sr fun K hK => S.nn (q.bx [_] true) (S.nn (q.bx [_] true) (S.o q.as (S.o q.as (S.end (hK _ ?_))))); clear hK K; refine Ev.seq ?_; refine Ev.sr fun K hK => S.o (q.lv am_ag3) (S.c0 (hF := size_fun _) (h := S.bd q.mv (fun c1 => ?_) (fun c1 => ?_)))
  · first
  | omega | contradiction
  | refine S.o (q.lv am_ag3) (S.o q.lss (S.bd q.mv (fun c2 => ?_) (fun c2 => ?_)))
    · first
    | omega | contradiction
    | refine S.sk (S.sk (S.o q.pt (S.o q.pt (S.end (hK _ ?_))))); clear hK K; refine Ev.ct ?_; refine Ev.sr fun K hK => S.o q.as (S.o q.as (S.end (hK _ ?_))); clear hK K; refine Ev.ret ?_; refine Ev.ret2 ?_; refine ⟨?_, rfl⟩; rfl
    · first
    | omega | contradiction
    | refine S.o (q.lv am_ag3) (S.o q.gtr (S.o q.pf (S.o q.pt (S.end (hK _ ?_))))); clear hK K; refine Ev.cd (fun c3 => ?_) (fun c3 => ?_)
      · first
      | omega | contradiction
      | refine Ev.sr fun K hK => S.o q.as (S.o q.as (S.end (hK _ ?_))); clear hK K; refine Ev.ret ?_; refine Ev.ret2 ?_; refine ⟨?_, rfl⟩; rfl
      · first
      | omega | contradiction
      | refine Ev.skip ?_; show Ev _ _ _ _; refine Ev.sr fun K hK => S.o (q.lv am_ag3) (S.o q.mf (S.c0 (hF := sized2_fun _ _ _ _ _ (fun h => mass1_fun _ _ h (by omega) (by omega))) (h := S.o q.ex (S.o q.ex (S.o q.as (S.o q.as (S.end (hK _ ?_)))))))); clear hK K; refine Ev.ret ?_; refine Ev.ret2 ?_; refine ⟨?_, rfl⟩; rfl
  · first
  | omega | contradiction
  | refine S.sk (S.sk (S.sk (S.sk (S.sk (S.sk (S.o q.pf (S.end (hK _ ?_)))))))); clear hK K; refine Ev.cf ?_; refine Ev.skip ?_; show Ev _ _ _ _; refine Ev.sr fun K hK => S.o (q.lv am_ag3) (S.o q.mf (S.c0 (hF := sized2_fun _ _ _ _ _ (fun h => mass1_fun _ _ h (by omega) (by omega))) (h := S.o q.ex (S.o q.ex (S.o q.as (S.o q.as (S.end (hK _ ?_)))))))); clear hK K; refine Ev.ret ?_; refine Ev.ret2 ?_; refine ⟨?_, rfl⟩; rfl
def bendR (d : Int) : Int := if d ≤ 16 then 5 * d / 2 else 4 * d
def arcLo (d : Int) : Int := 500 * bendR d * 333 / 106
def arcHi (d : Int) : Int := (500 * bendR d * 355 + 113 - 1) / 113
def allLo (d : Int) : Int := 2000 * bendR d - arcHi d
def allHi (d : Int) : Int := 2000 * bendR d - arcLo d
theorem bend_bd {d : Int} (h : d ∈ sizes) : 15 ≤ bendR d ∧ bendR d ≤ 160 ∧ 0 ≤ arcLo d ∧ arcLo d ≤ 300000 ∧ 0 ≤ arcHi d ∧ arcHi d ≤ 300000 ∧ 0 ≤ allLo d ∧ allLo d ≤ 70000 ∧ 0 ≤ allHi d ∧ allHi d ≤ 70000 := by
  simp only [sizes, List.mem_cons, List.not_mem_nil, or_false] at h
  rcases h with h | h | h | h | h | h | h | h | h <;> subst h <;> decide
theorem bend1_fun (d : Int) (h : d ∈ sizes) : Fun Tryz.prog 116 [.sadr [.lit (.int .i64 d)] 0] (Ret (.lit (.int .i64 (bendR d))) []) := by
  obtain ⟨h0, h1⟩ := size_bd h; refine Fun.of (nt := 9) (rs := [.tmp 1]) Tryz.func116 rfl rfl rfl rfl rfl ?_; refine Ev.sr fun K hK => S.o q.as (S.end (hK _ ?_)); clear hK K; refine Ev.seq ?_; refine Ev.sr fun K hK => S.o (q.ls am_ag3) (S.o q.leq (S.end (hK _ ?_))); clear hK K; refine Ev.cd (fun c1 => ?_) (fun c1 => ?_)
  · first
  | omega | contradiction
  | refine Ev.sr fun K hK => S.o (q.ls am_ag3) (S.o q.mul (S.o q.quo (S.o q.as (S.end (hK _ ?_))))); clear hK K; refine Ev.ret ?_; refine Ev.ret1 ?_; refine ⟨?_, rfl⟩
    first | (rw [bendR, if_pos ‹_›]; done) | (rw [bendR, if_neg ‹_›]; done)
  · first
  | omega | contradiction
  | refine Ev.skip ?_; show Ev _ _ _ _; refine Ev.sr fun K hK => S.o (q.ls am_ag3) (S.o q.mul (S.o q.as (S.end (hK _ ?_)))); clear hK K; refine Ev.ret ?_; refine Ev.ret1 ?_; refine ⟨?_, rfl⟩
    first | (rw [bendR, if_pos ‹_›]; done) | (rw [bendR, if_neg ‹_›]; done)
theorem Bend_fun (d : Int) : Fun Tryz.prog 109 [.lit (.int .i64 d)] (Ret (.tup [.lit (.int .i64 (szV d (bendR d))), .lit (.int .i64 (szE d))]) []) := by
  refine Fun.of (nt := 9) (rs := [.tmp 2, .tmp 3]) Tryz.func109 rfl rfl rfl rfl rfl ?_; refine Ev.sr fun K hK => S.nn (q.bx [_] true) (S.o q.as (S.o q.as (S.end (hK _ ?_)))); clear hK K; refine Ev.sr fun K hK => S.o (q.lv am_ag3) (S.o q.mf (S.c0 (hF := sized1_fun _ _ _ _ (bend1_fun _)) (h := S.o q.ex (S.o q.ex (S.o q.as (S.o q.as (S.end (hK _ ?_)))))))); clear hK K; refine Ev.ret ?_; refine Ev.ret2 ?_; refine ⟨?_, rfl⟩; rfl
theorem up_fun (n d : Int) (h0 : 0 ≤ n) (h1 : n ≤ 1000000000000) (h2 : 1 ≤ d) (h3 : d ≤ 1000000) : Fun Tryz.prog 86 [.lit (.int .i64 n), .lit (.int .i64 d)] (Ret (.lit (.int .i64 ((n + d - 1) / d))) []) := by
  refine Fun.of (nt := 11) (rs := [.tmp 4]) Tryz.func86 rfl rfl rfl rfl rfl ?_; refine Ev.sr fun K hK => S.o q.as (S.end (hK _ ?_)); clear hK K; refine Ev.sr fun K hK => S.o q.mv (S.o q.mv (S.o q.add (S.o q.sub (S.o q.mv (S.o q.quo (S.o q.as (S.end (hK _ ?_)))))))); clear hK K; refine Ev.ret ?_; refine Ev.ret1 ?_; refine ⟨?_, rfl⟩; rfl
theorem arc_fun (d : Int) : Fun Tryz.prog 108 [.lit (.int .i64 d)] (Ret (.tup [.agg [.lit (.int .i64 (szV d (arcLo d))), .lit (.int .i64 (szV d (arcHi d)))], .lit (.int .i64 (szE d))]) []) := by
  refine Fun.of (nt := 23) (rs := [.cell 2 124, .tmp 3]) Tryz.func108 rfl rfl rfl rfl rfl ?_; refine Ev.sr fun K hK => S.nn (q.al am_ze124) (S.o q.as (S.end (hK _ ?_))); clear hK K; refine Ev.sr fun K hK => S.o q.mv (S.c0 (hF := Bend_fun _) (h := S.o q.mv (S.o q.ex (S.o q.ex (S.o q.as (S.o q.as (S.end (hK _ ?_)))))))); clear hK K; refine Ev.seq ?_; refine Ev.sr fun K hK => S.o q.mv (S.o q.neq (S.end (hK _ ?_))); clear hK K; refine Ev.cn (fun c1 => ?_) (fun c1 => ?_)
  · first
  | omega | contradiction
  | refine Ev.sr fun K hK => S.o (q.bd [_, _] am_ze124 am_pl124) (S.sv [_, _] true [] am_in124 am_cl124 (h := S.o q.as (S.end (hK _ ?_)))); clear hK K; refine Ev.ret ?_; refine Ev.retv2 (res_c [_, _] am_ag124 am_cl124 (res_t res_n)) ?_; refine ⟨?_, rfl⟩
    first | (rw [szV_out ‹_›, szV_out ‹_›, szE_out ‹_›]; done) | (rw [szV_in hz, szV_in hz, szE_in hz]; rfl) | (rw [szE_in hz]; rfl) | (rw [szE_in hz]; done)
  · first
  | omega | contradiction
  | refine Ev.skip ?_; show Ev _ _ _ _; have hz := szE_zero ‹szE d = 0›; obtain ⟨b1, b2, b3, b4, b5, b6, b7, b8, b9, b10⟩ := bend_bd hz; have e1 := szV_in (v := bendR d) hz; have e2 := szV_in (v := arcLo d) hz; have e3 := szV_in (v := arcHi d) hz; have a1 : arcLo d = 500 * bendR d * 333 / 106 := rfl; have a2 : arcHi d = (500 * bendR d * 355 + 113 - 1) / 113 := rfl; simp only [e1, e2, e3]; refine Ev.sr fun K hK => S.o q.mv (S.o q.mul (S.o q.mul (S.o q.quo (S.o q.mv (S.o q.mul (S.o q.mul (S.c0 (hF := up_fun _ _ (by omega) (by omega) (by omega) (by omega)) (h := S.o (q.bd [_, _] am_ze124 am_pl124) (S.sv [_, _] true [] am_in124 am_cl124 (h := S.o q.as (S.end (hK _ ?_)))))))))))); clear hK K; refine Ev.ret ?_; refine Ev.retv2 (res_c [_, _] am_ag124 am_cl124 (res_t res_n)) ?_; refine ⟨?_, rfl⟩
    first | (rw [szV_out ‹_›, szV_out ‹_›, szE_out ‹_›]; done) | (rw [szV_in hz, szV_in hz, szE_in hz]; rfl) | (rw [szE_in hz]; rfl) | (rw [szE_in hz]; done)
theorem allowance_fun (d : Int) : Fun Tryz.prog 99 [.lit (.int .i64 d)] (Ret (.tup [.agg [.lit (.int .i64 (szV d (allLo d))), .lit (.int .i64 (szV d (allHi d)))], .lit (.int .i64 (szE d))]) []) := by
  refine Fun.of (nt := 35) (rs := [.cell 2 124, .tmp 3]) Tryz.func99 rfl rfl rfl rfl rfl ?_; refine Ev.sr fun K hK => S.nn (q.al am_ze124) (S.o q.as (S.end (hK _ ?_))); clear hK K; refine Ev.sr fun K hK => S.o q.mv (S.c0 (hF := arc_fun _) (h := S.o q.mv (S.o q.ex (S.o q.ex (S.nn (q.al am_ze124) (S.sv [_, _] true [_] am_in124 am_cl124 (h := S.o q.as (S.end (hK _ ?_))))))))); clear hK K; refine Ev.seq ?_; refine Ev.sr fun K hK => S.o q.mv (S.o q.neq (S.end (hK _ ?_))); clear hK K; refine Ev.cn (fun c1 => ?_) (fun c1 => ?_)
  · first
  | omega | contradiction
  | refine Ev.sr fun K hK => S.o (q.bd [_, _] am_ze124 am_pl124) (S.o q.mv (S.sv [_, _] true [_] am_in124 am_cl124 (h := S.o q.as (S.end (hK _ ?_))))); clear hK K; refine Ev.ret ?_; refine Ev.retv2 (res_c [_, _] am_ag124 am_cl124 (res_t res_n)) ?_; refine ⟨?_, rfl⟩
    first | (rw [szV_out ‹_›, szV_out ‹_›, szE_out ‹_›]; done) | (rw [szV_in hz, szV_in hz, szE_in hz]; rfl) | (rw [szE_in hz]; rfl) | (rw [szE_in hz]; done)
  · first
  | omega | contradiction
  | refine Ev.skip ?_; show Ev _ _ _ _; refine Ev.sr fun K hK => S.o q.mv (S.c0 (hF := Bend_fun _) (h := S.o q.mv (S.o q.ex (S.o q.ex (S.o q.as (S.o q.as (S.end (hK _ ?_)))))))); clear hK K; refine Ev.seq ?_; refine Ev.sr fun K hK => S.o q.mv (S.o q.neq (S.end (hK _ ?_))); clear hK K; refine Ev.cn (fun c2 => ?_) (fun c2 => ?_)
    · first
    | omega | contradiction
    | refine Ev.sr fun K hK => S.o (q.bd [_, _] am_ze124 am_pl124) (S.sv [_, _] true [_] am_in124 am_cl124 (h := S.o q.as (S.end (hK _ ?_)))); clear hK K; refine Ev.ret ?_; refine Ev.retv2 (res_c [_, _] am_ag124 am_cl124 (res_t res_n)) ?_; refine ⟨?_, rfl⟩
      first | (rw [szV_out ‹_›, szV_out ‹_›, szE_out ‹_›]; done) | (rw [szV_in hz, szV_in hz, szE_in hz]; rfl) | (rw [szE_in hz]; rfl) | (rw [szE_in hz]; done)
    · first
    | omega | contradiction
    | refine Ev.skip ?_; show Ev _ _ _ _; have hz := szE_zero ‹szE d = 0›; obtain ⟨b1, b2, b3, b4, b5, b6, b7, b8, b9, b10⟩ := bend_bd hz; have e1 := szV_in (v := bendR d) hz; have e2 := szV_in (v := arcLo d) hz; have e3 := szV_in (v := arcHi d) hz; have a1 : arcLo d = 500 * bendR d * 333 / 106 := rfl; have a2 : arcHi d = (500 * bendR d * 355 + 113 - 1) / 113 := rfl; simp only [e1, e2, e3]; refine Ev.sr fun K hK => S.o q.mv (S.o q.mul (S.o (q.fa 1 am_fi124_1 am_cl3) (S.o (q.lv am_ag3) (S.o q.sub (S.o q.mv (S.o q.mul (S.o (q.fa 0 am_fi124_0 am_cl3) (S.o (q.lv am_ag3) (S.o q.sub (S.o (q.bd [_, _] am_ze124 am_pl124) (S.sv [_, _] true [_] am_in124 am_cl124 (h := S.o q.as (S.end (hK _ ?_)))))))))))))); clear hK K; refine Ev.ret ?_; refine Ev.retv2 (res_c [_, _] am_ag124 am_cl124 (res_t res_n)) ?_; refine ⟨?_, rfl⟩
      first | (rw [szV_out ‹_›, szV_out ‹_›, szE_out ‹_›]; done) | (rw [szV_in hz, szV_in hz, szE_in hz]; rfl) | (rw [szE_in hz]; rfl) | (rw [szE_in hz]; done)
def dimAt (b : Bar) (i : Nat) : Int := (b.dims[i]?).getD 0
def legsOf (b : Bar) : List Int := (legsL b.code).map (fun s => dimAt b s.1.toNat)
def okV (b : Bar) (v : Int) : Int := if okBar b then v else 0
def okE (b : Bar) : Int := if okBar b then 0 else 1
def legsV (b : Bar) : List Int := if okBar b then legsOf b else []
theorem okE_zero {b : Bar} (h : okE b = 0) : okBar b := by
  by_cases hd : okBar b
  · exact hd
  · rw [okE, if_neg hd] at h; cases h
theorem okV_in {b : Bar} {v : Int} (h : okBar b) : okV b v = v := if_pos h
theorem okE_in {b : Bar} (h : okBar b) : okE b = 0 := if_pos h
theorem okV_out {b : Bar} {v : Int} (h : ¬ okE b = 0) : okV b v = 0 := if_neg (fun h' => h (okE_in h'))
theorem okE_out {b : Bar} (h : ¬ okE b = 0) : okE b = 1 := if_neg (fun h' => h (okE_in h'))
theorem legsOf_len (b : Bar) : (legsOf b).length ≤ 6 := by
  rw [legsOf, List.length_map]; exact (dims_eq b.code).2.2.2
theorem dim_in {b : Bar} (h : okBar b) {i : Nat} (hi : (i : Int) < dimsN b.code) : b.dims[i]? = some (dimAt b i) ∧ 1 ≤ dimAt b i ∧ dimAt b i ≤ 262144 := by
  have hl := h.2.2.2.2.2.1; have e : b.dims[i]? = some (b.dims[i]'(by omega)) := List.getElem?_eq_getElem _
  have e2 : dimAt b i = b.dims[i]'(by omega) := by rw [dimAt, e]; rfl
  refine ⟨by rw [e, e2], ?_⟩; rw [e2]; exact dims_in h.2.2.2.2.2.2 (List.getElem_mem _)
theorem legs_in {b : Bar} (h : okBar b) : ∀ n ∈ legsOf b, 1 ≤ n ∧ n ≤ 262144 := by
  intro n hn; rw [legsOf, List.mem_map] at hn; obtain ⟨s, hs, rfl⟩ := hn; have := leg_bd b.code s hs; exact (dim_in h (i := s.1.toNat) (by omega)).2
theorem legs_pos {b : Bar} (h : okBar b) : 1 ≤ (legsOf b).length := by
  rw [legsOf, List.length_map]; have h1 := h.2.2.2.2.1
  rcases codes b.code with e | e | e | e | e | e | e | e | e
  iterate 8 (rw [e]; decide)
  exact absurd (legsL_none e).2 h1
theorem legs_fun2 (b : Bar) (hw : b.w) : Fun Tryz.prog 98 [.agg b.c] (Ret (.tup [.sh 1 ((legsV b).map intC), .lit (.int .i64 (okE b))]) []) := by
  obtain ⟨hw1, hw2⟩ := id hw; obtain ⟨d1, d2, d3, d4⟩ := dims_eq b.code; refine Fun.of (nt := 29) (rs := [.tmp 2, .tmp 3]) Tryz.func98 rfl rfl rfl rfl rfl ?_; refine Ev.sr fun K hK => S.nn (q.bx [_, _, _, _, _] true) (S.o q.as (S.o q.as (S.end (hK _ ?_)))); clear hK K; refine Ev.seq ?_; refine Ev.sr fun K hK => S.o (q.lvA [_, _, _, _, _] am_ag56 am_cl56) (S.c0 (hF := valid_fun _ (by assumption)) (h := S.o q.not (S.end (hK _ ?_)))); clear hK K; refine Ev.cn (fun c1 => ?_) (fun c1 => ?_)
  · first
  | omega | contradiction
  | refine Ev.sr fun K hK => S.o q.as (S.o q.as (S.end (hK _ ?_))); clear hK K; refine Ev.weaken (Wk.nsh intC 2 1) ?_; refine Ev.ret ?_; refine Ev.ret2 ?_; refine ⟨?_, rfl⟩
    first
     | (rw [legsV, okE, if_neg ‹_›, if_neg ‹_›]; done)
     | (rw [legsV, okE, if_pos ‹_›, if_pos ‹_›, legsOf, ← hp]; done)
     | (rw [legsV, okE, if_pos ‹_›, if_pos ‹_›, legsOf, ← hp, List.append_nil]; done)
  · first
  | omega | contradiction
  | refine Ev.skip ?_; show Ev _ _ _ _; refine Ev.sr fun K hK => S.o q.as (S.end (hK _ ?_)); clear hK K; refine Ev.seq ?_; refine Ev.sr fun K hK => S.o (q.fa 3 am_fi56_3 am_cl3) (S.o (q.lv am_ag3) (S.c0 (hF := legs_fun _) (h := S.o (q.lens am_el117) (S.o q.mv (S.end (hK _ ?_)))))); clear hK K; refine Ev.block ?_; refine Ev.weaken (Wk.nown intC 4 3 1) ?_; refine Ev.loopU (ι := {p : List (Int × Int) × List (Int × Int) // p.1 ++ p.2 = (legsL b.code) ∧ True}) [0, 1] [1, 2, 3, 12, 13] (fun ⟨(pre, suf), _⟩ => [(14, .lit (.int .i64 ((pre.length : Int)))), (4, .als 1 0 (pre.map (fun s => dimAt b s.1.toNat)).length)]) (fun ⟨(pre, suf), _⟩ => [(0, ⟨false, 56, 5, [[.lit (str (b.mark)), .lit (.int .i64 (b.size)), .lit (.int .i64 (b.count)), .lit (.int .i64 (b.code)), .sh 1 ((b.dims).map intC)]], true⟩), (1, ⟨true, 3, 1, (pre.map (fun s => dimAt b s.1.toNat)).map intC, true⟩)]) (fun ⟨(pre, suf), _⟩ => suf.length) ⟨([], (legsL b.code)), rfl, trivial⟩ (.c (.c (.c (.c (.c .n))))) (keep_c (he := rfl) (h := (keep_c (he := (by first | rfl | (simp; done))) (h := keep_n)))) (slots_c (he := (by first | rfl | (congr 2; simp; done))) (h := (slots_c (he := (by first | rfl | (congr 1; simp; done))) (h := trivial)))) ?_; rintro ⟨⟨pre, suf⟩, hp, hinv⟩ R0 hR0; dsimp only [List.cons_append, List.nil_append, List.length_cons, List.length_nil]
    simp only at hp hinv
    have hpl : pre.length + suf.length = ((legsL b.code)).length := by rw [← hp, List.length_append]
    rcases suf with _ | ⟨s, suf⟩
    · rw [List.append_nil] at hp; simp only [List.length_nil] at hpl; refine Ev.sr fun K hK => S.o q.lss (S.end (hK _ ?_)); clear hK K; refine Ev.ud (fun c2 => ?_) (fun c2 => ?_)
      · first
      | omega | contradiction
      | refine Ev.seq ?_; refine Ev.block ?_; refine Ev.sr fun K hK => S.o (q.ix am_el117 am_cl120 (hl := (by first | exact atig (by omega)))) (S.o (q.lsA [_, _] am_ag120 am_cl120) (S.nn (q.al am_ze120) (S.sv [_, _] true [_, _] am_in120 am_cl120 (h := S.end (hK _ ?_))))); clear hK K; refine Ev.region_S fun K hK => S.o q.mv (S.o (q.fa 4 am_fi56_4 am_cl54) (S.o (q.lv am_ag54) (S.o (q.fa 0 am_fi120_0 am_cl3) (S.o (q.lv am_ag3) (S.o (q.ix am_el54 am_cl3 (hl := (by first | exact atig (by omega)))) (S.o (q.ls am_ag3) (S.nn (q.bs [[_]] true am_el54 am_ze3 am_cl3) (S.ap' [_, _, _] am_el54 am_ze3 am_cl3 am_by3 (hh := head_own') (hr := (rows_lit [_])) (h := S.o q.as (S.end (hK _ ?_))))))))))); clear hK K; show Ev _ _ _ _; refine Ev.region_S fun K hK => S.o q.add (S.o q.mv (S.end (hK _ ?_))); clear hK K; refine hR0 _ _ ?_; refine roundU [0, 4] [1, 2, 3, 12, 13] ⟨(pre ++ [s], suf), by rw [← hp]; simp, ?_⟩ ?_ (keep_c (he := rfl) (h := (keep_c (he := (by first | rfl | (simp; done))) (h := keep_n)))) (slots_c (he := (by first | rfl | (congr 2; simp; done))) (h := (slots_c (he := (by first | rfl | (congr 1; simp; done))) (h := trivial)))) (.c (.c (.c (.c (.c .n))))); trivial; all_goals (dsimp only; simp only [List.length_cons]; omega)
      · first
      | omega | contradiction
      | refine Ev.exit ?_; refine hR0 _ _ ?_; show Ev _ _ _ _; refine Ev.sr fun K hK => S.o q.mv (S.o q.as (S.o q.as (S.end (hK _ ?_)))); clear hK K; refine Ev.weaken (Wk.frz 2 [_]) ?_; refine Ev.ret ?_; refine Ev.ret2 ?_; refine ⟨?_, rfl⟩
        first
         | (rw [legsV, okE, if_neg ‹_›, if_neg ‹_›]; done)
         | (rw [legsV, okE, if_pos ‹_›, if_pos ‹_›, legsOf, ← hp]; done)
         | (rw [legsV, okE, if_pos ‹_›, if_pos ‹_›, legsOf, ← hp, List.append_nil]; done)
    · simp only [List.length_cons] at hpl
      have hidx : (legsL b.code)[pre.length]? = some s := by rw [← hp]; simp
      have hlb := leg_bd b.code s (by rw [← hp]; simp); obtain ⟨hdi, hd1, hd2⟩ := dim_in ‹okBar b› (i := s.1.toNat) (by omega); have hml : (pre.map (fun s : Int × Int => dimAt b s.1.toNat)).length = pre.length := List.length_map _; refine Ev.sr fun K hK => S.o q.lss (S.end (hK _ ?_)); clear hK K; refine Ev.ud (fun c3 => ?_) (fun c3 => ?_)
      · first
      | omega | contradiction
      | refine Ev.seq ?_; refine Ev.block ?_; refine Ev.sr fun K hK => S.o (q.ix am_el117 am_cl120 (hl := (by first | exact ati hidx (by omega) | exact ati hdi (by omega) | exact atig (by omega)))) (S.o (q.lsA [_, _] am_ag120 am_cl120) (S.nn (q.al am_ze120) (S.sv [_, _] true [_, _] am_in120 am_cl120 (h := S.end (hK _ ?_))))); clear hK K; refine Ev.region_S fun K hK => S.o q.mv (S.o (q.fa 4 am_fi56_4 am_cl54) (S.o (q.lv am_ag54) (S.o (q.fa 0 am_fi120_0 am_cl3) (S.o (q.lv am_ag3) (S.o (q.ix am_el54 am_cl3 (hl := (by first | exact ati hidx (by omega) | exact ati hdi (by omega) | exact atig (by omega)))) (S.o (q.ls am_ag3) (S.nn (q.bs [[_]] true am_el54 am_ze3 am_cl3) (S.ap' [_, _, _] am_el54 am_ze3 am_cl3 am_by3 (hh := head_own') (hr := (rows_lit [_])) (h := S.o q.as (S.end (hK _ ?_))))))))))); clear hK K; show Ev _ _ _ _; refine Ev.region_S fun K hK => S.o q.add (S.o q.mv (S.end (hK _ ?_))); clear hK K; refine hR0 _ _ ?_; refine roundU [0, 4] [1, 2, 3, 12, 13] ⟨(pre ++ [s], suf), by rw [← hp]; simp, ?_⟩ ?_ (keep_c (he := rfl) (h := (keep_c (he := (by first | rfl | (simp; done))) (h := keep_n)))) (slots_c (he := (by first | rfl | (congr 2; simp; done))) (h := (slots_c (he := (by first | rfl | (congr 1; simp; done))) (h := trivial)))) (.c (.c (.c (.c (.c .n))))); trivial; all_goals (dsimp only; simp only [List.length_cons]; omega)
      · first
      | omega | contradiction
      | refine Ev.exit ?_; refine hR0 _ _ ?_; show Ev _ _ _ _; refine Ev.sr fun K hK => S.o q.mv (S.o q.as (S.o q.as (S.end (hK _ ?_)))); clear hK K; refine Ev.weaken (Wk.frz 2 [_]) ?_; refine Ev.ret ?_; refine Ev.ret2 ?_; refine ⟨?_, rfl⟩
        first
         | (rw [legsV, okE, if_neg ‹_›, if_neg ‹_›]; done)
         | (rw [legsV, okE, if_pos ‹_›, if_pos ‹_›, legsOf, ← hp]; done)
         | (rw [legsV, okE, if_pos ‹_›, if_pos ‹_›, legsOf, ← hp, List.append_nil]; done)
def devLo (b : Bar) : Int := 1000 * sumI (legsOf b) - ((legsOf b).length - 1) * allHi b.size
def devHi (b : Bar) : Int := 1000 * sumI (legsOf b) - ((legsOf b).length - 1) * allLo b.size
theorem sumI_bd : ∀ (l : List Int), (∀ n ∈ l, 1 ≤ n ∧ n ≤ 262144) → 0 ≤ sumI l ∧ sumI l ≤ 262144 * l.length
  | [], _ => by decide
  | x :: l, h => by
    have := h x (by simp); have := sumI_bd l (fun n hn => h n (by simp [hn])); rw [sumI_cons, List.length_cons]; omega
theorem legs_sum {b : Bar} (h : okBar b) : 0 ≤ sumI (legsOf b) ∧ sumI (legsOf b) ≤ 524288 := by
  refine ⟨(sumI_bd _ (legs_in h)).1, ?_⟩; obtain ⟨_, _, _, _, h1, h2, h3, h4⟩ := h
  have hl : b.dims.length = (dimsN b.code).toNat := by omega
  obtain ⟨mk, sz, cn, cd, ds⟩ := b
  simp only at hl h1 h3 h4
  unfold legsOf dimAt
  simp only
  rcases codes cd with e | e | e | e | e | e | e | e | e
  · subst e
    match ds, hl with
    | [x0], _ =>
      have k0 := h3 x0 (by simp); simp only [sumI, List.foldl_cons, List.foldl_nil] at h4
      simp [sumI, legsL]
      omega
  · subst e
    match ds, hl with
    | [x0, x1], _ =>
      have k0 := h3 x0 (by simp); have k1 := h3 x1 (by simp); simp only [sumI, List.foldl_cons, List.foldl_nil] at h4
      simp [sumI, legsL]
      omega
  · subst e
    match ds, hl with
    | [x0, x1, x2], _ =>
      have k0 := h3 x0 (by simp); have k1 := h3 x1 (by simp); have k2 := h3 x2 (by simp); simp only [sumI, List.foldl_cons, List.foldl_nil] at h4
      simp [sumI, legsL]
      omega
  · subst e
    match ds, hl with
    | [x0, x1, x2], _ =>
      have k0 := h3 x0 (by simp); have k1 := h3 x1 (by simp); have k2 := h3 x2 (by simp); simp only [sumI, List.foldl_cons, List.foldl_nil] at h4
      simp [sumI, legsL]
      omega
  · subst e
    match ds, hl with
    | [x0, x1, x2], _ =>
      have k0 := h3 x0 (by simp); have k1 := h3 x1 (by simp); have k2 := h3 x2 (by simp); simp only [sumI, List.foldl_cons, List.foldl_nil] at h4
      simp [sumI, legsL]
      omega
  · subst e
    match ds, hl with
    | [x0, x1, x2, x3, x4], _ =>
      have k0 := h3 x0 (by simp); have k1 := h3 x1 (by simp); have k2 := h3 x2 (by simp); have k3 := h3 x3 (by simp); have k4 := h3 x4 (by simp); simp only [sumI, List.foldl_cons, List.foldl_nil] at h4
      simp [sumI, legsL]
      omega
  · subst e
    match ds, hl with
    | [x0, x1, x2], _ =>
      have k0 := h3 x0 (by simp); have k1 := h3 x1 (by simp); have k2 := h3 x2 (by simp); simp only [sumI, List.foldl_cons, List.foldl_nil] at h4
      simp [sumI, legsL]
      omega
  · subst e
    match ds, hl with
    | [x0, x1, x2], _ =>
      have k0 := h3 x0 (by simp); have k1 := h3 x1 (by simp); have k2 := h3 x2 (by simp); simp only [sumI, List.foldl_cons, List.foldl_nil] at h4
      simp [sumI, legsL]
      omega
  · exact absurd (legsL_none e).2 h1
theorem dev_bd {b : Bar} (h : okBar b) : 0 ≤ ((legsOf b).length - 1) * allHi b.size ∧ ((legsOf b).length - 1) * allHi b.size ≤ 5 * 70000 ∧ 0 ≤ ((legsOf b).length - 1) * allLo b.size ∧ ((legsOf b).length - 1) * allLo b.size ≤ 5 * 70000 ∧ -350000 ≤ devHi b ∧ devHi b ≤ 524288000 := by
  have h1 := legs_pos h; have h2 := legsOf_len b; obtain ⟨b1, b2, b3, b4, b5, b6, b7, b8, b9, b10⟩ := bend_bd h.2.1; obtain ⟨p1, p2⟩ := mul_bd (k := ((legsOf b).length : Int) - 1) (K := 5) (a := allHi b.size) (A := 70000) (by omega) (by omega) b9 b10; obtain ⟨p3, p4⟩ := mul_bd (k := ((legsOf b).length : Int) - 1) (K := 5) (a := allLo b.size) (A := 70000) (by omega) (by omega) b7 b8; obtain ⟨s1, s2⟩ := legs_sum h; refine ⟨p1, p2, p3, p4, ?_⟩
  unfold devHi
  omega
theorem developed_fun (b : Bar) (hw : b.w) : Fun Tryz.prog 85 [.agg b.c] (Ret (.tup [.agg [.lit (.int .i64 (okV b (devLo b))), .lit (.int .i64 (okV b (devHi b)))], .lit (.int .i64 (okE b))]) []) := by
  have hl := legsOf_len b; refine Fun.of (nt := 57) (rs := [.cell 2 124, .tmp 3]) Tryz.func85 rfl rfl rfl rfl rfl ?_; refine Ev.sr fun K hK => S.nn (q.bx [_, _, _, _, _] true) (S.nn (q.al am_ze124) (S.o q.as (S.end (hK _ ?_)))); clear hK K; refine Ev.sr fun K hK => S.o (q.lvA [_, _, _, _, _] am_ag56 am_cl56) (S.c0 (hF := legs_fun2 _ (by assumption)) (h := S.o q.mv (S.o q.ex (S.o q.ex (S.o q.as (S.o q.as (S.end (hK _ ?_)))))))); clear hK K; refine Ev.seq ?_; refine Ev.sr fun K hK => S.o q.mv (S.o q.neq (S.end (hK _ ?_))); clear hK K; refine Ev.cn (fun c1 => ?_) (fun c1 => ?_)
  · first
  | omega | contradiction
  | refine Ev.sr fun K hK => S.o (q.bd [_, _] am_ze124 am_pl124) (S.o q.mv (S.sv [_, _] true [_] am_in124 am_cl124 (h := S.o q.as (S.end (hK _ ?_))))); clear hK K; refine Ev.ret ?_; refine Ev.retv2 (res_c [_, _] am_ag124 am_cl124 (res_t res_n)) ?_; refine ⟨?_, rfl⟩
    first
     | (rw [okV_out ‹_›, okV_out ‹_›, okE_out ‹_›]; done)
     | (rw [okV_in hok, okV_in hok, okE_in hok]; rfl)
  · first
  | omega | contradiction
  | refine Ev.skip ?_; show Ev _ _ _ _; have hok := okE_zero ‹okE b = 0›; have hlv : legsV b = legsOf b := if_pos hok; have hz := hok.2.1; obtain ⟨b1, b2, b3, b4, b5, b6, b7, b8, b9, b10⟩ := bend_bd hz; have e1 := szV_in (v := allLo b.size) hz; have e2 := szV_in (v := allHi b.size) hz; have e3 := szE_in hz; obtain ⟨p1, p2, p3, p4, p5, p6⟩ := dev_bd hok
    obtain ⟨s1, s2⟩ := legs_sum hok; rw [hlv]; refine Ev.sr fun K hK => S.o q.as (S.end (hK _ ?_)); clear hK K; refine Ev.seq ?_; refine Ev.sr fun K hK => S.o q.mv (S.o (q.lens am_el54) (S.o q.mv (S.end (hK _ ?_)))); clear hK K; refine Ev.block ?_; refine Ev.loopU (ι := {p : List (Int) × List (Int) // p.1 ++ p.2 = (legsOf b) ∧ True}) [0, 1] [1, 2, 3, 4, 5, 20, 21] (fun ⟨(pre, suf), _⟩ => [(22, .lit (.int .i64 ((pre.length : Int)))), (6, .lit (.int .i64 (1000 * sumI pre)))]) (fun ⟨(pre, suf), _⟩ => [(0, ⟨false, 56, 5, [[.lit (str (b.mark)), .lit (.int .i64 (b.size)), .lit (.int .i64 (b.count)), .lit (.int .i64 (b.code)), .sh 1 ((b.dims).map intC)]], true⟩), (1, ⟨false, 124, 2, [[.lit (.int .i64 (0)), .lit (.int .i64 (0))]], true⟩)]) (fun ⟨(pre, suf), _⟩ => suf.length) ⟨([], (legsOf b)), rfl, trivial⟩ (.c (.c (.c (.c (.c (.c (.c .n))))))) (keep_c (he := rfl) (h := (keep_c (he := rfl) (h := keep_n)))) (slots_c (he := (by first | rfl | (congr 2; simp; done))) (h := (slots_c (he := (by first | rfl | (congr 2; rw [sumI_app, show sumI [s] = s by simp [sumI]]; omega))) (h := trivial)))) ?_; rintro ⟨⟨pre, suf⟩, hp, hinv⟩ R0 hR0; dsimp only [List.cons_append, List.nil_append, List.length_cons, List.length_nil]
    simp only at hp hinv
    have hpl : pre.length + suf.length = ((legsOf b)).length := by rw [← hp, List.length_append]
    rcases suf with _ | ⟨s, suf⟩
    · rw [List.append_nil] at hp; simp only [List.length_nil] at hpl; refine Ev.sr fun K hK => S.o q.lss (S.end (hK _ ?_)); clear hK K; refine Ev.ud (fun c2 => ?_) (fun c2 => ?_)
      · first
      | omega | contradiction
      | refine Ev.seq ?_; refine Ev.block ?_; refine Ev.sr fun K hK => S.o (q.ix am_el54 am_cl3 (hl := (by first | exact atig (by omega)))) (S.o (q.ls am_ag3) (S.o q.as (S.end (hK _ ?_)))); clear hK K; refine Ev.region_S fun K hK => S.o q.mv (S.o q.mv (S.o q.mul (S.o q.add (S.o q.as (S.end (hK _ ?_)))))); clear hK K; show Ev _ _ _ _; refine Ev.region_S fun K hK => S.o q.add (S.o q.mv (S.end (hK _ ?_))); clear hK K; refine hR0 _ _ ?_; refine roundU [0, 1] [1, 2, 3, 4, 5, 20, 21] ⟨(pre ++ [s], suf), by rw [← hp]; simp, ?_⟩ ?_ (keep_c (he := rfl) (h := (keep_c (he := rfl) (h := keep_n)))) (slots_c (he := (by first | rfl | (congr 2; simp; done))) (h := (slots_c (he := (by first | rfl | (congr 2; rw [sumI_app, show sumI [s] = s by simp [sumI]]; omega))) (h := trivial)))) (.c (.c (.c (.c (.c (.c (.c .n))))))); trivial; all_goals (dsimp only; simp only [List.length_cons]; omega)
      · first
      | omega | contradiction
      | refine Ev.exit ?_; refine hR0 _ _ ?_; show Ev _ _ _ _; refine Ev.sr fun K hK => S.o (q.fa 1 am_fi56_1 am_cl3) (S.o (q.lv am_ag3) (S.c0 (hF := allowance_fun _) (h := S.o q.mv (S.o q.ex (S.o q.ex (S.nn (q.al am_ze124) (S.sv [_, _] true [_, _] am_in124 am_cl124 (h := S.o q.as (S.end (hK _ ?_)))))))))); clear hK K; refine Ev.seq ?_; rw [e3]; refine Ev.sr fun K hK => S.o q.mv (S.o q.neq (S.end (hK _ ?_))); clear hK K; refine Ev.cn (fun c3 => ?_) (fun c3 => ?_)
        · first
        | omega | contradiction
        | refine Ev.sr fun K hK => S.o (q.bd [_, _] am_ze124 am_pl124) (S.o q.mv (S.sv [_, _] true [_, _] am_in124 am_cl124 (h := S.o q.as (S.end (hK _ ?_))))); clear hK K; refine Ev.ret ?_; refine Ev.retv2 (res_c [_, _] am_ag124 am_cl124 (res_t res_n)) ?_; refine ⟨?_, rfl⟩
          first
           | (rw [okV_out ‹_›, okV_out ‹_›, okE_out ‹_›]; done)
           | (rw [okV_in hok, okV_in hok, okE_in hok]; rfl)
        · first
        | omega | contradiction
        | refine Ev.skip ?_; show Ev _ _ _ _; simp only [e1, e2]; rw [hp]; refine Ev.sr fun K hK => S.o q.mv (S.o (q.lens am_el54) (S.o q.sub (S.o q.as (S.end (hK _ ?_))))); clear hK K; refine Ev.sr fun K hK => S.o q.mv (S.o q.mv (S.o (q.fa 1 am_fi124_1 am_cl3) (S.o (q.lv am_ag3) (S.o q.mul (S.o q.sub (S.o q.mv (S.o q.mv (S.o (q.fa 0 am_fi124_0 am_cl3) (S.o (q.lv am_ag3) (S.o q.mul (S.o q.sub (S.o (q.bd [_, _] am_ze124 am_pl124) (S.sv [_, _] true [_, _] am_in124 am_cl124 (h := S.o q.as (S.end (hK _ ?_)))))))))))))))); clear hK K; refine Ev.ret ?_; refine Ev.retv2 (res_c [_, _] am_ag124 am_cl124 (res_t res_n)) ?_; refine ⟨?_, rfl⟩
          first
           | (rw [okV_out ‹_›, okV_out ‹_›, okE_out ‹_›]; done)
           | (rw [okV_in hok, okV_in hok, okE_in hok]; rfl)
    · simp only [List.length_cons] at hpl
      have hidx : (legsOf b)[pre.length]? = some s := by rw [← hp]; simp
      have hsb := legs_in hok s (by rw [← hp]; simp); obtain ⟨hs1, hs2⟩ := sumI_bd pre (fun n hn => legs_in hok n (by rw [← hp]; simp [hn])); refine Ev.sr fun K hK => S.o q.lss (S.end (hK _ ?_)); clear hK K; refine Ev.ud (fun c4 => ?_) (fun c4 => ?_)
      · first
      | omega | contradiction
      | refine Ev.seq ?_; refine Ev.block ?_; refine Ev.sr fun K hK => S.o (q.ix am_el54 am_cl3 (hl := (by first | exact ati hidx (by omega) | exact atig (by omega)))) (S.o (q.ls am_ag3) (S.o q.as (S.end (hK _ ?_)))); clear hK K; refine Ev.region_S fun K hK => S.o q.mv (S.o q.mv (S.o q.mul (S.o q.add (S.o q.as (S.end (hK _ ?_)))))); clear hK K; show Ev _ _ _ _; refine Ev.region_S fun K hK => S.o q.add (S.o q.mv (S.end (hK _ ?_))); clear hK K; refine hR0 _ _ ?_; refine roundU [0, 1] [1, 2, 3, 4, 5, 20, 21] ⟨(pre ++ [s], suf), by rw [← hp]; simp, ?_⟩ ?_ (keep_c (he := rfl) (h := (keep_c (he := rfl) (h := keep_n)))) (slots_c (he := (by first | rfl | (congr 2; simp; done))) (h := (slots_c (he := (by first | rfl | (congr 2; rw [sumI_app, show sumI [s] = s by simp [sumI]]; omega))) (h := trivial)))) (.c (.c (.c (.c (.c (.c (.c .n))))))); trivial; all_goals (dsimp only; simp only [List.length_cons]; omega)
      · first
      | omega | contradiction
      | refine Ev.exit ?_; refine hR0 _ _ ?_; show Ev _ _ _ _; refine Ev.sr fun K hK => S.o (q.fa 1 am_fi56_1 am_cl3) (S.o (q.lv am_ag3) (S.c0 (hF := allowance_fun _) (h := S.o q.mv (S.o q.ex (S.o q.ex (S.nn (q.al am_ze124) (S.sv [_, _] true [_, _] am_in124 am_cl124 (h := S.o q.as (S.end (hK _ ?_)))))))))); clear hK K; refine Ev.seq ?_; rw [e3]; refine Ev.sr fun K hK => S.o q.mv (S.o q.neq (S.end (hK _ ?_))); clear hK K; refine Ev.cn (fun c5 => ?_) (fun c5 => ?_)
        · first
        | omega | contradiction
        | refine Ev.sr fun K hK => S.o (q.bd [_, _] am_ze124 am_pl124) (S.o q.mv (S.sv [_, _] true [_, _] am_in124 am_cl124 (h := S.o q.as (S.end (hK _ ?_))))); clear hK K; refine Ev.ret ?_; refine Ev.retv2 (res_c [_, _] am_ag124 am_cl124 (res_t res_n)) ?_; refine ⟨?_, rfl⟩
          first
           | (rw [okV_out ‹_›, okV_out ‹_›, okE_out ‹_›]; done)
           | (rw [okV_in hok, okV_in hok, okE_in hok]; rfl)
        · first
        | omega | contradiction
        | refine Ev.skip ?_; show Ev _ _ _ _; simp only [e1, e2]; rw [hp]; refine Ev.sr fun K hK => S.o q.mv (S.o (q.lens am_el54) (S.o q.sub (S.o q.as (S.end (hK _ ?_))))); clear hK K; refine Ev.sr fun K hK => S.o q.mv (S.o q.mv (S.o (q.fa 1 am_fi124_1 am_cl3) (S.o (q.lv am_ag3) (S.o q.mul (S.o q.sub (S.o q.mv (S.o q.mv (S.o (q.fa 0 am_fi124_0 am_cl3) (S.o (q.lv am_ag3) (S.o q.mul (S.o q.sub (S.o (q.bd [_, _] am_ze124 am_pl124) (S.sv [_, _] true [_, _] am_in124 am_cl124 (h := S.o q.as (S.end (hK _ ?_)))))))))))))))); clear hK K; refine Ev.ret ?_; refine Ev.retv2 (res_c [_, _] am_ag124 am_cl124 (res_t res_n)) ?_; refine ⟨?_, rfl⟩
          first
           | (rw [okV_out ‹_›, okV_out ‹_›, okE_out ‹_›]; done)
           | (rw [okV_in hok, okV_in hok, okE_in hok]; rfl)
def cutOf (b : Bar) : Int := max 5 (5 * ((max 0 (devHi b) + 5000 - 1) / 5000))
theorem cutOf_bd {b : Bar} (h : okBar b) : 5 ≤ cutOf b ∧ cutOf b ≤ 1048576 := by
  obtain ⟨_, _, _, _, h1, h2⟩ := dev_bd h
  unfold cutOf
  omega
theorem cut_fun (b : Bar) (hw : b.w) : Fun Tryz.prog 70 [.agg b.c] (Ret (.tup [.lit (.int .i64 (okV b (cutOf b))), .lit (.int .i64 (okE b))]) []) := by
  refine Fun.of (nt := 20) (rs := [.tmp 2, .tmp 3]) Tryz.func70 rfl rfl rfl rfl rfl ?_; refine Ev.sr fun K hK => S.nn (q.bx [_, _, _, _, _] true) (S.o q.as (S.o q.as (S.end (hK _ ?_)))); clear hK K; refine Ev.sr fun K hK => S.o (q.lvA [_, _, _, _, _] am_ag56 am_cl56) (S.c0 (hF := developed_fun _ (by assumption)) (h := S.o q.mv (S.o q.ex (S.o q.ex (S.nn (q.al am_ze124) (S.sv [_, _] true [_] am_in124 am_cl124 (h := S.o q.as (S.end (hK _ ?_))))))))); clear hK K; refine Ev.seq ?_; refine Ev.sr fun K hK => S.o q.mv (S.o q.neq (S.end (hK _ ?_))); clear hK K; refine Ev.cn (fun c1 => ?_) (fun c1 => ?_)
  · first
  | omega | contradiction
  | refine Ev.sr fun K hK => S.o q.mv (S.o q.as (S.o q.as (S.end (hK _ ?_)))); clear hK K; refine Ev.ret ?_; refine Ev.ret2 ?_; refine ⟨?_, rfl⟩
    first
     | (rw [okV_out ‹_›, okE_out ‹_›]; done)
     | (rw [okV_in hok, okE_in hok]; rfl)
  · first
  | omega | contradiction
  | refine Ev.skip ?_; show Ev _ _ _ _; have hok := okE_zero ‹okE b = 0›; obtain ⟨_, _, _, _, h1, h2⟩ := dev_bd hok; rw [okV_in hok, okV_in hok]; refine Ev.sr fun K hK => S.o (q.fa 1 am_fi124_1 am_cl3) (S.o (q.lv am_ag3) (S.o q.max (S.c0 (hF := up_fun _ _ (by omega) (by omega) (by omega) (by omega)) (h := S.o q.mul (S.o q.max (S.o q.as (S.o q.as (S.end (hK _ ?_))))))))); clear hK K; refine Ev.ret ?_; refine Ev.ret2 ?_; refine ⟨?_, rfl⟩
    first
     | (rw [okV_out ‹_›, okE_out ‹_›]; done)
     | (rw [okV_in hok, okE_in hok]; rfl)
def oneOf (b : Bar) : Int := massOf b.size (cutOf b)
def barMass (b : Bar) : Int := b.count * oneOf b
theorem barMass_bd {b : Bar} (h : okBar b) : 0 ≤ oneOf b ∧ oneOf b ≤ 10343154 ∧ 0 ≤ barMass b ∧ barMass b ≤ 1000 * 10343154 := by
  obtain ⟨h1, h2⟩ := cutOf_bd h; obtain ⟨h3, h4⟩ := massOf_bd h.2.1 (by omega : 0 ≤ cutOf b) h2; have h5 := h.2.2.1; have h6 := h.2.2.2.1; exact ⟨h3, h4, mul_bd (by omega) h6 h3 h4⟩
end Go.Proofs.YthpjfkmhpoeojaaGreatDoor
