/-
  Layer 13: bends, cutting lengths, masses.
  Conditions: none.
-/
import Derived.Test.YtkbpignlggahaaaGreatDoorBase
import Derived.Test.YtkbpignlggahaaaGreatDoorAmRes
namespace Go.Proofs.YtkbpignlggahaaaGreatDoor
open Go Go.AM
set_option linter.unusedSimpArgs false
set_option linter.unusedVariables false
set_option maxRecDepth 100000
theorem szE_zero {d : Int} (h : szE d = 0) : d ∈ sizes := by
  by_cases hd : d ∈ sizes
  · exact hd
  · rw [szE, if_neg hd] at h; cases h
theorem szV_in {d v : Int} (h : d ∈ sizes) : szV d v = v := if_pos h
theorem szE_in {d : Int} (h : d ∈ sizes) : szE d = 0 := if_pos h
theorem szV_out {d v : Int} (h : ¬ szE d = 0) : szV d v = 0 := if_neg (fun h' => h (szE_in h'))
theorem szE_out {d : Int} (h : ¬ szE d = 0) : szE d = 1 := if_neg (fun h' => h (szE_in h'))
def massOf (d n : Int) : Int := (6165 * d * d * n + 500000) / 1000000
theorem mass_pre {d n : Int} (h : d ∈ sizes) (h0 : 0 ≤ n) (h1 : n ≤ 1048576) : 0 ≤ 6165 * d ∧ 6165 * d ≤ 246600 ∧ 0 ≤ 6165 * d * d ∧ 6165 * d * d ≤ 9864000 ∧ 0 ≤ 6165 * d * d * n ∧ 6165 * d * d * n ≤ 9864000 * 1048576 := by
  simp only [sizes, List.mem_cons, List.not_mem_nil, or_false] at h
  rcases h with h | h | h | h | h | h | h | h | h <;> subst h <;> omega
theorem massOf_bd {d n : Int} (h : d ∈ sizes) (h0 : 0 ≤ n) (h1 : n ≤ 1048576) : 0 ≤ massOf d n ∧ massOf d n ≤ 10343154 := by
  have := mass_pre h h0 h1
  unfold massOf
  omega
theorem mass1_fun (d n : Int) (h : d ∈ sizes) (h0 : 0 ≤ n) (h1 : n ≤ 1048576) : Fun Tryz.prog 93 [.sadr [.lit (.int .i64 d)] 0, .sadr [.lit (.int .i64 n)] 0] (Ret (.lit (.int .i64 (massOf d n))) []) := by
  obtain ⟨m1, m2, m3, m4, m5, m6⟩ := mass_pre h h0 h1; refine Fun.of (nt := 11) (rs := [.tmp 2]) Tryz.func93 rfl rfl rfl rfl rfl ?_; refine Ev.sr fun K hK => S.o q.as (S.end (hK _ ?_)); clear hK K; refine Ev.sr fun K hK => S.o (q.ls am_ag3) (S.o q.mul (S.o (q.ls am_ag3) (S.o q.mul (S.o (q.ls am_ag3) (S.o q.mul (S.o q.add (S.o q.quo (S.o q.as (S.end (hK _ ?_)))))))))); clear hK K; refine Ev.ret ?_; refine Ev.ret1 ?_; refine ⟨?_, rfl⟩; rfl
theorem Mass_fun (d n : Int) (h0 : 0 ≤ n) (h1 : n ≤ 1048576) : Fun Tryz.prog 53 [.lit (.int .i64 d), .lit (.int .i64 n)] (Ret (.tup [.lit (.int .i64 (szV d (massOf d n))), .lit (.int .i64 (szE d))]) []) := by
  refine Fun.of (nt := 21) (rs := [.tmp 4, .tmp 5]) Tryz.func53 rfl rfl rfl rfl rfl ?_; refine Ev.sr fun K hK => S.nn (q.bx [_] true) (S.nn (q.bx [_] true) (S.o q.as (S.o q.as (S.end (hK _ ?_))))); clear hK K; refine Ev.seq ?_; refine Ev.sr fun K hK => S.o (q.lv am_ag3) (S.c0 (hF := size_fun _) (h := S.bd q.mv (fun c1 => ?_) (fun c1 => ?_)))
  · first
  | omega | contradiction
  | refine S.o (q.lv am_ag3) (S.o q.lss (S.bd q.mv (fun c2 => ?_) (fun c2 => ?_)))
    · first
    | omega | contradiction
    | refine S.sk (S.sk (S.o q.pt (S.o q.pt (S.end (hK _ ?_))))); clear hK K; refine Ev.ct ?_; refine Ev.sr fun K hK => S.o q.as (S.o q.as (S.end (hK _ ?_))); clear hK K; refine Ev.ret ?_; refine Ev.ret2 ?_; refine ⟨?_, rfl⟩; rfl
    · first
    | omega | contradiction
    | refine S.o (q.lv am_ag3) (S.o q.gtr (S.o q.pf (S.o q.pt (S.end (hK _ ?_))))); clear hK K; refine Ev.cd (fun c3 => ?_) (fun c3 => ?_)
      · first
      | omega | contradiction
      | refine Ev.sr fun K hK => S.o q.as (S.o q.as (S.end (hK _ ?_))); clear hK K; refine Ev.ret ?_; refine Ev.ret2 ?_; refine ⟨?_, rfl⟩; rfl
      · first
      | omega | contradiction
      | refine Ev.skip ?_; show Ev _ _ _ _; refine Ev.sr fun K hK => S.o (q.lv am_ag3) (S.o q.mf (S.c0 (hF := sized2_fun _ _ _ _ _ (fun h => mass1_fun _ _ h (by omega) (by omega))) (h := S.o q.ex (S.o q.ex (S.o q.as (S.o q.as (S.end (hK _ ?_)))))))); clear hK K; refine Ev.ret ?_; refine Ev.ret2 ?_; refine ⟨?_, rfl⟩; rfl
  · first
  | omega | contradiction
  | refine S.sk (S.sk (S.sk (S.sk (S.sk (S.sk (S.o q.pf (S.end (hK _ ?_)))))))); clear hK K; refine Ev.cf ?_; refine Ev.skip ?_; show Ev _ _ _ _; refine Ev.sr fun K hK => S.o (q.lv am_ag3) (S.o q.mf (S.c0 (hF := sized2_fun _ _ _ _ _ (fun h => mass1_fun _ _ h (by omega) (by omega))) (h := S.o q.ex (S.o q.ex (S.o q.as (S.o q.as (S.end (hK _ ?_)))))))); clear hK K; refine Ev.ret ?_; refine Ev.ret2 ?_; refine ⟨?_, rfl⟩; rfl
def bendR (d : Int) : Int := if d ≤ 16 then 5 * d / 2 else 4 * d
def arcLo (d : Int) : Int := 500 * bendR d * 333 / 106
def arcHi (d : Int) : Int := (500 * bendR d * 355 + 113 - 1) / 113
def allLo (d : Int) : Int := 2000 * bendR d - arcHi d
def allHi (d : Int) : Int := 2000 * bendR d - arcLo d
theorem bend_bd {d : Int} (h : d ∈ sizes) : 15 ≤ bendR d ∧ bendR d ≤ 160 ∧ 0 ≤ arcLo d ∧ arcLo d ≤ 300000 ∧ 0 ≤ arcHi d ∧ arcHi d ≤ 300000 ∧ 0 ≤ allLo d ∧ allLo d ≤ 70000 ∧ 0 ≤ allHi d ∧ allHi d ≤ 70000 := by
  simp only [sizes, List.mem_cons, List.not_mem_nil, or_false] at h
  rcases h with h | h | h | h | h | h | h | h | h <;> subst h <;> decide
theorem bend1_fun (d : Int) (h : d ∈ sizes) : Fun Tryz.prog 219 [.sadr [.lit (.int .i64 d)] 0] (Ret (.lit (.int .i64 (bendR d))) []) := by
  obtain ⟨h0, h1⟩ := size_bd h; refine Fun.of (nt := 9) (rs := [.tmp 1]) Tryz.func219 rfl rfl rfl rfl rfl ?_; refine Ev.sr fun K hK => S.o q.as (S.end (hK _ ?_)); clear hK K; refine Ev.seq ?_; refine Ev.sr fun K hK => S.o (q.ls am_ag3) (S.o q.leq (S.end (hK _ ?_))); clear hK K; refine Ev.cd (fun c1 => ?_) (fun c1 => ?_)
  · first
  | omega | contradiction
  | refine Ev.sr fun K hK => S.o (q.ls am_ag3) (S.o q.mul (S.o q.quo (S.o q.as (S.end (hK _ ?_))))); clear hK K; refine Ev.ret ?_; refine Ev.ret1 ?_; refine ⟨?_, rfl⟩
    first | (rw [bendR, if_pos ‹_›]; done) | (rw [bendR, if_neg ‹_›]; done)
  · first
  | omega | contradiction
  | refine Ev.skip ?_; show Ev _ _ _ _; refine Ev.sr fun K hK => S.o (q.ls am_ag3) (S.o q.mul (S.o q.as (S.end (hK _ ?_)))); clear hK K; refine Ev.ret ?_; refine Ev.ret1 ?_; refine ⟨?_, rfl⟩
    first | (rw [bendR, if_pos ‹_›]; done) | (rw [bendR, if_neg ‹_›]; done)
theorem Bend_fun (d : Int) : Fun Tryz.prog 193 [.lit (.int .i64 d)] (Ret (.tup [.lit (.int .i64 (szV d (bendR d))), .lit (.int .i64 (szE d))]) []) := by
  refine Fun.of (nt := 9) (rs := [.tmp 2, .tmp 3]) Tryz.func193 rfl rfl rfl rfl rfl ?_; refine Ev.sr fun K hK => S.nn (q.bx [_] true) (S.o q.as (S.o q.as (S.end (hK _ ?_)))); clear hK K; refine Ev.sr fun K hK => S.o (q.lv am_ag3) (S.o q.mf (S.c0 (hF := sized1_fun _ _ _ _ (bend1_fun _)) (h := S.o q.ex (S.o q.ex (S.o q.as (S.o q.as (S.end (hK _ ?_)))))))); clear hK K; refine Ev.ret ?_; refine Ev.ret2 ?_; refine ⟨?_, rfl⟩; rfl
theorem up_fun (n d : Int) (h0 : 0 ≤ n) (h1 : n ≤ 1000000000000) (h2 : 1 ≤ d) (h3 : d ≤ 1000000) : Fun Tryz.prog 90 [.lit (.int .i64 n), .lit (.int .i64 d)] (Ret (.lit (.int .i64 ((n + d - 1) / d))) []) := by
  refine Fun.of (nt := 11) (rs := [.tmp 4]) Tryz.func90 rfl rfl rfl rfl rfl ?_; refine Ev.sr fun K hK => S.o q.as (S.end (hK _ ?_)); clear hK K; refine Ev.sr fun K hK => S.o q.mv (S.o q.mv (S.o q.add (S.o q.sub (S.o q.mv (S.o q.quo (S.o q.as (S.end (hK _ ?_)))))))); clear hK K; refine Ev.ret ?_; refine Ev.ret1 ?_; refine ⟨?_, rfl⟩; rfl
theorem arc_fun (d : Int) : Fun Tryz.prog 192 [.lit (.int .i64 d)] (Ret (.tup [.agg [.lit (.int .i64 (szV d (arcLo d))), .lit (.int .i64 (szV d (arcHi d)))], .lit (.int .i64 (szE d))]) []) := by
  refine Fun.of (nt := 23) (rs := [.cell 2 138, .tmp 3]) Tryz.func192 rfl rfl rfl rfl rfl ?_; refine Ev.sr fun K hK => S.nn (q.al am_ze138) (S.o q.as (S.end (hK _ ?_))); clear hK K; refine Ev.sr fun K hK => S.o q.mv (S.c0 (hF := Bend_fun _) (h := S.o q.mv (S.o q.ex (S.o q.ex (S.o q.as (S.o q.as (S.end (hK _ ?_)))))))); clear hK K; refine Ev.seq ?_; refine Ev.sr fun K hK => S.o q.mv (S.o q.neq (S.end (hK _ ?_))); clear hK K; refine Ev.cn (fun c1 => ?_) (fun c1 => ?_)
  · first
  | omega | contradiction
  | refine Ev.sr fun K hK => S.o (q.bd [_, _] am_ze138 am_pl138) (S.sv [_, _] true [] am_in138 am_cl138 (h := S.o q.as (S.end (hK _ ?_)))); clear hK K; refine Ev.ret ?_; refine Ev.retv2 (res_c [_, _] am_ag138 am_cl138 (res_t res_n)) ?_; refine ⟨?_, rfl⟩
    first | (rw [szV_out ‹_›, szV_out ‹_›, szE_out ‹_›]; done) | (rw [szV_in hz, szV_in hz, szE_in hz]; rfl) | (rw [szE_in hz]; rfl) | (rw [szE_in hz]; done)
  · first
  | omega | contradiction
  | refine Ev.skip ?_; show Ev _ _ _ _; have hz := szE_zero ‹szE d = 0›; obtain ⟨b1, b2, b3, b4, b5, b6, b7, b8, b9, b10⟩ := bend_bd hz; have e1 := szV_in (v := bendR d) hz; have e2 := szV_in (v := arcLo d) hz; have e3 := szV_in (v := arcHi d) hz; have a1 : arcLo d = 500 * bendR d * 333 / 106 := rfl; have a2 : arcHi d = (500 * bendR d * 355 + 113 - 1) / 113 := rfl; simp only [e1, e2, e3]; refine Ev.sr fun K hK => S.o q.mv (S.o q.mul (S.o q.mul (S.o q.quo (S.o q.mv (S.o q.mul (S.o q.mul (S.c0 (hF := up_fun _ _ (by omega) (by omega) (by omega) (by omega)) (h := S.o (q.bd [_, _] am_ze138 am_pl138) (S.sv [_, _] true [] am_in138 am_cl138 (h := S.o q.as (S.end (hK _ ?_)))))))))))); clear hK K; refine Ev.ret ?_; refine Ev.retv2 (res_c [_, _] am_ag138 am_cl138 (res_t res_n)) ?_; refine ⟨?_, rfl⟩
    first | (rw [szV_out ‹_›, szV_out ‹_›, szE_out ‹_›]; done) | (rw [szV_in hz, szV_in hz, szE_in hz]; rfl) | (rw [szE_in hz]; rfl) | (rw [szE_in hz]; done)
theorem allowance_fun (d : Int) : Fun Tryz.prog 146 [.lit (.int .i64 d)] (Ret (.tup [.agg [.lit (.int .i64 (szV d (allLo d))), .lit (.int .i64 (szV d (allHi d)))], .lit (.int .i64 (szE d))]) []) := by
  refine Fun.of (nt := 35) (rs := [.cell 2 138, .tmp 3]) Tryz.func146 rfl rfl rfl rfl rfl ?_; refine Ev.sr fun K hK => S.nn (q.al am_ze138) (S.o q.as (S.end (hK _ ?_))); clear hK K; refine Ev.sr fun K hK => S.o q.mv (S.c0 (hF := arc_fun _) (h := S.o q.mv (S.o q.ex (S.o q.ex (S.nn (q.al am_ze138) (S.sv [_, _] true [_] am_in138 am_cl138 (h := S.o q.as (S.end (hK _ ?_))))))))); clear hK K; refine Ev.seq ?_; refine Ev.sr fun K hK => S.o q.mv (S.o q.neq (S.end (hK _ ?_))); clear hK K; refine Ev.cn (fun c1 => ?_) (fun c1 => ?_)
  · first
  | omega | contradiction
  | refine Ev.sr fun K hK => S.o (q.bd [_, _] am_ze138 am_pl138) (S.o q.mv (S.sv [_, _] true [_] am_in138 am_cl138 (h := S.o q.as (S.end (hK _ ?_))))); clear hK K; refine Ev.ret ?_; refine Ev.retv2 (res_c [_, _] am_ag138 am_cl138 (res_t res_n)) ?_; refine ⟨?_, rfl⟩
    first | (rw [szV_out ‹_›, szV_out ‹_›, szE_out ‹_›]; done) | (rw [szV_in hz, szV_in hz, szE_in hz]; rfl) | (rw [szE_in hz]; rfl) | (rw [szE_in hz]; done)
  · first
  | omega | contradiction
  | refine Ev.skip ?_; show Ev _ _ _ _; refine Ev.sr fun K hK => S.o q.mv (S.c0 (hF := Bend_fun _) (h := S.o q.mv (S.o q.ex (S.o q.ex (S.o q.as (S.o q.as (S.end (hK _ ?_)))))))); clear hK K; refine Ev.seq ?_; refine Ev.sr fun K hK => S.o q.mv (S.o q.neq (S.end (hK _ ?_))); clear hK K; refine Ev.cn (fun c2 => ?_) (fun c2 => ?_)
    · first
    | omega | contradiction
    | refine Ev.sr fun K hK => S.o (q.bd [_, _] am_ze138 am_pl138) (S.sv [_, _] true [_] am_in138 am_cl138 (h := S.o q.as (S.end (hK _ ?_)))); clear hK K; refine Ev.ret ?_; refine Ev.retv2 (res_c [_, _] am_ag138 am_cl138 (res_t res_n)) ?_; refine ⟨?_, rfl⟩
      first | (rw [szV_out ‹_›, szV_out ‹_›, szE_out ‹_›]; done) | (rw [szV_in hz, szV_in hz, szE_in hz]; rfl) | (rw [szE_in hz]; rfl) | (rw [szE_in hz]; done)
    · first
    | omega | contradiction
    | refine Ev.skip ?_; show Ev _ _ _ _; have hz := szE_zero ‹szE d = 0›; obtain ⟨b1, b2, b3, b4, b5, b6, b7, b8, b9, b10⟩ := bend_bd hz; have e1 := szV_in (v := bendR d) hz; have e2 := szV_in (v := arcLo d) hz; have e3 := szV_in (v := arcHi d) hz; have a1 : arcLo d = 500 * bendR d * 333 / 106 := rfl; have a2 : arcHi d = (500 * bendR d * 355 + 113 - 1) / 113 := rfl; simp only [e1, e2, e3]; refine Ev.sr fun K hK => S.o q.mv (S.o q.mul (S.o (q.fa 1 am_fi138_1 am_cl3) (S.o (q.lv am_ag3) (S.o q.sub (S.o q.mv (S.o q.mul (S.o (q.fa 0 am_fi138_0 am_cl3) (S.o (q.lv am_ag3) (S.o q.sub (S.o (q.bd [_, _] am_ze138 am_pl138) (S.sv [_, _] true [_] am_in138 am_cl138 (h := S.o q.as (S.end (hK _ ?_)))))))))))))); clear hK K; refine Ev.ret ?_; refine Ev.retv2 (res_c [_, _] am_ag138 am_cl138 (res_t res_n)) ?_; refine ⟨?_, rfl⟩
      first | (rw [szV_out ‹_›, szV_out ‹_›, szE_out ‹_›]; done) | (rw [szV_in hz, szV_in hz, szE_in hz]; rfl) | (rw [szE_in hz]; rfl) | (rw [szE_in hz]; done)
def dimAt (b : Bar) (i : Nat) : Int := (b.dims[i]?).getD 0
def legsOf (b : Bar) : List Int := (legsL b.code).map (fun s => dimAt b s.1.toNat)
def okV (b : Bar) (v : Int) : Int := if okBar b then v else 0
def okE (b : Bar) : Int := if okBar b then 0 else 1
def legsV (b : Bar) : List Int := if okBar b then legsOf b else []
theorem okE_zero {b : Bar} (h : okE b = 0) : okBar b := by
  by_cases hd : okBar b
  · exact hd
  · rw [okE, if_neg hd] at h; cases h
theorem okV_in {b : Bar} {v : Int} (h : okBar b) : okV b v = v := if_pos h
theorem okE_in {b : Bar} (h : okBar b) : okE b = 0 := if_pos h
theorem okV_out {b : Bar} {v : Int} (h : ¬ okE b = 0) : okV b v = 0 := if_neg (fun h' => h (okE_in h'))
theorem okE_out {b : Bar} (h : ¬ okE b = 0) : okE b = 1 := if_neg (fun h' => h (okE_in h'))
theorem legsOf_len (b : Bar) : (legsOf b).length ≤ 6 := by
  rw [legsOf, List.length_map]; exact (dims_eq b.code).2.2.2
theorem dim_in {b : Bar} (h : okBar b) {i : Nat} (hi : (i : Int) < dimsN b.code) : b.dims[i]? = some (dimAt b i) ∧ 1 ≤ dimAt b i ∧ dimAt b i ≤ 262144 := by
  have hl := h.2.2.2.2.2.1; have e : b.dims[i]? = some (b.dims[i]'(by omega)) := List.getElem?_eq_getElem _
  have e2 : dimAt b i = b.dims[i]'(by omega) := by rw [dimAt, e]; rfl
  refine ⟨by rw [e, e2], ?_⟩; rw [e2]; exact dims_in h.2.2.2.2.2.2 (List.getElem_mem _)
theorem legs_in {b : Bar} (h : okBar b) : ∀ n ∈ legsOf b, 1 ≤ n ∧ n ≤ 262144 := by
  intro n hn; rw [legsOf, List.mem_map] at hn; obtain ⟨s, hs, rfl⟩ := hn; have := leg_bd b.code s hs; exact (dim_in h (i := s.1.toNat) (by omega)).2
theorem legs_pos {b : Bar} (h : okBar b) : 1 ≤ (legsOf b).length := by
  rw [legsOf, List.length_map]; have h1 := h.2.2.2.2.1
  rcases codes b.code with e | e | e | e | e | e | e | e | e
  iterate 8 (rw [e]; decide)
  exact absurd (legsL_none e).2 h1
theorem legs_fun2 (b : Bar) (hw : b.w) : Fun Tryz.prog 145 [.agg b.c] (Ret (.tup [.sh 1 ((legsV b).map intC), .lit (.int .i64 (okE b))]) []) := by
  obtain ⟨hw1, hw2⟩ := id hw; obtain ⟨d1, d2, d3, d4⟩ := dims_eq b.code; refine Fun.of (nt := 29) (rs := [.tmp 2, .tmp 3]) Tryz.func145 rfl rfl rfl rfl rfl ?_; refine Ev.sr fun K hK => S.nn (q.bx [_, _, _, _, _] true) (S.o q.as (S.o q.as (S.end (hK _ ?_)))); clear hK K; refine Ev.seq ?_; refine Ev.sr fun K hK => S.o (q.lvA [_, _, _, _, _] am_ag72 am_cl72) (S.c0 (hF := valid_fun _ (by assumption)) (h := S.o q.not (S.end (hK _ ?_)))); clear hK K; refine Ev.cn (fun c1 => ?_) (fun c1 => ?_)
  · first
  | omega | contradiction
  | refine Ev.sr fun K hK => S.o q.as (S.o q.as (S.end (hK _ ?_))); clear hK K; refine Ev.weaken (Wk.nsh intC 2 1) ?_; refine Ev.ret ?_; refine Ev.ret2 ?_; refine ⟨?_, rfl⟩
    first
     | (rw [legsV, okE, if_neg ‹_›, if_neg ‹_›]; done)
     | (rw [legsV, okE, if_pos ‹_›, if_pos ‹_›, legsOf, ← hp]; done)
     | (rw [legsV, okE, if_pos ‹_›, if_pos ‹_›, legsOf, ← hp, List.append_nil]; done)
  · first
  | omega | contradiction
  | refine Ev.skip ?_; show Ev _ _ _ _; refine Ev.sr fun K hK => S.o q.as (S.end (hK _ ?_)); clear hK K; refine Ev.seq ?_; refine Ev.sr fun K hK => S.o (q.fa 3 am_fi72_3 am_cl3) (S.o (q.lv am_ag3) (S.c0 (hF := legs_fun _) (h := S.o (q.lens am_el193) (S.o q.mv (S.end (hK _ ?_)))))); clear hK K; refine Ev.block ?_; refine Ev.weaken (Wk.nown intC 4 3 1) ?_; refine Ev.loopU (ι := {p : List (Int × Int) × List (Int × Int) // p.1 ++ p.2 = (legsL b.code) ∧ True}) [0, 1] [1, 2, 3, 12, 13] (fun ⟨(pre, suf), _⟩ => [(14, .lit (.int .i64 ((pre.length : Int)))), (4, .als 1 0 (pre.map (fun s => dimAt b s.1.toNat)).length)]) (fun ⟨(pre, suf), _⟩ => [(0, ⟨false, 72, 5, [[.lit (str (b.mark)), .lit (.int .i64 (b.size)), .lit (.int .i64 (b.count)), .lit (.int .i64 (b.code)), .sh 1 ((b.dims).map intC)]], true⟩), (1, ⟨true, 3, 1, (pre.map (fun s => dimAt b s.1.toNat)).map intC, true⟩)]) (fun ⟨(pre, suf), _⟩ => suf.length) ⟨([], (legsL b.code)), rfl, trivial⟩ (.c (.c (.c (.c (.c .n))))) (keep_c (he := rfl) (h := (keep_c (he := (by first | rfl | (simp; done))) (h := keep_n)))) (slots_c (he := (by first | rfl | (congr 2; simp; done))) (h := (slots_c (he := (by first | rfl | (congr 1; simp; done))) (h := trivial)))) ?_; rintro ⟨⟨pre, suf⟩, hp, hinv⟩ R0 hR0; dsimp only [List.cons_append, List.nil_append, List.length_cons, List.length_nil]
    simp only at hp hinv
    have hpl : pre.length + suf.length = ((legsL b.code)).length := by rw [← hp, List.length_append]
    rcases suf with _ | ⟨s, suf⟩
    · rw [List.append_nil] at hp; simp only [List.length_nil] at hpl; refine Ev.sr fun K hK => S.o q.lss (S.end (hK _ ?_)); clear hK K; refine Ev.ud (fun c2 => ?_) (fun c2 => ?_)
      · first
      | omega | contradiction
      | refine Ev.seq ?_; refine Ev.block ?_; refine Ev.sr fun K hK => S.o (q.ix am_el193 am_cl196 (hl := (by first | exact atig (by omega)))) (S.o (q.lsA [_, _] am_ag196 am_cl196) (S.nn (q.al am_ze196) (S.sv [_, _] true [_, _] am_in196 am_cl196 (h := S.end (hK _ ?_))))); clear hK K; refine Ev.region_S fun K hK => S.o q.mv (S.o (q.fa 4 am_fi72_4 am_cl66) (S.o (q.lv am_ag66) (S.o (q.fa 0 am_fi196_0 am_cl3) (S.o (q.lv am_ag3) (S.o (q.ix am_el66 am_cl3 (hl := (by first | exact atig (by omega)))) (S.o (q.ls am_ag3) (S.nn (q.bs [[_]] true am_el66 am_ze3 am_cl3) (S.ap' [_, _, _] am_el66 am_ze3 am_cl3 am_by3 (hh := head_own') (hr := (rows_lit [_])) (h := S.o q.as (S.end (hK _ ?_))))))))))); clear hK K; show Ev _ _ _ _; refine Ev.region_S fun K hK => S.o q.add (S.o q.mv (S.end (hK _ ?_))); clear hK K; refine hR0 _ _ ?_; refine roundU [0, 4] [1, 2, 3, 12, 13] ⟨(pre ++ [s], suf), by rw [← hp]; simp, ?_⟩ ?_ (keep_c (he := rfl) (h := (keep_c (he := (by first | rfl | (simp; done))) (h := keep_n)))) (slots_c (he := (by first | rfl | (congr 2; simp; done))) (h := (slots_c (he := (by first | rfl | (congr 1; simp; done))) (h := trivial)))) (.c (.c (.c (.c (.c .n))))); trivial; all_goals (dsimp only; simp only [List.length_cons]; omega)
      · first
      | omega | contradiction
      | refine Ev.exit ?_; refine hR0 _ _ ?_; show Ev _ _ _ _; refine Ev.sr fun K hK => S.o q.mv (S.o q.as (S.o q.as (S.end (hK _ ?_)))); clear hK K; refine Ev.weaken (Wk.frz 2 [_]) ?_; refine Ev.ret ?_; refine Ev.ret2 ?_; refine ⟨?_, rfl⟩
        first
         | (rw [legsV, okE, if_neg ‹_›, if_neg ‹_›]; done)
         | (rw [legsV, okE, if_pos ‹_›, if_pos ‹_›, legsOf, ← hp]; done)
         | (rw [legsV, okE, if_pos ‹_›, if_pos ‹_›, legsOf, ← hp, List.append_nil]; done)
    · simp only [List.length_cons] at hpl
      have hidx : (legsL b.code)[pre.length]? = some s := by rw [← hp]; simp
      have hlb := leg_bd b.code s (by rw [← hp]; simp); obtain ⟨hdi, hd1, hd2⟩ := dim_in ‹okBar b› (i := s.1.toNat) (by omega); have hml : (pre.map (fun s : Int × Int => dimAt b s.1.toNat)).length = pre.length := List.length_map _; refine Ev.sr fun K hK => S.o q.lss (S.end (hK _ ?_)); clear hK K; refine Ev.ud (fun c3 => ?_) (fun c3 => ?_)
      · first
      | omega | contradiction
      | refine Ev.seq ?_; refine Ev.block ?_; refine Ev.sr fun K hK => S.o (q.ix am_el193 am_cl196 (hl := (by first | exact ati hidx (by omega) | exact ati hdi (by omega) | exact atig (by omega)))) (S.o (q.lsA [_, _] am_ag196 am_cl196) (S.nn (q.al am_ze196) (S.sv [_, _] true [_, _] am_in196 am_cl196 (h := S.end (hK _ ?_))))); clear hK K; refine Ev.region_S fun K hK => S.o q.mv (S.o (q.fa 4 am_fi72_4 am_cl66) (S.o (q.lv am_ag66) (S.o (q.fa 0 am_fi196_0 am_cl3) (S.o (q.lv am_ag3) (S.o (q.ix am_el66 am_cl3 (hl := (by first | exact ati hidx (by omega) | exact ati hdi (by omega) | exact atig (by omega)))) (S.o (q.ls am_ag3) (S.nn (q.bs [[_]] true am_el66 am_ze3 am_cl3) (S.ap' [_, _, _] am_el66 am_ze3 am_cl3 am_by3 (hh := head_own') (hr := (rows_lit [_])) (h := S.o q.as (S.end (hK _ ?_))))))))))); clear hK K; show Ev _ _ _ _; refine Ev.region_S fun K hK => S.o q.add (S.o q.mv (S.end (hK _ ?_))); clear hK K; refine hR0 _ _ ?_; refine roundU [0, 4] [1, 2, 3, 12, 13] ⟨(pre ++ [s], suf), by rw [← hp]; simp, ?_⟩ ?_ (keep_c (he := rfl) (h := (keep_c (he := (by first | rfl | (simp; done))) (h := keep_n)))) (slots_c (he := (by first | rfl | (congr 2; simp; done))) (h := (slots_c (he := (by first | rfl | (congr 1; simp; done))) (h := trivial)))) (.c (.c (.c (.c (.c .n))))); trivial; all_goals (dsimp only; simp only [List.length_cons]; omega)
      · first
      | omega | contradiction
      | refine Ev.exit ?_; refine hR0 _ _ ?_; show Ev _ _ _ _; refine Ev.sr fun K hK => S.o q.mv (S.o q.as (S.o q.as (S.end (hK _ ?_)))); clear hK K; refine Ev.weaken (Wk.frz 2 [_]) ?_; refine Ev.ret ?_; refine Ev.ret2 ?_; refine ⟨?_, rfl⟩
        first
         | (rw [legsV, okE, if_neg ‹_›, if_neg ‹_›]; done)
         | (rw [legsV, okE, if_pos ‹_›, if_pos ‹_›, legsOf, ← hp]; done)
         | (rw [legsV, okE, if_pos ‹_›, if_pos ‹_›, legsOf, ← hp, List.append_nil]; done)
def devLo (b : Bar) : Int := 1000 * sumI (legsOf b) - ((legsOf b).length - 1) * allHi b.size
def devHi (b : Bar) : Int := 1000 * sumI (legsOf b) - ((legsOf b).length - 1) * allLo b.size
theorem sumI_bd : ∀ (l : List Int), (∀ n ∈ l, 1 ≤ n ∧ n ≤ 262144) → 0 ≤ sumI l ∧ sumI l ≤ 262144 * l.length
  | [], _ => by decide
  | x :: l, h => by
    have := h x (by simp); have := sumI_bd l (fun n hn => h n (by simp [hn])); rw [sumI_cons, List.length_cons]; omega
theorem legs_sum {b : Bar} (h : okBar b) : 0 ≤ sumI (legsOf b) ∧ sumI (legsOf b) ≤ 524288 := by
  refine ⟨(sumI_bd _ (legs_in h)).1, ?_⟩; obtain ⟨_, _, _, _, h1, h2, h3, h4⟩ := h
  have hl : b.dims.length = (dimsN b.code).toNat := by omega
  obtain ⟨mk, sz, cn, cd, ds⟩ := b
  simp only at hl h1 h3 h4
  unfold legsOf dimAt
  simp only
  rcases codes cd with e | e | e | e | e | e | e | e | e
  · subst e
    match ds, hl with
    | [x0], _ =>
      have k0 := h3 x0 (by simp); simp only [sumI, List.foldl_cons, List.foldl_nil] at h4
      simp [sumI, legsL]
      omega
  · subst e
    match ds, hl with
    | [x0, x1], _ =>
      have k0 := h3 x0 (by simp); have k1 := h3 x1 (by simp); simp only [sumI, List.foldl_cons, List.foldl_nil] at h4
      simp [sumI, legsL]
      omega
  · subst e
    match ds, hl with
    | [x0, x1, x2], _ =>
      have k0 := h3 x0 (by simp); have k1 := h3 x1 (by simp); have k2 := h3 x2 (by simp); simp only [sumI, List.foldl_cons, List.foldl_nil] at h4
      simp [sumI, legsL]
      omega
  · subst e
    match ds, hl with
    | [x0, x1, x2], _ =>
      have k0 := h3 x0 (by simp); have k1 := h3 x1 (by simp); have k2 := h3 x2 (by simp); simp only [sumI, List.foldl_cons, List.foldl_nil] at h4
      simp [sumI, legsL]
      omega
  · subst e
    match ds, hl with
    | [x0, x1, x2], _ =>
      have k0 := h3 x0 (by simp); have k1 := h3 x1 (by simp); have k2 := h3 x2 (by simp); simp only [sumI, List.foldl_cons, List.foldl_nil] at h4
      simp [sumI, legsL]
      omega
  · subst e
    match ds, hl with
    | [x0, x1, x2, x3, x4], _ =>
      have k0 := h3 x0 (by simp); have k1 := h3 x1 (by simp); have k2 := h3 x2 (by simp); have k3 := h3 x3 (by simp); have k4 := h3 x4 (by simp); simp only [sumI, List.foldl_cons, List.foldl_nil] at h4
      simp [sumI, legsL]
      omega
  · subst e
    match ds, hl with
    | [x0, x1, x2], _ =>
      have k0 := h3 x0 (by simp); have k1 := h3 x1 (by simp); have k2 := h3 x2 (by simp); simp only [sumI, List.foldl_cons, List.foldl_nil] at h4
      simp [sumI, legsL]
      omega
  · subst e
    match ds, hl with
    | [x0, x1, x2], _ =>
      have k0 := h3 x0 (by simp); have k1 := h3 x1 (by simp); have k2 := h3 x2 (by simp); simp only [sumI, List.foldl_cons, List.foldl_nil] at h4
      simp [sumI, legsL]
      omega
  · exact absurd (legsL_none e).2 h1
theorem dev_bd {b : Bar} (h : okBar b) : 0 ≤ ((legsOf b).length - 1) * allHi b.size ∧ ((legsOf b).length - 1) * allHi b.size ≤ 5 * 70000 ∧ 0 ≤ ((legsOf b).length - 1) * allLo b.size ∧ ((legsOf b).length - 1) * allLo b.size ≤ 5 * 70000 ∧ -350000 ≤ devHi b ∧ devHi b ≤ 524288000 := by
  have h1 := legs_pos h; have h2 := legsOf_len b; obtain ⟨b1, b2, b3, b4, b5, b6, b7, b8, b9, b10⟩ := bend_bd h.2.1; obtain ⟨p1, p2⟩ := mul_bd (k := ((legsOf b).length : Int) - 1) (K := 5) (a := allHi b.size) (A := 70000) (by omega) (by omega) b9 b10; obtain ⟨p3, p4⟩ := mul_bd (k := ((legsOf b).length : Int) - 1) (K := 5) (a := allLo b.size) (A := 70000) (by omega) (by omega) b7 b8; obtain ⟨s1, s2⟩ := legs_sum h; refine ⟨p1, p2, p3, p4, ?_⟩
  unfold devHi
  omega
theorem developed_fun (b : Bar) (hw : b.w) : Fun Tryz.prog 89 [.agg b.c] (Ret (.tup [.agg [.lit (.int .i64 (okV b (devLo b))), .lit (.int .i64 (okV b (devHi b)))], .lit (.int .i64 (okE b))]) []) := by
  have hl := legsOf_len b; refine Fun.of (nt := 57) (rs := [.cell 2 138, .tmp 3]) Tryz.func89 rfl rfl rfl rfl rfl ?_; refine Ev.sr fun K hK => S.nn (q.bx [_, _, _, _, _] true) (S.nn (q.al am_ze138) (S.o q.as (S.end (hK _ ?_)))); clear hK K; refine Ev.sr fun K hK => S.o (q.lvA [_, _, _, _, _] am_ag72 am_cl72) (S.c0 (hF := legs_fun2 _ (by assumption)) (h := S.o q.mv (S.o q.ex (S.o q.ex (S.o q.as (S.o q.as (S.end (hK _ ?_)))))))); clear hK K; refine Ev.seq ?_; refine Ev.sr fun K hK => S.o q.mv (S.o q.neq (S.end (hK _ ?_))); clear hK K; refine Ev.cn (fun c1 => ?_) (fun c1 => ?_)
  · first
  | omega | contradiction
  | refine Ev.sr fun K hK => S.o (q.bd [_, _] am_ze138 am_pl138) (S.o q.mv (S.sv [_, _] true [_] am_in138 am_cl138 (h := S.o q.as (S.end (hK _ ?_))))); clear hK K; refine Ev.ret ?_; refine Ev.retv2 (res_c [_, _] am_ag138 am_cl138 (res_t res_n)) ?_; refine ⟨?_, rfl⟩
    first
     | (rw [okV_out ‹_›, okV_out ‹_›, okE_out ‹_›]; done)
     | (rw [okV_in hok, okV_in hok, okE_in hok]; rfl)
  · first
  | omega | contradiction
  | refine Ev.skip ?_; show Ev _ _ _ _; have hok := okE_zero ‹okE b = 0›; have hlv : legsV b = legsOf b := if_pos hok; have hz := hok.2.1; obtain ⟨b1, b2, b3, b4, b5, b6, b7, b8, b9, b10⟩ := bend_bd hz; have e1 := szV_in (v := allLo b.size) hz; have e2 := szV_in (v := allHi b.size) hz; have e3 := szE_in hz; obtain ⟨p1, p2, p3, p4, p5, p6⟩ := dev_bd hok; obtain ⟨s1, s2⟩ := legs_sum hok; rw [hlv]; refine Ev.sr fun K hK => S.o q.as (S.end (hK _ ?_)); clear hK K; refine Ev.seq ?_; refine Ev.sr fun K hK => S.o q.mv (S.o (q.lens am_el66) (S.o q.mv (S.end (hK _ ?_)))); clear hK K; refine Ev.block ?_
    refine Ev.loopU (ι := {p : List (Int) × List (Int) // p.1 ++ p.2 = (legsOf b) ∧ True}) [0, 1] [1, 2, 3, 4, 5, 20, 21] (fun ⟨(pre, suf), _⟩ => [(22, .lit (.int .i64 ((pre.length : Int)))), (6, .lit (.int .i64 (1000 * sumI pre)))]) (fun ⟨(pre, suf), _⟩ => [(0, ⟨false, 72, 5, [[.lit (str (b.mark)), .lit (.int .i64 (b.size)), .lit (.int .i64 (b.count)), .lit (.int .i64 (b.code)), .sh 1 ((b.dims).map intC)]], true⟩), (1, ⟨false, 138, 2, [[.lit (.int .i64 (0)), .lit (.int .i64 (0))]], true⟩)]) (fun ⟨(pre, suf), _⟩ => suf.length) ⟨([], (legsOf b)), rfl, trivial⟩ (.c (.c (.c (.c (.c (.c (.c .n))))))) (keep_c (he := rfl) (h := (keep_c (he := rfl) (h := keep_n)))) (slots_c (he := (by first | rfl | (congr 2; simp; done))) (h := (slots_c (he := (by first | rfl | (congr 2; rw [sumI_app, show sumI [s] = s by simp [sumI]]; omega))) (h := trivial)))) ?_; rintro ⟨⟨pre, suf⟩, hp, hinv⟩ R0 hR0; dsimp only [List.cons_append, List.nil_append, List.length_cons, List.length_nil]
    simp only at hp hinv
    have hpl : pre.length + suf.length = ((legsOf b)).length := by rw [← hp, List.length_append]
    rcases suf with _ | ⟨s, suf⟩
    · rw [List.append_nil] at hp; simp only [List.length_nil] at hpl; refine Ev.sr fun K hK => S.o q.lss (S.end (hK _ ?_)); clear hK K; refine Ev.ud (fun c2 => ?_) (fun c2 => ?_)
      · first
      | omega | contradiction
      | refine Ev.seq ?_; refine Ev.block ?_; refine Ev.sr fun K hK => S.o (q.ix am_el66 am_cl3 (hl := (by first | exact atig (by omega)))) (S.o (q.ls am_ag3) (S.o q.as (S.end (hK _ ?_)))); clear hK K; refine Ev.region_S fun K hK => S.o q.mv (S.o q.mv (S.o q.mul (S.o q.add (S.o q.as (S.end (hK _ ?_)))))); clear hK K; show Ev _ _ _ _; refine Ev.region_S fun K hK => S.o q.add (S.o q.mv (S.end (hK _ ?_))); clear hK K; refine hR0 _ _ ?_; refine roundU [0, 1] [1, 2, 3, 4, 5, 20, 21] ⟨(pre ++ [s], suf), by rw [← hp]; simp, ?_⟩ ?_ (keep_c (he := rfl) (h := (keep_c (he := rfl) (h := keep_n)))) (slots_c (he := (by first | rfl | (congr 2; simp; done))) (h := (slots_c (he := (by first | rfl | (congr 2; rw [sumI_app, show sumI [s] = s by simp [sumI]]; omega))) (h := trivial)))) (.c (.c (.c (.c (.c (.c (.c .n))))))); trivial; all_goals (dsimp only; simp only [List.length_cons]; omega)
      · first
      | omega | contradiction
      | refine Ev.exit ?_; refine hR0 _ _ ?_; show Ev _ _ _ _; refine Ev.sr fun K hK => S.o (q.fa 1 am_fi72_1 am_cl3) (S.o (q.lv am_ag3) (S.c0 (hF := allowance_fun _) (h := S.o q.mv (S.o q.ex (S.o q.ex (S.nn (q.al am_ze138) (S.sv [_, _] true [_, _] am_in138 am_cl138 (h := S.o q.as (S.end (hK _ ?_)))))))))); clear hK K; refine Ev.seq ?_; rw [e3]; refine Ev.sr fun K hK => S.o q.mv (S.o q.neq (S.end (hK _ ?_))); clear hK K; refine Ev.cn (fun c3 => ?_) (fun c3 => ?_)
        · first
        | omega | contradiction
        | refine Ev.sr fun K hK => S.o (q.bd [_, _] am_ze138 am_pl138) (S.o q.mv (S.sv [_, _] true [_, _] am_in138 am_cl138 (h := S.o q.as (S.end (hK _ ?_))))); clear hK K; refine Ev.ret ?_; refine Ev.retv2 (res_c [_, _] am_ag138 am_cl138 (res_t res_n)) ?_; refine ⟨?_, rfl⟩
          first
           | (rw [okV_out ‹_›, okV_out ‹_›, okE_out ‹_›]; done)
           | (rw [okV_in hok, okV_in hok, okE_in hok]; rfl)
        · first
        | omega | contradiction
        | refine Ev.skip ?_; show Ev _ _ _ _; simp only [e1, e2]; rw [hp]; refine Ev.sr fun K hK => S.o q.mv (S.o (q.lens am_el66) (S.o q.sub (S.o q.as (S.end (hK _ ?_))))); clear hK K; refine Ev.sr fun K hK => S.o q.mv (S.o q.mv (S.o (q.fa 1 am_fi138_1 am_cl3) (S.o (q.lv am_ag3) (S.o q.mul (S.o q.sub (S.o q.mv (S.o q.mv (S.o (q.fa 0 am_fi138_0 am_cl3) (S.o (q.lv am_ag3) (S.o q.mul (S.o q.sub (S.o (q.bd [_, _] am_ze138 am_pl138) (S.sv [_, _] true [_, _] am_in138 am_cl138 (h := S.o q.as (S.end (hK _ ?_)))))))))))))))); clear hK K; refine Ev.ret ?_; refine Ev.retv2 (res_c [_, _] am_ag138 am_cl138 (res_t res_n)) ?_; refine ⟨?_, rfl⟩
          first
           | (rw [okV_out ‹_›, okV_out ‹_›, okE_out ‹_›]; done)
           | (rw [okV_in hok, okV_in hok, okE_in hok]; rfl)
    · simp only [List.length_cons] at hpl
      have hidx : (legsOf b)[pre.length]? = some s := by rw [← hp]; simp
      have hsb := legs_in hok s (by rw [← hp]; simp); obtain ⟨hs1, hs2⟩ := sumI_bd pre (fun n hn => legs_in hok n (by rw [← hp]; simp [hn])); refine Ev.sr fun K hK => S.o q.lss (S.end (hK _ ?_)); clear hK K; refine Ev.ud (fun c4 => ?_) (fun c4 => ?_)
      · first
      | omega | contradiction
      | refine Ev.seq ?_; refine Ev.block ?_; refine Ev.sr fun K hK => S.o (q.ix am_el66 am_cl3 (hl := (by first | exact ati hidx (by omega) | exact atig (by omega)))) (S.o (q.ls am_ag3) (S.o q.as (S.end (hK _ ?_)))); clear hK K; refine Ev.region_S fun K hK => S.o q.mv (S.o q.mv (S.o q.mul (S.o q.add (S.o q.as (S.end (hK _ ?_)))))); clear hK K; show Ev _ _ _ _; refine Ev.region_S fun K hK => S.o q.add (S.o q.mv (S.end (hK _ ?_))); clear hK K; refine hR0 _ _ ?_; refine roundU [0, 1] [1, 2, 3, 4, 5, 20, 21] ⟨(pre ++ [s], suf), by rw [← hp]; simp, ?_⟩ ?_ (keep_c (he := rfl) (h := (keep_c (he := rfl) (h := keep_n)))) (slots_c (he := (by first | rfl | (congr 2; simp; done))) (h := (slots_c (he := (by first | rfl | (congr 2; rw [sumI_app, show sumI [s] = s by simp [sumI]]; omega))) (h := trivial)))) (.c (.c (.c (.c (.c (.c (.c .n))))))); trivial; all_goals (dsimp only; simp only [List.length_cons]; omega)
      · first
      | omega | contradiction
      | refine Ev.exit ?_; refine hR0 _ _ ?_; show Ev _ _ _ _; refine Ev.sr fun K hK => S.o (q.fa 1 am_fi72_1 am_cl3) (S.o (q.lv am_ag3) (S.c0 (hF := allowance_fun _) (h := S.o q.mv (S.o q.ex (S.o q.ex (S.nn (q.al am_ze138) (S.sv [_, _] true [_, _] am_in138 am_cl138 (h := S.o q.as (S.end (hK _ ?_)))))))))); clear hK K; refine Ev.seq ?_; rw [e3]; refine Ev.sr fun K hK => S.o q.mv (S.o q.neq (S.end (hK _ ?_))); clear hK K; refine Ev.cn (fun c5 => ?_) (fun c5 => ?_)
        · first
        | omega | contradiction
        | refine Ev.sr fun K hK => S.o (q.bd [_, _] am_ze138 am_pl138) (S.o q.mv (S.sv [_, _] true [_, _] am_in138 am_cl138 (h := S.o q.as (S.end (hK _ ?_))))); clear hK K; refine Ev.ret ?_; refine Ev.retv2 (res_c [_, _] am_ag138 am_cl138 (res_t res_n)) ?_; refine ⟨?_, rfl⟩
          first
           | (rw [okV_out ‹_›, okV_out ‹_›, okE_out ‹_›]; done)
           | (rw [okV_in hok, okV_in hok, okE_in hok]; rfl)
        · first
        | omega | contradiction
        | refine Ev.skip ?_; show Ev _ _ _ _; simp only [e1, e2]; rw [hp]; refine Ev.sr fun K hK => S.o q.mv (S.o (q.lens am_el66) (S.o q.sub (S.o q.as (S.end (hK _ ?_))))); clear hK K; refine Ev.sr fun K hK => S.o q.mv (S.o q.mv (S.o (q.fa 1 am_fi138_1 am_cl3) (S.o (q.lv am_ag3) (S.o q.mul (S.o q.sub (S.o q.mv (S.o q.mv (S.o (q.fa 0 am_fi138_0 am_cl3) (S.o (q.lv am_ag3) (S.o q.mul (S.o q.sub (S.o (q.bd [_, _] am_ze138 am_pl138) (S.sv [_, _] true [_, _] am_in138 am_cl138 (h := S.o q.as (S.end (hK _ ?_)))))))))))))))); clear hK K; refine Ev.ret ?_; refine Ev.retv2 (res_c [_, _] am_ag138 am_cl138 (res_t res_n)) ?_; refine ⟨?_, rfl⟩
          first
           | (rw [okV_out ‹_›, okV_out ‹_›, okE_out ‹_›]; done)
           | (rw [okV_in hok, okV_in hok, okE_in hok]; rfl)
def cutOf (b : Bar) : Int := max 5 (5 * ((max 0 (devHi b) + 5000 - 1) / 5000))
theorem cutOf_bd {b : Bar} (h : okBar b) : 5 ≤ cutOf b ∧ cutOf b ≤ 1048576 := by
  obtain ⟨_, _, _, _, h1, h2⟩ := dev_bd h
  unfold cutOf
  omega
theorem cut_fun (b : Bar) (hw : b.w) : Fun Tryz.prog 52 [.agg b.c] (Ret (.tup [.lit (.int .i64 (okV b (cutOf b))), .lit (.int .i64 (okE b))]) []) := by
  refine Fun.of (nt := 20) (rs := [.tmp 2, .tmp 3]) Tryz.func52 rfl rfl rfl rfl rfl ?_; refine Ev.sr fun K hK => S.nn (q.bx [_, _, _, _, _] true) (S.o q.as (S.o q.as (S.end (hK _ ?_)))); clear hK K; refine Ev.sr fun K hK => S.o (q.lvA [_, _, _, _, _] am_ag72 am_cl72) (S.c0 (hF := developed_fun _ (by assumption)) (h := S.o q.mv (S.o q.ex (S.o q.ex (S.nn (q.al am_ze138) (S.sv [_, _] true [_] am_in138 am_cl138 (h := S.o q.as (S.end (hK _ ?_))))))))); clear hK K; refine Ev.seq ?_; refine Ev.sr fun K hK => S.o q.mv (S.o q.neq (S.end (hK _ ?_))); clear hK K; refine Ev.cn (fun c1 => ?_) (fun c1 => ?_)
  · first
  | omega | contradiction
  | refine Ev.sr fun K hK => S.o q.mv (S.o q.as (S.o q.as (S.end (hK _ ?_)))); clear hK K; refine Ev.ret ?_; refine Ev.ret2 ?_; refine ⟨?_, rfl⟩
    first
     | (rw [okV_out ‹_›, okE_out ‹_›]; done)
     | (rw [okV_in hok, okE_in hok]; rfl)
  · first
  | omega | contradiction
  | refine Ev.skip ?_; show Ev _ _ _ _; have hok := okE_zero ‹okE b = 0›; obtain ⟨_, _, _, _, h1, h2⟩ := dev_bd hok; rw [okV_in hok, okV_in hok]; refine Ev.sr fun K hK => S.o (q.fa 1 am_fi138_1 am_cl3) (S.o (q.lv am_ag3) (S.o q.max (S.c0 (hF := up_fun _ _ (by omega) (by omega) (by omega) (by omega)) (h := S.o q.mul (S.o q.max (S.o q.as (S.o q.as (S.end (hK _ ?_))))))))); clear hK K; refine Ev.ret ?_; refine Ev.ret2 ?_; refine ⟨?_, rfl⟩
    first
     | (rw [okV_out ‹_›, okE_out ‹_›]; done)
     | (rw [okV_in hok, okE_in hok]; rfl)
def oneOf (b : Bar) : Int := massOf b.size (cutOf b)
def barMass (b : Bar) : Int := b.count * oneOf b
theorem barMass_bd {b : Bar} (h : okBar b) : 0 ≤ oneOf b ∧ oneOf b ≤ 10343154 ∧ 0 ≤ barMass b ∧ barMass b ≤ 1000 * 10343154 := by
  obtain ⟨h1, h2⟩ := cutOf_bd h; obtain ⟨h3, h4⟩ := massOf_bd h.2.1 (by omega : 0 ≤ cutOf b) h2; have h5 := h.2.2.1; have h6 := h.2.2.2.1; exact ⟨h3, h4, mul_bd (by omega) h6 h3 h4⟩
theorem barMass_fun (b : Bar) (hw : b.w) : Fun Tryz.prog 48 [.agg b.c] (Ret (.tup [.lit (.int .i64 (okV b (barMass b))), .lit (.int .i64 (okE b))]) []) := by
  refine Fun.of (nt := 29) (rs := [.tmp 2, .tmp 3]) Tryz.func48 rfl rfl rfl rfl rfl ?_; refine Ev.sr fun K hK => S.nn (q.bx [_, _, _, _, _] true) (S.o q.as (S.o q.as (S.end (hK _ ?_)))); clear hK K; refine Ev.sr fun K hK => S.o (q.lvA [_, _, _, _, _] am_ag72 am_cl72) (S.c0 (hF := cut_fun _ (by assumption)) (h := S.o q.mv (S.o q.ex (S.o q.ex (S.o q.as (S.o q.as (S.end (hK _ ?_)))))))); clear hK K; refine Ev.seq ?_; refine Ev.sr fun K hK => S.o q.mv (S.o q.neq (S.end (hK _ ?_))); clear hK K; refine Ev.cn (fun c1 => ?_) (fun c1 => ?_)
  · first
  | omega | contradiction
  | refine Ev.sr fun K hK => S.o q.mv (S.o q.as (S.o q.as (S.end (hK _ ?_)))); clear hK K; refine Ev.ret ?_; refine Ev.ret2 ?_; refine ⟨?_, rfl⟩
    first
     | (rw [okV_out ‹_›, okE_out ‹_›]; done)
     | (rw [okV_in hok, okE_in hok]; rfl)
  · first
  | omega | contradiction
  | refine Ev.skip ?_; show Ev _ _ _ _; have hok := okE_zero ‹okE b = 0›; obtain ⟨h1, h2⟩ := cutOf_bd hok; obtain ⟨h3, h4, h5, h6⟩ := barMass_bd hok; have e1 : szV b.size (massOf b.size (cutOf b)) = oneOf b := szV_in hok.2.1; have e2 := szE_in hok.2.1; rw [okV_in (v := cutOf b) hok]; refine Ev.sr fun K hK => S.o (q.fa 1 am_fi72_1 am_cl3) (S.o (q.lv am_ag3) (S.o q.mv (S.c0 (hF := Mass_fun _ _ (by omega) (by omega)) (h := S.o q.mv (S.o q.ex (S.o q.ex (S.o q.as (S.o q.as (S.end (hK _ ?_)))))))))); clear hK K; refine Ev.seq ?_; rw [e2]; refine Ev.sr fun K hK => S.o q.mv (S.o q.neq (S.end (hK _ ?_))); clear hK K; refine Ev.cn (fun c2 => ?_) (fun c2 => ?_)
    · first
    | omega | contradiction
    | refine Ev.sr fun K hK => S.o q.mv (S.o q.as (S.o q.as (S.end (hK _ ?_)))); clear hK K; refine Ev.ret ?_; refine Ev.ret2 ?_; refine ⟨?_, rfl⟩
      first
       | (rw [okV_out ‹_›, okE_out ‹_›]; done)
       | (rw [okV_in hok, okE_in hok]; rfl)
    · first
    | omega | contradiction
    | refine Ev.skip ?_; show Ev _ _ _ _; rw [e1]; refine Ev.sr fun K hK => S.o (q.fa 2 am_fi72_2 am_cl3) (S.o (q.lv am_ag3) (S.o q.mv (S.o (q.mul (h1 := by unfold barMass at h5; omega) (h2 := by unfold barMass at h6; omega)) (S.o q.as (S.o q.as (S.end (hK _ ?_))))))); clear hK K; refine Ev.ret ?_; refine Ev.ret2 ?_; refine ⟨?_, rfl⟩
      first
       | (rw [okV_out ‹_›, okE_out ‹_›]; done)
       | (rw [okV_in hok, okE_in hok]; rfl)
end Go.Proofs.YtkbpignlggahaaaGreatDoor
namespace Go.Proofs.YtkbpignlggahaaaGreatDoor
open Go Go.AM
set_option linter.unusedSimpArgs false
set_option linter.unusedVariables false
set_option maxRecDepth 100000
def pntC : Int × Int × Int → List AV
  | (a, b, c) => [.lit (.int .i64 a), .lit (.int .i64 b), .lit (.int .i64 c)]
def movesOf (b : Bar) : List (Int × Int × Int) :=
  if b.code = 11 then [(dimAt b 0, 0, 0), (0, dimAt b 1, 0)]
  else if b.code = 21 then [(0, 0 - dimAt b 0, 0), (dimAt b 1, 0, 0), (0, dimAt b 2, 0)]
  else if b.code = 26 then [(dimAt b 0, 0, 0), (0, dimAt b 1, 0), (dimAt b 2, 0, 0)]
  else if b.code = 31 then [(dimAt b 0, 0, 0), (0, dimAt b 1, 0), (0, 0, dimAt b 2)]
  else if b.code = 41 then [(dimAt b 0, 0, 0), (0, dimAt b 1, 0), (dimAt b 2, 0, 0), (0, 0 - dimAt b 3, 0), (dimAt b 4, 0, 0)]
  else if b.code = 51 then [(0, 0 - dimAt b 2, 0), (dimAt b 0, 0, 0), (0, dimAt b 1, 0), (0 - dimAt b 0, 0, 0), (0, 0 - dimAt b 1, 0), (dimAt b 2, 0, 0)]
  else if b.code = 98 then [(0, 0, dimAt b 0), (0, 0 - dimAt b 1, 0), (dimAt b 2, 0, 0), (0, dimAt b 1, 0), (0, 0, dimAt b 0)]
  else [(dimAt b 0, 0, 0)]
def absI (n : Int) : Int := max n (0 - n)
def legAbs (s : Int × Int × Int) : Int := absI s.1 + absI s.2.1 + absI s.2.2
end Go.Proofs.YtkbpignlggahaaaGreatDoor
namespace Go.Proofs.YtkbpignlggahaaaGreatDoor
open Go Go.AM
set_option linter.unusedSimpArgs false
set_option linter.unusedVariables false
set_option maxRecDepth 100000
def ofSum (l : List Bar) (d : Int) : Int := l.foldl (fun a b => if b.size = d then a + barMass b else a) 0
theorem ofSum_snoc (l : List Bar) (s : Bar) (d : Int) : ofSum (l ++ [s]) d = if s.size = d then ofSum l d + barMass s else ofSum l d := by simp [ofSum]
def sumsAt (l : List Bar) : List Int := sizes.map (ofSum l)
def totM (l : List Bar) : Int := l.foldl (fun a b => a + barMass b) 0
theorem totM_snoc (l : List Bar) (s : Bar) : totM (l ++ [s]) = totM l + barMass s := by simp [totM]
theorem sumsAt_snoc (l : List Bar) (s : Bar) (h : s.size ∈ sizes) : 0 ≤ idxI sizes s.size ∧ idxI sizes s.size < 9 ∧ (sumsAt l)[(idxI sizes s.size).toNat]? = some (ofSum l s.size) ∧
    (sumsAt l).set (idxI sizes s.size).toNat (ofSum l s.size + barMass s) = sumsAt (l ++ [s]) ∧ sumI (sumsAt (l ++ [s])) = sumI (sumsAt l) + barMass s := by
  have e : ∀ d, ofSum (l ++ [s]) d = if s.size = d then ofSum l d + barMass s else ofSum l d := ofSum_snoc l s; have h' := h; simp only [sizes, List.mem_cons, List.not_mem_nil, or_false] at h'
  rcases h' with h' | h' | h' | h' | h' | h' | h' | h' | h' <;> rw [h'] at e ⊢ <;> refine ⟨by decide, by decide, rfl, ?_, ?_⟩ <;>
    simp only [sumsAt, sizes, List.map_cons, List.map_nil, e] <;> simp [idxI, idxP, sumI] <;> omega
theorem ofSum_bd : ∀ (l : List Bar), (∀ b ∈ l, okBar b) → ∀ d, 0 ≤ ofSum l d ∧ ofSum l d ≤ 10343154000 * l.length := by
  refine snoc_ind (fun _ d => ⟨Int.le_refl _, by simp [ofSum]⟩) ?_; intro l s ih h d; obtain ⟨i1, i2⟩ := ih (fun b hb => h b (by simp [hb])) d; obtain ⟨_, _, h3, h4⟩ := barMass_bd (h s (by simp)); rw [ofSum_snoc, List.length_append, List.length_singleton]
  split <;> omega
theorem totM_bd : ∀ (l : List Bar), (∀ b ∈ l, okBar b) → (0 ≤ totM l ∧ totM l ≤ 10343154000 * l.length) ∧ sumI (sumsAt l) = totM l := by
  refine snoc_ind (fun _ => by decide) ?_; intro l s ih h; obtain ⟨⟨i1, i2⟩, i3⟩ := ih (fun b hb => h b (by simp [hb])); obtain ⟨_, _, h3, h4⟩ := barMass_bd (h s (by simp)); have := (sumsAt_snoc l s (h s (by simp)).2.1).2.2.2.2; rw [totM_snoc, List.length_append, List.length_singleton]; refine ⟨by omega, by omega⟩
theorem sums_len (l : List Bar) : (sumsAt l).length = 9 := by simp [sumsAt, sizes]
theorem sums_zero : sumsAt [] = List.replicate sizes.length 0 := by decide
theorem masses_fun (l : List Bar) (hw : schedW l) (hok : okSched l) : Fun Tryz.prog 24 [.sh 5 (l.map Bar.c)] (Ret (.sh 1 ((sumsAt l).map intC)) []) := by
  have hl := hok.1; have hs9 : sizes.length = 9 := rfl; refine Fun.of (nt := 36) (rs := [.tmp 2]) Tryz.func24 rfl rfl rfl rfl rfl ?_; refine Ev.sr fun K hK => S.o q.as (S.end (hK _ ?_)); clear hK K; refine Ev.sr fun K hK => S.c0 (hF := sizes_fun) (h := S.o q.as (S.end (hK _ ?_))); clear hK K; refine Ev.sr fun K hK => S.o q.mv (S.o (q.lens am_el66) (S.mkf (f := intC) (0) am_el66 am_ze3 am_cl3 am_by3 (h := S.o q.as (S.end (hK _ ?_))))); clear hK K; refine Ev.seq ?_; refine Ev.sr fun K hK => S.o q.mv (S.o (q.lens am_el27) (S.o q.mv (S.end (hK _ ?_)))); clear hK K; refine Ev.block ?_; refine Ev.loopU (ι := {p : List (Bar) × List (Bar) // p.1 ++ p.2 = l ∧ True}) [0] [2, 3, 13, 14] (fun ⟨(pre, suf), _⟩ => [(15, .lit (.int .i64 ((pre.length : Int)))), (4, .als 0 0 (sumsAt pre).length)]) (fun ⟨(pre, suf), _⟩ => [(0, ⟨true, 3, 1, (sumsAt pre).map intC, true⟩)]) (fun ⟨(pre, suf), _⟩ => suf.length) ⟨([], l), rfl, trivial⟩ (.c (.c (.c (.c .n)))) (keep_c (he := (by first | rfl | (rw [sums_zero]; done) | exact congrArg _ i4 | (rw [i4]; done))) (h := keep_n)) (slots_c (he := (by first | rfl | (congr 2; simp; done))) (h := (slots_c (he := (by first | rfl | (congr 1; rw [List.length_set, sums_len, sums_len]; done) | (congr 1; simp [sums_len]; done))) (h := trivial)))) ?_; rintro ⟨⟨pre, suf⟩, hp, hinv⟩ R0 hR0; dsimp only [List.cons_append, List.nil_append, List.length_cons, List.length_nil]
  simp only at hp hinv
  have hpl : pre.length + suf.length = (l).length := by rw [← hp, List.length_append]
  rcases suf with _ | ⟨s, suf⟩
  · rw [List.append_nil] at hp; simp only [List.length_nil] at hpl; refine Ev.sr fun K hK => S.o q.lss (S.end (hK _ ?_)); clear hK K; refine Ev.ud (fun c1 => ?_) (fun c1 => ?_)
    · first
    | omega | contradiction
    | refine Ev.seq ?_; refine Ev.block ?_; refine Ev.sr fun K hK => S.o (q.ix am_el27 am_cl72 (hl := (by first | exact atig (by omega)))) (S.o (q.lsA [_, _, _, _, _] am_ag72 am_cl72) (S.nn (q.al am_ze72) (S.sv [_, _, _, _, _] true [_] am_in72 am_cl72 (h := S.end (hK _ ?_))))); clear hK K; refine Ev.sr fun K hK => S.o (q.lvA [_, _, _, _, _] am_ag72 am_cl72) (S.c0 (hF := barMass_fun _ (by assumption)) (h := S.o q.mv (S.o q.ex (S.o q.ex (S.o q.as (S.o q.as (S.end (hK _ ?_)))))))); clear hK K; obtain ⟨m1, m2, m3, m4⟩ := barMass_bd hsok; have e1 : okV s (barMass s) = barMass s := okV_in hsok; obtain ⟨i1, i2, i3, i4, i5⟩ := sumsAt_snoc pre s hsok.2.1; obtain ⟨o1, o2⟩ := ofSum_bd pre (fun b hb => hok.2.1 b (by rw [← hp]; simp [hb])) s.size; have hsl := sums_len pre; rw [e1]; refine Ev.region_S fun K hK => S.o q.mv (S.o q.mv (S.o (q.fa 1 am_fi72_1 am_cl3) (S.o (q.lv am_ag3) (S.c0 (hF := index_fun _ _ (by omega)) (h := S.o (q.ia am_el66 am_cl3) (S.o (q.lx am_ag3 (hl := (by first | exact at_g (by omega)))) (S.o q.mv (S.o q.add (S.o (q.ia am_el66 am_cl3) (S.sx _ [_] am_in3 am_cl3 (hl := (by first | exact at_g (by omega))) (h := S.end (hK _ ?_)))))))))))); clear hK K; show Ev _ _ _ _; refine Ev.region_S fun K hK => S.o q.add (S.o q.mv (S.end (hK _ ?_))); clear hK K; refine hR0 _ _ ?_
      refine roundU [0] [2, 3, 13, 14] ⟨(pre ++ [s], suf), by rw [← hp]; simp, ?_⟩ ?_ (keep_c (he := (by first | rfl | (rw [sums_zero]; done) | exact congrArg _ i4 | (rw [i4]; done))) (h := keep_n)) (slots_c (he := (by first | rfl | (congr 2; simp; done))) (h := (slots_c (he := (by first | rfl | (congr 1; rw [List.length_set, sums_len, sums_len]; done) | (congr 1; simp [sums_len]; done))) (h := trivial)))) (.c (.c (.c (.c .n)))); trivial; all_goals (dsimp only; simp only [List.length_cons]; omega)
    · first
    | omega | contradiction
    | refine Ev.exit ?_; refine hR0 _ _ ?_; show Ev _ _ _ _; refine Ev.sr fun K hK => S.o q.mv (S.o q.as (S.end (hK _ ?_))); clear hK K; refine Ev.weaken (Wk.frz 2 []) ?_; refine Ev.ret ?_; refine Ev.ret1 ?_; refine ⟨?_, rfl⟩
      first | (rw [← hp, List.append_nil]; done) | (rw [← hp]; done) | rfl
  · simp only [List.length_cons] at hpl
    have hidx : l[pre.length]? = some s := by rw [← hp]; simp
    have hsw : s.w := hw s (by rw [← hp]; simp); have hsok : okBar s := hok.2.1 s (by rw [← hp]; simp); refine Ev.sr fun K hK => S.o q.lss (S.end (hK _ ?_)); clear hK K; refine Ev.ud (fun c2 => ?_) (fun c2 => ?_)
    · first
    | omega | contradiction
    | refine Ev.seq ?_; refine Ev.block ?_; refine Ev.sr fun K hK => S.o (q.ix am_el27 am_cl72 (hl := (by first | exact ati hidx (by omega) | exact ati i3 (by omega) | exact atig (by omega)))) (S.o (q.lsA [_, _, _, _, _] am_ag72 am_cl72) (S.nn (q.al am_ze72) (S.sv [_, _, _, _, _] true [_] am_in72 am_cl72 (h := S.end (hK _ ?_))))); clear hK K; refine Ev.sr fun K hK => S.o (q.lvA [_, _, _, _, _] am_ag72 am_cl72) (S.c0 (hF := barMass_fun _ (by assumption)) (h := S.o q.mv (S.o q.ex (S.o q.ex (S.o q.as (S.o q.as (S.end (hK _ ?_)))))))); clear hK K; obtain ⟨m1, m2, m3, m4⟩ := barMass_bd hsok; have e1 : okV s (barMass s) = barMass s := okV_in hsok; obtain ⟨i1, i2, i3, i4, i5⟩ := sumsAt_snoc pre s hsok.2.1; obtain ⟨o1, o2⟩ := ofSum_bd pre (fun b hb => hok.2.1 b (by rw [← hp]; simp [hb])) s.size; have hsl := sums_len pre; rw [e1]; refine Ev.region_S fun K hK => S.o q.mv (S.o q.mv (S.o (q.fa 1 am_fi72_1 am_cl3) (S.o (q.lv am_ag3) (S.c0 (hF := index_fun _ _ (by omega)) (h := S.o (q.ia am_el66 am_cl3) (S.o (q.lx am_ag3 (hl := (by first | exact at_ hidx (by omega) | exact at_ i3 (by omega) | exact at_g (by omega)))) (S.o q.mv (S.o q.add (S.o (q.ia am_el66 am_cl3) (S.sx _ [_] am_in3 am_cl3 (hl := (by first | exact at_ hidx (by omega) | exact at_ i3 (by omega) | exact at_g (by omega))) (h := S.end (hK _ ?_)))))))))))); clear hK K; show Ev _ _ _ _
      refine Ev.region_S fun K hK => S.o q.add (S.o q.mv (S.end (hK _ ?_))); clear hK K; refine hR0 _ _ ?_; refine roundU [0] [2, 3, 13, 14] ⟨(pre ++ [s], suf), by rw [← hp]; simp, ?_⟩ ?_ (keep_c (he := (by first | rfl | (rw [sums_zero]; done) | exact congrArg _ i4 | (rw [i4]; done))) (h := keep_n)) (slots_c (he := (by first | rfl | (congr 2; simp; done))) (h := (slots_c (he := (by first | rfl | (congr 1; rw [List.length_set, sums_len, sums_len]; done) | (congr 1; simp [sums_len]; done))) (h := trivial)))) (.c (.c (.c (.c .n)))); trivial; all_goals (dsimp only; simp only [List.length_cons]; omega)
    · first
    | omega | contradiction
    | refine Ev.exit ?_; refine hR0 _ _ ?_; show Ev _ _ _ _; refine Ev.sr fun K hK => S.o q.mv (S.o q.as (S.end (hK _ ?_))); clear hK K; refine Ev.weaken (Wk.frz 2 []) ?_; refine Ev.ret ?_; refine Ev.ret1 ?_; refine ⟨?_, rfl⟩
      first | (rw [← hp, List.append_nil]; done) | (rw [← hp]; done) | rfl
def massesP (l : List Bar) (q : List Int) : List (Int × Int) := (q.filter (fun d => decide (∃ b ∈ l, decide (b.size = d) = true))).map (fun d => (d, ofSum l d))
theorem massesP_snoc (l : List Bar) (q : List Int) (d : Int) : massesP l (q ++ [d]) = if ∃ b ∈ l, decide (b.size = d) = true then massesP l q ++ [(d, ofSum l d)] else massesP l q := by
  unfold massesP
  rw [List.filter_append, List.map_append]
  split
  · rename_i h
    have e : [d].filter (fun d => decide (∃ b ∈ l, decide (b.size = d) = true)) = [d] := by rw [List.filter_cons, if_pos (decide_eq_true h)]; rfl
    rw [e]; rfl
  · rename_i h
    rw [List.filter_cons_of_neg (by simpa using h)]; simp
theorem massesP_len (l : List Bar) (q : List Int) : (massesP l q).length ≤ q.length := by
  rw [massesP, List.length_map]; exact List.length_filter_le _ _
def massesV (l : List Bar) : List (Int × Int) := if okSched l then massesP l sizes else []
def schedE (l : List Bar) : Int := if okSched l then 0 else 1
def totV (l : List Bar) : Int := if okSched l then totM l else 0
theorem size_is_fun (d : Int) (b : Bar) : Fun Tryz.prog 45 [.agg b.c, .sadr [.lit (.int .i64 d)] 0] (Ret (.lit (.bool (decide (b.size = d)))) []) := by
  refine Fun.of (nt := 8) (rs := [.tmp 3]) Tryz.func45 rfl rfl rfl rfl rfl ?_; refine Ev.sr fun K hK => S.nn (q.bx [_, _, _, _, _] true) (S.o q.as (S.end (hK _ ?_))); clear hK K; refine Ev.sr fun K hK => S.o (q.fa 1 am_fi72_1 am_cl3) (S.o (q.lv am_ag3) (S.o (q.ls am_ag3) (S.o q.eql (S.o q.as (S.end (hK _ ?_)))))); clear hK K; refine Ev.ret ?_; refine Ev.ret1 ?_; refine ⟨?_, rfl⟩; rfl
theorem Masses_fun (l : List Bar) (hlen : l.length ≤ 140737488355328) (hw : schedW l) : Fun Tryz.prog 17 [.sh 5 (l.map Bar.c)] (Ret (.tup [.sh 2 ((massesV l).map pairC), .lit (.int .i64 (schedE l))]) []) := by
  have hs9 : sizes.length = 9 := rfl; have hsl := sums_len l; refine Fun.of (nt := 34) (rs := [.tmp 2, .tmp 3]) Tryz.func17 rfl rfl rfl rfl rfl ?_; refine Ev.sr fun K hK => S.o q.as (S.o q.as (S.end (hK _ ?_))); clear hK K; refine Ev.seq ?_; refine Ev.sr fun K hK => S.o q.mv (S.c0 (hF := schedValid_fun _ (by omega) (by assumption)) (h := S.o q.not (S.end (hK _ ?_)))); clear hK K; refine Ev.cn (fun c1 => ?_) (fun c1 => ?_)
  · first
  | omega | contradiction
  | refine Ev.sr fun K hK => S.o q.as (S.o q.as (S.end (hK _ ?_))); clear hK K; refine Ev.weaken (Wk.nsh pairC 2 2) ?_; refine Ev.ret ?_; refine Ev.ret2 ?_; refine ⟨?_, rfl⟩
    first
     | (rw [massesV, schedE, if_neg ‹_›, if_neg ‹_›]; done)
     | (rw [massesV, schedE, if_pos ‹_›, if_pos ‹_›, ← hp, List.append_nil]; done)
     | (rw [massesV, schedE, if_pos ‹_›, if_pos ‹_›, ← hp]; done)
  · first
  | omega | contradiction
  | refine Ev.skip ?_; show Ev _ _ _ _; refine Ev.sr fun K hK => S.o q.mv (S.c0 (hF := masses_fun _ (by assumption) (by assumption)) (h := S.o q.as (S.end (hK _ ?_)))); clear hK K; refine Ev.sr fun K hK => S.o q.as (S.end (hK _ ?_)); clear hK K; refine Ev.seq ?_; refine Ev.sr fun K hK => S.c0 (hF := sizes_fun) (h := S.o (q.lens am_el66) (S.o q.mv (S.end (hK _ ?_)))); clear hK K; refine Ev.block ?_; refine Ev.weaken (Wk.nown pairC 5 62 2) ?_; refine Ev.loopU (ι := {p : List (Int) × List (Int) // p.1 ++ p.2 = sizes ∧ True}) [0] [0, 2, 3, 4, 13, 14] (fun ⟨(pre, suf), _⟩ => [(15, .lit (.int .i64 ((pre.length : Int)))), (5, .als 0 0 (massesP l pre).length)]) (fun ⟨(pre, suf), _⟩ => [(0, ⟨true, 62, 2, (massesP l pre).map pairC, true⟩)]) (fun ⟨(pre, suf), _⟩ => suf.length) ⟨([], sizes), rfl, trivial⟩ (.c (.c (.c (.c (.c (.c .n)))))) (keep_c (he := (by first | rfl | (rw [massesP_snoc, if_pos ‹_›]; simp; done) | (rw [massesP_snoc, if_pos ‹_›]; done) | (rw [massesP_snoc, if_neg ‹_›]; done))) (h := keep_n)) (slots_c (he := (by first | rfl | (congr 2; simp; done))) (h := (slots_c (he := (by first | rfl | (congr 1; rw [massesP_snoc, if_pos ‹_›]; simp; done) | (congr 1; rw [massesP_snoc, if_pos ‹_›]; done) | (congr 1; rw [massesP_snoc, if_neg ‹_›]; done))) (h := trivial)))) ?_; rintro ⟨⟨pre, suf⟩, hp, hinv⟩ R0 hR0
    dsimp only [List.cons_append, List.nil_append, List.length_cons, List.length_nil]
    simp only at hp hinv
    have hpl : pre.length + suf.length = (sizes).length := by rw [← hp, List.length_append]
    rcases suf with _ | ⟨s, suf⟩
    · rw [List.append_nil] at hp; simp only [List.length_nil] at hpl; refine Ev.sr fun K hK => S.o q.lss (S.end (hK _ ?_)); clear hK K; refine Ev.ud (fun c2 => ?_) (fun c2 => ?_)
      · first
      | omega | contradiction
      | refine Ev.seq ?_; refine Ev.block ?_; refine Ev.sr fun K hK => S.o q.mv (S.o (q.ix am_el66 am_cl3 (hl := (by first | exact atig (by omega)))) (S.o (q.ls am_ag3) (S.nn (q.al am_ze3) (S.o q.as (S.sv [_] true [_] am_in3 am_cl3 (h := S.end (hK _ ?_))))))); clear hK K; refine Ev.sr fun K hK => S.o q.mv (S.o q.mf (S.c0 (hF := containsFuncBar1 _ _ _ (size_is_fun _) l (by omega)) (h := S.end (hK _ ?_)))); clear hK K; refine Ev.cd (fun c3 => ?_) (fun c3 => ?_)
        · first
        | omega | contradiction
        | refine Ev.region_M (tbs [(0, 0), (0, 0), (0, 0), (0, 0), (4, 12), (5, 28), (6, 62), (7, 126), (8, 255), (9, 511)]) 8 fun K hK => M.o q.mv (M.o (q.lv am_ag3) (M.o q.mv (M.o q.mv (M.o (q.ix am_el66 am_cl3 (hl := (by first | exact atig (by omega)))) (M.o (q.ls am_ag3) (M.o (q.bd [_, _] am_ze62 am_pl62) (M.nn [_] (q.bs [[_, _]] true am_el56 am_ze62 am_cl62) (h := M.end [_, _, _] (h := S.ap' [_, _] am_el56 am_ze62 am_cl62 am_by62 (hh := head_own') (hr := (rows_lit [(⟨_, _⟩ : Int × Int)])) (h := S.o q.as (S.end (hK _ ?_)))))))))))); clear hK K; show Ev _ _ _ _; refine Ev.region_S fun K hK => S.o q.add (S.o q.mv (S.end (hK _ ?_))); clear hK K; refine hR0 _ _ ?_; refine roundU [34] [0, 2, 3, 4, 13, 14] ⟨(pre ++ [s], suf), by rw [← hp]; simp, ?_⟩ ?_ (keep_c (he := (by first | rfl | (rw [massesP_snoc, if_pos ‹_›]; simp; done) | (rw [massesP_snoc, if_pos ‹_›]; done) | (rw [massesP_snoc, if_neg ‹_›]; done))) (h := keep_n)) (slots_c (he := (by first | rfl | (congr 2; simp; done))) (h := (slots_c (he := (by first | rfl | (congr 1; rw [massesP_snoc, if_pos ‹_›]; simp; done) | (congr 1; rw [massesP_snoc, if_pos ‹_›]; done) | (congr 1; rw [massesP_snoc, if_neg ‹_›]; done))) (h := trivial)))) (.c (.c (.c (.c (.c (.c .n)))))); trivial; all_goals (dsimp only; simp only [List.length_cons]; omega)
        · first
        | omega | contradiction
        | refine Ev.skip ?_; show Ev _ _ _ _; refine Ev.region_S fun K hK => S.o q.add (S.o q.mv (S.end (hK _ ?_))); clear hK K; refine hR0 _ _ ?_; refine roundU [0] [0, 2, 3, 4, 13, 14] ⟨(pre ++ [s], suf), by rw [← hp]; simp, ?_⟩ ?_ (keep_c (he := (by first | rfl | (rw [massesP_snoc, if_pos ‹_›]; simp; done) | (rw [massesP_snoc, if_pos ‹_›]; done) | (rw [massesP_snoc, if_neg ‹_›]; done))) (h := keep_n)) (slots_c (he := (by first | rfl | (congr 2; simp; done))) (h := (slots_c (he := (by first | rfl | (congr 1; rw [massesP_snoc, if_pos ‹_›]; simp; done) | (congr 1; rw [massesP_snoc, if_pos ‹_›]; done) | (congr 1; rw [massesP_snoc, if_neg ‹_›]; done))) (h := trivial)))) (.c (.c (.c (.c (.c (.c .n)))))); trivial; all_goals (dsimp only; simp only [List.length_cons]; omega)
      · first
      | omega | contradiction
      | refine Ev.exit ?_; refine hR0 _ _ ?_; show Ev _ _ _ _; refine Ev.sr fun K hK => S.o q.mv (S.o q.as (S.o q.as (S.end (hK _ ?_)))); clear hK K; refine Ev.weaken (Wk.frz 2 []) ?_; refine Ev.ret ?_; refine Ev.ret2 ?_; refine ⟨?_, rfl⟩
        first
         | (rw [massesV, schedE, if_neg ‹_›, if_neg ‹_›]; done)
         | (rw [massesV, schedE, if_pos ‹_›, if_pos ‹_›, ← hp, List.append_nil]; done)
         | (rw [massesV, schedE, if_pos ‹_›, if_pos ‹_›, ← hp]; done)
    · simp only [List.length_cons] at hpl
      have hidx : sizes[pre.length]? = some s := by rw [← hp]; simp
      have hsum : (sumsAt l)[pre.length]? = some (ofSum l s) := by rw [sumsAt, List.getElem?_map, hidx]; rfl
      have hml := massesP_len l pre; refine Ev.sr fun K hK => S.o q.lss (S.end (hK _ ?_)); clear hK K; refine Ev.ud (fun c4 => ?_) (fun c4 => ?_)
      · first
      | omega | contradiction
      | refine Ev.seq ?_; refine Ev.block ?_; refine Ev.sr fun K hK => S.o q.mv (S.o (q.ix am_el66 am_cl3 (hl := (by first | exact ati hidx (by omega) | exact ati hsum (by omega) | exact atig (by omega)))) (S.o (q.ls am_ag3) (S.nn (q.al am_ze3) (S.o q.as (S.sv [_] true [_] am_in3 am_cl3 (h := S.end (hK _ ?_))))))); clear hK K; refine Ev.sr fun K hK => S.o q.mv (S.o q.mf (S.c0 (hF := containsFuncBar1 _ _ _ (size_is_fun _) l (by omega)) (h := S.end (hK _ ?_)))); clear hK K; refine Ev.cd (fun c5 => ?_) (fun c5 => ?_)
        · first
        | omega | contradiction
        | refine Ev.region_M (tbs [(0, 0), (0, 0), (0, 0), (0, 0), (4, 12), (5, 28), (6, 62), (7, 126), (8, 255), (9, 511)]) 8 fun K hK => M.o q.mv (M.o (q.lv am_ag3) (M.o q.mv (M.o q.mv (M.o (q.ix am_el66 am_cl3 (hl := (by first | exact ati hidx (by omega) | exact ati hsum (by omega) | exact atig (by omega)))) (M.o (q.ls am_ag3) (M.o (q.bd [_, _] am_ze62 am_pl62) (M.nn [_] (q.bs [[_, _]] true am_el56 am_ze62 am_cl62) (h := M.end [_, _, _] (h := S.ap' [_, _] am_el56 am_ze62 am_cl62 am_by62 (hh := head_own') (hr := (rows_lit [(⟨_, _⟩ : Int × Int)])) (h := S.o q.as (S.end (hK _ ?_)))))))))))); clear hK K; show Ev _ _ _ _; refine Ev.region_S fun K hK => S.o q.add (S.o q.mv (S.end (hK _ ?_))); clear hK K; refine hR0 _ _ ?_; refine roundU [34] [0, 2, 3, 4, 13, 14] ⟨(pre ++ [s], suf), by rw [← hp]; simp, ?_⟩ ?_ (keep_c (he := (by first | rfl | (rw [massesP_snoc, if_pos ‹_›]; simp; done) | (rw [massesP_snoc, if_pos ‹_›]; done) | (rw [massesP_snoc, if_neg ‹_›]; done))) (h := keep_n)) (slots_c (he := (by first | rfl | (congr 2; simp; done))) (h := (slots_c (he := (by first | rfl | (congr 1; rw [massesP_snoc, if_pos ‹_›]; simp; done) | (congr 1; rw [massesP_snoc, if_pos ‹_›]; done) | (congr 1; rw [massesP_snoc, if_neg ‹_›]; done))) (h := trivial)))) (.c (.c (.c (.c (.c (.c .n)))))); trivial; all_goals (dsimp only; simp only [List.length_cons]; omega)
        · first
        | omega | contradiction
        | refine Ev.skip ?_; show Ev _ _ _ _; refine Ev.region_S fun K hK => S.o q.add (S.o q.mv (S.end (hK _ ?_))); clear hK K; refine hR0 _ _ ?_; refine roundU [0] [0, 2, 3, 4, 13, 14] ⟨(pre ++ [s], suf), by rw [← hp]; simp, ?_⟩ ?_ (keep_c (he := (by first | rfl | (rw [massesP_snoc, if_pos ‹_›]; simp; done) | (rw [massesP_snoc, if_pos ‹_›]; done) | (rw [massesP_snoc, if_neg ‹_›]; done))) (h := keep_n)) (slots_c (he := (by first | rfl | (congr 2; simp; done))) (h := (slots_c (he := (by first | rfl | (congr 1; rw [massesP_snoc, if_pos ‹_›]; simp; done) | (congr 1; rw [massesP_snoc, if_pos ‹_›]; done) | (congr 1; rw [massesP_snoc, if_neg ‹_›]; done))) (h := trivial)))) (.c (.c (.c (.c (.c (.c .n)))))); trivial; all_goals (dsimp only; simp only [List.length_cons]; omega)
      · first
      | omega | contradiction
      | refine Ev.exit ?_; refine hR0 _ _ ?_; show Ev _ _ _ _; refine Ev.sr fun K hK => S.o q.mv (S.o q.as (S.o q.as (S.end (hK _ ?_)))); clear hK K; refine Ev.weaken (Wk.frz 2 []) ?_; refine Ev.ret ?_; refine Ev.ret2 ?_; refine ⟨?_, rfl⟩
        first
         | (rw [massesV, schedE, if_neg ‹_›, if_neg ‹_›]; done)
         | (rw [massesV, schedE, if_pos ‹_›, if_pos ‹_›, ← hp, List.append_nil]; done)
         | (rw [massesV, schedE, if_pos ‹_›, if_pos ‹_›, ← hp]; done)
theorem Total_fun (l : List Bar) (hlen : l.length ≤ 140737488355328) (hw : schedW l) : Fun Tryz.prog 10 [.sh 5 (l.map Bar.c)] (Ret (.tup [.lit (.int .i64 (totV l)), .lit (.int .i64 (schedE l))]) []) := by
  have hsl := sums_len l; refine Fun.of (nt := 22) (rs := [.tmp 2, .tmp 3]) Tryz.func10 rfl rfl rfl rfl rfl ?_; refine Ev.sr fun K hK => S.o q.as (S.o q.as (S.end (hK _ ?_))); clear hK K; refine Ev.seq ?_; refine Ev.sr fun K hK => S.o q.mv (S.c0 (hF := schedValid_fun _ (by omega) (by assumption)) (h := S.o q.not (S.end (hK _ ?_)))); clear hK K; refine Ev.cn (fun c1 => ?_) (fun c1 => ?_)
  · first
  | omega | contradiction
  | refine Ev.sr fun K hK => S.o q.as (S.o q.as (S.end (hK _ ?_))); clear hK K; refine Ev.ret ?_; refine Ev.ret2 ?_; refine ⟨?_, rfl⟩
    first
     | (rw [totV, schedE, if_neg ‹_›, if_neg ‹_›]; done)
     | (rw [totV, schedE, if_pos ‹_›, if_pos ‹_›, ← htot, ← hp, List.append_nil]; done)
     | (rw [totV, schedE, if_pos ‹_›, if_pos ‹_›, ← htot, ← hp]; done)
  · first
  | omega | contradiction
  | refine Ev.skip ?_; show Ev _ _ _ _; have hok : okSched l := ‹_›; have htot := (totM_bd l hok.2.1).2; have hl60 := hok.1
    have hob : ∀ n ∈ sumsAt l, 0 ≤ n ∧ n ≤ 620589240000 := fun n hn => by
      rw [sumsAt, List.mem_map] at hn; obtain ⟨d, _, rfl⟩ := hn; have := ofSum_bd l hok.2.1 d; omega
    refine Ev.sr fun K hK => S.o q.as (S.end (hK _ ?_)); clear hK K; refine Ev.seq ?_; refine Ev.sr fun K hK => S.o q.mv (S.c0 (hF := masses_fun _ (by assumption) (by assumption)) (h := S.o (q.lens am_el66) (S.o q.mv (S.end (hK _ ?_))))); clear hK K; refine Ev.block ?_; refine Ev.loopU (ι := {q : List Int × List Int // q.1 ++ q.2 = sumsAt l ∧ 0 ≤ sumI q.1 ∧ sumI q.1 ≤ 620589240000 * q.1.length}) [] [2, 3, 11, 12] (fun ⟨(pre, suf), _⟩ => [(13, .lit (.int .i64 ((pre.length : Int)))), (4, .lit (.int .i64 (sumI pre)))]) (fun ⟨(pre, suf), _⟩ => []) (fun ⟨(pre, suf), _⟩ => suf.length) ⟨([], (sumsAt l)), rfl, (by decide : 0 ≤ sumI [] ∧ sumI [] ≤ 620589240000 * (([] : List Int).length : Int))⟩ (.c (.c (.c (.c .n)))) keep_n (slots_c (he := (by first | rfl | (congr 2; simp; done))) (h := (slots_c (he := (by first | rfl | (congr 2; rw [sumI_app, show sumI [s] = s by simp [sumI]]; done))) (h := trivial)))) ?_; rintro ⟨⟨pre, suf⟩, hp, hinv⟩ R0 hR0; dsimp only [List.cons_append, List.nil_append, List.length_cons, List.length_nil]
    simp only at hp hinv
    have hpl : pre.length + suf.length = ((sumsAt l)).length := by rw [← hp, List.length_append]
    rcases suf with _ | ⟨s, suf⟩
    · rw [List.append_nil] at hp; simp only [List.length_nil] at hpl; refine Ev.sr fun K hK => S.o q.lss (S.end (hK _ ?_)); clear hK K; refine Ev.ud (fun c2 => ?_) (fun c2 => ?_)
      · first
      | omega | contradiction
      | refine Ev.seq ?_; refine Ev.block ?_; refine Ev.sr fun K hK => S.o (q.ix am_el66 am_cl3 (hl := (by first | exact atig (by omega)))) (S.o (q.ls am_ag3) (S.o q.as (S.end (hK _ ?_)))); clear hK K; refine Ev.region_S fun K hK => S.o q.mv (S.o q.mv (S.o q.add (S.o q.as (S.end (hK _ ?_))))); clear hK K; show Ev _ _ _ _; refine Ev.region_S fun K hK => S.o q.add (S.o q.mv (S.end (hK _ ?_))); clear hK K; refine hR0 _ _ ?_; refine roundU [] [2, 3, 11, 12] ⟨(pre ++ [s], suf), by rw [← hp]; simp, ?_⟩ ?_ keep_n (slots_c (he := (by first | rfl | (congr 2; simp; done))) (h := (slots_c (he := (by first | rfl | (congr 2; rw [sumI_app, show sumI [s] = s by simp [sumI]]; done))) (h := trivial)))) (.c (.c (.c (.c .n))))
        (rw [sumI_app, show sumI [s] = s by simp [sumI], List.length_append, List.length_singleton]; omega)
        all_goals (dsimp only; simp only [List.length_cons]; omega)
      · first
      | omega | contradiction
      | refine Ev.exit ?_; refine hR0 _ _ ?_; show Ev _ _ _ _; refine Ev.sr fun K hK => S.o q.mv (S.o q.as (S.o q.as (S.end (hK _ ?_)))); clear hK K; refine Ev.ret ?_; refine Ev.ret2 ?_; refine ⟨?_, rfl⟩
        first
         | (rw [totV, schedE, if_neg ‹_›, if_neg ‹_›]; done)
         | (rw [totV, schedE, if_pos ‹_›, if_pos ‹_›, ← htot, ← hp, List.append_nil]; done)
         | (rw [totV, schedE, if_pos ‹_›, if_pos ‹_›, ← htot, ← hp]; done)
    · simp only [List.length_cons] at hpl
      have hidx : (sumsAt l)[pre.length]? = some s := by rw [← hp]; simp
      have hsb := hob s (by rw [← hp]; simp); obtain ⟨v1, v2⟩ := hinv; refine Ev.sr fun K hK => S.o q.lss (S.end (hK _ ?_)); clear hK K; refine Ev.ud (fun c3 => ?_) (fun c3 => ?_)
      · first
      | omega | contradiction
      | refine Ev.seq ?_; refine Ev.block ?_; refine Ev.sr fun K hK => S.o (q.ix am_el66 am_cl3 (hl := (by first | exact ati hidx (by omega) | exact atig (by omega)))) (S.o (q.ls am_ag3) (S.o q.as (S.end (hK _ ?_)))); clear hK K; refine Ev.region_S fun K hK => S.o q.mv (S.o q.mv (S.o q.add (S.o q.as (S.end (hK _ ?_))))); clear hK K; show Ev _ _ _ _; refine Ev.region_S fun K hK => S.o q.add (S.o q.mv (S.end (hK _ ?_))); clear hK K; refine hR0 _ _ ?_; refine roundU [] [2, 3, 11, 12] ⟨(pre ++ [s], suf), by rw [← hp]; simp, ?_⟩ ?_ keep_n (slots_c (he := (by first | rfl | (congr 2; simp; done))) (h := (slots_c (he := (by first | rfl | (congr 2; rw [sumI_app, show sumI [s] = s by simp [sumI]]; done))) (h := trivial)))) (.c (.c (.c (.c .n))))
        (rw [sumI_app, show sumI [s] = s by simp [sumI], List.length_append, List.length_singleton]; omega)
        all_goals (dsimp only; simp only [List.length_cons]; omega)
      · first
      | omega | contradiction
      | refine Ev.exit ?_; refine hR0 _ _ ?_; show Ev _ _ _ _; refine Ev.sr fun K hK => S.o q.mv (S.o q.as (S.o q.as (S.end (hK _ ?_)))); clear hK K; refine Ev.ret ?_; refine Ev.ret2 ?_; refine ⟨?_, rfl⟩
        first
         | (rw [totV, schedE, if_neg ‹_›, if_neg ‹_›]; done)
         | (rw [totV, schedE, if_pos ‹_›, if_pos ‹_›, ← htot, ← hp, List.append_nil]; done)
         | (rw [totV, schedE, if_pos ‹_›, if_pos ‹_›, ← htot, ← hp]; done)
end Go.Proofs.YtkbpignlggahaaaGreatDoor
