-- TYPES 3 4
import Derived.Test.YtigjoaejncfmdaaA4
namespace Go.Proofs.Ytigjoaejncfmdaa
open Go Go.AM
set_option linter.unusedSimpArgs false
set_option maxRecDepth 100000
-- PP
def levAdd (acc : List (Int × Int)) (lo hi : Int) : List (Int × Int) :=
  match acc.getLast? with
  | some o => if o.2 = lo then acc.dropLast ++ [(o.1, hi)] else acc ++ [(lo, hi)]
  | none => acc ++ [(lo, hi)]

def levGo (v : Int) : List (Int × Int) → List (Int × Int) → List (Int × Int)
  | [], acc => acc
  | [_], acc => acc
  | s :: n :: l, acc => levGo v (n :: l) (if s.2 ≤ v then acc else levAdd acc s.1 n.1)

theorem map_set_last (acc : List (Int × Int)) (o o' : Int × Int) : ((acc ++ [o]).map stepC).set (0 + (((acc ++ [o]).length : Int) - 1).toNat) (stepC o') = (acc ++ [o']).map stepC := by
  have : 0 + (((acc ++ [o]).length : Int) - 1).toNat = (acc.map stepC).length := by simp
  rw [this, List.map_append, List.map_append, List.set_append_right _ _ (Nat.le_refl _), Nat.sub_self]
  rfl

theorem map_set_last' (acc : List (Int × Int)) (o : Int × Int) (a b : Int) : ((acc ++ [o]).map stepC).set (0 + (((acc ++ [o]).length : Int) - 1).toNat) [.lit (.int .i64 a), .lit (.int .i64 b)] = (acc ++ [(a, b)]).map stepC := map_set_last acc o (a, b)

theorem level_fun (l : List (Int × Int)) (v : Int) (hlen : l.length ≤ 200) (hlast : lastOK l) (hv : 0 ≤ v) :
    Fun Try.prog 40 [.sh 2 (l.map stepC), .lit (.int .i64 v)] (Ret (.als 0 0 (levGo v l []).length) [(0, ⟨true, 36, 2, (levGo v l []).map stepC, true⟩)]) := by
  refine Fun.of (nt := 57) (rs := [.tmp 4]) Try.func40 rfl rfl rfl rfl rfl ?_
  repeat refine Ev.seq ?_
  refine Ev.region_S fun K hK => ?_
  refine S.q rfl rfl (q_assign rfl) ?_
  refine S.end (hK _ ?_)
  clear hK K
  try show Ev _ _ _ _
  repeat refine Ev.seq ?_
  refine Ev.region_S fun K hK => ?_
  refine S.q rfl rfl (q_assign rfl) ?_
  refine S.end (hK _ ?_)
  clear hK K
  try show Ev _ _ _ _
  repeat refine Ev.seq ?_
  refine Ev.region_S fun K hK => ?_
  refine S.q rfl rfl (q_move rfl) ?_
  refine S.q rfl rfl (q_len am_el22 rfl (by simp only [lenAV, List.length_map]; rfl)) ?_
  refine S.q rfl rfl (q_move rfl) ?_
  refine S.end (hK _ ?_)
  clear hK K
  try show Ev _ _ _ _
  refine Ev.block (Ev.loop (ι := {p : (List (Int × Int) × List (Int × Int)) × List (Int × Int) // p.1.1 ++ p.1.2 = l ∧ levGo v l [] = levGo v p.1.2 p.2 ∧ p.2.length ≤ p.1.1.length})
      (fun p => ⟨[(0, .sh 2 (l.map stepC)), (1, .lit (.int .i64 v)), (5, .als 0 0 p.1.2.length), (10, .sh 2 (l.map stepC)), (11, .lit (.int .i64 l.length)), (12, .lit (.int .i64 p.1.1.1.length))], [(0, ⟨true, 36, 2, p.1.2.map stepC, true⟩)], 1, 57, 0⟩)
      (fun p => p.1.1.2.length) ⟨(([], l), []), rfl, rfl, Nat.le_refl _⟩ ?_ ?_)
  · refine Wk.trans (Wk.nil 5 36 2 rfl) ?_
    refine Wk.ren [0] (by decide) ?_ rfl rfl rfl rfl (fun i hi => absurd hi (Nat.not_lt_zero i))
    simp only [slotsRen, renAV, argSlots, St.get, find_cons, reduceIte, Nat.reduceEqDiff, and_self, pos_cons, Option.map_some, List.length_nil, Int.natCast_zero, Int.ofNat_zero, Int.cast_ofNat_Int]
  · rintro ⟨⟨⟨pre, suf⟩, acc⟩, hp, hok, hac⟩
    simp only at hp hok hac
    dsimp only
    cases suf with
    | nil =>
      rw [List.append_nil] at hp
      subst hp
      repeat refine Ev.seq ?_
      refine Ev.region_S fun K hK => ?_
      first | refine S.q rfl rfl (q_lss_t rfl rfl (by first | omega | assumption)) ?_ | refine S.q rfl rfl (q_lss_f rfl rfl (by first | omega | assumption)) ?_ | refine S.q rfl rfl (q_lss rfl rfl) ?_
      refine S.end (hK _ ?_)
      clear hK K
      try show Ev _ _ _ _
      repeat refine Ev.seq ?_
      refine Ev.cond rfl (fun h => ?_) (fun h => ?_)
      · cases h
      refine Ev.exit ?_
      show Ev _ _ _ _
      repeat refine Ev.seq ?_
      refine Ev.region_S fun K hK => ?_
      refine S.q rfl rfl (q_move rfl) ?_
      refine S.q rfl rfl (q_assign rfl) ?_
      refine S.end (hK _ ?_)
      clear hK K
      try show Ev _ _ _ _
      repeat refine Ev.seq ?_
      refine Ev.ret ?_
      refine ⟨[0], by decide, ?_⟩
      simp only [retP, resAV, packAV, renAV, renL, keepObjs, renObj, pos_cons, pos_nil, Nat.reduceAdd, Nat.zero_add, List.cons_append, List.nil_append, List.append_nil, St.get, find_cons, reduceIte, Option.map_some, Option.bind_some, Nat.reduceEqDiff, Ret, and_self, hok, levGo]
    | cons s suf =>
      have hlt : (pre.length : Int) < l.length := by rw [← hp, List.length_append, List.length_cons]; omega
      have hidx : l[pre.length]? = some s := by rw [← hp]; simp
      repeat refine Ev.seq ?_
      refine Ev.region_S fun K hK => ?_
      first | refine S.q rfl rfl (q_lss_t rfl rfl (by first | omega | assumption)) ?_ | refine S.q rfl rfl (q_lss_f rfl rfl (by first | omega | assumption)) ?_ | refine S.q rfl rfl (q_lss rfl rfl) ?_
      refine S.end (hK _ ?_)
      clear hK K
      try show Ev _ _ _ _
      repeat refine Ev.seq ?_
      refine Ev.cond rfl (fun h => ?_) (fun h => ?_)
      rotate_left
      · cases h
      refine Ev.skip ?_
      show Ev _ _ _ _
      repeat refine Ev.seq ?_
      refine Ev.block ?_
      repeat refine Ev.seq ?_
      refine Ev.region_S fun K hK => ?_
      refine S.q rfl rfl (q_move rfl) ?_
      first | refine S.q rfl rfl (q_ia am_el22 am_cl57 rfl rfl rfl rfl rfl (by first | omega | assumption) (by first | omega | assumption) rfl) ?_ | refine S.q rfl rfl (q_ias am_el22 am_cl57 rfl rfl rfl (by first | omega | assumption) (by first | (simp only [List.getElem?_map, Int.toNat_natCast, Nat.zero_add, Option.map_some, hidx]; rfl) | rfl)) ?_
      first | refine S.q rfl rfl (q_loadA am_ag57 am_cl57 rfl (cells_sadr0) rfl (take_all rfl)) ?_ | refine S.q rfl rfl (q_loadA am_ag57 am_cl57 rfl (cells_adr0 rfl (by first | (simp only [List.getElem?_map, Int.toNat_natCast, Nat.zero_add, Option.map_some, hidx]; rfl) | rfl)) rfl (take_all rfl)) ?_ | refine S.q rfl rfl (q_loadA am_ag57 am_cl57 rfl (cells_sadr (by (try simp only [splice, del_cons, del_nil, List.set_cons_zero, List.set_cons_succ, List.take_succ_cons, List.take_zero, List.drop_succ_cons, List.drop_zero, List.nil_append, List.cons_append, List.append_nil, List.length_cons, List.length_nil, Nat.reduceAdd, Nat.reduceEqDiff, reduceIte]); rfl)) rfl (by (try simp only [splice, del_cons, del_nil, List.set_cons_zero, List.set_cons_succ, List.take_succ_cons, List.take_zero, List.drop_succ_cons, List.drop_zero, List.nil_append, List.cons_append, List.append_nil, List.length_cons, List.length_nil, Nat.reduceAdd, Nat.reduceEqDiff, reduceIte]); rfl)) ?_ | refine S.q rfl rfl (q_loadA am_ag57 am_cl57 rfl (cells_adr rfl (by first | (simp only [List.getElem?_map, Int.toNat_natCast, Nat.zero_add, Option.map_some, hidx]; rfl) | rfl) (by (try simp only [splice, del_cons, del_nil, List.set_cons_zero, List.set_cons_succ, List.take_succ_cons, List.take_zero, List.drop_succ_cons, List.drop_zero, List.nil_append, List.cons_append, List.append_nil, List.length_cons, List.length_nil, Nat.reduceAdd, Nat.reduceEqDiff, reduceIte]); rfl)) rfl (by (try simp only [splice, del_cons, del_nil, List.set_cons_zero, List.set_cons_succ, List.take_succ_cons, List.take_zero, List.drop_succ_cons, List.drop_zero, List.nil_append, List.cons_append, List.append_nil, List.length_cons, List.length_nil, Nat.reduceAdd, Nat.reduceEqDiff, reduceIte]); rfl)) ?_
      refine S.new (q_alloc am_ze57 rfl) rfl rfl ?_
      refine S.q rfl rfl (q_assign rfl) ?_
      first | refine S.st (cl' := true) rfl am_in57 am_cl57 rfl rfl rfl (by first | (simp only [List.getElem?_map, Int.toNat_natCast, Nat.zero_add, Option.map_some, hidx]; rfl) | rfl) rfl rfl (by (try simp only [splice, del_cons, del_nil, List.set_cons_zero, List.set_cons_succ, List.take_succ_cons, List.take_zero, List.drop_succ_cons, List.drop_zero, List.nil_append, List.cons_append, List.append_nil, List.length_cons, List.length_nil, Nat.reduceAdd, Nat.reduceEqDiff, reduceIte]); rfl) (by (try simp only [splice, del_cons, del_nil, List.set_cons_zero, List.set_cons_succ, List.take_succ_cons, List.take_zero, List.drop_succ_cons, List.drop_zero, List.nil_append, List.cons_append, List.append_nil, List.length_cons, List.length_nil, Nat.reduceAdd, Nat.reduceEqDiff, reduceIte]); rfl) rfl (by (try simp only [splice, del_cons, del_nil, List.set_cons_zero, List.set_cons_succ, List.take_succ_cons, List.take_zero, List.drop_succ_cons, List.drop_zero, List.nil_append, List.cons_append, List.append_nil, List.length_cons, List.length_nil, Nat.reduceAdd, Nat.reduceEqDiff, reduceIte]); rfl) ?_ | refine S.st (cl' := false) rfl am_in57 am_cl57 rfl rfl rfl (by first | (simp only [List.getElem?_map, Int.toNat_natCast, Nat.zero_add, Option.map_some, hidx]; rfl) | rfl) rfl rfl (by (try simp only [splice, del_cons, del_nil, List.set_cons_zero, List.set_cons_succ, List.take_succ_cons, List.take_zero, List.drop_succ_cons, List.drop_zero, List.nil_append, List.cons_append, List.append_nil, List.length_cons, List.length_nil, Nat.reduceAdd, Nat.reduceEqDiff, reduceIte]); rfl) (by (try simp only [splice, del_cons, del_nil, List.set_cons_zero, List.set_cons_succ, List.take_succ_cons, List.take_zero, List.drop_succ_cons, List.drop_zero, List.nil_append, List.cons_append, List.append_nil, List.length_cons, List.length_nil, Nat.reduceAdd, Nat.reduceEqDiff, reduceIte]); rfl) rfl (by (try simp only [splice, del_cons, del_nil, List.set_cons_zero, List.set_cons_succ, List.take_succ_cons, List.take_zero, List.drop_succ_cons, List.drop_zero, List.nil_append, List.cons_append, List.append_nil, List.length_cons, List.length_nil, Nat.reduceAdd, Nat.reduceEqDiff, reduceIte]); rfl) ?_
      refine S.end (hK _ ?_)
      clear hK K
      try show Ev _ _ _ _
      by_cases h1 : s.2 ≤ v
      · repeat refine Ev.seq ?_
        refine Ev.region_S fun K hK => ?_
        first | refine S.q rfl rfl (q_fa am_fi57_1 am_cl3 rfl rfl rfl) ?_ | refine S.q rfl rfl (q_fas am_fi57_1 am_cl3 rfl rfl rfl) ?_
        first | refine S.q rfl rfl (q_load1 am_ag3 rfl rfl) ?_ | refine S.q rfl rfl (q_load1 am_ag3 rfl (cells_adr rfl (by first | (simp only [List.getElem?_map, Int.toNat_natCast, Nat.zero_add, Option.map_some, hidx]; rfl) | rfl) rfl)) ?_
        refine S.q rfl rfl (q_move rfl) ?_
        first | refine S.q rfl rfl (q_leq_t rfl rfl (by first | omega | assumption)) ?_ | refine S.q rfl rfl (q_leq_f rfl rfl (by first | omega | assumption)) ?_ | refine S.q rfl rfl (q_leq rfl rfl) ?_
        refine S.end (hK _ ?_)
        clear hK K
        try show Ev _ _ _ _
        repeat refine Ev.seq ?_
        refine Ev.cond rfl (fun h => ?_) (fun h => ?_)
        rotate_left
        · cases h
        refine Ev.exit ?_
        show Ev _ _ _ _
        repeat refine Ev.seq ?_
        refine Ev.region_S fun K hK => ?_
        refine S.q rfl rfl (q_add rfl rfl (by first | omega | assumption) (by first | omega | assumption)) ?_
        refine S.q rfl rfl (q_move rfl) ?_
        refine S.end (hK _ ?_)
        clear hK K
        try show Ev _ _ _ _
        refine ⟨⟨((pre ++ [s], suf), acc), by rw [← hp]; simp, by rw [hok]; cases suf with | nil => rfl | cons a b => rw [levGo, if_pos h1], by simp; omega⟩, by simp, ?_⟩
        refine Wk.ren [0] (by decide) ?_ ?_ rfl rfl rfl (fun i hi => absurd hi (Nat.not_lt_zero i))
        · simp only [slotsRen, renAV, argSlots, St.get, find_cons, reduceIte, Nat.reduceEqDiff, Nat.reduceAdd, Nat.reduceMul, and_self, pos_cons, Option.map_some, List.length_append, List.length_cons, List.length_nil, Nat.zero_add, Int.natCast_add, Int.cast_ofNat_Int]
        · simp only [keepObjs, find_cons, del_cons, del_nil, reduceIte, Nat.reduceEqDiff, Nat.reduceAdd, Nat.reduceMul, Option.bind_some, renObj, List.nil_append]
      cases suf with
      | nil =>
        exfalso
        have := hlast s (by rw [← hp]; simp)
        omega
      | cons nx suf =>
        have hnext : l[((pre.length : Int) + 1).toNat]? = some nx := by
          rw [← hp, show ((pre.length : Int) + 1).toNat = pre.length + 1 by omega]
          simp
        have hlt2 : (pre.length : Int) + 1 < l.length := by rw [← hp, List.length_append, List.length_cons, List.length_cons]; omega
        repeat refine Ev.seq ?_
        refine Ev.region_S fun K hK => ?_
        first | refine S.q rfl rfl (q_fa am_fi57_1 am_cl3 rfl rfl rfl) ?_ | refine S.q rfl rfl (q_fas am_fi57_1 am_cl3 rfl rfl rfl) ?_
        first | refine S.q rfl rfl (q_load1 am_ag3 rfl rfl) ?_ | refine S.q rfl rfl (q_load1 am_ag3 rfl (cells_adr rfl (by first | (simp only [List.getElem?_map, Int.toNat_natCast, Nat.zero_add, Option.map_some, hidx]; rfl) | rfl) rfl)) ?_
        refine S.q rfl rfl (q_move rfl) ?_
        first | refine S.q rfl rfl (q_leq_t rfl rfl (by first | omega | assumption)) ?_ | refine S.q rfl rfl (q_leq_f rfl rfl (by first | omega | assumption)) ?_ | refine S.q rfl rfl (q_leq rfl rfl) ?_
        refine S.end (hK _ ?_)
        clear hK K
        try show Ev _ _ _ _
        repeat refine Ev.seq ?_
        refine Ev.cond rfl (fun h => ?_) (fun h => ?_)
        · cases h
        refine Ev.skip ?_
        show Ev _ _ _ _
        repeat refine Ev.seq ?_
        refine Ev.region_S fun K hK => ?_
        refine S.q rfl rfl (q_move rfl) ?_
        refine S.q rfl rfl (q_move rfl) ?_
        refine S.q rfl rfl (q_add rfl rfl (by first | omega | assumption) (by first | omega | assumption)) ?_
        first | refine S.q rfl rfl (q_ia am_el22 am_cl57 rfl rfl rfl rfl rfl (by first | omega | assumption) (by first | omega | assumption) rfl) ?_ | refine S.q rfl rfl (q_ias am_el22 am_cl57 rfl rfl rfl (by first | omega | assumption) (by first | (simp only [List.getElem?_map, Int.toNat_natCast, Nat.zero_add, Option.map_some, hnext]; rfl) | rfl)) ?_
        first | refine S.q rfl rfl (q_fa am_fi57_0 am_cl3 rfl rfl rfl) ?_ | refine S.q rfl rfl (q_fas am_fi57_0 am_cl3 rfl rfl rfl) ?_
        first | refine S.q rfl rfl (q_load1 am_ag3 rfl rfl) ?_ | refine S.q rfl rfl (q_load1 am_ag3 rfl (cells_adr rfl (by first | (simp only [List.getElem?_map, Int.toNat_natCast, Nat.zero_add, Option.map_some, hnext]; rfl) | rfl) rfl)) ?_
        refine S.q rfl rfl (q_assign rfl) ?_
        refine S.end (hK _ ?_)
        clear hK K
        try show Ev _ _ _ _
        repeat refine Ev.seq ?_
        refine Ev.region_S fun K hK => ?_
        refine S.q rfl rfl (q_move rfl) ?_
        refine S.q rfl rfl (q_len am_el25 rfl (by simp only [lenAV, List.length_map]; rfl)) ?_
        refine S.q rfl rfl (q_assign rfl) ?_
        refine S.end (hK _ ?_)
        clear hK K
        try show Ev _ _ _ _
        rcases List.eq_nil_or_concat acc with hacc | ⟨acc', o, hacc⟩
        · subst hacc
          have hl0 : ([] : List (Int × Int)).length = 0 := rfl
          repeat refine Ev.seq ?_
          refine Ev.region_D [[], [true], [true, true], [true, true, true], [true, true, true], [true, true, true, false, true], [true, true, true, true, true, true], [true, true, true, true, true, true, true], [true, true, true, true, true, true, true, true], [true, true, true], [true, true, true, false, false, false, false, false, false, true], [true, true, true, true, true, true, true, true, true, true, true], [true, true, true, true, true, true, true, true, true, true, true, true]] 13 0 rfl rfl rfl rfl fun K hK => ?_
          refine D.q rfl (q_move rfl) ?_
          first | refine D.q rfl (q_gtr_t rfl rfl (by first | omega | assumption)) ?_ | refine D.q rfl (q_gtr_f rfl rfl (by first | omega | assumption)) ?_ | refine D.q rfl (q_gtr rfl rfl) ?_
          refine D.q rfl (q_move rfl) ?_
          first | refine D.skip rfl ?_ | refine D.q rfl (q_move rfl) ?_
          first | refine D.skip rfl ?_ | refine D.q rfl (q_move rfl) ?_
          first | refine D.skip rfl ?_ | refine D.q rfl (q_sub rfl rfl (by first | omega | assumption) (by first | omega | assumption)) ?_
          first | refine D.skip rfl ?_ | refine D.q rfl (q_ia am_el25 am_cl36 rfl rfl rfl rfl rfl (by first | omega | assumption) (by first | omega | assumption) rfl) ?_ | refine D.q rfl (q_ias am_el25 am_cl36 rfl rfl rfl (by first | omega | assumption) rfl) ?_
          first | refine D.skip rfl ?_ | refine D.q rfl (q_fa am_fi36_1 am_cl3 rfl rfl rfl) ?_ | refine D.q rfl (q_fas am_fi36_1 am_cl3 rfl rfl rfl) ?_
          first | refine D.skip rfl ?_ | refine D.q rfl (q_load1 am_ag3 rfl rfl) ?_ | refine D.q rfl (q_load1 am_ag3 rfl (cells_adr rfl rfl rfl)) ?_
          first | refine D.skip rfl ?_ | refine D.q rfl (q_fa am_fi57_0 am_cl3 rfl rfl rfl) ?_ | refine D.q rfl (q_fas am_fi57_0 am_cl3 rfl rfl rfl) ?_
          first | refine D.skip rfl ?_ | refine D.q rfl (q_load1 am_ag3 rfl rfl) ?_ | refine D.q rfl (q_load1 am_ag3 rfl (cells_adr rfl rfl rfl)) ?_
          first | refine D.skip rfl ?_ | refine D.q rfl (q_eql_t rfl rfl (by first | omega | assumption)) ?_ | refine D.q rfl (q_eql_f rfl rfl (by first | omega | assumption)) ?_ | refine D.q rfl (q_eql rfl rfl) ?_
          first | refine D.q rfl (q_pick_t rfl rfl) ?_ | refine D.q rfl (q_pick_f rfl rfl) ?_
          refine D.end ?_
          refine S.end (hK _ ?_)
          clear hK K
          try show Ev _ _ _ _
          repeat refine Ev.seq ?_
          refine Ev.cond rfl (fun h => ?_) (fun h => ?_)
          · cases h
          refine Ev.skip ?_
          show Ev _ _ _ _
          repeat refine Ev.seq ?_
          refine Ev.region_S fun K hK => ?_
          refine S.q rfl rfl (q_move rfl) ?_
          first | refine S.q rfl rfl (q_fa am_fi57_0 am_cl3 rfl rfl rfl) ?_ | refine S.q rfl rfl (q_fas am_fi57_0 am_cl3 rfl rfl rfl) ?_
          first | refine S.q rfl rfl (q_load1 am_ag3 rfl rfl) ?_ | refine S.q rfl rfl (q_load1 am_ag3 rfl (cells_adr rfl rfl rfl)) ?_
          refine S.q rfl rfl (q_move rfl) ?_
          refine S.q rfl rfl (q_build am_ze36 am_pl36 rfl (by simp only [fillAV, rowsOf, cellsAV, splice, Value.oneCell', cond_true, cond_false, Option.bind_some, Option.map_some, List.getElem?_cons_zero, List.getElem?_cons_succ, List.length_cons, List.length_nil, List.take_succ_cons, List.take_zero, List.drop_succ_cons, List.drop_zero, List.nil_append, List.cons_append, List.append_nil, Nat.reduceAdd, beq_dec, ble_dec, Nat.reduceEqDiff, Nat.reduceLeDiff, decide_true, decide_false, Bool.and_self, Bool.and_true, Bool.true_and]; rfl)) ?_
          first | refine S.new (q_buildSlice (cl := true) am_el25 am_ze36 am_cl36 rfl (by simp only [fillAV, rowsOf, cellsAV, splice, Value.oneCell', cond_true, cond_false, Option.bind_some, Option.map_some, List.getElem?_cons_zero, List.getElem?_cons_succ, List.length_cons, List.length_nil, List.take_succ_cons, List.take_zero, List.drop_succ_cons, List.drop_zero, List.nil_append, List.cons_append, List.append_nil, Nat.reduceAdd, beq_dec, ble_dec, Nat.reduceEqDiff, Nat.reduceLeDiff, decide_true, decide_false, Bool.and_self, Bool.and_true, Bool.true_and]; rfl) rfl rfl) rfl rfl ?_ | refine S.new (q_buildSlice (cl := false) am_el25 am_ze36 am_cl36 rfl (by simp only [fillAV, rowsOf, cellsAV, splice, Value.oneCell', cond_true, cond_false, Option.bind_some, Option.map_some, List.getElem?_cons_zero, List.getElem?_cons_succ, List.length_cons, List.length_nil, List.take_succ_cons, List.take_zero, List.drop_succ_cons, List.drop_zero, List.nil_append, List.cons_append, List.append_nil, Nat.reduceAdd, beq_dec, ble_dec, Nat.reduceEqDiff, Nat.reduceLeDiff, decide_true, decide_false, Bool.and_self, Bool.and_true, Bool.true_and]; rfl) rfl rfl) rfl rfl ?_
          first | refine S.ap (cl' := true) rfl rfl am_el25 am_ze36 am_cl36 am_by36 rfl rfl rfl (by first | exact head_nil | exact head_own rfl (by first | exact List.length_map _ | (simp only [List.length_map, List.length_append, List.length_cons, List.length_nil, Nat.zero_add]; done) | rfl)) (by first | exact rows_own rfl (by first | exact List.length_map _ | (simp only [List.length_map, List.length_append, List.length_cons, List.length_nil, Nat.zero_add]; done) | rfl) | rfl) (by first | exact within_own rfl (by first | exact List.length_map _ | (simp only [List.length_map, List.length_append, List.length_cons, List.length_nil, Nat.zero_add]; done) | rfl) | rfl) (by (try simp only [List.length_map, List.length_cons, List.length_nil, Nat.zero_add, Nat.add_zero]); rfl) (by first | omega | assumption) (by first | omega | assumption) (by (try simp only [List.nil_append, List.append_nil]); rfl) rfl (by (try simp only [splice, del_cons, del_nil, List.set_cons_zero, List.set_cons_succ, List.take_succ_cons, List.take_zero, List.drop_succ_cons, List.drop_zero, List.nil_append, List.cons_append, List.append_nil, List.length_cons, List.length_nil, Nat.reduceAdd, Nat.reduceEqDiff, reduceIte]); rfl) ?_ | refine S.ap (cl' := false) rfl rfl am_el25 am_ze36 am_cl36 am_by36 rfl rfl rfl (by first | exact head_nil | exact head_own rfl (by first | exact List.length_map _ | (simp only [List.length_map, List.length_append, List.length_cons, List.length_nil, Nat.zero_add]; done) | rfl)) (by first | exact rows_own rfl (by first | exact List.length_map _ | (simp only [List.length_map, List.length_append, List.length_cons, List.length_nil, Nat.zero_add]; done) | rfl) | rfl) (by first | exact within_own rfl (by first | exact List.length_map _ | (simp only [List.length_map, List.length_append, List.length_cons, List.length_nil, Nat.zero_add]; done) | rfl) | rfl) (by (try simp only [List.length_map, List.length_cons, List.length_nil, Nat.zero_add, Nat.add_zero]); rfl) (by first | omega | assumption) (by first | omega | assumption) (by (try simp only [List.nil_append, List.append_nil]); rfl) rfl (by (try simp only [splice, del_cons, del_nil, List.set_cons_zero, List.set_cons_succ, List.take_succ_cons, List.take_zero, List.drop_succ_cons, List.drop_zero, List.nil_append, List.cons_append, List.append_nil, List.length_cons, List.length_nil, Nat.reduceAdd, Nat.reduceEqDiff, reduceIte]); rfl) ?_
          refine S.q rfl rfl (q_assign rfl) ?_
          refine S.end (hK _ ?_)
          clear hK K
          try show Ev _ _ _ _
          repeat refine Ev.seq ?_
          refine Ev.region_S fun K hK => ?_
          refine S.q rfl rfl (q_add rfl rfl (by first | omega | assumption) (by first | omega | assumption)) ?_
          refine S.q rfl rfl (q_move rfl) ?_
          refine S.end (hK _ ?_)
          clear hK K
          try show Ev _ _ _ _
          refine ⟨⟨((pre ++ [s], nx :: suf), [(s.1, nx.1)]), by rw [← hp]; simp, by rw [hok, levGo, if_neg h1]; rfl, by simp⟩, by simp, ?_⟩
          refine Wk.ren [55] (by decide) ?_ ?_ rfl rfl rfl (fun i hi => absurd hi (Nat.not_lt_zero i))
          · simp only [slotsRen, renAV, argSlots, St.get, find_cons, reduceIte, Nat.reduceEqDiff, Nat.reduceAdd, Nat.reduceMul, and_self, pos_cons, Option.map_some, List.length_append, List.length_cons, List.length_nil, Nat.zero_add, Int.natCast_add, Int.cast_ofNat_Int, stepC, List.map_append, List.map_cons, List.map_nil]
          · simp only [keepObjs, find_cons, del_cons, del_nil, reduceIte, Nat.reduceEqDiff, Nat.reduceAdd, Nat.reduceMul, Option.bind_some, renObj, List.nil_append, stepC, List.map_append, List.map_cons, List.map_nil]
        · rw [List.concat_eq_append] at hacc
          subst hacc
          have hl0 : 0 < (acc' ++ [o]).length := by simp
          have hlast' : (acc' ++ [o])[(((acc' ++ [o]).length : Int) - 1).toNat]? = some o := by simp
          by_cases h2 : o.2 = s.1
          · repeat refine Ev.seq ?_
            refine Ev.region_D [[], [true], [true, true], [true, true, true], [true, true, true], [true, true, true, false, true], [true, true, true, true, true, true], [true, true, true, true, true, true, true], [true, true, true, true, true, true, true, true], [true, true, true], [true, true, true, false, false, false, false, false, false, true], [true, true, true, true, true, true, true, true, true, true, true], [true, true, true, true, true, true, true, true, true, true, true, true]] 13 0 rfl rfl rfl rfl fun K hK => ?_
            refine D.q rfl (q_move rfl) ?_
            first | refine D.q rfl (q_gtr_t rfl rfl (by first | omega | assumption)) ?_ | refine D.q rfl (q_gtr_f rfl rfl (by first | omega | assumption)) ?_ | refine D.q rfl (q_gtr rfl rfl) ?_
            refine D.q rfl (q_move rfl) ?_
            first | refine D.skip rfl ?_ | refine D.q rfl (q_move rfl) ?_
            first | refine D.skip rfl ?_ | refine D.q rfl (q_move rfl) ?_
            first | refine D.skip rfl ?_ | refine D.q rfl (q_sub rfl rfl (by first | omega | assumption) (by first | omega | assumption)) ?_
            first | refine D.skip rfl ?_ | refine D.q rfl (q_ia am_el25 am_cl36 rfl rfl rfl rfl rfl (by first | omega | assumption) (by first | omega | assumption) rfl) ?_ | refine D.q rfl (q_ias am_el25 am_cl36 rfl rfl rfl (by first | omega | assumption) (by first | (simp only [List.getElem?_map, Int.toNat_natCast, Nat.zero_add, Option.map_some, hlast']; rfl) | rfl)) ?_
            first | refine D.skip rfl ?_ | refine D.q rfl (q_fa am_fi36_1 am_cl3 rfl rfl rfl) ?_ | refine D.q rfl (q_fas am_fi36_1 am_cl3 rfl rfl rfl) ?_
            first | refine D.skip rfl ?_ | refine D.q rfl (q_load1 am_ag3 rfl rfl) ?_ | refine D.q rfl (q_load1 am_ag3 rfl (cells_adr rfl (by first | (simp only [List.getElem?_map, Int.toNat_natCast, Nat.zero_add, Option.map_some, hlast']; rfl) | rfl) rfl)) ?_
            first | refine D.skip rfl ?_ | refine D.q rfl (q_fa am_fi57_0 am_cl3 rfl rfl rfl) ?_ | refine D.q rfl (q_fas am_fi57_0 am_cl3 rfl rfl rfl) ?_
            first | refine D.skip rfl ?_ | refine D.q rfl (q_load1 am_ag3 rfl rfl) ?_ | refine D.q rfl (q_load1 am_ag3 rfl (cells_adr rfl (by first | (simp only [List.getElem?_map, Int.toNat_natCast, Nat.zero_add, Option.map_some, hlast']; rfl) | rfl) rfl)) ?_
            first | refine D.skip rfl ?_ | refine D.q rfl (q_eql_t rfl rfl (by first | omega | assumption)) ?_ | refine D.q rfl (q_eql_f rfl rfl (by first | omega | assumption)) ?_ | refine D.q rfl (q_eql rfl rfl) ?_
            first | refine D.q rfl (q_pick_t rfl rfl) ?_ | refine D.q rfl (q_pick_f rfl rfl) ?_
            refine D.end ?_
            refine S.end (hK _ ?_)
            clear hK K
            try show Ev _ _ _ _
            repeat refine Ev.seq ?_
            refine Ev.cond rfl (fun h => ?_) (fun h => ?_)
            rotate_left
            · cases h
            repeat refine Ev.seq ?_
            refine Ev.region_S fun K hK => ?_
            refine S.q rfl rfl (q_move rfl) ?_
            refine S.q rfl rfl (q_move rfl) ?_
            refine S.q rfl rfl (q_sub rfl rfl (by first | omega | assumption) (by first | omega | assumption)) ?_
            refine S.q rfl rfl (q_move rfl) ?_
            first | refine S.q rfl rfl (q_ia am_el25 am_cl36 rfl rfl rfl rfl rfl (by first | omega | assumption) (by first | omega | assumption) rfl) ?_ | refine S.q rfl rfl (q_ias am_el25 am_cl36 rfl rfl rfl (by first | omega | assumption) (by first | (simp only [List.getElem?_map, Int.toNat_natCast, Nat.zero_add, Option.map_some, hlast', stepC]; rfl) | rfl)) ?_
            first | refine S.q rfl rfl (q_fa am_fi36_1 am_cl3 rfl rfl rfl) ?_ | refine S.q rfl rfl (q_fas am_fi36_1 am_cl3 rfl rfl rfl) ?_
            first | refine S.st (cl' := true) rfl am_in3 am_cl3 rfl rfl rfl (by first | (simp only [List.getElem?_map, Int.toNat_natCast, Nat.zero_add, Option.map_some, hlast', stepC]; rfl) | rfl) rfl rfl (by (try simp only [stepC, splice, del_cons, del_nil, List.set_cons_zero, List.set_cons_succ, List.take_succ_cons, List.take_zero, List.drop_succ_cons, List.drop_zero, List.nil_append, List.cons_append, List.append_nil, List.length_cons, List.length_nil, Nat.reduceAdd, Nat.reduceEqDiff, reduceIte]); rfl) (by (try simp only [stepC, splice, del_cons, del_nil, List.set_cons_zero, List.set_cons_succ, List.take_succ_cons, List.take_zero, List.drop_succ_cons, List.drop_zero, List.nil_append, List.cons_append, List.append_nil, List.length_cons, List.length_nil, Nat.reduceAdd, Nat.reduceEqDiff, reduceIte]); rfl) rfl (by (try simp only [stepC, splice, del_cons, del_nil, List.set_cons_zero, List.set_cons_succ, List.take_succ_cons, List.take_zero, List.drop_succ_cons, List.drop_zero, List.nil_append, List.cons_append, List.append_nil, List.length_cons, List.length_nil, Nat.reduceAdd, Nat.reduceEqDiff, reduceIte]); rfl) ?_ | refine S.st (cl' := false) rfl am_in3 am_cl3 rfl rfl rfl (by first | (simp only [List.getElem?_map, Int.toNat_natCast, Nat.zero_add, Option.map_some, hlast', stepC]; rfl) | rfl) rfl rfl (by (try simp only [stepC, splice, del_cons, del_nil, List.set_cons_zero, List.set_cons_succ, List.take_succ_cons, List.take_zero, List.drop_succ_cons, List.drop_zero, List.nil_append, List.cons_append, List.append_nil, List.length_cons, List.length_nil, Nat.reduceAdd, Nat.reduceEqDiff, reduceIte]); rfl) (by (try simp only [stepC, splice, del_cons, del_nil, List.set_cons_zero, List.set_cons_succ, List.take_succ_cons, List.take_zero, List.drop_succ_cons, List.drop_zero, List.nil_append, List.cons_append, List.append_nil, List.length_cons, List.length_nil, Nat.reduceAdd, Nat.reduceEqDiff, reduceIte]); rfl) rfl (by (try simp only [stepC, splice, del_cons, del_nil, List.set_cons_zero, List.set_cons_succ, List.take_succ_cons, List.take_zero, List.drop_succ_cons, List.drop_zero, List.nil_append, List.cons_append, List.append_nil, List.length_cons, List.length_nil, Nat.reduceAdd, Nat.reduceEqDiff, reduceIte]); rfl) ?_
            refine S.end (hK _ ?_)
            clear hK K
            try show Ev _ _ _ _
            refine Ev.exit ?_
            show Ev _ _ _ _
            repeat refine Ev.seq ?_
            refine Ev.region_S fun K hK => ?_
            refine S.q rfl rfl (q_add rfl rfl (by first | omega | assumption) (by first | omega | assumption)) ?_
            refine S.q rfl rfl (q_move rfl) ?_
            refine S.end (hK _ ?_)
            clear hK K
            try show Ev _ _ _ _
            refine ⟨⟨((pre ++ [s], nx :: suf), acc' ++ [(o.1, nx.1)]), by rw [← hp]; simp, by rw [hok, levGo, if_neg h1, levAdd]; simp [h2], by simp at hac ⊢; omega⟩, by simp, ?_⟩
            refine Wk.ren [0] (by decide) ?_ ?_ rfl rfl rfl (fun i hi => absurd hi (Nat.not_lt_zero i))
            · simp only [slotsRen, renAV, argSlots, St.get, find_cons, reduceIte, Nat.reduceEqDiff, Nat.reduceAdd, Nat.reduceMul, and_self, pos_cons, Option.map_some, List.length_append, List.length_cons, List.length_nil, Nat.zero_add, Int.natCast_add, Int.cast_ofNat_Int, map_set_last' acc' o o.1 nx.1]
            · simp only [keepObjs, find_cons, del_cons, del_nil, reduceIte, Nat.reduceEqDiff, Nat.reduceAdd, Nat.reduceMul, Option.bind_some, renObj, List.nil_append, map_set_last' acc' o o.1 nx.1]
          · repeat refine Ev.seq ?_
            refine Ev.region_D [[], [true], [true, true], [true, true, true], [true, true, true], [true, true, true, false, true], [true, true, true, true, true, true], [true, true, true, true, true, true, true], [true, true, true, true, true, true, true, true], [true, true, true], [true, true, true, false, false, false, false, false, false, true], [true, true, true, true, true, true, true, true, true, true, true], [true, true, true, true, true, true, true, true, true, true, true, true]] 13 0 rfl rfl rfl rfl fun K hK => ?_
            refine D.q rfl (q_move rfl) ?_
            first | refine D.q rfl (q_gtr_t rfl rfl (by first | omega | assumption)) ?_ | refine D.q rfl (q_gtr_f rfl rfl (by first | omega | assumption)) ?_ | refine D.q rfl (q_gtr rfl rfl) ?_
            refine D.q rfl (q_move rfl) ?_
            first | refine D.skip rfl ?_ | refine D.q rfl (q_move rfl) ?_
            first | refine D.skip rfl ?_ | refine D.q rfl (q_move rfl) ?_
            first | refine D.skip rfl ?_ | refine D.q rfl (q_sub rfl rfl (by first | omega | assumption) (by first | omega | assumption)) ?_
            first | refine D.skip rfl ?_ | refine D.q rfl (q_ia am_el25 am_cl36 rfl rfl rfl rfl rfl (by first | omega | assumption) (by first | omega | assumption) rfl) ?_ | refine D.q rfl (q_ias am_el25 am_cl36 rfl rfl rfl (by first | omega | assumption) (by first | (simp only [List.getElem?_map, Int.toNat_natCast, Nat.zero_add, Option.map_some, hlast']; rfl) | rfl)) ?_
            first | refine D.skip rfl ?_ | refine D.q rfl (q_fa am_fi36_1 am_cl3 rfl rfl rfl) ?_ | refine D.q rfl (q_fas am_fi36_1 am_cl3 rfl rfl rfl) ?_
            first | refine D.skip rfl ?_ | refine D.q rfl (q_load1 am_ag3 rfl rfl) ?_ | refine D.q rfl (q_load1 am_ag3 rfl (cells_adr rfl (by first | (simp only [List.getElem?_map, Int.toNat_natCast, Nat.zero_add, Option.map_some, hlast']; rfl) | rfl) rfl)) ?_
            first | refine D.skip rfl ?_ | refine D.q rfl (q_fa am_fi57_0 am_cl3 rfl rfl rfl) ?_ | refine D.q rfl (q_fas am_fi57_0 am_cl3 rfl rfl rfl) ?_
            first | refine D.skip rfl ?_ | refine D.q rfl (q_load1 am_ag3 rfl rfl) ?_ | refine D.q rfl (q_load1 am_ag3 rfl (cells_adr rfl (by first | (simp only [List.getElem?_map, Int.toNat_natCast, Nat.zero_add, Option.map_some, hlast']; rfl) | rfl) rfl)) ?_
            first | refine D.skip rfl ?_ | refine D.q rfl (q_eql_t rfl rfl (by first | omega | assumption)) ?_ | refine D.q rfl (q_eql_f rfl rfl (by first | omega | assumption)) ?_ | refine D.q rfl (q_eql rfl rfl) ?_
            first | refine D.q rfl (q_pick_t rfl rfl) ?_ | refine D.q rfl (q_pick_f rfl rfl) ?_
            refine D.end ?_
            refine S.end (hK _ ?_)
            clear hK K
            try show Ev _ _ _ _
            repeat refine Ev.seq ?_
            refine Ev.cond rfl (fun h => ?_) (fun h => ?_)
            · cases h
            refine Ev.skip ?_
            show Ev _ _ _ _
            repeat refine Ev.seq ?_
            refine Ev.region_S fun K hK => ?_
            refine S.q rfl rfl (q_move rfl) ?_
            first | refine S.q rfl rfl (q_fa am_fi57_0 am_cl3 rfl rfl rfl) ?_ | refine S.q rfl rfl (q_fas am_fi57_0 am_cl3 rfl rfl rfl) ?_
            first | refine S.q rfl rfl (q_load1 am_ag3 rfl rfl) ?_ | refine S.q rfl rfl (q_load1 am_ag3 rfl (cells_adr rfl rfl rfl)) ?_
            refine S.q rfl rfl (q_move rfl) ?_
            refine S.q rfl rfl (q_build am_ze36 am_pl36 rfl (by simp only [fillAV, rowsOf, cellsAV, splice, Value.oneCell', cond_true, cond_false, Option.bind_some, Option.map_some, List.getElem?_cons_zero, List.getElem?_cons_succ, List.length_cons, List.length_nil, List.take_succ_cons, List.take_zero, List.drop_succ_cons, List.drop_zero, List.nil_append, List.cons_append, List.append_nil, Nat.reduceAdd, beq_dec, ble_dec, Nat.reduceEqDiff, Nat.reduceLeDiff, decide_true, decide_false, Bool.and_self, Bool.and_true, Bool.true_and]; rfl)) ?_
            first | refine S.new (q_buildSlice (cl := true) am_el25 am_ze36 am_cl36 rfl (by simp only [fillAV, rowsOf, cellsAV, splice, Value.oneCell', cond_true, cond_false, Option.bind_some, Option.map_some, List.getElem?_cons_zero, List.getElem?_cons_succ, List.length_cons, List.length_nil, List.take_succ_cons, List.take_zero, List.drop_succ_cons, List.drop_zero, List.nil_append, List.cons_append, List.append_nil, Nat.reduceAdd, beq_dec, ble_dec, Nat.reduceEqDiff, Nat.reduceLeDiff, decide_true, decide_false, Bool.and_self, Bool.and_true, Bool.true_and]; rfl) rfl rfl) rfl rfl ?_ | refine S.new (q_buildSlice (cl := false) am_el25 am_ze36 am_cl36 rfl (by simp only [fillAV, rowsOf, cellsAV, splice, Value.oneCell', cond_true, cond_false, Option.bind_some, Option.map_some, List.getElem?_cons_zero, List.getElem?_cons_succ, List.length_cons, List.length_nil, List.take_succ_cons, List.take_zero, List.drop_succ_cons, List.drop_zero, List.nil_append, List.cons_append, List.append_nil, Nat.reduceAdd, beq_dec, ble_dec, Nat.reduceEqDiff, Nat.reduceLeDiff, decide_true, decide_false, Bool.and_self, Bool.and_true, Bool.true_and]; rfl) rfl rfl) rfl rfl ?_
            first | refine S.ap (cl' := true) rfl rfl am_el25 am_ze36 am_cl36 am_by36 rfl rfl rfl (by first | exact head_nil | exact head_own rfl (by first | exact List.length_map _ | (simp only [List.length_map, List.length_append, List.length_cons, List.length_nil, Nat.zero_add]; done) | rfl)) (by first | exact rows_own rfl (by first | exact List.length_map _ | (simp only [List.length_map, List.length_append, List.length_cons, List.length_nil, Nat.zero_add]; done) | rfl) | rfl) (by first | exact within_own rfl (by first | exact List.length_map _ | (simp only [List.length_map, List.length_append, List.length_cons, List.length_nil, Nat.zero_add]; done) | rfl) | rfl) (by (try simp only [List.length_map, List.length_cons, List.length_nil, Nat.zero_add, Nat.add_zero]); rfl) (by first | omega | assumption) (by first | omega | assumption) (by (try simp only [List.nil_append, List.append_nil]); rfl) rfl (by (try simp only [splice, del_cons, del_nil, List.set_cons_zero, List.set_cons_succ, List.take_succ_cons, List.take_zero, List.drop_succ_cons, List.drop_zero, List.nil_append, List.cons_append, List.append_nil, List.length_cons, List.length_nil, Nat.reduceAdd, Nat.reduceEqDiff, reduceIte]); rfl) ?_ | refine S.ap (cl' := false) rfl rfl am_el25 am_ze36 am_cl36 am_by36 rfl rfl rfl (by first | exact head_nil | exact head_own rfl (by first | exact List.length_map _ | (simp only [List.length_map, List.length_append, List.length_cons, List.length_nil, Nat.zero_add]; done) | rfl)) (by first | exact rows_own rfl (by first | exact List.length_map _ | (simp only [List.length_map, List.length_append, List.length_cons, List.length_nil, Nat.zero_add]; done) | rfl) | rfl) (by first | exact within_own rfl (by first | exact List.length_map _ | (simp only [List.length_map, List.length_append, List.length_cons, List.length_nil, Nat.zero_add]; done) | rfl) | rfl) (by (try simp only [List.length_map, List.length_cons, List.length_nil, Nat.zero_add, Nat.add_zero]); rfl) (by first | omega | assumption) (by first | omega | assumption) (by (try simp only [List.nil_append, List.append_nil]); rfl) rfl (by (try simp only [splice, del_cons, del_nil, List.set_cons_zero, List.set_cons_succ, List.take_succ_cons, List.take_zero, List.drop_succ_cons, List.drop_zero, List.nil_append, List.cons_append, List.append_nil, List.length_cons, List.length_nil, Nat.reduceAdd, Nat.reduceEqDiff, reduceIte]); rfl) ?_
            refine S.q rfl rfl (q_assign rfl) ?_
            refine S.end (hK _ ?_)
            clear hK K
            try show Ev _ _ _ _
            repeat refine Ev.seq ?_
            refine Ev.region_S fun K hK => ?_
            refine S.q rfl rfl (q_add rfl rfl (by first | omega | assumption) (by first | omega | assumption)) ?_
            refine S.q rfl rfl (q_move rfl) ?_
            refine S.end (hK _ ?_)
            clear hK K
            try show Ev _ _ _ _
            refine ⟨⟨((pre ++ [s], nx :: suf), acc' ++ [o] ++ [(s.1, nx.1)]), by rw [← hp]; simp, by rw [hok, levGo, if_neg h1, levAdd]; simp [h2], by simp at hac ⊢; omega⟩, by simp, ?_⟩
            refine Wk.ren [55] (by decide) ?_ ?_ rfl rfl rfl (fun i hi => absurd hi (Nat.not_lt_zero i))
            · simp only [slotsRen, renAV, argSlots, St.get, find_cons, reduceIte, Nat.reduceEqDiff, Nat.reduceAdd, Nat.reduceMul, and_self, pos_cons, Option.map_some, List.length_append, List.length_cons, List.length_nil, Nat.zero_add, Int.natCast_add, Int.cast_ofNat_Int, stepC, List.map_append, List.map_cons, List.map_nil]
            · simp only [keepObjs, find_cons, del_cons, del_nil, reduceIte, Nat.reduceEqDiff, Nat.reduceAdd, Nat.reduceMul, Option.bind_some, renObj, List.nil_append, stepC, List.map_append, List.map_cons, List.map_nil]
end Go.Proofs.Ytigjoaejncfmdaa
