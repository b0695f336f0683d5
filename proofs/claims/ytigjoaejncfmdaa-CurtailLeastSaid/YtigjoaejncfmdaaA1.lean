-- TYPES 3 4 22 57
import Derived.Test.YtigjoaejncfmdaaAmRule
import Derived.Test.YtigjoaejncfmdaaAmFacts
namespace Go.Proofs.Ytigjoaejncfmdaa
open Go Go.AM
set_option linter.unusedSimpArgs false
set_option maxRecDepth 100000
-- PP
def stepC : Int × Int → List AV
  | (a, b) => [.lit (.int .i64 a), .lit (.int .i64 b)]

def Place (n : Int) : Prop := -1048576 ≤ n ∧ n ≤ 1048576
instance (n : Int) : Decidable (Place n) := by unfold Place; infer_instance

theorem place_fun (n : Int) : Fun Try.prog 64 [.lit (.int .i64 n)] (Ret (.lit (.bool (decide (Place n)))) []) := by
  refine Fun.of (nt := 9) (rs := [.tmp 2]) Try.func64 rfl rfl rfl rfl rfl ?_
  repeat refine Ev.seq ?_
  refine Ev.region_S fun K hK => ?_
  refine S.q rfl rfl (q_assign rfl) ?_
  refine S.end (hK _ ?_)
  clear hK K
  try show Ev _ _ _ _
  by_cases h1 : -1048576 ≤ n
  · by_cases h2 : n ≤ 1048576
    · repeat refine Ev.seq ?_
      refine Ev.region_S fun K hK => ?_
      refine S.q rfl rfl (q_move rfl) ?_
      first | refine S.q rfl rfl (q_geq_t rfl rfl (by first | omega | assumption)) ?_ | refine S.q rfl rfl (q_geq_f rfl rfl (by first | omega | assumption)) ?_ | refine S.q rfl rfl (q_geq rfl rfl) ?_
      refine S.q rfl rfl (q_move rfl) ?_
      first | refine S.skip rfl rfl ?_ | refine S.q rfl rfl (q_move rfl) ?_
      first | refine S.skip rfl rfl ?_ | refine S.q rfl rfl (q_leq_t rfl rfl (by first | omega | assumption)) ?_ | refine S.q rfl rfl (q_leq_f rfl rfl (by first | omega | assumption)) ?_ | refine S.q rfl rfl (q_leq rfl rfl) ?_
      first | refine S.q rfl rfl (q_pick_t rfl rfl) ?_ | refine S.q rfl rfl (q_pick_f rfl rfl) ?_
      refine S.q rfl rfl (q_assign rfl) ?_
      refine S.end (hK _ ?_)
      clear hK K
      try show Ev _ _ _ _
      have : Place n := ⟨h1, h2⟩
      repeat refine Ev.seq ?_
      refine Ev.ret ?_
      refine ⟨[], List.nodup_nil, ?_⟩
      simp only [retP, resAV, packAV, renAV, renL, keepObjs, St.get, find_cons, reduceIte, Option.map_some, Nat.reduceEqDiff, Ret, and_self, this, decide_true]
    · repeat refine Ev.seq ?_
      refine Ev.region_S fun K hK => ?_
      refine S.q rfl rfl (q_move rfl) ?_
      first | refine S.q rfl rfl (q_geq_t rfl rfl (by first | omega | assumption)) ?_ | refine S.q rfl rfl (q_geq_f rfl rfl (by first | omega | assumption)) ?_ | refine S.q rfl rfl (q_geq rfl rfl) ?_
      refine S.q rfl rfl (q_move rfl) ?_
      first | refine S.skip rfl rfl ?_ | refine S.q rfl rfl (q_move rfl) ?_
      first | refine S.skip rfl rfl ?_ | refine S.q rfl rfl (q_leq_t rfl rfl (by first | omega | assumption)) ?_ | refine S.q rfl rfl (q_leq_f rfl rfl (by first | omega | assumption)) ?_ | refine S.q rfl rfl (q_leq rfl rfl) ?_
      first | refine S.q rfl rfl (q_pick_t rfl rfl) ?_ | refine S.q rfl rfl (q_pick_f rfl rfl) ?_
      refine S.q rfl rfl (q_assign rfl) ?_
      refine S.end (hK _ ?_)
      clear hK K
      try show Ev _ _ _ _
      have : ¬ Place n := fun h => h2 h.2
      repeat refine Ev.seq ?_
      refine Ev.ret ?_
      refine ⟨[], List.nodup_nil, ?_⟩
      simp only [retP, resAV, packAV, renAV, renL, keepObjs, St.get, find_cons, reduceIte, Option.map_some, Nat.reduceEqDiff, Ret, and_self, this, decide_false]
  · repeat refine Ev.seq ?_
    refine Ev.region_S fun K hK => ?_
    refine S.q rfl rfl (q_move rfl) ?_
    first | refine S.q rfl rfl (q_geq_t rfl rfl (by first | omega | assumption)) ?_ | refine S.q rfl rfl (q_geq_f rfl rfl (by first | omega | assumption)) ?_ | refine S.q rfl rfl (q_geq rfl rfl) ?_
    refine S.q rfl rfl (q_move rfl) ?_
    first | refine S.skip rfl rfl ?_ | refine S.q rfl rfl (q_move rfl) ?_
    first | refine S.skip rfl rfl ?_ | refine S.q rfl rfl (q_leq_t rfl rfl (by first | omega | assumption)) ?_ | refine S.q rfl rfl (q_leq_f rfl rfl (by first | omega | assumption)) ?_ | refine S.q rfl rfl (q_leq rfl rfl) ?_
    first | refine S.q rfl rfl (q_pick_t rfl rfl) ?_ | refine S.q rfl rfl (q_pick_f rfl rfl) ?_
    refine S.q rfl rfl (q_assign rfl) ?_
    refine S.end (hK _ ?_)
    clear hK K
    try show Ev _ _ _ _
    have : ¬ Place n := fun h => h1 h.1
    repeat refine Ev.seq ?_
    refine Ev.ret ?_
    refine ⟨[], List.nodup_nil, ?_⟩
    simp only [retP, resAV, packAV, renAV, renL, keepObjs, St.get, find_cons, reduceIte, Option.map_some, Nat.reduceEqDiff, Ret, and_self, this, decide_false]

theorem place_t {n : Int} (h : Place n) : Fun Try.prog 64 [.lit (.int .i64 n)] (Ret (.lit (.bool true)) []) := by
  have := place_fun n
  rwa [decide_eq_true h] at this
theorem place_f {n : Int} (h : ¬ Place n) : Fun Try.prog 64 [.lit (.int .i64 n)] (Ret (.lit (.bool false)) []) := by
  have := place_fun n
  rwa [decide_eq_false h] at this

/-- One step is right behind another, or is the first. -/
def okStep (p : Option (Int × Int)) (s : Int × Int) : Prop := Place s.1 ∧ 0 ≤ s.2 ∧ s.2 ≤ 1099511627776 ∧ ∀ q, p = some q → q.1 < s.1
def okL : Option (Int × Int) → List (Int × Int) → Prop
  | _, [] => True
  | p, s :: l => okStep p s ∧ okL (some s) l
def OKSteps (l : List (Int × Int)) : Prop := l.length ≤ 200 ∧ okL none l
instance (p) (s) : Decidable (okStep p s) := by
  unfold okStep
  cases p with
  | none => exact decidable_of_iff (Place s.1 ∧ 0 ≤ s.2 ∧ s.2 ≤ 1099511627776) (by simp)
  | some q => exact decidable_of_iff (Place s.1 ∧ 0 ≤ s.2 ∧ s.2 ≤ 1099511627776 ∧ q.1 < s.1) (by simp)
instance okLDec : ∀ (p) (l), Decidable (okL p l)
  | _, [] => .isTrue trivial
  | p, s :: l => by
    unfold okL
    have := okLDec (some s) l
    infer_instance
instance (l) : Decidable (OKSteps l) := by unfold OKSteps; infer_instance

theorem valid_fun (l : List (Int × Int)) : Fun Try.prog 47 [.sh 2 (l.map stepC)] (Ret (.lit (.bool (decide (OKSteps l)))) []) := by
  refine Fun.of (nt := 45) (rs := [.tmp 2]) Try.func47 rfl rfl rfl rfl rfl ?_
  repeat refine Ev.seq ?_
  refine Ev.region_S fun K hK => ?_
  refine S.q rfl rfl (q_assign rfl) ?_
  refine S.end (hK _ ?_)
  clear hK K
  try show Ev _ _ _ _
  by_cases hlen : l.length ≤ 200
  case neg =>
    repeat refine Ev.seq ?_
    refine Ev.region_S fun K hK => ?_
    refine S.q rfl rfl (q_move rfl) ?_
    refine S.q rfl rfl (q_len am_el22 rfl (by simp only [lenAV, List.length_map]; rfl)) ?_
    first | refine S.q rfl rfl (q_gtr_t rfl rfl (by first | omega | assumption)) ?_ | refine S.q rfl rfl (q_gtr_f rfl rfl (by first | omega | assumption)) ?_ | refine S.q rfl rfl (q_gtr rfl rfl) ?_
    refine S.end (hK _ ?_)
    clear hK K
    try show Ev _ _ _ _
    repeat refine Ev.seq ?_
    refine Ev.cond rfl (fun h => ?_) (fun h => ?_)
    · show Ev _ _ _ _
      repeat refine Ev.seq ?_
      refine Ev.region_S fun K hK => ?_
      refine S.q rfl rfl (q_assign rfl) ?_
      refine S.end (hK _ ?_)
      clear hK K
      try show Ev _ _ _ _
      have hno : ¬ OKSteps l := fun h' => hlen h'.1
      repeat refine Ev.seq ?_
      refine Ev.ret ?_
      refine ⟨[], List.nodup_nil, ?_⟩
      simp only [retP, resAV, packAV, renAV, renL, keepObjs, St.get, find_cons, reduceIte, Option.map_some, Nat.reduceEqDiff, Ret, and_self, hno, decide_false]
    · cases h
  repeat refine Ev.seq ?_
  refine Ev.region_S fun K hK => ?_
  refine S.q rfl rfl (q_move rfl) ?_
  refine S.q rfl rfl (q_len am_el22 rfl (by simp only [lenAV, List.length_map]; rfl)) ?_
  first | refine S.q rfl rfl (q_gtr_t rfl rfl (by first | omega | assumption)) ?_ | refine S.q rfl rfl (q_gtr_f rfl rfl (by first | omega | assumption)) ?_ | refine S.q rfl rfl (q_gtr rfl rfl) ?_
  refine S.end (hK _ ?_)
  clear hK K
  try show Ev _ _ _ _
  repeat refine Ev.seq ?_
  refine Ev.cond rfl (fun h => ?_) (fun h => ?_)
  · cases h
  refine Ev.skip ?_
  show Ev _ _ _ _
  repeat refine Ev.seq ?_
  refine Ev.region_S fun K hK => ?_
  refine S.q rfl rfl (q_move rfl) ?_
  refine S.q rfl rfl (q_len am_el22 rfl (by simp only [lenAV, List.length_map]; rfl)) ?_
  refine S.q rfl rfl (q_move rfl) ?_
  refine S.end (hK _ ?_)
  clear hK K
  try show Ev _ _ _ _
  refine Ev.block (Ev.loop (ι := {p : List (Int × Int) × List (Int × Int) // p.1 ++ p.2 = l ∧ (okL none l ↔ okL p.1.getLast? p.2)}) (fun p => ⟨[(0, .sh 2 (l.map stepC)), (8, .sh 2 (l.map stepC)), (9, .lit (.int .i64 l.length)), (10, .lit (.int .i64 p.1.1.length))], [], 0, 45, 0⟩)
      (fun p => p.1.2.length) ⟨([], l), rfl, Iff.rfl⟩ ?_ ?_)
  · refine Wk.ren [] List.nodup_nil ?_ rfl rfl rfl rfl (fun i hi => absurd hi (Nat.not_lt_zero i))
    simp only [slotsRen, renAV, argSlots, St.get, find_cons, reduceIte, Nat.reduceEqDiff, and_self, List.length_nil, Int.natCast_zero, Int.ofNat_zero, Int.cast_ofNat_Int]
  · rintro ⟨⟨pre, suf⟩, hp, hok⟩
    simp only at hp hok
    dsimp only
    cases suf with
    | nil =>
      rw [List.append_nil] at hp
      subst hp
      repeat refine Ev.seq ?_
      refine Ev.region_S fun K hK => ?_
      first | refine S.q rfl rfl (q_lss_t rfl rfl (by first | omega | assumption)) ?_ | refine S.q rfl rfl (q_lss_f rfl rfl (by first | omega | assumption)) ?_ | refine S.q rfl rfl (q_lss rfl rfl) ?_
      refine S.end (hK _ ?_)
      clear hK K
      try show Ev _ _ _ _
      repeat refine Ev.seq ?_
      refine Ev.cond rfl (fun h => ?_) (fun h => ?_)
      · cases h
      refine Ev.exit ?_
      show Ev _ _ _ _
      repeat refine Ev.seq ?_
      refine Ev.region_S fun K hK => ?_
      refine S.q rfl rfl (q_assign rfl) ?_
      refine S.end (hK _ ?_)
      clear hK K
      try show Ev _ _ _ _
      have hyes : OKSteps pre := ⟨hlen, hok.2 trivial⟩
      repeat refine Ev.seq ?_
      refine Ev.ret ?_
      refine ⟨[], List.nodup_nil, ?_⟩
      simp only [retP, resAV, packAV, renAV, renL, keepObjs, St.get, find_cons, reduceIte, Option.map_some, Nat.reduceEqDiff, Ret, and_self, hyes, decide_true]
    | cons s suf =>
      have hlt : (pre.length : Int) < l.length := by rw [← hp, List.length_append, List.length_cons]; omega
      have hidx : l[pre.length]? = some s := by rw [← hp]; simp
      repeat refine Ev.seq ?_
      refine Ev.region_S fun K hK => ?_
      first | refine S.q rfl rfl (q_lss_t rfl rfl (by first | omega | assumption)) ?_ | refine S.q rfl rfl (q_lss_f rfl rfl (by first | omega | assumption)) ?_ | refine S.q rfl rfl (q_lss rfl rfl) ?_
      refine S.end (hK _ ?_)
      clear hK K
      try show Ev _ _ _ _
      repeat refine Ev.seq ?_
      refine Ev.cond rfl (fun h => ?_) (fun h => ?_)
      rotate_left
      · cases h
      refine Ev.skip ?_
      show Ev _ _ _ _
      repeat refine Ev.seq ?_
      refine Ev.block ?_
      repeat refine Ev.seq ?_
      refine Ev.region_S fun K hK => ?_
      refine S.q rfl rfl (q_move rfl) ?_
      first | refine S.q rfl rfl (q_ia am_el22 am_cl57 rfl rfl rfl rfl rfl (by first | omega | assumption) (by first | omega | assumption) rfl) ?_ | refine S.q rfl rfl (q_ias am_el22 am_cl57 rfl rfl rfl (by first | omega | assumption) (by first | (simp only [List.getElem?_map, Int.toNat_natCast, Nat.zero_add, Option.map_some, hidx]; rfl) | rfl)) ?_
      first | refine S.q rfl rfl (q_loadA am_ag57 am_cl57 rfl (cells_sadr0) rfl (take_all rfl)) ?_ | refine S.q rfl rfl (q_loadA am_ag57 am_cl57 rfl (cells_adr0 rfl (by first | (simp only [List.getElem?_map, Int.toNat_natCast, Nat.zero_add, Option.map_some, hidx]; rfl) | rfl)) rfl (take_all rfl)) ?_ | refine S.q rfl rfl (q_loadA am_ag57 am_cl57 rfl (cells_sadr (by (try simp only [splice, del_cons, del_nil, List.set_cons_zero, List.set_cons_succ, List.take_succ_cons, List.take_zero, List.drop_succ_cons, List.drop_zero, List.nil_append, List.cons_append, List.append_nil, List.length_cons, List.length_nil, Nat.reduceAdd, Nat.reduceEqDiff, reduceIte]); rfl)) rfl (by (try simp only [splice, del_cons, del_nil, List.set_cons_zero, List.set_cons_succ, List.take_succ_cons, List.take_zero, List.drop_succ_cons, List.drop_zero, List.nil_append, List.cons_append, List.append_nil, List.length_cons, List.length_nil, Nat.reduceAdd, Nat.reduceEqDiff, reduceIte]); rfl)) ?_ | refine S.q rfl rfl (q_loadA am_ag57 am_cl57 rfl (cells_adr rfl (by first | (simp only [List.getElem?_map, Int.toNat_natCast, Nat.zero_add, Option.map_some, hidx]; rfl) | rfl) (by (try simp only [splice, del_cons, del_nil, List.set_cons_zero, List.set_cons_succ, List.take_succ_cons, List.take_zero, List.drop_succ_cons, List.drop_zero, List.nil_append, List.cons_append, List.append_nil, List.length_cons, List.length_nil, Nat.reduceAdd, Nat.reduceEqDiff, reduceIte]); rfl)) rfl (by (try simp only [splice, del_cons, del_nil, List.set_cons_zero, List.set_cons_succ, List.take_succ_cons, List.take_zero, List.drop_succ_cons, List.drop_zero, List.nil_append, List.cons_append, List.append_nil, List.length_cons, List.length_nil, Nat.reduceAdd, Nat.reduceEqDiff, reduceIte]); rfl)) ?_
      refine S.new (q_alloc am_ze57 rfl) rfl rfl ?_
      refine S.q rfl rfl (q_assign rfl) ?_
      first | refine S.st (cl' := true) rfl am_in57 am_cl57 rfl rfl rfl (by first | (simp only [List.getElem?_map, Int.toNat_natCast, Nat.zero_add, Option.map_some, hidx]; rfl) | rfl) rfl rfl (by (try simp only [splice, del_cons, del_nil, List.set_cons_zero, List.set_cons_succ, List.take_succ_cons, List.take_zero, List.drop_succ_cons, List.drop_zero, List.nil_append, List.cons_append, List.append_nil, List.length_cons, List.length_nil, Nat.reduceAdd, Nat.reduceEqDiff, reduceIte]); rfl) (by (try simp only [splice, del_cons, del_nil, List.set_cons_zero, List.set_cons_succ, List.take_succ_cons, List.take_zero, List.drop_succ_cons, List.drop_zero, List.nil_append, List.cons_append, List.append_nil, List.length_cons, List.length_nil, Nat.reduceAdd, Nat.reduceEqDiff, reduceIte]); rfl) rfl (by (try simp only [splice, del_cons, del_nil, List.set_cons_zero, List.set_cons_succ, List.take_succ_cons, List.take_zero, List.drop_succ_cons, List.drop_zero, List.nil_append, List.cons_append, List.append_nil, List.length_cons, List.length_nil, Nat.reduceAdd, Nat.reduceEqDiff, reduceIte]); rfl) ?_ | refine S.st (cl' := false) rfl am_in57 am_cl57 rfl rfl rfl (by first | (simp only [List.getElem?_map, Int.toNat_natCast, Nat.zero_add, Option.map_some, hidx]; rfl) | rfl) rfl rfl (by (try simp only [splice, del_cons, del_nil, List.set_cons_zero, List.set_cons_succ, List.take_succ_cons, List.take_zero, List.drop_succ_cons, List.drop_zero, List.nil_append, List.cons_append, List.append_nil, List.length_cons, List.length_nil, Nat.reduceAdd, Nat.reduceEqDiff, reduceIte]); rfl) (by (try simp only [splice, del_cons, del_nil, List.set_cons_zero, List.set_cons_succ, List.take_succ_cons, List.take_zero, List.drop_succ_cons, List.drop_zero, List.nil_append, List.cons_append, List.append_nil, List.length_cons, List.length_nil, Nat.reduceAdd, Nat.reduceEqDiff, reduceIte]); rfl) rfl (by (try simp only [splice, del_cons, del_nil, List.set_cons_zero, List.set_cons_succ, List.take_succ_cons, List.take_zero, List.drop_succ_cons, List.drop_zero, List.nil_append, List.cons_append, List.append_nil, List.length_cons, List.length_nil, Nat.reduceAdd, Nat.reduceEqDiff, reduceIte]); rfl) ?_
      refine S.end (hK _ ?_)
      clear hK K
      try show Ev _ _ _ _
      have hfail : ¬ okStep pre.getLast? s → ¬ OKSteps l := fun h' h2 => h' (hok.1 h2.2).1
      by_cases h1 : Place s.1
      case neg =>
        have hprev : True := trivial
        repeat refine Ev.seq ?_
        refine Ev.region_D [[], [true], [true, true], [true, true, true], [true, true, true, true], [true, true, true, true, true], [true, true, true, true, true, true], [true, true, true, true, true, true, true], [true, true, true, true, true, true, true, true], [true, true, true, true, true, true, true, true, true], [true, true, true, true, true, true, true, true, true, true], [true, true, true, true, true, true, true, true, true, true, true], [true, true, true, true, true, true, true, true, true, true, true, true], [true, true, true, true, true, true, true, true, true, true, true, true, true], [true, true, true, true, true, true, true, true, true, true, true, true, true, true], [true, true, true, true, true, true, true, true, true, true, true, true, true, true, true], [true, true, true, true, true, true, true, true, true, true, true, true, true, true, true, true], [true, true, true, true, true, true, true, true, true, true, true, true, true, true, true, true, true], [true, true, true, true, true, true, true, true, true, true, true, true, true, true, true, true, true, true], [true, true, true, true, true, true, true, true, true, true, true, true, true, true, true, true, true, true, true], [true, true, true, true, true, true, true, true, true, true, true, true, true, true, true, true, true, true], [true, true, true, true, true, true, true, true, true, true, true, true, true, true, true, true, true, true], [true, true, true, true, true, true, true, true, true, true, true, true, true, true, true, true, true, true, false, false, false, true], [true, true, true, true, true, true, true, true, true, true, true, true, true, true, true, true, true, true, false, false, true, true, true], [true, true, true, true, true, true, true, true, true, true, true, true, true, true, true, true, true, true, false, false, true, true, true, true], [true, true, true, true, true, true, true, true, true, true, true, true, true, true, true, true, true, true, false, false, true, true, true, true, true], [true, true, true, true, true, true, true, true, true, true, true, true, true, true, true, true, true, true, true, true, true, true, true, true, true, true], [true, true, true, true, true, true, true, true, true, true, true, true, true, true, true, true, true, true, true, true, true, true, true, true, true, true, true], [true, true, true, true, true, true, true, true, true, true, true, true, true, true, true, true, true, true, true, true, true, true, true, true, true, true, true, true]] 29 1 rfl rfl rfl rfl fun K hK => ?_
        first | refine D.q rfl (q_fa am_fi57_0 am_cl3 rfl rfl rfl) ?_ | refine D.q rfl (q_fas am_fi57_0 am_cl3 rfl rfl rfl) ?_
        first | refine D.q rfl (q_load1 am_ag3 rfl rfl) ?_ | refine D.q rfl (q_load1 am_ag3 rfl (cells_adr rfl (by first | (simp only [List.getElem?_map, Int.toNat_natCast, Nat.zero_add, Option.map_some, hidx, hprev]; rfl) | rfl) rfl)) ?_
        refine D.call rfl (Quiet.call rfl rfl rfl (place_f h1) (.inl rfl) rfl) ?_
        first | refine D.q rfl (q_not_t rfl) ?_ | refine D.q rfl (q_not_f rfl) ?_ | refine D.q rfl (q_not rfl) ?_
        refine D.q rfl (q_move rfl) ?_
        first | refine D.skip rfl ?_ | refine D.q rfl (q_fa am_fi57_1 am_cl3 rfl rfl rfl) ?_ | refine D.q rfl (q_fas am_fi57_1 am_cl3 rfl rfl rfl) ?_
        first | refine D.skip rfl ?_ | refine D.q rfl (q_load1 am_ag3 rfl rfl) ?_ | refine D.q rfl (q_load1 am_ag3 rfl (cells_adr rfl (by first | (simp only [List.getElem?_map, Int.toNat_natCast, Nat.zero_add, Option.map_some, hidx, hprev]; rfl) | rfl) rfl)) ?_
        first | refine D.skip rfl ?_ | refine D.q rfl (q_lss_t rfl rfl (by first | omega | assumption)) ?_ | refine D.q rfl (q_lss_f rfl rfl (by first | omega | assumption)) ?_ | refine D.q rfl (q_lss rfl rfl) ?_
        first | refine D.q rfl (q_pick_t rfl rfl) ?_ | refine D.q rfl (q_pick_f rfl rfl) ?_
        refine D.q rfl (q_move rfl) ?_
        first | refine D.skip rfl ?_ | refine D.q rfl (q_fa am_fi57_1 am_cl3 rfl rfl rfl) ?_ | refine D.q rfl (q_fas am_fi57_1 am_cl3 rfl rfl rfl) ?_
        first | refine D.skip rfl ?_ | refine D.q rfl (q_load1 am_ag3 rfl rfl) ?_ | refine D.q rfl (q_load1 am_ag3 rfl (cells_adr rfl (by first | (simp only [List.getElem?_map, Int.toNat_natCast, Nat.zero_add, Option.map_some, hidx, hprev]; rfl) | rfl) rfl)) ?_
        first | refine D.skip rfl ?_ | refine D.q rfl (q_gtr_t rfl rfl (by first | omega | assumption)) ?_ | refine D.q rfl (q_gtr_f rfl rfl (by first | omega | assumption)) ?_ | refine D.q rfl (q_gtr rfl rfl) ?_
        first | refine D.q rfl (q_pick_t rfl rfl) ?_ | refine D.q rfl (q_pick_f rfl rfl) ?_
        refine D.q rfl (q_move rfl) ?_
        first | refine D.skip rfl ?_ | refine D.q rfl (q_move rfl) ?_
        first | refine D.skip rfl ?_ | refine D.q rfl (q_gtr_t rfl rfl (by first | omega | assumption)) ?_ | refine D.q rfl (q_gtr_f rfl rfl (by first | omega | assumption)) ?_ | refine D.q rfl (q_gtr rfl rfl) ?_
        first | refine D.skip rfl ?_ | refine D.q rfl (q_move rfl) ?_
        first | refine D.skip rfl ?_ | refine D.q rfl (q_fa am_fi57_0 am_cl3 rfl rfl rfl) ?_ | refine D.q rfl (q_fas am_fi57_0 am_cl3 rfl rfl rfl) ?_
        first | refine D.skip rfl ?_ | refine D.q rfl (q_load1 am_ag3 rfl rfl) ?_ | refine D.q rfl (q_load1 am_ag3 rfl (cells_adr rfl (by first | (simp only [List.getElem?_map, Int.toNat_natCast, Nat.zero_add, Option.map_some, hidx, hprev]; rfl) | rfl) rfl)) ?_
        first | refine D.skip rfl ?_ | refine D.q rfl (q_move rfl) ?_
        first | refine D.skip rfl ?_ | refine D.q rfl (q_move rfl) ?_
        first | refine D.skip rfl ?_ | refine D.q rfl (q_sub rfl rfl (by first | omega | assumption) (by first | omega | assumption)) ?_
        first | refine D.skip rfl ?_ | refine D.q rfl (q_ia am_el22 am_cl57 rfl rfl rfl rfl rfl (by first | omega | assumption) (by first | omega | assumption) rfl) ?_ | refine D.q rfl (q_ias am_el22 am_cl57 rfl rfl rfl (by first | omega | assumption) (by first | (simp only [List.getElem?_map, Int.toNat_natCast, Nat.zero_add, Option.map_some, hidx, hprev]; rfl) | rfl)) ?_
        first | refine D.skip rfl ?_ | refine D.q rfl (q_fa am_fi57_0 am_cl3 rfl rfl rfl) ?_ | refine D.q rfl (q_fas am_fi57_0 am_cl3 rfl rfl rfl) ?_
        first | refine D.skip rfl ?_ | refine D.q rfl (q_load1 am_ag3 rfl rfl) ?_ | refine D.q rfl (q_load1 am_ag3 rfl (cells_adr rfl (by first | (simp only [List.getElem?_map, Int.toNat_natCast, Nat.zero_add, Option.map_some, hidx, hprev]; rfl) | rfl) rfl)) ?_
        first | refine D.skip rfl ?_ | refine D.q rfl (q_leq_t rfl rfl (by first | omega | assumption)) ?_ | refine D.q rfl (q_leq_f rfl rfl (by first | omega | assumption)) ?_ | refine D.q rfl (q_leq rfl rfl) ?_
        first | refine D.skip rfl ?_ | refine D.q rfl (q_pick_t rfl rfl) ?_ | refine D.q rfl (q_pick_f rfl rfl) ?_
        first | refine D.q rfl (q_pick_t rfl rfl) ?_ | refine D.q rfl (q_pick_f rfl rfl) ?_
        refine D.end ?_
        refine S.end (hK _ ?_)
        clear hK K
        try show Ev _ _ _ _
        repeat refine Ev.seq ?_
        refine Ev.cond rfl (fun h => ?_) (fun h => ?_)
        rotate_left
        · cases h
        repeat refine Ev.seq ?_
        refine Ev.region_S fun K hK => ?_
        refine S.q rfl rfl (q_assign rfl) ?_
        refine S.end (hK _ ?_)
        clear hK K
        try show Ev _ _ _ _
        have hno : ¬ OKSteps l := hfail fun h' => h1 h'.1
        repeat refine Ev.seq ?_
        refine Ev.ret ?_
        refine ⟨[], List.nodup_nil, ?_⟩
        simp only [retP, resAV, packAV, renAV, renL, keepObjs, St.get, find_cons, reduceIte, Option.map_some, Nat.reduceEqDiff, Ret, and_self, hno, decide_false]
      by_cases h2 : 0 ≤ s.2
      case neg =>
        have hprev : True := trivial
        repeat refine Ev.seq ?_
        refine Ev.region_D [[], [true], [true, true], [true, true, true], [true, true, true, true], [true, true, true, true, true], [true, true, true, true, true, true], [true, true, true, true, true, true, true], [true, true, true, true, true, true, true, true], [true, true, true, true, true, true, true, true, true], [true, true, true, true, true, true, true, true, true, true], [true, true, true, true, true, true, true, true, true, true, true], [true, true, true, true, true, true, true, true, true, true, true, true], [true, true, true, true, true, true, true, true, true, true, true, true, true], [true, true, true, true, true, true, true, true, true, true, true, true, true, true], [true, true, true, true, true, true, true, true, true, true, true, true, true, true, true], [true, true, true, true, true, true, true, true, true, true, true, true, true, true, true, true], [true, true, true, true, true, true, true, true, true, true, true, true, true, true, true, true, true], [true, true, true, true, true, true, true, true, true, true, true, true, true, true, true, true, true, true], [true, true, true, true, true, true, true, true, true, true, true, true, true, true, true, true, true, true, true], [true, true, true, true, true, true, true, true, true, true, true, true, true, true, true, true, true, true], [true, true, true, true, true, true, true, true, true, true, true, true, true, true, true, true, true, true], [true, true, true, true, true, true, true, true, true, true, true, true, true, true, true, true, true, true, false, false, false, true], [true, true, true, true, true, true, true, true, true, true, true, true, true, true, true, true, true, true, false, false, true, true, true], [true, true, true, true, true, true, true, true, true, true, true, true, true, true, true, true, true, true, false, false, true, true, true, true], [true, true, true, true, true, true, true, true, true, true, true, true, true, true, true, true, true, true, false, false, true, true, true, true, true], [true, true, true, true, true, true, true, true, true, true, true, true, true, true, true, true, true, true, true, true, true, true, true, true, true, true], [true, true, true, true, true, true, true, true, true, true, true, true, true, true, true, true, true, true, true, true, true, true, true, true, true, true, true], [true, true, true, true, true, true, true, true, true, true, true, true, true, true, true, true, true, true, true, true, true, true, true, true, true, true, true, true]] 29 1 rfl rfl rfl rfl fun K hK => ?_
        first | refine D.q rfl (q_fa am_fi57_0 am_cl3 rfl rfl rfl) ?_ | refine D.q rfl (q_fas am_fi57_0 am_cl3 rfl rfl rfl) ?_
        first | refine D.q rfl (q_load1 am_ag3 rfl rfl) ?_ | refine D.q rfl (q_load1 am_ag3 rfl (cells_adr rfl (by first | (simp only [List.getElem?_map, Int.toNat_natCast, Nat.zero_add, Option.map_some, hidx, hprev]; rfl) | rfl) rfl)) ?_
        refine D.call rfl (Quiet.call rfl rfl rfl (place_t h1) (.inl rfl) rfl) ?_
        first | refine D.q rfl (q_not_t rfl) ?_ | refine D.q rfl (q_not_f rfl) ?_ | refine D.q rfl (q_not rfl) ?_
        refine D.q rfl (q_move rfl) ?_
        first | refine D.skip rfl ?_ | refine D.q rfl (q_fa am_fi57_1 am_cl3 rfl rfl rfl) ?_ | refine D.q rfl (q_fas am_fi57_1 am_cl3 rfl rfl rfl) ?_
        first | refine D.skip rfl ?_ | refine D.q rfl (q_load1 am_ag3 rfl rfl) ?_ | refine D.q rfl (q_load1 am_ag3 rfl (cells_adr rfl (by first | (simp only [List.getElem?_map, Int.toNat_natCast, Nat.zero_add, Option.map_some, hidx, hprev]; rfl) | rfl) rfl)) ?_
        first | refine D.skip rfl ?_ | refine D.q rfl (q_lss_t rfl rfl (by first | omega | assumption)) ?_ | refine D.q rfl (q_lss_f rfl rfl (by first | omega | assumption)) ?_ | refine D.q rfl (q_lss rfl rfl) ?_
        first | refine D.q rfl (q_pick_t rfl rfl) ?_ | refine D.q rfl (q_pick_f rfl rfl) ?_
        refine D.q rfl (q_move rfl) ?_
        first | refine D.skip rfl ?_ | refine D.q rfl (q_fa am_fi57_1 am_cl3 rfl rfl rfl) ?_ | refine D.q rfl (q_fas am_fi57_1 am_cl3 rfl rfl rfl) ?_
        first | refine D.skip rfl ?_ | refine D.q rfl (q_load1 am_ag3 rfl rfl) ?_ | refine D.q rfl (q_load1 am_ag3 rfl (cells_adr rfl (by first | (simp only [List.getElem?_map, Int.toNat_natCast, Nat.zero_add, Option.map_some, hidx, hprev]; rfl) | rfl) rfl)) ?_
        first | refine D.skip rfl ?_ | refine D.q rfl (q_gtr_t rfl rfl (by first | omega | assumption)) ?_ | refine D.q rfl (q_gtr_f rfl rfl (by first | omega | assumption)) ?_ | refine D.q rfl (q_gtr rfl rfl) ?_
        first | refine D.q rfl (q_pick_t rfl rfl) ?_ | refine D.q rfl (q_pick_f rfl rfl) ?_
        refine D.q rfl (q_move rfl) ?_
        first | refine D.skip rfl ?_ | refine D.q rfl (q_move rfl) ?_
        first | refine D.skip rfl ?_ | refine D.q rfl (q_gtr_t rfl rfl (by first | omega | assumption)) ?_ | refine D.q rfl (q_gtr_f rfl rfl (by first | omega | assumption)) ?_ | refine D.q rfl (q_gtr rfl rfl) ?_
        first | refine D.skip rfl ?_ | refine D.q rfl (q_move rfl) ?_
        first | refine D.skip rfl ?_ | refine D.q rfl (q_fa am_fi57_0 am_cl3 rfl rfl rfl) ?_ | refine D.q rfl (q_fas am_fi57_0 am_cl3 rfl rfl rfl) ?_
        first | refine D.skip rfl ?_ | refine D.q rfl (q_load1 am_ag3 rfl rfl) ?_ | refine D.q rfl (q_load1 am_ag3 rfl (cells_adr rfl (by first | (simp only [List.getElem?_map, Int.toNat_natCast, Nat.zero_add, Option.map_some, hidx, hprev]; rfl) | rfl) rfl)) ?_
        first | refine D.skip rfl ?_ | refine D.q rfl (q_move rfl) ?_
        first | refine D.skip rfl ?_ | refine D.q rfl (q_move rfl) ?_
        first | refine D.skip rfl ?_ | refine D.q rfl (q_sub rfl rfl (by first | omega | assumption) (by first | omega | assumption)) ?_
        first | refine D.skip rfl ?_ | refine D.q rfl (q_ia am_el22 am_cl57 rfl rfl rfl rfl rfl (by first | omega | assumption) (by first | omega | assumption) rfl) ?_ | refine D.q rfl (q_ias am_el22 am_cl57 rfl rfl rfl (by first | omega | assumption) (by first | (simp only [List.getElem?_map, Int.toNat_natCast, Nat.zero_add, Option.map_some, hidx, hprev]; rfl) | rfl)) ?_
        first | refine D.skip rfl ?_ | refine D.q rfl (q_fa am_fi57_0 am_cl3 rfl rfl rfl) ?_ | refine D.q rfl (q_fas am_fi57_0 am_cl3 rfl rfl rfl) ?_
        first | refine D.skip rfl ?_ | refine D.q rfl (q_load1 am_ag3 rfl rfl) ?_ | refine D.q rfl (q_load1 am_ag3 rfl (cells_adr rfl (by first | (simp only [List.getElem?_map, Int.toNat_natCast, Nat.zero_add, Option.map_some, hidx, hprev]; rfl) | rfl) rfl)) ?_
        first | refine D.skip rfl ?_ | refine D.q rfl (q_leq_t rfl rfl (by first | omega | assumption)) ?_ | refine D.q rfl (q_leq_f rfl rfl (by first | omega | assumption)) ?_ | refine D.q rfl (q_leq rfl rfl) ?_
        first | refine D.skip rfl ?_ | refine D.q rfl (q_pick_t rfl rfl) ?_ | refine D.q rfl (q_pick_f rfl rfl) ?_
        first | refine D.q rfl (q_pick_t rfl rfl) ?_ | refine D.q rfl (q_pick_f rfl rfl) ?_
        refine D.end ?_
        refine S.end (hK _ ?_)
        clear hK K
        try show Ev _ _ _ _
        repeat refine Ev.seq ?_
        refine Ev.cond rfl (fun h => ?_) (fun h => ?_)
        rotate_left
        · cases h
        repeat refine Ev.seq ?_
        refine Ev.region_S fun K hK => ?_
        refine S.q rfl rfl (q_assign rfl) ?_
        refine S.end (hK _ ?_)
        clear hK K
        try show Ev _ _ _ _
        have hno : ¬ OKSteps l := hfail fun h' => h2 h'.2.1
        repeat refine Ev.seq ?_
        refine Ev.ret ?_
        refine ⟨[], List.nodup_nil, ?_⟩
        simp only [retP, resAV, packAV, renAV, renL, keepObjs, St.get, find_cons, reduceIte, Option.map_some, Nat.reduceEqDiff, Ret, and_self, hno, decide_false]
      by_cases h3 : s.2 ≤ 1099511627776
      case neg =>
        have hprev : True := trivial
        repeat refine Ev.seq ?_
        refine Ev.region_D [[], [true], [true, true], [true, true, true], [true, true, true, true], [true, true, true, true, true], [true, true, true, true, true, true], [true, true, true, true, true, true, true], [true, true, true, true, true, true, true, true], [true, true, true, true, true, true, true, true, true], [true, true, true, true, true, true, true, true, true, true], [true, true, true, true, true, true, true, true, true, true, true], [true, true, true, true, true, true, true, true, true, true, true, true], [true, true, true, true, true, true, true, true, true, true, true, true, true], [true, true, true, true, true, true, true, true, true, true, true, true, true, true], [true, true, true, true, true, true, true, true, true, true, true, true, true, true, true], [true, true, true, true, true, true, true, true, true, true, true, true, true, true, true, true], [true, true, true, true, true, true, true, true, true, true, true, true, true, true, true, true, true], [true, true, true, true, true, true, true, true, true, true, true, true, true, true, true, true, true, true], [true, true, true, true, true, true, true, true, true, true, true, true, true, true, true, true, true, true, true], [true, true, true, true, true, true, true, true, true, true, true, true, true, true, true, true, true, true], [true, true, true, true, true, true, true, true, true, true, true, true, true, true, true, true, true, true], [true, true, true, true, true, true, true, true, true, true, true, true, true, true, true, true, true, true, false, false, false, true], [true, true, true, true, true, true, true, true, true, true, true, true, true, true, true, true, true, true, false, false, true, true, true], [true, true, true, true, true, true, true, true, true, true, true, true, true, true, true, true, true, true, false, false, true, true, true, true], [true, true, true, true, true, true, true, true, true, true, true, true, true, true, true, true, true, true, false, false, true, true, true, true, true], [true, true, true, true, true, true, true, true, true, true, true, true, true, true, true, true, true, true, true, true, true, true, true, true, true, true], [true, true, true, true, true, true, true, true, true, true, true, true, true, true, true, true, true, true, true, true, true, true, true, true, true, true, true], [true, true, true, true, true, true, true, true, true, true, true, true, true, true, true, true, true, true, true, true, true, true, true, true, true, true, true, true]] 29 1 rfl rfl rfl rfl fun K hK => ?_
        first | refine D.q rfl (q_fa am_fi57_0 am_cl3 rfl rfl rfl) ?_ | refine D.q rfl (q_fas am_fi57_0 am_cl3 rfl rfl rfl) ?_
        first | refine D.q rfl (q_load1 am_ag3 rfl rfl) ?_ | refine D.q rfl (q_load1 am_ag3 rfl (cells_adr rfl (by first | (simp only [List.getElem?_map, Int.toNat_natCast, Nat.zero_add, Option.map_some, hidx, hprev]; rfl) | rfl) rfl)) ?_
        refine D.call rfl (Quiet.call rfl rfl rfl (place_t h1) (.inl rfl) rfl) ?_
        first | refine D.q rfl (q_not_t rfl) ?_ | refine D.q rfl (q_not_f rfl) ?_ | refine D.q rfl (q_not rfl) ?_
        refine D.q rfl (q_move rfl) ?_
        first | refine D.skip rfl ?_ | refine D.q rfl (q_fa am_fi57_1 am_cl3 rfl rfl rfl) ?_ | refine D.q rfl (q_fas am_fi57_1 am_cl3 rfl rfl rfl) ?_
        first | refine D.skip rfl ?_ | refine D.q rfl (q_load1 am_ag3 rfl rfl) ?_ | refine D.q rfl (q_load1 am_ag3 rfl (cells_adr rfl (by first | (simp only [List.getElem?_map, Int.toNat_natCast, Nat.zero_add, Option.map_some, hidx, hprev]; rfl) | rfl) rfl)) ?_
        first | refine D.skip rfl ?_ | refine D.q rfl (q_lss_t rfl rfl (by first | omega | assumption)) ?_ | refine D.q rfl (q_lss_f rfl rfl (by first | omega | assumption)) ?_ | refine D.q rfl (q_lss rfl rfl) ?_
        first | refine D.q rfl (q_pick_t rfl rfl) ?_ | refine D.q rfl (q_pick_f rfl rfl) ?_
        refine D.q rfl (q_move rfl) ?_
        first | refine D.skip rfl ?_ | refine D.q rfl (q_fa am_fi57_1 am_cl3 rfl rfl rfl) ?_ | refine D.q rfl (q_fas am_fi57_1 am_cl3 rfl rfl rfl) ?_
        first | refine D.skip rfl ?_ | refine D.q rfl (q_load1 am_ag3 rfl rfl) ?_ | refine D.q rfl (q_load1 am_ag3 rfl (cells_adr rfl (by first | (simp only [List.getElem?_map, Int.toNat_natCast, Nat.zero_add, Option.map_some, hidx, hprev]; rfl) | rfl) rfl)) ?_
        first | refine D.skip rfl ?_ | refine D.q rfl (q_gtr_t rfl rfl (by first | omega | assumption)) ?_ | refine D.q rfl (q_gtr_f rfl rfl (by first | omega | assumption)) ?_ | refine D.q rfl (q_gtr rfl rfl) ?_
        first | refine D.q rfl (q_pick_t rfl rfl) ?_ | refine D.q rfl (q_pick_f rfl rfl) ?_
        refine D.q rfl (q_move rfl) ?_
        first | refine D.skip rfl ?_ | refine D.q rfl (q_move rfl) ?_
        first | refine D.skip rfl ?_ | refine D.q rfl (q_gtr_t rfl rfl (by first | omega | assumption)) ?_ | refine D.q rfl (q_gtr_f rfl rfl (by first | omega | assumption)) ?_ | refine D.q rfl (q_gtr rfl rfl) ?_
        first | refine D.skip rfl ?_ | refine D.q rfl (q_move rfl) ?_
        first | refine D.skip rfl ?_ | refine D.q rfl (q_fa am_fi57_0 am_cl3 rfl rfl rfl) ?_ | refine D.q rfl (q_fas am_fi57_0 am_cl3 rfl rfl rfl) ?_
        first | refine D.skip rfl ?_ | refine D.q rfl (q_load1 am_ag3 rfl rfl) ?_ | refine D.q rfl (q_load1 am_ag3 rfl (cells_adr rfl (by first | (simp only [List.getElem?_map, Int.toNat_natCast, Nat.zero_add, Option.map_some, hidx, hprev]; rfl) | rfl) rfl)) ?_
        first | refine D.skip rfl ?_ | refine D.q rfl (q_move rfl) ?_
        first | refine D.skip rfl ?_ | refine D.q rfl (q_move rfl) ?_
        first | refine D.skip rfl ?_ | refine D.q rfl (q_sub rfl rfl (by first | omega | assumption) (by first | omega | assumption)) ?_
        first | refine D.skip rfl ?_ | refine D.q rfl (q_ia am_el22 am_cl57 rfl rfl rfl rfl rfl (by first | omega | assumption) (by first | omega | assumption) rfl) ?_ | refine D.q rfl (q_ias am_el22 am_cl57 rfl rfl rfl (by first | omega | assumption) (by first | (simp only [List.getElem?_map, Int.toNat_natCast, Nat.zero_add, Option.map_some, hidx, hprev]; rfl) | rfl)) ?_
        first | refine D.skip rfl ?_ | refine D.q rfl (q_fa am_fi57_0 am_cl3 rfl rfl rfl) ?_ | refine D.q rfl (q_fas am_fi57_0 am_cl3 rfl rfl rfl) ?_
        first | refine D.skip rfl ?_ | refine D.q rfl (q_load1 am_ag3 rfl rfl) ?_ | refine D.q rfl (q_load1 am_ag3 rfl (cells_adr rfl (by first | (simp only [List.getElem?_map, Int.toNat_natCast, Nat.zero_add, Option.map_some, hidx, hprev]; rfl) | rfl) rfl)) ?_
        first | refine D.skip rfl ?_ | refine D.q rfl (q_leq_t rfl rfl (by first | omega | assumption)) ?_ | refine D.q rfl (q_leq_f rfl rfl (by first | omega | assumption)) ?_ | refine D.q rfl (q_leq rfl rfl) ?_
        first | refine D.skip rfl ?_ | refine D.q rfl (q_pick_t rfl rfl) ?_ | refine D.q rfl (q_pick_f rfl rfl) ?_
        first | refine D.q rfl (q_pick_t rfl rfl) ?_ | refine D.q rfl (q_pick_f rfl rfl) ?_
        refine D.end ?_
        refine S.end (hK _ ?_)
        clear hK K
        try show Ev _ _ _ _
        repeat refine Ev.seq ?_
        refine Ev.cond rfl (fun h => ?_) (fun h => ?_)
        rotate_left
        · cases h
        repeat refine Ev.seq ?_
        refine Ev.region_S fun K hK => ?_
        refine S.q rfl rfl (q_assign rfl) ?_
        refine S.end (hK _ ?_)
        clear hK K
        try show Ev _ _ _ _
        have hno : ¬ OKSteps l := hfail fun h' => h3 h'.2.2.1
        repeat refine Ev.seq ?_
        refine Ev.ret ?_
        refine ⟨[], List.nodup_nil, ?_⟩
        simp only [retP, resAV, packAV, renAV, renL, keepObjs, St.get, find_cons, reduceIte, Option.map_some, Nat.reduceEqDiff, Ret, and_self, hno, decide_false]
      rcases List.eq_nil_or_concat pre with hpre | ⟨pre', q, hpre⟩
      · have hprev : True := trivial
        have hl0 : pre.length = 0 := by rw [hpre]; rfl
        repeat refine Ev.seq ?_
        refine Ev.region_D [[], [true], [true, true], [true, true, true], [true, true, true, true], [true, true, true, true, true], [true, true, true, true, true, true], [true, true, true, true, true, true, true], [true, true, true, true, true, true, true, true], [true, true, true, true, true, true, true, true, true], [true, true, true, true, true, true, true, true, true, true], [true, true, true, true, true, true, true, true, true, true, true], [true, true, true, true, true, true, true, true, true, true, true, true], [true, true, true, true, true, true, true, true, true, true, true, true, true], [true, true, true, true, true, true, true, true, true, true, true, true, true, true], [true, true, true, true, true, true, true, true, true, true, true, true, true, true, true], [true, true, true, true, true, true, true, true, true, true, true, true, true, true, true, true], [true, true, true, true, true, true, true, true, true, true, true, true, true, true, true, true, true], [true, true, true, true, true, true, true, true, true, true, true, true, true, true, true, true, true, true], [true, true, true, true, true, true, true, true, true, true, true, true, true, true, true, true, true, true, true], [true, true, true, true, true, true, true, true, true, true, true, true, true, true, true, true, true, true], [true, true, true, true, true, true, true, true, true, true, true, true, true, true, true, true, true, true], [true, true, true, true, true, true, true, true, true, true, true, true, true, true, true, true, true, true, false, false, false, true], [true, true, true, true, true, true, true, true, true, true, true, true, true, true, true, true, true, true, false, false, true, true, true], [true, true, true, true, true, true, true, true, true, true, true, true, true, true, true, true, true, true, false, false, true, true, true, true], [true, true, true, true, true, true, true, true, true, true, true, true, true, true, true, true, true, true, false, false, true, true, true, true, true], [true, true, true, true, true, true, true, true, true, true, true, true, true, true, true, true, true, true, true, true, true, true, true, true, true, true], [true, true, true, true, true, true, true, true, true, true, true, true, true, true, true, true, true, true, true, true, true, true, true, true, true, true, true], [true, true, true, true, true, true, true, true, true, true, true, true, true, true, true, true, true, true, true, true, true, true, true, true, true, true, true, true]] 29 1 rfl rfl rfl rfl fun K hK => ?_
        first | refine D.q rfl (q_fa am_fi57_0 am_cl3 rfl rfl rfl) ?_ | refine D.q rfl (q_fas am_fi57_0 am_cl3 rfl rfl rfl) ?_
        first | refine D.q rfl (q_load1 am_ag3 rfl rfl) ?_ | refine D.q rfl (q_load1 am_ag3 rfl (cells_adr rfl (by first | (simp only [List.getElem?_map, Int.toNat_natCast, Nat.zero_add, Option.map_some, hidx, hprev]; rfl) | rfl) rfl)) ?_
        refine D.call rfl (Quiet.call rfl rfl rfl (place_t h1) (.inl rfl) rfl) ?_
        first | refine D.q rfl (q_not_t rfl) ?_ | refine D.q rfl (q_not_f rfl) ?_ | refine D.q rfl (q_not rfl) ?_
        refine D.q rfl (q_move rfl) ?_
        first | refine D.skip rfl ?_ | refine D.q rfl (q_fa am_fi57_1 am_cl3 rfl rfl rfl) ?_ | refine D.q rfl (q_fas am_fi57_1 am_cl3 rfl rfl rfl) ?_
        first | refine D.skip rfl ?_ | refine D.q rfl (q_load1 am_ag3 rfl rfl) ?_ | refine D.q rfl (q_load1 am_ag3 rfl (cells_adr rfl (by first | (simp only [List.getElem?_map, Int.toNat_natCast, Nat.zero_add, Option.map_some, hidx, hprev]; rfl) | rfl) rfl)) ?_
        first | refine D.skip rfl ?_ | refine D.q rfl (q_lss_t rfl rfl (by first | omega | assumption)) ?_ | refine D.q rfl (q_lss_f rfl rfl (by first | omega | assumption)) ?_ | refine D.q rfl (q_lss rfl rfl) ?_
        first | refine D.q rfl (q_pick_t rfl rfl) ?_ | refine D.q rfl (q_pick_f rfl rfl) ?_
        refine D.q rfl (q_move rfl) ?_
        first | refine D.skip rfl ?_ | refine D.q rfl (q_fa am_fi57_1 am_cl3 rfl rfl rfl) ?_ | refine D.q rfl (q_fas am_fi57_1 am_cl3 rfl rfl rfl) ?_
        first | refine D.skip rfl ?_ | refine D.q rfl (q_load1 am_ag3 rfl rfl) ?_ | refine D.q rfl (q_load1 am_ag3 rfl (cells_adr rfl (by first | (simp only [List.getElem?_map, Int.toNat_natCast, Nat.zero_add, Option.map_some, hidx, hprev]; rfl) | rfl) rfl)) ?_
        first | refine D.skip rfl ?_ | refine D.q rfl (q_gtr_t rfl rfl (by first | omega | assumption)) ?_ | refine D.q rfl (q_gtr_f rfl rfl (by first | omega | assumption)) ?_ | refine D.q rfl (q_gtr rfl rfl) ?_
        first | refine D.q rfl (q_pick_t rfl rfl) ?_ | refine D.q rfl (q_pick_f rfl rfl) ?_
        refine D.q rfl (q_move rfl) ?_
        first | refine D.skip rfl ?_ | refine D.q rfl (q_move rfl) ?_
        first | refine D.skip rfl ?_ | refine D.q rfl (q_gtr_t rfl rfl (by first | omega | assumption)) ?_ | refine D.q rfl (q_gtr_f rfl rfl (by first | omega | assumption)) ?_ | refine D.q rfl (q_gtr rfl rfl) ?_
        first | refine D.skip rfl ?_ | refine D.q rfl (q_move rfl) ?_
        first | refine D.skip rfl ?_ | refine D.q rfl (q_fa am_fi57_0 am_cl3 rfl rfl rfl) ?_ | refine D.q rfl (q_fas am_fi57_0 am_cl3 rfl rfl rfl) ?_
        first | refine D.skip rfl ?_ | refine D.q rfl (q_load1 am_ag3 rfl rfl) ?_ | refine D.q rfl (q_load1 am_ag3 rfl (cells_adr rfl (by first | (simp only [List.getElem?_map, Int.toNat_natCast, Nat.zero_add, Option.map_some, hidx, hprev]; rfl) | rfl) rfl)) ?_
        first | refine D.skip rfl ?_ | refine D.q rfl (q_move rfl) ?_
        first | refine D.skip rfl ?_ | refine D.q rfl (q_move rfl) ?_
        first | refine D.skip rfl ?_ | refine D.q rfl (q_sub rfl rfl (by first | omega | assumption) (by first | omega | assumption)) ?_
        first | refine D.skip rfl ?_ | refine D.q rfl (q_ia am_el22 am_cl57 rfl rfl rfl rfl rfl (by first | omega | assumption) (by first | omega | assumption) rfl) ?_ | refine D.q rfl (q_ias am_el22 am_cl57 rfl rfl rfl (by first | omega | assumption) (by first | (simp only [List.getElem?_map, Int.toNat_natCast, Nat.zero_add, Option.map_some, hidx, hprev]; rfl) | rfl)) ?_
        first | refine D.skip rfl ?_ | refine D.q rfl (q_fa am_fi57_0 am_cl3 rfl rfl rfl) ?_ | refine D.q rfl (q_fas am_fi57_0 am_cl3 rfl rfl rfl) ?_
        first | refine D.skip rfl ?_ | refine D.q rfl (q_load1 am_ag3 rfl rfl) ?_ | refine D.q rfl (q_load1 am_ag3 rfl (cells_adr rfl (by first | (simp only [List.getElem?_map, Int.toNat_natCast, Nat.zero_add, Option.map_some, hidx, hprev]; rfl) | rfl) rfl)) ?_
        first | refine D.skip rfl ?_ | refine D.q rfl (q_leq_t rfl rfl (by first | omega | assumption)) ?_ | refine D.q rfl (q_leq_f rfl rfl (by first | omega | assumption)) ?_ | refine D.q rfl (q_leq rfl rfl) ?_
        first | refine D.skip rfl ?_ | refine D.q rfl (q_pick_t rfl rfl) ?_ | refine D.q rfl (q_pick_f rfl rfl) ?_
        first | refine D.q rfl (q_pick_t rfl rfl) ?_ | refine D.q rfl (q_pick_f rfl rfl) ?_
        refine D.end ?_
        refine S.end (hK _ ?_)
        clear hK K
        try show Ev _ _ _ _
        repeat refine Ev.seq ?_
        refine Ev.cond rfl (fun h => ?_) (fun h => ?_)
        · cases h
        refine Ev.skip ?_
        show Ev _ _ _ _
        repeat refine Ev.seq ?_
        refine Ev.region_S fun K hK => ?_
        refine S.q rfl rfl (q_add rfl rfl (by first | omega | assumption) (by first | omega | assumption)) ?_
        refine S.q rfl rfl (q_move rfl) ?_
        refine S.end (hK _ ?_)
        clear hK K
        try show Ev _ _ _ _
        refine ⟨⟨(pre ++ [s], suf), by rw [← hp]; simp, ?_⟩, by simp, ?_⟩
        · rw [List.getLast?_append, List.getLast?_singleton, Option.some_or]
          exact hok.trans ⟨fun h => h.2, fun h => ⟨⟨h1, h2, h3, fun q hq => by rw [hpre] at hq; cases hq⟩, h⟩⟩
        · refine Wk.ren [] List.nodup_nil ?_ rfl rfl rfl rfl (fun i hi => absurd hi (Nat.not_lt_zero i))
          simp only [slotsRen, renAV, argSlots, St.get, find_cons, reduceIte, Nat.reduceEqDiff, and_self, List.length_append, List.length_cons, List.length_nil, Nat.zero_add, Int.natCast_add, Int.cast_ofNat_Int]
      · rw [List.concat_eq_append] at hpre
        have hl0 : 0 < pre.length := by rw [hpre]; simp
        have hprev : l[((pre.length : Int) - 1).toNat]? = some q := by
          rw [← hp, hpre]
          simp
        have hlast : pre.getLast? = some q := by rw [hpre]; simp
        by_cases h4 : q.1 < s.1
        case neg =>
          repeat refine Ev.seq ?_
          refine Ev.region_D [[], [true], [true, true], [true, true, true], [true, true, true, true], [true, true, true, true, true], [true, true, true, true, true, true], [true, true, true, true, true, true, true], [true, true, true, true, true, true, true, true], [true, true, true, true, true, true, true, true, true], [true, true, true, true, true, true, true, true, true, true], [true, true, true, true, true, true, true, true, true, true, true], [true, true, true, true, true, true, true, true, true, true, true, true], [true, true, true, true, true, true, true, true, true, true, true, true, true], [true, true, true, true, true, true, true, true, true, true, true, true, true, true], [true, true, true, true, true, true, true, true, true, true, true, true, true, true, true], [true, true, true, true, true, true, true, true, true, true, true, true, true, true, true, true], [true, true, true, true, true, true, true, true, true, true, true, true, true, true, true, true, true], [true, true, true, true, true, true, true, true, true, true, true, true, true, true, true, true, true, true], [true, true, true, true, true, true, true, true, true, true, true, true, true, true, true, true, true, true, true], [true, true, true, true, true, true, true, true, true, true, true, true, true, true, true, true, true, true], [true, true, true, true, true, true, true, true, true, true, true, true, true, true, true, true, true, true], [true, true, true, true, true, true, true, true, true, true, true, true, true, true, true, true, true, true, false, false, false, true], [true, true, true, true, true, true, true, true, true, true, true, true, true, true, true, true, true, true, false, false, true, true, true], [true, true, true, true, true, true, true, true, true, true, true, true, true, true, true, true, true, true, false, false, true, true, true, true], [true, true, true, true, true, true, true, true, true, true, true, true, true, true, true, true, true, true, false, false, true, true, true, true, true], [true, true, true, true, true, true, true, true, true, true, true, true, true, true, true, true, true, true, true, true, true, true, true, true, true, true], [true, true, true, true, true, true, true, true, true, true, true, true, true, true, true, true, true, true, true, true, true, true, true, true, true, true, true], [true, true, true, true, true, true, true, true, true, true, true, true, true, true, true, true, true, true, true, true, true, true, true, true, true, true, true, true]] 29 1 rfl rfl rfl rfl fun K hK => ?_
          first | refine D.q rfl (q_fa am_fi57_0 am_cl3 rfl rfl rfl) ?_ | refine D.q rfl (q_fas am_fi57_0 am_cl3 rfl rfl rfl) ?_
          first | refine D.q rfl (q_load1 am_ag3 rfl rfl) ?_ | refine D.q rfl (q_load1 am_ag3 rfl (cells_adr rfl (by first | (simp only [List.getElem?_map, Int.toNat_natCast, Nat.zero_add, Option.map_some, hidx, hprev]; rfl) | rfl) rfl)) ?_
          refine D.call rfl (Quiet.call rfl rfl rfl (place_t h1) (.inl rfl) rfl) ?_
          first | refine D.q rfl (q_not_t rfl) ?_ | refine D.q rfl (q_not_f rfl) ?_ | refine D.q rfl (q_not rfl) ?_
          refine D.q rfl (q_move rfl) ?_
          first | refine D.skip rfl ?_ | refine D.q rfl (q_fa am_fi57_1 am_cl3 rfl rfl rfl) ?_ | refine D.q rfl (q_fas am_fi57_1 am_cl3 rfl rfl rfl) ?_
          first | refine D.skip rfl ?_ | refine D.q rfl (q_load1 am_ag3 rfl rfl) ?_ | refine D.q rfl (q_load1 am_ag3 rfl (cells_adr rfl (by first | (simp only [List.getElem?_map, Int.toNat_natCast, Nat.zero_add, Option.map_some, hidx, hprev]; rfl) | rfl) rfl)) ?_
          first | refine D.skip rfl ?_ | refine D.q rfl (q_lss_t rfl rfl (by first | omega | assumption)) ?_ | refine D.q rfl (q_lss_f rfl rfl (by first | omega | assumption)) ?_ | refine D.q rfl (q_lss rfl rfl) ?_
          first | refine D.q rfl (q_pick_t rfl rfl) ?_ | refine D.q rfl (q_pick_f rfl rfl) ?_
          refine D.q rfl (q_move rfl) ?_
          first | refine D.skip rfl ?_ | refine D.q rfl (q_fa am_fi57_1 am_cl3 rfl rfl rfl) ?_ | refine D.q rfl (q_fas am_fi57_1 am_cl3 rfl rfl rfl) ?_
          first | refine D.skip rfl ?_ | refine D.q rfl (q_load1 am_ag3 rfl rfl) ?_ | refine D.q rfl (q_load1 am_ag3 rfl (cells_adr rfl (by first | (simp only [List.getElem?_map, Int.toNat_natCast, Nat.zero_add, Option.map_some, hidx, hprev]; rfl) | rfl) rfl)) ?_
          first | refine D.skip rfl ?_ | refine D.q rfl (q_gtr_t rfl rfl (by first | omega | assumption)) ?_ | refine D.q rfl (q_gtr_f rfl rfl (by first | omega | assumption)) ?_ | refine D.q rfl (q_gtr rfl rfl) ?_
          first | refine D.q rfl (q_pick_t rfl rfl) ?_ | refine D.q rfl (q_pick_f rfl rfl) ?_
          refine D.q rfl (q_move rfl) ?_
          first | refine D.skip rfl ?_ | refine D.q rfl (q_move rfl) ?_
          first | refine D.skip rfl ?_ | refine D.q rfl (q_gtr_t rfl rfl (by first | omega | assumption)) ?_ | refine D.q rfl (q_gtr_f rfl rfl (by first | omega | assumption)) ?_ | refine D.q rfl (q_gtr rfl rfl) ?_
          first | refine D.skip rfl ?_ | refine D.q rfl (q_move rfl) ?_
          first | refine D.skip rfl ?_ | refine D.q rfl (q_fa am_fi57_0 am_cl3 rfl rfl rfl) ?_ | refine D.q rfl (q_fas am_fi57_0 am_cl3 rfl rfl rfl) ?_
          first | refine D.skip rfl ?_ | refine D.q rfl (q_load1 am_ag3 rfl rfl) ?_ | refine D.q rfl (q_load1 am_ag3 rfl (cells_adr rfl (by first | (simp only [List.getElem?_map, Int.toNat_natCast, Nat.zero_add, Option.map_some, hidx, hprev]; rfl) | rfl) rfl)) ?_
          first | refine D.skip rfl ?_ | refine D.q rfl (q_move rfl) ?_
          first | refine D.skip rfl ?_ | refine D.q rfl (q_move rfl) ?_
          first | refine D.skip rfl ?_ | refine D.q rfl (q_sub rfl rfl (by first | omega | assumption) (by first | omega | assumption)) ?_
          first | refine D.skip rfl ?_ | refine D.q rfl (q_ia am_el22 am_cl57 rfl rfl rfl rfl rfl (by first | omega | assumption) (by first | omega | assumption) rfl) ?_ | refine D.q rfl (q_ias am_el22 am_cl57 rfl rfl rfl (by first | omega | assumption) (by first | (simp only [List.getElem?_map, Int.toNat_natCast, Nat.zero_add, Option.map_some, hidx, hprev]; rfl) | rfl)) ?_
          first | refine D.skip rfl ?_ | refine D.q rfl (q_fa am_fi57_0 am_cl3 rfl rfl rfl) ?_ | refine D.q rfl (q_fas am_fi57_0 am_cl3 rfl rfl rfl) ?_
          first | refine D.skip rfl ?_ | refine D.q rfl (q_load1 am_ag3 rfl rfl) ?_ | refine D.q rfl (q_load1 am_ag3 rfl (cells_adr rfl (by first | (simp only [List.getElem?_map, Int.toNat_natCast, Nat.zero_add, Option.map_some, hidx, hprev]; rfl) | rfl) rfl)) ?_
          first | refine D.skip rfl ?_ | refine D.q rfl (q_leq_t rfl rfl (by first | omega | assumption)) ?_ | refine D.q rfl (q_leq_f rfl rfl (by first | omega | assumption)) ?_ | refine D.q rfl (q_leq rfl rfl) ?_
          first | refine D.skip rfl ?_ | refine D.q rfl (q_pick_t rfl rfl) ?_ | refine D.q rfl (q_pick_f rfl rfl) ?_
          first | refine D.q rfl (q_pick_t rfl rfl) ?_ | refine D.q rfl (q_pick_f rfl rfl) ?_
          refine D.end ?_
          refine S.end (hK _ ?_)
          clear hK K
          try show Ev _ _ _ _
          repeat refine Ev.seq ?_
          refine Ev.cond rfl (fun h => ?_) (fun h => ?_)
          rotate_left
          · cases h
          repeat refine Ev.seq ?_
          refine Ev.region_S fun K hK => ?_
          refine S.q rfl rfl (q_assign rfl) ?_
          refine S.end (hK _ ?_)
          clear hK K
          try show Ev _ _ _ _
          have hno : ¬ OKSteps l := hfail fun h' => h4 (h'.2.2.2 q hlast)
          repeat refine Ev.seq ?_
          refine Ev.ret ?_
          refine ⟨[], List.nodup_nil, ?_⟩
          simp only [retP, resAV, packAV, renAV, renL, keepObjs, St.get, find_cons, reduceIte, Option.map_some, Nat.reduceEqDiff, Ret, and_self, hno, decide_false]
        repeat refine Ev.seq ?_
        refine Ev.region_D [[], [true], [true, true], [true, true, true], [true, true, true, true], [true, true, true, true, true], [true, true, true, true, true, true], [true, true, true, true, true, true, true], [true, true, true, true, true, true, true, true], [true, true, true, true, true, true, true, true, true], [true, true, true, true, true, true, true, true, true, true], [true, true, true, true, true, true, true, true, true, true, true], [true, true, true, true, true, true, true, true, true, true, true, true], [true, true, true, true, true, true, true, true, true, true, true, true, true], [true, true, true, true, true, true, true, true, true, true, true, true, true, true], [true, true, true, true, true, true, true, true, true, true, true, true, true, true, true], [true, true, true, true, true, true, true, true, true, true, true, true, true, true, true, true], [true, true, true, true, true, true, true, true, true, true, true, true, true, true, true, true, true], [true, true, true, true, true, true, true, true, true, true, true, true, true, true, true, true, true, true], [true, true, true, true, true, true, true, true, true, true, true, true, true, true, true, true, true, true, true], [true, true, true, true, true, true, true, true, true, true, true, true, true, true, true, true, true, true], [true, true, true, true, true, true, true, true, true, true, true, true, true, true, true, true, true, true], [true, true, true, true, true, true, true, true, true, true, true, true, true, true, true, true, true, true, false, false, false, true], [true, true, true, true, true, true, true, true, true, true, true, true, true, true, true, true, true, true, false, false, true, true, true], [true, true, true, true, true, true, true, true, true, true, true, true, true, true, true, true, true, true, false, false, true, true, true, true], [true, true, true, true, true, true, true, true, true, true, true, true, true, true, true, true, true, true, false, false, true, true, true, true, true], [true, true, true, true, true, true, true, true, true, true, true, true, true, true, true, true, true, true, true, true, true, true, true, true, true, true], [true, true, true, true, true, true, true, true, true, true, true, true, true, true, true, true, true, true, true, true, true, true, true, true, true, true, true], [true, true, true, true, true, true, true, true, true, true, true, true, true, true, true, true, true, true, true, true, true, true, true, true, true, true, true, true]] 29 1 rfl rfl rfl rfl fun K hK => ?_
        first | refine D.q rfl (q_fa am_fi57_0 am_cl3 rfl rfl rfl) ?_ | refine D.q rfl (q_fas am_fi57_0 am_cl3 rfl rfl rfl) ?_
        first | refine D.q rfl (q_load1 am_ag3 rfl rfl) ?_ | refine D.q rfl (q_load1 am_ag3 rfl (cells_adr rfl (by first | (simp only [List.getElem?_map, Int.toNat_natCast, Nat.zero_add, Option.map_some, hidx, hprev]; rfl) | rfl) rfl)) ?_
        refine D.call rfl (Quiet.call rfl rfl rfl (place_t h1) (.inl rfl) rfl) ?_
        first | refine D.q rfl (q_not_t rfl) ?_ | refine D.q rfl (q_not_f rfl) ?_ | refine D.q rfl (q_not rfl) ?_
        refine D.q rfl (q_move rfl) ?_
        first | refine D.skip rfl ?_ | refine D.q rfl (q_fa am_fi57_1 am_cl3 rfl rfl rfl) ?_ | refine D.q rfl (q_fas am_fi57_1 am_cl3 rfl rfl rfl) ?_
        first | refine D.skip rfl ?_ | refine D.q rfl (q_load1 am_ag3 rfl rfl) ?_ | refine D.q rfl (q_load1 am_ag3 rfl (cells_adr rfl (by first | (simp only [List.getElem?_map, Int.toNat_natCast, Nat.zero_add, Option.map_some, hidx, hprev]; rfl) | rfl) rfl)) ?_
        first | refine D.skip rfl ?_ | refine D.q rfl (q_lss_t rfl rfl (by first | omega | assumption)) ?_ | refine D.q rfl (q_lss_f rfl rfl (by first | omega | assumption)) ?_ | refine D.q rfl (q_lss rfl rfl) ?_
        first | refine D.q rfl (q_pick_t rfl rfl) ?_ | refine D.q rfl (q_pick_f rfl rfl) ?_
        refine D.q rfl (q_move rfl) ?_
        first | refine D.skip rfl ?_ | refine D.q rfl (q_fa am_fi57_1 am_cl3 rfl rfl rfl) ?_ | refine D.q rfl (q_fas am_fi57_1 am_cl3 rfl rfl rfl) ?_
        first | refine D.skip rfl ?_ | refine D.q rfl (q_load1 am_ag3 rfl rfl) ?_ | refine D.q rfl (q_load1 am_ag3 rfl (cells_adr rfl (by first | (simp only [List.getElem?_map, Int.toNat_natCast, Nat.zero_add, Option.map_some, hidx, hprev]; rfl) | rfl) rfl)) ?_
        first | refine D.skip rfl ?_ | refine D.q rfl (q_gtr_t rfl rfl (by first | omega | assumption)) ?_ | refine D.q rfl (q_gtr_f rfl rfl (by first | omega | assumption)) ?_ | refine D.q rfl (q_gtr rfl rfl) ?_
        first | refine D.q rfl (q_pick_t rfl rfl) ?_ | refine D.q rfl (q_pick_f rfl rfl) ?_
        refine D.q rfl (q_move rfl) ?_
        first | refine D.skip rfl ?_ | refine D.q rfl (q_move rfl) ?_
        first | refine D.skip rfl ?_ | refine D.q rfl (q_gtr_t rfl rfl (by first | omega | assumption)) ?_ | refine D.q rfl (q_gtr_f rfl rfl (by first | omega | assumption)) ?_ | refine D.q rfl (q_gtr rfl rfl) ?_
        first | refine D.skip rfl ?_ | refine D.q rfl (q_move rfl) ?_
        first | refine D.skip rfl ?_ | refine D.q rfl (q_fa am_fi57_0 am_cl3 rfl rfl rfl) ?_ | refine D.q rfl (q_fas am_fi57_0 am_cl3 rfl rfl rfl) ?_
        first | refine D.skip rfl ?_ | refine D.q rfl (q_load1 am_ag3 rfl rfl) ?_ | refine D.q rfl (q_load1 am_ag3 rfl (cells_adr rfl (by first | (simp only [List.getElem?_map, Int.toNat_natCast, Nat.zero_add, Option.map_some, hidx, hprev]; rfl) | rfl) rfl)) ?_
        first | refine D.skip rfl ?_ | refine D.q rfl (q_move rfl) ?_
        first | refine D.skip rfl ?_ | refine D.q rfl (q_move rfl) ?_
        first | refine D.skip rfl ?_ | refine D.q rfl (q_sub rfl rfl (by first | omega | assumption) (by first | omega | assumption)) ?_
        first | refine D.skip rfl ?_ | refine D.q rfl (q_ia am_el22 am_cl57 rfl rfl rfl rfl rfl (by first | omega | assumption) (by first | omega | assumption) rfl) ?_ | refine D.q rfl (q_ias am_el22 am_cl57 rfl rfl rfl (by first | omega | assumption) (by first | (simp only [List.getElem?_map, Int.toNat_natCast, Nat.zero_add, Option.map_some, hidx, hprev]; rfl) | rfl)) ?_
        first | refine D.skip rfl ?_ | refine D.q rfl (q_fa am_fi57_0 am_cl3 rfl rfl rfl) ?_ | refine D.q rfl (q_fas am_fi57_0 am_cl3 rfl rfl rfl) ?_
        first | refine D.skip rfl ?_ | refine D.q rfl (q_load1 am_ag3 rfl rfl) ?_ | refine D.q rfl (q_load1 am_ag3 rfl (cells_adr rfl (by first | (simp only [List.getElem?_map, Int.toNat_natCast, Nat.zero_add, Option.map_some, hidx, hprev]; rfl) | rfl) rfl)) ?_
        first | refine D.skip rfl ?_ | refine D.q rfl (q_leq_t rfl rfl (by first | omega | assumption)) ?_ | refine D.q rfl (q_leq_f rfl rfl (by first | omega | assumption)) ?_ | refine D.q rfl (q_leq rfl rfl) ?_
        first | refine D.skip rfl ?_ | refine D.q rfl (q_pick_t rfl rfl) ?_ | refine D.q rfl (q_pick_f rfl rfl) ?_
        first | refine D.q rfl (q_pick_t rfl rfl) ?_ | refine D.q rfl (q_pick_f rfl rfl) ?_
        refine D.end ?_
        refine S.end (hK _ ?_)
        clear hK K
        try show Ev _ _ _ _
        repeat refine Ev.seq ?_
        refine Ev.cond rfl (fun h => ?_) (fun h => ?_)
        · cases h
        refine Ev.skip ?_
        show Ev _ _ _ _
        repeat refine Ev.seq ?_
        refine Ev.region_S fun K hK => ?_
        refine S.q rfl rfl (q_add rfl rfl (by first | omega | assumption) (by first | omega | assumption)) ?_
        refine S.q rfl rfl (q_move rfl) ?_
        refine S.end (hK _ ?_)
        clear hK K
        try show Ev _ _ _ _
        refine ⟨⟨(pre ++ [s], suf), by rw [← hp]; simp, ?_⟩, by simp, ?_⟩
        · rw [List.getLast?_append, List.getLast?_singleton, Option.some_or]
          exact hok.trans ⟨fun h => h.2, fun h => ⟨⟨h1, h2, h3, fun q' hq => by rw [hlast] at hq; cases hq; exact h4⟩, h⟩⟩
        · refine Wk.ren [] List.nodup_nil ?_ rfl rfl rfl rfl (fun i hi => absurd hi (Nat.not_lt_zero i))
          simp only [slotsRen, renAV, argSlots, St.get, find_cons, reduceIte, Nat.reduceEqDiff, and_self, List.length_append, List.length_cons, List.length_nil, Nat.zero_add, Int.natCast_add, Int.cast_ofNat_Int]
end Go.Proofs.Ytigjoaejncfmdaa
