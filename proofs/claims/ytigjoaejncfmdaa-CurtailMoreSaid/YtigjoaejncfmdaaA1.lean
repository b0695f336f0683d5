-- TYPES 3 4 22 57
import Derived.Test.YtigjoaejncfmdaaAmRule
import Derived.Test.YtigjoaejncfmdaaAmFacts
namespace Go.Proofs.Ytigjoaejncfmdaa
open Go Go.AM
set_option linter.unusedSimpArgs false
set_option maxRecDepth 100000
-- PP
def stepC : Int × Int → List AV
  | (a, b) => [.lit (.int .i64 a), .lit (.int .i64 b)]

def Place (n : Int) : Prop := -1048576 ≤ n ∧ n ≤ 1048576
instance (n : Int) : Decidable (Place n) := by unfold Place; infer_instance

theorem place_fun (n : Int) : Fun Try.prog 64 [.lit (.int .i64 n)] (Ret (.lit (.bool (decide (Place n)))) []) := by
  refine Fun.of (nt := 9) (rs := [.tmp 2]) Try.func64 rfl rfl rfl rfl rfl ?_
  repeat refine Ev.seq ?_
  refine Ev.region_S fun K hK => ?_
  refine S.q rfl rfl (q_assign rfl) ?_
  refine S.end (hK _ ?_)
  clear hK K
  try show Ev _ _ _ _
  by_cases h1 : -1048576 ≤ n
  · by_cases h2 : n ≤ 1048576
    · repeat refine Ev.seq ?_
      refine Ev.region_S fun K hK => ?_
      refine S.q rfl rfl (q_move rfl) ?_
      first | refine S.q rfl rfl (q_geq_t rfl rfl (by first | omega | assumption)) ?_ | refine S.q rfl rfl (q_geq_f rfl rfl (by first | omega | assumption)) ?_ | refine S.q rfl rfl (q_geq rfl rfl) ?_
      refine S.q rfl rfl (q_move rfl) ?_
      first | refine S.skip rfl rfl ?_ | refine S.q rfl rfl (q_move rfl) ?_
      first | refine S.skip rfl rfl ?_ | refine S.q rfl rfl (q_leq_t rfl rfl (by first | omega | assumption)) ?_ | refine S.q rfl rfl (q_leq_f rfl rfl (by first | omega | assumption)) ?_ | refine S.q rfl rfl (q_leq rfl rfl) ?_
      first | refine S.q rfl rfl (q_pick_t rfl rfl) ?_ | refine S.q rfl rfl (q_pick_f rfl rfl) ?_
      refine S.q rfl rfl (q_assign rfl) ?_
      refine S.end (hK _ ?_)
      clear hK K
      try show Ev _ _ _ _
      have : Place n := ⟨h1, h2⟩
      repeat refine Ev.seq ?_
      refine Ev.ret ?_
      refine ⟨[], List.nodup_nil, ?_⟩
      simp only [retP, resAV, packAV, renAV, renL, keepObjs, St.get, find_cons, reduceIte, Option.map_some, Nat.reduceEqDiff, Ret, and_self, this, decide_true]
    · repeat refine Ev.seq ?_
      refine Ev.region_S fun K hK => ?_
      refine S.q rfl rfl (q_move rfl) ?_
      first | refine S.q rfl rfl (q_geq_t rfl rfl (by first | omega | assumption)) ?_ | refine S.q rfl rfl (q_geq_f rfl rfl (by first | omega | assumption)) ?_ | refine S.q rfl rfl (q_geq rfl rfl) ?_
      refine S.q rfl rfl (q_move rfl) ?_
      first | refine S.skip rfl rfl ?_ | refine S.q rfl rfl (q_move rfl) ?_
      first | refine S.skip rfl rfl ?_ | refine S.q rfl rfl (q_leq_t rfl rfl (by first | omega | assumption)) ?_ | refine S.q rfl rfl (q_leq_f rfl rfl (by first | omega | assumption)) ?_ | refine S.q rfl rfl (q_leq rfl rfl) ?_
      first | refine S.q rfl rfl (q_pick_t rfl rfl) ?_ | refine S.q rfl rfl (q_pick_f rfl rfl) ?_
      refine S.q rfl rfl (q_assign rfl) ?_
      refine S.end (hK _ ?_)
      clear hK K
      try show Ev _ _ _ _
      have : ¬ Place n := fun h => h2 h.2
      repeat refine Ev.seq ?_
      refine Ev.ret ?_
      refine ⟨[], List.nodup_nil, ?_⟩
      simp only [retP, resAV, packAV, renAV, renL, keepObjs, St.get, find_cons, reduceIte, Option.map_some, Nat.reduceEqDiff, Ret, and_self, this, decide_false]
  · repeat refine Ev.seq ?_
    refine Ev.region_S fun K hK => ?_
    refine S.q rfl rfl (q_move rfl) ?_
    first | refine S.q rfl rfl (q_geq_t rfl rfl (by first | omega | assumption)) ?_ | refine S.q rfl rfl (q_geq_f rfl rfl (by first | omega | assumption)) ?_ | refine S.q rfl rfl (q_geq rfl rfl) ?_
    refine S.q rfl rfl (q_move rfl) ?_
    first | refine S.skip rfl rfl ?_ | refine S.q rfl rfl (q_move rfl) ?_
    first | refine S.skip rfl rfl ?_ | refine S.q rfl rfl (q_leq_t rfl rfl (by first | omega | assumption)) ?_ | refine S.q rfl rfl (q_leq_f rfl rfl (by first | omega | assumption)) ?_ | refine S.q rfl rfl (q_leq rfl rfl) ?_
    first | refine S.q rfl rfl (q_pick_t rfl rfl) ?_ | refine S.q rfl rfl (q_pick_f rfl rfl) ?_
    refine S.q rfl rfl (q_assign rfl) ?_
    refine S.end (hK _ ?_)
    clear hK K
    try show Ev _ _ _ _
    have : ¬ Place n := fun h => h1 h.1
    repeat refine Ev.seq ?_
    refine Ev.ret ?_
    refine ⟨[], List.nodup_nil, ?_⟩
    simp only [retP, resAV, packAV, renAV, renL, keepObjs, St.get, find_cons, reduceIte, Option.map_some, Nat.reduceEqDiff, Ret, and_self, this, decide_false]

theorem place_t {n : Int} (h : Place n) : Fun Try.prog 64 [.lit (.int .i64 n)] (Ret (.lit (.bool true)) []) := by
  have := place_fun n
  rwa [decide_eq_true h] at this
theorem place_f {n : Int} (h : ¬ Place n) : Fun Try.prog 64 [.lit (.int .i64 n)] (Ret (.lit (.bool false)) []) := by
  have := place_fun n
  rwa [decide_eq_false h] at this

/-- One step is right behind another, or is the first. -/
def okStep (p : Option (Int × Int)) (s : Int × Int) : Prop := Place s.1 ∧ 0 ≤ s.2 ∧ s.2 ≤ 1099511627776 ∧ ∀ q, p = some q → q.1 < s.1
def okL : Option (Int × Int) → List (Int × Int) → Prop
  | _, [] => True
  | p, s :: l => okStep p s ∧ okL (some s) l
def OKSteps (l : List (Int × Int)) : Prop := l.length ≤ 200 ∧ okL none l
instance (p) (s) : Decidable (okStep p s) := by
  unfold okStep
  cases p with
  | none => exact decidable_of_iff (Place s.1 ∧ 0 ≤ s.2 ∧ s.2 ≤ 1099511627776) (by simp)
  | some q => exact decidable_of_iff (Place s.1 ∧ 0 ≤ s.2 ∧ s.2 ≤ 1099511627776 ∧ q.1 < s.1) (by simp)
instance okLDec : ∀ (p) (l), Decidable (okL p l)
  | _, [] => .isTrue trivial
  | p, s :: l => by
    unfold okL
    have := okLDec (some s) l
    infer_instance
instance (l) : Decidable (OKSteps l) := by unfold OKSteps; infer_instance

theorem valid_fun (l : List (Int × Int)) : Fun Try.prog 47 [.sh 2 (l.map stepC)] (Ret (.lit (.bool (decide (OKSteps l)))) []) := by
  refine Fun.of (nt := 45) (rs := [.tmp 2]) Try.func47 rfl rfl rfl rfl rfl ?_
  repeat refine Ev.seq ?_
  refine Ev.region_S fun K hK => ?_
  refine S.q rfl rfl (q_assign rfl) ?_
  refine S.end (hK _ ?_)
  clear hK K
  try show Ev _ _ _ _
  by_cases hlen : l.length ≤ 200
  case neg =>
    repeat refine Ev.seq ?_
    refine Ev.region_S fun K hK => ?_
    refine S.q rfl rfl (q_move rfl) ?_
    refine S.q rfl rfl (q_len am_el22 rfl (by simp only [lenAV, List.length_map]; rfl)) ?_
    first | refine S.q rfl rfl (q_gtr_t rfl rfl (by first | omega | assumption)) ?_ | refine S.q rfl rfl (q_gtr_f rfl rfl (by first | omega | assumption)) ?_ | refine S.q rfl rfl (q_gtr rfl rfl) ?_
    refine S.end (hK _ ?_)
    clear hK K
    try show Ev _ _ _ _
    repeat refine Ev.seq ?_
    refine Ev.cond rfl (fun h => ?_) (fun h => ?_)
    · show Ev _ _ _ _
      repeat refine Ev.seq ?_
      refine Ev.region_S fun K hK => ?_
      refine S.q rfl rfl (q_assign rfl) ?_
      refine S.end (hK _ ?_)
      clear hK K
      try show Ev _ _ _ _
      have hno : ¬ OKSteps l := fun h' => hlen h'.1
      repeat refine Ev.seq ?_
      refine Ev.ret ?_
      refine ⟨[], List.nodup_nil, ?_⟩
      simp only [retP, resAV, packAV, renAV, renL, keepObjs, St.get, find_cons, reduceIte, Option.map_some, Nat.reduceEqDiff, Ret, and_self, hno, decide_false]
    · cases h
  repeat refine Ev.seq ?_
  refine Ev.region_S fun K hK => ?_
  refine S.q rfl rfl (q_move rfl) ?_
  refine S.q rfl rfl (q_len am_el22 rfl (by simp only [lenAV, List.length_map]; rfl)) ?_
  first | refine S.q rfl rfl (q_gtr_t rfl rfl (by first | omega | assumption)) ?_ | refine S.q rfl rfl (q_gtr_f rfl rfl (by first | omega | assumption)) ?_ | refine S.q rfl rfl (q_gtr rfl rfl) ?_
  refine S.end (hK _ ?_)
  clear hK K
  try show Ev _ _ _ _
  repeat refine Ev.seq ?_
  refine Ev.cond rfl (fun h => ?_) (fun h => ?_)
  · cases h
  refine Ev.skip ?_
  show Ev _ _ _ _
  repeat refine Ev.seq ?_
  refine Ev.region_S fun K hK => ?_
  refine S.q rfl rfl (q_move rfl) ?_
  refine S.q rfl rfl (q_len am_el22 rfl (by simp only [lenAV, List.length_map]; rfl)) ?_
  refine S.q rfl rfl (q_move rfl) ?_
  refine S.end (hK _ ?_)
  clear hK K
  try show Ev _ _ _ _
  refine Ev.block (Ev.loop (ι := {p : List (Int × Int) × List (Int × Int) // p.1 ++ p.2 = l ∧ (okL none l ↔ okL p.1.getLast? p.2)}) (fun p => ⟨[(0, .sh 2 (l.map stepC)), (8, .sh 2 (l.map stepC)), (9, .lit (.int .i64 l.length)), (10, .lit (.int .i64 p.1.1.length))], [], 0, 45, 0⟩)
      (fun p => p.1.2.length) ⟨([], l), rfl, Iff.rfl⟩ ?_ ?_)
  · refine Wk.ren [] List.nodup_nil ?_ rfl rfl rfl rfl (fun i hi => absurd hi (Nat.not_lt_zero i))
    simp only [slotsRen, renAV, argSlots, St.get, find_cons, reduceIte, Nat.reduceEqDiff, and_self, List.length_nil, Int.natCast_zero, Int.ofNat_zero, Int.cast_ofNat_Int]
  · rintro ⟨⟨pre, suf⟩, hp, hok⟩
    simp only at hp hok
    dsimp only
    cases suf with
    | nil =>
      rw [List.append_nil] at hp
      subst hp
      repeat refine Ev.seq ?_
      refine Ev.region_S fun K hK => ?_
      first | refine S.q rfl rfl (q_lss_t rfl rfl (by first | omega | assumption)) ?_ | refine S.q rfl rfl (q_lss_f rfl rfl (by first | omega | assumption)) ?_ | refine S.q rfl rfl (q_lss rfl rfl) ?_
      refine S.end (hK _ ?_)
      clear hK K
      try show Ev _ _ _ _
      repeat refine Ev.seq ?_
      refine Ev.cond rfl (fun h => ?_) (fun h => ?_)
      · cases h
      refine Ev.exit ?_
      show Ev _ _ _ _
      repeat refine Ev.seq ?_
      refine Ev.region_S fun K hK => ?_
      refine S.q rfl rfl (q_assign rfl) ?_
      refine S.end (hK _ ?_)
      clear hK K
      try show Ev _ _ _ _
      have hyes : OKSteps pre := ⟨hlen, hok.2 trivial⟩
      repeat refine Ev.seq ?_
      refine Ev.ret ?_
      refine ⟨[], List.nodup_nil, ?_⟩
      simp only [retP, resAV, packAV, renAV, renL, keepObjs, St.get, find_cons, reduceIte, Option.map_some, Nat.reduceEqDiff, Ret, and_self, hyes, decide_true]
    | cons s suf =>
      have hlt : (pre.length : Int) < l.length := by rw [← hp, List.length_append, List.length_cons]; omega
      have hidx : l[pre.length]? = some s := by rw [← hp]; simp
      repeat refine Ev.seq ?_
      refine Ev.region_S fun K hK => ?_
      first | refine S.q rfl rfl (q_lss_t rfl rfl (by first | omega | assumption)) ?_ | refine S.q rfl rfl (q_lss_f rfl rfl (by first | omega | assumption)) ?_ | refine S.q rfl rfl (q_lss rfl rfl) ?_
      refine S.end (hK _ ?_)
      clear hK K
      try show Ev _ _ _ _
      repeat refine Ev.seq ?_
      refine Ev.cond rfl (fun h => ?_) (fun h => ?_)
      rotate_left
      · cases h
      refine Ev.skip ?_
      show Ev _ _ _ _
      repeat refine Ev.seq ?_
      refine Ev.block ?_
      repeat refine Ev.seq ?_
      refine Ev.region_S fun K hK => ?_
      refine S.q rfl rfl (q_move rfl) ?_
      first | refine S.q rfl rfl (q_ia am_el22 am_cl57 rfl rfl rfl rfl rfl (by first | omega | assumption) (by first | omega | assumption) rfl) ?_ | refine S.q rfl rfl (q_ias am_el22 am_cl57 rfl rfl rfl (by first | omega | assumption) (by first | (simp only [List.getElem?_map, Int.toNat_natCast, Nat.zero_add, Option.map_some, hidx]; rfl) | rfl)) ?_
      first | refine S.q rfl rfl (q_loadA am_ag57 am_cl57 rfl (cells_sadr0) rfl (take_all rfl)) ?_ | refine S.q rfl rfl (q_loadA am_ag57 am_cl57 rfl (cells_adr0 rfl (by first | (simp only [List.getElem?_map, Int.toNat_natCast, Nat.zero_add, Option.map_some, hidx]; rfl) | rfl)) rfl (take_all rfl)) ?_ | refine S.q rfl rfl (q_loadA am_ag57 am_cl57 rfl (cells_sadr (by (try simp only [splice, del_cons, del_nil, List.set_cons_zero, List.set_cons_succ, List.take_succ_cons, List.take_zero, List.drop_succ_cons, List.drop_zero, List.nil_append, List.cons_append, List.append_nil, List.length_cons, List.length_nil, Nat.reduceAdd, Nat.reduceEqDiff, reduceIte]); rfl)) rfl (by (try simp only [splice, del_cons, del_nil, List.set_cons_zero, List.set_cons_succ, List.take_succ_cons, List.take_zero, List.drop_succ_cons, List.drop_zero, List.nil_append, List.cons_append, List.append_nil, List.length_cons, List.length_nil, Nat.reduceAdd, Nat.reduceEqDiff, reduceIte]); rfl)) ?_ | refine S.q rfl rfl (q_loadA am_ag57 am_cl57 rfl (cells_adr rfl (by first | (simp only [List.getElem?_map, Int.toNat_natCast, Nat.zero_add, Option.map_some, hidx]; rfl) | rfl) (by (try simp only [splice, del_cons, del_nil, List.set_cons_zero, List.set_cons_succ, List.take_succ_cons, List.take_zero, List.drop_succ_cons, List.drop_zero, List.nil_append, List.cons_append, List.append_nil, List.length_cons, List.length_nil, Nat.reduceAdd, Nat.reduceEqDiff, reduceIte]); rfl)) rfl (by (try simp only [splice, del_cons, del_nil, List.set_cons_zero, List.set_cons_succ, List.take_succ_cons, List.take_zero, List.drop_succ_cons, List.drop_zero, List.nil_append, List.cons_append, List.append_nil, List.length_cons, List.length_nil, Nat.reduceAdd, Nat.reduceEqDiff, reduceIte]); rfl)) ?_
      refine S.new (q_alloc am_ze57 rfl) rfl rfl ?_
      refine S.q rfl rfl (q_assign rfl) ?_
      first | refine S.st (cl' := true) rfl am_in57 am_cl57 rfl rfl rfl (by first | (simp only [List.getElem?_map, Int.toNat_natCast, Nat.zero_add, Option.map_some, hidx]; rfl) | rfl) rfl rfl (by (try simp only [splice, del_cons, del_nil, List.set_cons_zero, List.set_cons_succ, List.take_succ_cons, List.take_zero, List.drop_succ_cons, List.drop_zero, List.nil_append, List.cons_append, List.append_nil, List.length_cons, List.length_nil, Nat.reduceAdd, Nat.reduceEqDiff, reduceIte]); rfl) (by (try simp only [splice, del_cons, del_nil, List.set_cons_zero, List.set_cons_succ, List.take_succ_cons, List.take_zero, List.drop_succ_cons, List.drop_zero, List.nil_append, List.cons_append, List.append_nil, List.length_cons, List.length_nil, Nat.reduceAdd, Nat.reduceEqDiff, reduceIte]); rfl) rfl (by (try simp only [splice, del_cons, del_nil, List.set_cons_zero, List.set_cons_succ, List.take_succ_cons, List.take_zero, List.drop_succ_cons, List.drop_zero, List.nil_append, List.cons_append, List.append_nil, List.length_cons, List.length_nil, Nat.reduceAdd, Nat.reduceEqDiff, reduceIte]); rfl) ?_ | refine S.st (cl' := false) rfl am_in57 am_cl57 rfl rfl rfl (by first | (simp only [List.getElem?_map, Int.toNat_natCast, Nat.zero_add, Option.map_some, hidx]; rfl) | rfl) rfl rfl (by (try simp only [splice, del_cons, del_nil, List.set_cons_zero, List.set_cons_succ, List.take_succ_cons, List.take_zero, List.drop_succ_cons, List.drop_zero, List.nil_append, List.cons_append, List.append_nil, List.length_cons, List.length_nil, Nat.reduceAdd, Nat.reduceEqDiff, reduceIte]); rfl) (by (try simp only [splice, del_cons, del_nil, List.set_cons_zero, List.set_cons_succ, List.take_succ_cons, List.take_zero, List.drop_succ_cons, List.drop_zero, List.nil_append, List.cons_append, List.append_nil, List.length_cons, List.length_nil, Nat.reduceAdd, Nat.reduceEqDiff, reduceIte]); rfl) rfl (by (try simp only [splice, del_cons, del_nil, List.set_cons_zero, List.set_cons_succ, List.take_succ_cons, List.take_zero, List.drop_succ_cons, List.drop_zero, List.nil_append, List.cons_append, List.append_nil, List.length_cons, List.length_nil, Nat.reduceAdd, Nat.reduceEqDiff, reduceIte]); rfl) ?_
      refine S.end (hK _ ?_)
      clear hK K
      try show Ev _ _ _ _
      have hfail : ¬ okStep pre.getLast? s → ¬ OKSteps l := fun h' h2 => h' (hok.1 h2.2).1
      by_cases h1 : Place s.1
      case neg =>
        have hprev : True := trivial
        repeat refine Ev.seq ?_
        refine Ev.region_D [[], [true], [true, true], [true, true, true], [true, true, true, true], [true, true, true, true, true], [true, true, true, true, true, true], [true, true, true, true, true, true, true], [true, true, true, true, true, true, true, true], [true, true, true, true, true, true, true, true, true], [true, true, true, true, true, true, true, true, true, true], [true, true, true, true, true, true, true, true, true, true, true], [true, true, true, true, true, true, true, true, true, true, true, true], [true, true, true, true, true, true, true, true, true, true, true, true, true], [true, true, true, true, true, true, true, true, true, true, true, true, true, true], [true, true, true, true, true, true, true, true, true, true, true, true, true, true, true], [true, true, true, true, true, true, true, true, true, true, true, true, true, true, true, true], [true, true, true, true, true, true, true, true, true, true, true, true, true, true, true, true, true], [true, true, true, true, true, true, true, true, true, true, true, true, true, true, true, true, true, true], [true, true, true, true, true, true, true, true, true, true, true, true, true, true, true, true, true, true, true], [true, true, true, true, true, true, true, true, true, true, true, true, true, true, true, true, true, true], [true, true, true, true, true, true, true, true, true, true, true, true, true, true, true, true, true, true], [true, true, true, true, true, true, true, true, true, true, true, true, true, true, true, true, true, true, false, false, false, true], [true, true, true, true, true, true, true, true, true, true, true, true, true, true, true, true, true, true, false, false, true, true, true], [true, true, true, true, true, true, true, true, true, true, true, true, true, true, true, true, true, true, false, false, true, true, true, true], [true, true, true, true, true, true, true, true, true, true, true, true, true, true, true, true, true, true, false, false, true, true, true, true, true], [true, true, true, true, true, true, true, true, true, true, true, true, true, true, true, true, true, true, true, true, true, true, true, true, true, true], [true, true, true, true, true, true, true, true, true, true, true, true, true, true, true, true, true, true, true, true, true, true, true, true, true, true, true], [true, true, true, true, true, true, true, true, true, true, true, true, true, true, true, true, true, true, true, true, true, true, true, true, true, true, true, true]] 29 1 rfl rfl rfl rfl fun K hK => ?_
        first | refine D.q rfl (q_fa am_fi57_0 am_cl3 rfl rfl rfl) ?_ | refine D.q rfl (q_fas am_fi57_0 am_cl3 rfl rfl rfl) ?_
        first | refine D.q rfl (q_load1 am_ag3 rfl rfl) ?_ | refine D.q rfl (q_load1 am_ag3 rfl (cells_adr rfl (by first | (simp only [List.getElem?_map, Int.toNat_natCast, Nat.zero_add, Option.map_some, hidx, hprev]; rfl) | rfl) rfl)) ?_
        refine D.call rfl (Quiet.call rfl rfl rfl (place_f h1) (.inl rfl) rfl) ?_
        first | refine D.q rfl (q_not_t rfl) ?_ | refine D.q rfl (q_not_f rfl) ?_ | refine D.q rfl (q_not rfl) ?_
        refine D.q rfl (q_move rfl) ?_
        first | refine D.skip rfl ?_ | refine D.q rfl (q_fa am_fi57_1 am_cl3 rfl rfl rfl) ?_ | refine D.q rfl (q_fas am_fi57_1 am_cl3 rfl rfl rfl) ?_
        first | refine D.skip rfl ?_ | refine D.q rfl (q_load1 am_ag3 rfl rfl) ?_ | refine D.q rfl (q_load1 am_ag3 rfl (cells_adr rfl (by first | (simp only [List.getElem?_map, Int.toNat_natCast, Nat.zero_add, Option.map_some, hidx, hprev]; rfl) | rfl) rfl)) ?_
        first | refine D.skip rfl ?_ | refine D.q rfl (q_lss_t rfl rfl (by first | omega | assumption)) ?_ | refine D.q rfl (q_lss_f rfl rfl (by first | omega | assumption)) ?_ | refine D.q rfl (q_lss rfl rfl) ?_
        first | refine D.q rfl (q_pick_t rfl rfl) ?_ | refine D.q rfl (q_pick_f rfl rfl) ?_
        refine D.q rfl (q_move rfl) ?_
        first | refine D.skip rfl ?_ | refine D.q rfl (q_fa am_fi57_1 am_cl3 rfl rfl rfl) ?_ | refine D.q rfl (q_fas am_fi57_1 am_cl3 rfl rfl rfl) ?_
        first | refine D.skip rfl ?_ | refine D.q rfl (q_load1 am_ag3 rfl rfl) ?_ | refine D.q rfl (q_load1 am_ag3 rfl (cells_adr rfl (by first | (simp only [List.getElem?_map, Int.toNat_natCast, Nat.zero_add, Option.map_some, hidx, hprev]; rfl) | rfl) rfl)) ?_
        first | refine D.skip rfl ?_ | refine D.q rfl (q_gtr_t rfl rfl (by first | omega | assumption)) ?_ | refine D.q rfl (q_gtr_f rfl rfl (by first | omega | assumption)) ?_ | refine D.q rfl (q_gtr rfl rfl) ?_
        first | refine D.q rfl (q_pick_t rfl rfl) ?_ | refine D.q rfl (q_pick_f rfl rfl) ?_
        refine D.q rfl (q_move rfl) ?_
        first | refine D.skip rfl ?_ | refine D.q rfl (q_move rfl) ?_
        first | refine D.skip rfl ?_ | refine D.q rfl (q_gtr_t rfl rfl (by first | omega | assumption)) ?_ | refine D.q rfl (q_gtr_f rfl rfl (by first | omega | assumption)) ?_ | refine D.q rfl (q_gtr rfl rfl) ?_
        first | refine D.skip rfl ?_ | refine D.q rfl (q_move rfl) ?_
        first | refine D.skip rfl ?_ | refine D.q rfl (q_fa am_fi57_0 am_cl3 rfl rfl rfl) ?_ | refine D.q rfl (q_fas am_fi57_0 am_cl3 rfl rfl rfl) ?_
        first | refine D.skip rfl ?_ | refine D.q rfl (q_load1 am_ag3 rfl rfl) ?_ | refine D.q rfl (q_load1 am_ag3 rfl (cells_adr rfl (by first | (simp only [List.getElem?_map, Int.toNat_natCast, Nat.zero_add, Option.map_some, hidx, hprev]; rfl) | rfl) rfl)) ?_
        first | refine D.skip rfl ?_ | refine D.q rfl (q_move rfl) ?_
        first | refine D.skip rfl ?_ | refine D.q rfl (q_move rfl) ?_
        first | refine D.skip rfl ?_ | refine D.q rfl (q_sub rfl rfl (by first | omega | assumption) (by first | omega | assumption)) ?_
        first | refine D.skip rfl ?_ | refine D.q rfl (q_ia am_el22 am_cl57 rfl rfl rfl rfl rfl (by first | omega | assumption) (by first | omega | assumption) rfl) ?_ | refine D.q rfl (q_ias am_el22 am_cl57 rfl rfl rfl (by first | omega | assumption) (by first | (simp only [List.getElem?_map, Int.toNat_natCast, Nat.zero_add, Option.map_some, hidx, hprev]; rfl) | rfl)) ?_
        first | refine D.skip rfl ?_ | refine D.q rfl (q_fa am_fi57_0 am_cl3 rfl rfl rfl) ?_ | refine D.q rfl (q_fas am_fi57_0 am_cl3 rfl rfl rfl) ?_
        first | refine D.skip rfl ?_ | refine D.q rfl (q_load1 am_ag3 rfl rfl) ?_ | refine D.q rfl (q_load1 am_ag3 rfl (cells_adr rfl (by first | (simp only [List.getElem?_map, Int.toNat_natCast, Nat.zero_add, Option.map_some, hidx, hprev]; rfl) | rfl) rfl)) ?_
        first | refine D.skip rfl ?_ | refine D.q rfl (q_leq_t rfl rfl (by first | omega | assumption)) ?_ | refine D.q rfl (q_leq_f rfl rfl (by first | omega | assumption)) ?_ | refine D.q rfl (q_leq rfl rfl) ?_
        first | refine D.skip rfl ?_ | refine D.q rfl (q_pick_t rfl rfl) ?_ | refine D.q rfl (q_pick_f rfl rfl) ?_
        first | refine D.q rfl (q_pick_t rfl rfl) ?_ | refine D.q rfl (q_pick_f rfl rfl) ?_
        refine D.end ?_
        refine S.end (hK _ ?_)
        clear hK K
        try show Ev _ _ _ _
        repeat refine Ev.seq ?_
        refine Ev.cond rfl (fun h => ?_) (fun h => ?_)
        rotate_left
        · cases h
        repeat refine Ev.seq ?_
        refine Ev.region_S fun K hK => ?_
        refine S.q rfl rfl (q_assign rfl) ?_
        refine S.end (hK _ ?_)
        clear hK K
        try show Ev _ _ _ _
        have hno : ¬ OKSteps l := hfail fun h' => h1 h'.1
        repeat refine Ev.seq ?_
        refine Ev.ret ?_
        refine ⟨[], List.nodup_nil, ?_⟩
        simp only [retP, resAV, packAV, renAV, renL, keepObjs, St.get, find_cons, reduceIte, Option.map_some, Nat.reduceEqDiff, Ret, and_self, hno, decide_false]
      by_cases h2 : 0 ≤ s.2
      case neg =>
        have hprev : True := trivial
        repeat refine Ev.seq ?_
        refine Ev.region_D [[], [true], [true, true], [true, true, true], [true, true, true, true], [true, true, true, true, true], [true, true, true, true, true, true], [true, true, true, true, true, true, true], [true, true, true, true, true, true, true, true], [true, true, true, true, true, true, true, true, true], [true, true, true, true, true, true, true, true, true, true], [true, true, true, true, true, true, true, true, true, true, true], [true, true, true, true, true, true, true, true, true, true, true, true], [true, true, true, true, true, true, true, true, true, true, true, true, true], [true, true, true, true, true, true, true, true, true, true, true, true, true, true], [true, true, true, true, true, true, true, true, true, true, true, true, true, true, true], [true, true, true, true, true, true, true, true, true, true, true, true, true, true, true, true], [true, true, true, true, true, true, true, true, true, true, true, true, true, true, true, true, true], [true, true, true, true, true, true, true, true, true, true, true, true, true, true, true, true, true, true], [true, true, true, true, true, true, true, true, true, true, true, true, true, true, true, true, true, true, true], [true, true, true, true, true, true, true, true, true, true, true, true, true, true, true, true, true, true], [true, true, true, true, true, true, true, true, true, true, true, true, true, true, true, true, true, true], [true, true, true, true, true, true, true, true, true, true, true, true, true, true, true, true, true, true, false, false, false, true], [true, true, true, true, true, true, true, true, true, true, true, true, true, true, true, true, true, true, false, false, true, true, true], [true, true, true, true, true, true, true, true, true, true, true, true, true, true, true, true, true, true, false, false, true, true, true, true], [true, true, true, true, true, true, true, true, true, true, true, true, true, true, true, true, true, true, false, false, true, true, true, true, true], [true, true, true, true, true, true, true, true, true, true, true, true, true, true, true, true, true, true, true, true, true, true, true, true, true, true], [true, true, true, true, true, true, true, true, true, true, true, true, true, true, true, true, true, true, true, true, true, true, true, true, true, true, true], [true, true, true, true, true, true, true, true, true, true, true, true, true, true, true, true, true, true, true, true, true, true, true, true, true, true, true, true]] 29 1 rfl rfl rfl rfl fun K hK => ?_
        first | refine D.q rfl (q_fa am_fi57_0 am_cl3 rfl rfl rfl) ?_ | refine D.q rfl (q_fas am_fi57_0 am_cl3 rfl rfl rfl) ?_
        first | refine D.q rfl (q_load1 am_ag3 rfl rfl) ?_ | refine D.q rfl (q_load1 am_ag3 rfl (cells_adr rfl (by first | (simp only [List.getElem?_map, Int.toNat_natCast, Nat.zero_add, Option.map_some, hidx, hprev]; rfl) | rfl) rfl)) ?_
        refine D.call rfl (Quiet.call rfl rfl rfl (place_t h1) (.inl rfl) rfl) ?_
        first | refine D.q rfl (q_not_t rfl) ?_ | refine D.q rfl (q_not_f rfl) ?_ | refine D.q rfl (q_not rfl) ?_
        refine D.q rfl (q_move rfl) ?_
        first | refine D.skip rfl ?_ | refine D.q rfl (q_fa am_fi57_1 am_cl3 rfl rfl rfl) ?_ | refine D.q rfl (q_fas am_fi57_1 am_cl3 rfl rfl rfl) ?_
        first | refine D.skip rfl ?_ | refine D.q rfl (q_load1 am_ag3 rfl rfl) ?_ | refine D.q rfl (q_load1 am_ag3 rfl (cells_adr rfl (by first | (simp only [List.getElem?_map, Int.toNat_natCast, Nat.zero_add, Option.map_some, hidx, hprev]; rfl) | rfl) rfl)) ?_
        first | refine D.skip rfl ?_ | refine D.q rfl (q_lss_t rfl rfl (by first | omega | assumption)) ?_ | refine D.q rfl (q_lss_f rfl rfl (by first | omega | assumption)) ?_ | refine D.q rfl (q_lss rfl rfl) ?_
        first | refine D.q rfl (q_pick_t rfl rfl) ?_ | refine D.q rfl (q_pick_f rfl rfl) ?_
        refine D.q rfl (q_move rfl) ?_
        first | refine D.skip rfl ?_ | refine D.q rfl (q_fa am_fi57_1 am_cl3 rfl rfl rfl) ?_ | refine D.q rfl (q_fas am_fi57_1 am_cl3 rfl rfl rfl) ?_
        first | refine D.skip rfl ?_ | refine D.q rfl (q_load1 am_ag3 rfl rfl) ?_ | refine D.q rfl (q_load1 am_ag3 rfl (cells_adr rfl (by first | (simp only [List.getElem?_map, Int.toNat_natCast, Nat.zero_add, Option.map_some, hidx, hprev]; rfl) | rfl) rfl)) ?_
        first | refine D.skip rfl ?_ | refine D.q rfl (q_gtr_t rfl rfl (by first | omega | assumption)) ?_ | refine D.q rfl (q_gtr_f rfl rfl (by first | omega | assumption)) ?_ | refine D.q rfl (q_gtr rfl rfl) ?_
        first | refine D.q rfl (q_pick_t rfl rfl) ?_ | refine D.q rfl (q_pick_f rfl rfl) ?_
        refine D.q rfl (q_move rfl) ?_
        first | refine D.skip rfl ?_ | refine D.q rfl (q_move rfl) ?_
        first | refine D.skip rfl ?_ | refine D.q rfl (q_gtr_t rfl rfl (by first | omega | assumption)) ?_ | refine D.q rfl (q_gtr_f rfl rfl (by first | omega | assumption)) ?_ | refine D.q rfl (q_gtr rfl rfl) ?_
        first | refine D.skip rfl ?_ | refine D.q rfl (q_move rfl) ?_
        first | refine D.skip rfl ?_ | refine D.q rfl (q_fa am_fi57_0 am_cl3 rfl rfl rfl) ?_ | refine D.q rfl (q_fas am_fi57_0 am_cl3 rfl rfl rfl) ?_
        first | refine D.skip rfl ?_ | refine D.q rfl (q_load1 am_ag3 rfl rfl) ?_ | refine D.q rfl (q_load1 am_ag3 rfl (cells_adr rfl (by first | (simp only [List.getElem?_map, Int.toNat_natCast, Nat.zero_add, Option.map_some, hidx, hprev]; rfl) | rfl) rfl)) ?_
        first | refine D.skip rfl ?_ | refine D.q rfl (q_move rfl) ?_
        first | refine D.skip rfl ?_ | refine D.q rfl (q_move rfl) ?_
        first | refine D.skip rfl ?_ | refine D.q rfl (q_sub rfl rfl (by first | omega | assumption) (by first | omega | assumption)) ?_
        first | refine D.skip rfl ?_ | refine D.q rfl (q_ia am_el22 am_cl57 rfl rfl rfl rfl rfl (by first | omega | assumption) (by first | omega | assumption) rfl) ?_ | refine D.q rfl (q_ias am_el22 am_cl57 rfl rfl rfl (by first | omega | assumption) (by first | (simp only [List.getElem?_map, Int.toNat_natCast, Nat.zero_add, Option.map_some, hidx, hprev]; rfl) | rfl)) ?_
        first | refine D.skip rfl ?_ | refine D.q rfl (q_fa am_fi57_0 am_cl3 rfl rfl rfl) ?_ | refine D.q rfl (q_fas am_fi57_0 am_cl3 rfl rfl rfl) ?_
        first | refine D.skip rfl ?_ | refine D.q rfl (q_load1 am_ag3 rfl rfl) ?_ | refine D.q rfl (q_load1 am_ag3 rfl (cells_adr rfl (by first | (simp only [List.getElem?_map, Int.toNat_natCast, Nat.zero_add, Option.map_some, hidx, hprev]; rfl) | rfl) rfl)) ?_
        first | refine D.skip rfl ?_ | refine D.q rfl (q_leq_t rfl rfl (by first | omega | assumption)) ?_ | refine D.q rfl (q_leq_f rfl rfl (by first | omega | assumption)) ?_ | refine D.q rfl (q_leq rfl rfl) ?_
        first | refine D.skip rfl ?_ | refine D.q rfl (q_pick_t rfl rfl) ?_ | refine D.q rfl (q_pick_f rfl rfl) ?_
        first | refine D.q rfl (q_pick_t rfl rfl) ?_ | refine D.q rfl (q_pick_f rfl rfl) ?_
        refine D.end ?_
        refine S.end (hK _ ?_)
        clear hK K
        try show Ev _ _ _ _
        repeat refine Ev.seq ?_
        refine Ev.cond rfl (fun h => ?_) (fun h => ?_)
        rotate_left
        · cases h
        repeat refine Ev.seq ?_
        refine Ev.region_S fun K hK => ?_
        refine S.q rfl rfl (q_assign rfl) ?_
        refine S.end (hK _ ?_)
        clear hK K
        try show Ev _ _ _ _
        have hno : ¬ OKSteps l := hfail fun h' => h2 h'.2.1
        repeat refine Ev.seq ?_
        refine Ev.ret ?_
        refine ⟨[], List.nodup_nil, ?_⟩
        simp only [retP, resAV, packAV, renAV, renL, keepObjs, St.get, find_cons, reduceIte, Option.map_some, Nat.reduceEqDiff, Ret, and_self, hno, decide_false]
      by_cases h3 : s.2 ≤ 1099511627776
      case neg =>
        have hprev : True := trivial
        repeat refine Ev.seq ?_
        refine Ev.region_D [[], [true], [true, true], [true, true, true], [true, true, true, true], [true, true, true, true, true], [true, true, true, true, true, true], [true, true, true, true, true, true, true], [true, true, true, true, true, true, true, true], [true, true, true, true, true, true, true, true, true], [true, true, true, true, true, true, true, true, true, true], [true, true, true, true, true, true, true, true, true, true, true], [true, true, true, true, true, true, true, true, true, true, true, true], [true, true, true, true, true, true, true, true, true, true, true, true, true], [true, true, true, true, true, true, true, true, true, true, true, true, true, true], [true, true, true, true, true, true, true, true, true, true, true, true, true, true, true], [true, true, true, true, true, true, true, true, true, true, true, true, true, true, true, true], [true, true, true, true, true, true, true, true, true, true, true, true, true, true, true, true, true], [true, true, true, true, true, true, true, true, true, true, true, true, true, true, true, true, true, true], [true, true, true, true, true, true, true, true, true, true, true, true, true, true, true, true, true, true, true], [true, true, true, true, true, true, true, true, true, true, true, true, true, true, true, true, true, true], [true, true, true, true, true, true, true, true, true, true, true, true, true, true, true, true, true, true], [true, true, true, true, true, true, true, true, true, true, true, true, true, true, true, true, true, true, false, false, false, true], [true, true, true, true, true, true, true, true, true, true, true, true, true, true, true, true, true, true, false, false, true, true, true], [true, true, true, true, true, true, true, true, true, true, true, true, true, true, true, true, true, true, false, false, true, true, true, true], [true, true, true, true, true, true, true, true, true, true, true, true, true, true, true, true, true, true, false, false, true, true, true, true, true], [true, true, true, true, true, true, true, true, true, true, true, true, true, true, true, true, true, true, true, true, true, true, true, true, true, true], [true, true, true, true, true, true, true, true, true, true, true, true, true, true, true, true, true, true, true, true, true, true, true, true, true, true, true], [true, true, true, true, true, true, true, true, true, true, true, true, true, true, true, true, true, true, true, true, true, true, true, true, true, true, true, true]] 29 1 rfl rfl rfl rfl fun K hK => ?_
        first | refine D.q rfl (q_fa am_fi57_0 am_cl3 rfl rfl rfl) ?_ | refine D.q rfl (q_fas am_fi57_0 am_cl3 rfl rfl rfl) ?_
        first | refine D.q rfl (q_load1 am_ag3 rfl rfl) ?_ | refine D.q rfl (q_load1 am_ag3 rfl (cells_adr rfl (by first | (simp only [List.getElem?_map, Int.toNat_natCast, Nat.zero_add, Option.map_some, hidx, hprev]; rfl) | rfl) rfl)) ?_
        refine D.call rfl (Quiet.call rfl rfl rfl (place_t h1) (.inl rfl) rfl) ?_
        first | refine D.q rfl (q_not_t rfl) ?_ | refine D.q rfl (q_not_f rfl) ?_ | refine D.q rfl (q_not rfl) ?_
        refine D.q rfl (q_move rfl) ?_
        first | refine D.skip rfl ?_ | refine D.q rfl (q_fa am_fi57_1 am_cl3 rfl rfl rfl) ?_ | refine D.q rfl (q_fas am_fi57_1 am_cl3 rfl rfl rfl) ?_
        first | refine D.skip rfl ?_ | refine D.q rfl (q_load1 am_ag3 rfl rfl) ?_ | refine D.q rfl (q_load1 am_ag3 rfl (cells_adr rfl (by first | (simp only [List.getElem?_map, Int.toNat_natCast, Nat.zero_add, Option.map_some, hidx, hprev]; rfl) | rfl) rfl)) ?_
        first | refine D.skip rfl ?_ | refine D.q rfl (q_lss_t rfl rfl (by first | omega | assumption)) ?_ | refine D.q rfl (q_lss_f rfl rfl (by first | omega | assumption)) ?_ | refine D.q rfl (q_lss rfl rfl) ?_
        first | refine D.q rfl (q_pick_t rfl rfl) ?_ | refine D.q rfl (q_pick_f rfl rfl) ?_
        refine D.q rfl (q_move rfl) ?_
        first | refine D.skip rfl ?_ | refine D.q rfl (q_fa am_fi57_1 am_cl3 rfl rfl rfl) ?_ | refine D.q rfl (q_fas am_fi57_1 am_cl3 rfl rfl rfl) ?_
        first | refine D.skip rfl ?_ | refine D.q rfl (q_load1 am_ag3 rfl rfl) ?_ | refine D.q rfl (q_load1 am_ag3 rfl (cells_adr rfl (by first | (simp only [List.getElem?_map, Int.toNat_natCast, Nat.zero_add, Option.map_some, hidx, hprev]; rfl) | rfl) rfl)) ?_
        first | refine D.skip rfl ?_ | refine D.q rfl (q_gtr_t rfl rfl (by first | omega | assumption)) ?_ | refine D.q rfl (q_gtr_f rfl rfl (by first | omega | assumption)) ?_ | refine D.q rfl (q_gtr rfl rfl) ?_
        first | refine D.q rfl (q_pick_t rfl rfl) ?_ | refine D.q rfl (q_pick_f rfl rfl) ?_
        refine D.q rfl (q_move rfl) ?_
        first | refine D.skip rfl ?_ | refine D.q rfl (q_move rfl) ?_
        first | refine D.skip rfl ?_ | refine D.q rfl (q_gtr_t rfl rfl (by first | omega | assumption)) ?_ | refine D.q rfl (q_gtr_f rfl rfl (by first | omega | assumption)) ?_ | refine D.q rfl (q_gtr rfl rfl) ?_
        first | refine D.skip rfl ?_ | refine D.q rfl (q_move rfl) ?_
        first | refine D.skip rfl ?_ | refine D.q rfl (q_fa am_fi57_0 am_cl3 rfl rfl rfl) ?_ | refine D.q rfl (q_fas am_fi57_0 am_cl3 rfl rfl rfl) ?_
        first | refine D.skip rfl ?_ | refine D.q rfl (q_load1 am_ag3 rfl rfl) ?_ | refine D.q rfl (q_load1 am_ag3 rfl (cells_adr rfl (by first | (simp only [List.getElem?_map, Int.toNat_natCast, Nat.zero_add, Option.map_some, hidx, hprev]; rfl) | rfl) rfl)) ?_
        first | refine D.skip rfl ?_ | refine D.q rfl (q_move rfl) ?_
        first | refine D.skip rfl ?_ | refine D.q rfl (q_move rfl) ?_
        first | refine D.skip rfl ?_ | refine D.q rfl (q_sub rfl rfl (by first | omega | assumption) (by first | omega | assumption)) ?_
        first | refine D.skip rfl ?_ | refine D.q rfl (q_ia am_el22 am_cl57 rfl rfl rfl rfl rfl (by first | omega | assumption) (by first | omega | assumption) rfl) ?_ | refine D.q rfl (q_ias am_el22 am_cl57 rfl rfl rfl (by first | omega | assumption) (by first | (simp only [List.getElem?_map, Int.toNat_natCast, Nat.zero_add, Option.map_some, hidx, hprev]; rfl) | rfl)) ?_
        first | refine D.skip rfl ?_ | refine D.q rfl (q_fa am_fi57_0 am_cl3 rfl rfl rfl) ?_ | refine D.q rfl (q_fas am_fi57_0 am_cl3 rfl rfl rfl) ?_
        first | refine D.skip rfl ?_ | refine D.q rfl (q_load1 am_ag3 rfl rfl) ?_ | refine D.q rfl (q_load1 am_ag3 rfl (cells_adr rfl (by first | (simp only [List.getElem?_map, Int.toNat_natCast, Nat.zero_add, Option.map_some, hidx, hprev]; rfl) | rfl) rfl)) ?_
        first | refine D.skip rfl ?_ | refine D.q rfl (q_leq_t rfl rfl (by first | omega | assumption)) ?_ | refine D.q rfl (q_leq_f rfl rfl (by first | omega | assumption)) ?_ | refine D.q rfl (q_leq rfl rfl) ?_
        first | refine D.skip rfl ?_ | refine D.q rfl (q_pick_t rfl rfl) ?_ | refine D.q rfl (q_pick_f rfl rfl) ?_
        first | refine D.q rfl (q_pick_t rfl rfl) ?_ | refine D.q rfl (q_pick_f rfl rfl) ?_
        refine D.end ?_
        refine S.end (hK _ ?_)
        clear hK K
        try show Ev _ _ _ _
        repeat refine Ev.seq ?_
        refine Ev.cond rfl (fun h => ?_) (fun h => ?_)
        rotate_left
        · cases h
        repeat refine Ev.seq ?_
        refine Ev.region_S fun K hK => ?_
        refine S.q rfl rfl (q_assign rfl) ?_
        refine S.end (hK _ ?_)
        clear hK K
        try show Ev _ _ _ _
        have hno : ¬ OKSteps l := hfail fun h' => h3 h'.2.2.1
        repeat refine Ev.seq ?_
        refine Ev.ret ?_
        refine ⟨[], List.nodup_nil, ?_⟩
        simp only [retP, resAV, packAV, renAV, renL, keepObjs, St.get, find_cons, reduceIte, Option.map_some, Nat.reduceEqDiff, Ret, and_self, hno, decide_false]
      rcases List.eq_nil_or_concat pre with hpre | ⟨pre', q, hpre⟩
      · have hprev : True := trivial
        have hl0 : pre.length = 0 := by rw [hpre]; rfl
        repeat refine Ev.seq ?_
        refine Ev.region_D [[], [true], [true, true], [true, true, true], [true, true, true, true], [true, true, true, true, true], [true, true, true, true, true, true], [true, true, true, true, true, true, true], [true, true, true, true, true, true, true, true], [true, true, true, true, true, true, true, true, true], [true, true, true, true, true, true, true, true, true, true], [true, true, true, true, true, true, true, true, true, true, true], [true, true, true, true, true, true, true, true, true, true, true, true], [true, true, true, true, true, true, true, true, true, true, true, true, true], [true, true, true, true, true, true, true, true, true, true, true, true, true, true], [true, true, true, true, true, true, true, true, true, true, true, true, true, true, true], [true, true, true, true, true, true, true, true, true, true, true, true, true, true, true, true], [true, true, true, true, true, true, true, true, true, true, true, true, true, true, true, true, true], [true, true, true, true, true, true, true, true, true, true, true, true, true, true, true, true, true, true], [true, true, true, true, true, true, true, true, true, true, true, true, true, true, true, true, true, true, true], [true, true, true, true, true, true, true, true, true, true, true, true, true, true, true, true, true, true], [true, true, true, true, true, true, true, true, true, true, true, true, true, true, true, true, true, true], [true, true, true, true, true, true, true, true, true, true, true, true, true, true, true, true, true, true, false, false, false, true], [true, true, true, true, true, true, true, true, true, true, true, true, true, true, true, true, true, true, false, false, true, true, true], [true, true, true, true, true, true, true, true, true, true, true, true, true, true, true, true, true, true, false, false, true, true, true, true], [true, true, true, true, true, true, true, true, true, true, true, true, true, true, true, true, true, true, false, false, true, true, true, true, true], [true, true, true, true, true, true, true, true, true, true, true, true, true, true, true, true, true, true, true, true, true, true, true, true, true, true], [true, true, true, true, true, true, true, true, true, true, true, true, true, true, true, true, true, true, true, true, true, true, true, true, true, true, true], [true, true, true, true, true, true, true, true, true, true, true, true, true, true, true, true, true, true, true, true, true, true, true, true, true, true, true, true]] 29 1 rfl rfl rfl rfl fun K hK => ?_
        first | refine D.q rfl (q_fa am_fi57_0 am_cl3 rfl rfl rfl) ?_ | refine D.q rfl (q_fas am_fi57_0 am_cl3 rfl rfl rfl) ?_
        first | refine D.q rfl (q_load1 am_ag3 rfl rfl) ?_ | refine D.q rfl (q_load1 am_ag3 rfl (cells_adr rfl (by first | (simp only [List.getElem?_map, Int.toNat_natCast, Nat.zero_add, Option.map_some, hidx, hprev]; rfl) | rfl) rfl)) ?_
        refine D.call rfl (Quiet.call rfl rfl rfl (place_t h1) (.inl rfl) rfl) ?_
        first | refine D.q rfl (q_not_t rfl) ?_ | refine D.q rfl (q_not_f rfl) ?_ | refine D.q rfl (q_not rfl) ?_
        refine D.q rfl (q_move rfl) ?_
        first | refine D.skip rfl ?_ | refine D.q rfl (q_fa am_fi57_1 am_cl3 rfl rfl rfl) ?_ | refine D.q rfl (q_fas am_fi57_1 am_cl3 rfl rfl rfl) ?_
        first | refine D.skip rfl ?_ | refine D.q rfl (q_load1 am_ag3 rfl rfl) ?_ | refine D.q rfl (q_load1 am_ag3 rfl (cells_adr rfl (by first | (simp only [List.getElem?_map, Int.toNat_natCast, Nat.zero_add, Option.map_some, hidx, hprev]; rfl) | rfl) rfl)) ?_
        first | refine D.skip rfl ?_ | refine D.q rfl (q_lss_t rfl rfl (by first | omega | assumption)) ?_ | refine D.q rfl (q_lss_f rfl rfl (by first | omega | assumption)) ?_ | refine D.q rfl (q_lss rfl rfl) ?_
        first | refine D.q rfl (q_pick_t rfl rfl) ?_ | refine D.q rfl (q_pick_f rfl rfl) ?_
        refine D.q rfl (q_move rfl) ?_
        first | refine D.skip rfl ?_ | refine D.q rfl (q_fa am_fi57_1 am_cl3 rfl rfl rfl) ?_ | refine D.q rfl (q_fas am_fi57_1 am_cl3 rfl rfl rfl) ?_
        first | refine D.skip rfl ?_ | refine D.q rfl (q_load1 am_ag3 rfl rfl) ?_ | refine D.q rfl (q_load1 am_ag3 rfl (cells_adr rfl (by first | (simp only [List.getElem?_map, Int.toNat_natCast, Nat.zero_add, Option.map_some, hidx, hprev]; rfl) | rfl) rfl)) ?_
        first | refine D.skip rfl ?_ | refine D.q rfl (q_gtr_t rfl rfl (by first | omega | assumption)) ?_ | refine D.q rfl (q_gtr_f rfl rfl (by first | omega | assumption)) ?_ | refine D.q rfl (q_gtr rfl rfl) ?_
        first | refine D.q rfl (q_pick_t rfl rfl) ?_ | refine D.q rfl (q_pick_f rfl rfl) ?_
        refine D.q rfl (q_move rfl) ?_
        first | refine D.skip rfl ?_ | refine D.q rfl (q_move rfl) ?_
        first | refine D.skip rfl ?_ | refine D.q rfl (q_gtr_t rfl rfl (by first | omega | assumption)) ?_ | refine D.q rfl (q_gtr_f rfl rfl (by first | omega | assumption)) ?_ | refine D.q rfl (q_gtr rfl rfl) ?_
        first | refine D.skip rfl ?_ | refine D.q rfl (q_move rfl) ?_
        first | refine D.skip rfl ?_ | refine D.q rfl (q_fa am_fi57_0 am_cl3 rfl rfl rfl) ?_ | refine D.q rfl (q_fas am_fi57_0 am_cl3 rfl rfl rfl) ?_
        first | refine D.skip rfl ?_ | refine D.q rfl (q_load1 am_ag3 rfl rfl) ?_ | refine D.q rfl (q_load1 am_ag3 rfl (cells_adr rfl (by first | (simp only [List.getElem?_map, Int.toNat_natCast, Nat.zero_add, Option.map_some, hidx, hprev]; rfl) | rfl) rfl)) ?_
        first | refine D.skip rfl ?_ | refine D.q rfl (q_move rfl) ?_
        first | refine D.skip rfl ?_ | refine D.q rfl (q_move rfl) ?_
        first | refine D.skip rfl ?_ | refine D.q rfl (q_sub rfl rfl (by first | omega | assumption) (by first | omega | assumption)) ?_
        first | refine D.skip rfl ?_ | refine D.q rfl (q_ia am_el22 am_cl57 rfl rfl rfl rfl rfl (by first | omega | assumption) (by first | omega | assumption) rfl) ?_ | refine D.q rfl (q_ias am_el22 am_cl57 rfl rfl rfl (by first | omega | assumption) (by first | (simp only [List.getElem?_map, Int.toNat_natCast, Nat.zero_add, Option.map_some, hidx, hprev]; rfl) | rfl)) ?_
        first | refine D.skip rfl ?_ | refine D.q rfl (q_fa am_fi57_0 am_cl3 rfl rfl rfl) ?_ | refine D.q rfl (q_fas am_fi57_0 am_cl3 rfl rfl rfl) ?_
        first | refine D.skip rfl ?_ | refine D.q rfl (q_load1 am_ag3 rfl rfl) ?_ | refine D.q rfl (q_load1 am_ag3 rfl (cells_adr rfl (by first | (simp only [List.getElem?_map, Int.toNat_natCast, Nat.zero_add, Option.map_some, hidx, hprev]; rfl) | rfl) rfl)) ?_
        first | refine D.skip rfl ?_ | refine D.q rfl (q_leq_t rfl rfl (by first | omega | assumption)) ?_ | refine D.q rfl (q_leq_f rfl rfl (by first | omega | assumption)) ?_ | refine D.q rfl (q_leq rfl rfl) ?_
        first | refine D.skip rfl ?_ | refine D.q rfl (q_pick_t rfl rfl) ?_ | refine D.q rfl (q_pick_f rfl rfl) ?_
        first | refine D.q rfl (q_pick_t rfl rfl) ?_ | refine D.q rfl (q_pick_f rfl rfl) ?_
        refine D.end ?_
        refine S.end (hK _ ?_)
        clear hK K
        try show Ev _ _ _ _
        repeat refine Ev.seq ?_
        refine Ev.cond rfl (fun h => ?_) (fun h => ?_)
        · cases h
        refine Ev.skip ?_
        show Ev _ _ _ _
        repeat refine Ev.seq ?_
        refine Ev.region_S fun K hK => ?_
        refine S.q rfl rfl (q_add rfl rfl (by first | omega | assumption) (by first | omega | assumption)) ?_
        refine S.q rfl rfl (q_move rfl) ?_
        refine S.end (hK _ ?_)
        clear hK K
        try show Ev _ _ _ _
        refine ⟨⟨(pre ++ [s], suf), by rw [← hp]; simp, ?_⟩, by simp, ?_⟩
        · rw [List.getLast?_append, List.getLast?_singleton, Option.some_or]
          exact hok.trans ⟨fun h => h.2, fun h => ⟨⟨h1, h2, h3, fun q hq => by rw [hpre] at hq; cases hq⟩, h⟩⟩
        · refine Wk.ren [] List.nodup_nil ?_ rfl rfl rfl rfl (fun i hi => absurd hi (Nat.not_lt_zero i))
          simp only [slotsRen, renAV, argSlots, St.get, find_cons, reduceIte, Nat.reduceEqDiff, and_self, List.length_append, List.length_cons, List.length_nil, Nat.zero_add, Int.natCast_add, Int.cast_ofNat_Int]
      · rw [List.concat_eq_append] at hpre
        have hl0 : 0 < pre.length := by rw [hpre]; simp
        have hprev : l[((pre.length : Int) - 1).toNat]? = some q := by
          rw [← hp, hpre]
          simp
        have hlast : pre.getLast? = some q := by rw [hpre]; simp
        by_cases h4 : q.1 < s.1
        case neg =>
          repeat refine Ev.seq ?_
          refine Ev.region_D [[], [true], [true, true], [true, true, true], [true, true, true, true], [true, true, true, true, true], [true, true, true, true, true, true], [true, true, true, true, true, true, true], [true, true, true, true, true, true, true, true], [true, true, true, true, true, true, true, true, true], [true, true, true, true, true, true, true, true, true, true], [true, true, true, true, true, true, true, true, true, true, true], [true, true, true, true, true, true, true, true, true, true, true, true], [true, true, true, true, true, true, true, true, true, true, true, true, true], [true, true, true, true, true, true, true, true, true, true, true, true, true, true], [true, true, true, true, true, true, true, true, true, true, true, true, true, true, true], [true, true, true, true, true, true, true, true, true, true, true, true, true, true, true, true], [true, true, true, true, true, true, true, true, true, true, true, true, true, true, true, true, true], [true, true, true, true, true, true, true, true, true, true, true, true, true, true, true, true, true, true], [true, true, true, true, true, true, true, true, true, true, true, true, true, true, true, true, true, true, true], [true, true, true, true, true, true, true, true, true, true, true, true, true, true, true, true, true, true], [true, true, true, true, true, true, true, true, true, true, true, true, true, true, true, true, true, true], [true, true, true, true, true, true, true, true, true, true, true, true, true, true, true, true, true, true, false, false, false, true], [true, true, true, true, true, true, true, true, true, true, true, true, true, true, true, true, true, true, false, false, true, true, true], [true, true, true, true, true, true, true, true, true, true, true, true, true, true, true, true, true, true, false, false, true, true, true, true], [true, true, true, true, true, true, true, true, true, true, true, true, true, true, true, true, true, true, false, false, true, true, true, true, true], [true, true, true, true, true, true, true, true, true, true, true, true, true, true, true, true, true, true, true, true, true, true, true, true, true, true], [true, true, true, true, true, true, true, true, true, true, true, true, true, true, true, true, true, true, true, true, true, true, true, true, true, true, true], [true, true, true, true, true, true, true, true, true, true, true, true, true, true, true, true, true, true, true, true, true, true, true, true, true, true, true, true]] 29 1 rfl rfl rfl rfl fun K hK => ?_
          first | refine D.q rfl (q_fa am_fi57_0 am_cl3 rfl rfl rfl) ?_ | refine D.q rfl (q_fas am_fi57_0 am_cl3 rfl rfl rfl) ?_
          first | refine D.q rfl (q_load1 am_ag3 rfl rfl) ?_ | refine D.q rfl (q_load1 am_ag3 rfl (cells_adr rfl (by first | (simp only [List.getElem?_map, Int.toNat_natCast, Nat.zero_add, Option.map_some, hidx, hprev]; rfl) | rfl) rfl)) ?_
          refine D.call rfl (Quiet.call rfl rfl rfl (place_t h1) (.inl rfl) rfl) ?_
          first | refine D.q rfl (q_not_t rfl) ?_ | refine D.q rfl (q_not_f rfl) ?_ | refine D.q rfl (q_not rfl) ?_
          refine D.q rfl (q_move rfl) ?_
          first | refine D.skip rfl ?_ | refine D.q rfl (q_fa am_fi57_1 am_cl3 rfl rfl rfl) ?_ | refine D.q rfl (q_fas am_fi57_1 am_cl3 rfl rfl rfl) ?_
          first | refine D.skip rfl ?_ | refine D.q rfl (q_load1 am_ag3 rfl rfl) ?_ | refine D.q rfl (q_load1 am_ag3 rfl (cells_adr rfl (by first | (simp only [List.getElem?_map, Int.toNat_natCast, Nat.zero_add, Option.map_some, hidx, hprev]; rfl) | rfl) rfl)) ?_
          first | refine D.skip rfl ?_ | refine D.q rfl (q_lss_t rfl rfl (by first | omega | assumption)) ?_ | refine D.q rfl (q_lss_f rfl rfl (by first | omega | assumption)) ?_ | refine D.q rfl (q_lss rfl rfl) ?_
          first | refine D.q rfl (q_pick_t rfl rfl) ?_ | refine D.q rfl (q_pick_f rfl rfl) ?_
          refine D.q rfl (q_move rfl) ?_
          first | refine D.skip rfl ?_ | refine D.q rfl (q_fa am_fi57_1 am_cl3 rfl rfl rfl) ?_ | refine D.q rfl (q_fas am_fi57_1 am_cl3 rfl rfl rfl) ?_
          first | refine D.skip rfl ?_ | refine D.q rfl (q_load1 am_ag3 rfl rfl) ?_ | refine D.q rfl (q_load1 am_ag3 rfl (cells_adr rfl (by first | (simp only [List.getElem?_map, Int.toNat_natCast, Nat.zero_add, Option.map_some, hidx, hprev]; rfl) | rfl) rfl)) ?_
          first | refine D.skip rfl ?_ | refine D.q rfl (q_gtr_t rfl rfl (by first | omega | assumption)) ?_ | refine D.q rfl (q_gtr_f rfl rfl (by first | omega | assumption)) ?_ | refine D.q rfl (q_gtr rfl rfl) ?_
          first | refine D.q rfl (q_pick_t rfl rfl) ?_ | refine D.q rfl (q_pick_f rfl rfl) ?_
          refine D.q rfl (q_move rfl) ?_
          first | refine D.skip rfl ?_ | refine D.q rfl (q_move rfl) ?_
          first | refine D.skip rfl ?_ | refine D.q rfl (q_gtr_t rfl rfl (by first | omega | assumption)) ?_ | refine D.q rfl (q_gtr_f rfl rfl (by first | omega | assumption)) ?_ | refine D.q rfl (q_gtr rfl rfl) ?_
          first | refine D.skip rfl ?_ | refine D.q rfl (q_move rfl) ?_
          first | refine D.skip rfl ?_ | refine D.q rfl (q_fa am_fi57_0 am_cl3 rfl rfl rfl) ?_ | refine D.q rfl (q_fas am_fi57_0 am_cl3 rfl rfl rfl) ?_
          first | refine D.skip rfl ?_ | refine D.q rfl (q_load1 am_ag3 rfl rfl) ?_ | refine D.q rfl (q_load1 am_ag3 rfl (cells_adr rfl (by first | (simp only [List.getElem?_map, Int.toNat_natCast, Nat.zero_add, Option.map_some, hidx, hprev]; rfl) | rfl) rfl)) ?_
          first | refine D.skip rfl ?_ | refine D.q rfl (q_move rfl) ?_
          first | refine D.skip rfl ?_ | refine D.q rfl (q_move rfl) ?_
          first | refine D.skip rfl ?_ | refine D.q rfl (q_sub rfl rfl (by first | omega | assumption) (by first | omega | assumption)) ?_
          first | refine D.skip rfl ?_ | refine D.q rfl (q_ia am_el22 am_cl57 rfl rfl rfl rfl rfl (by first | omega | assumption) (by first | omega | assumption) rfl) ?_ | refine D.q rfl (q_ias am_el22 am_cl57 rfl rfl rfl (by first | omega | assumption) (by first | (simp only [List.getElem?_map, Int.toNat_natCast, Nat.zero_add, Option.map_some, hidx, hprev]; rfl) | rfl)) ?_
          first | refine D.skip rfl ?_ | refine D.q rfl (q_fa am_fi57_0 am_cl3 rfl rfl rfl) ?_ | refine D.q rfl (q_fas am_fi57_0 am_cl3 rfl rfl rfl) ?_
          first | refine D.skip rfl ?_ | refine D.q rfl (q_load1 am_ag3 rfl rfl) ?_ | refine D.q rfl (q_load1 am_ag3 rfl (cells_adr rfl (by first | (simp only [List.getElem?_map, Int.toNat_natCast, Nat.zero_add, Option.map_some, hidx, hprev]; rfl) | rfl) rfl)) ?_
          first | refine D.skip rfl ?_ | refine D.q rfl (q_leq_t rfl rfl (by first | omega | assumption)) ?_ | refine D.q rfl (q_leq_f rfl rfl (by first | omega | assumption)) ?_ | refine D.q rfl (q_leq rfl rfl) ?_
          first | refine D.skip rfl ?_ | refine D.q rfl (q_pick_t rfl rfl) ?_ | refine D.q rfl (q_pick_f rfl rfl) ?_
          first | refine D.q rfl (q_pick_t rfl rfl) ?_ | refine D.q rfl (q_pick_f rfl rfl) ?_
          refine D.end ?_
          refine S.end (hK _ ?_)
          clear hK K
          try show Ev _ _ _ _
          repeat refine Ev.seq ?_
          refine Ev.cond rfl (fun h => ?_) (fun h => ?_)
          rotate_left
          · cases h
          repeat refine Ev.seq ?_
          refine Ev.region_S fun K hK => ?_
          refine S.q rfl rfl (q_assign rfl) ?_
          refine S.end (hK _ ?_)
          clear hK K
          try show Ev _ _ _ _
          have hno : ¬ OKSteps l := hfail fun h' => h4 (h'.2.2.2 q hlast)
          repeat refine Ev.seq ?_
          refine Ev.ret ?_
          refine ⟨[], List.nodup_nil, ?_⟩
          simp only [retP, resAV, packAV, renAV, renL, keepObjs, St.get, find_cons, reduceIte, Option.map_some, Nat.reduceEqDiff, Ret, and_self, hno, decide_false]
        repeat refine Ev.seq ?_
        refine Ev.region_D [[], [true], [true, true], [true, true, true], [true, true, true, true], [true, true, true, true, true], [true, true, true, true, true, true], [true, true, true, true, true, true, true], [true, true, true, true, true, true, true, true], [true, true, true, true, true, true, true, true, true], [true, true, true, true, true, true, true, true, true, true], [true, true, true, true, true, true, true, true, true, true, true], [true, true, true, true, true, true, true, true, true, true, true, true], [true, true, true, true, true, true, true, true, true, true, true, true, true], [true, true, true, true, true, true, true, true, true, true, true, true, true, true], [true, true, true, true, true, true, true, true, true, true, true, true, true, true, true], [true, true, true, true, true, true, true, true, true, true, true, true, true, true, true, true], [true, true, true, true, true, true, true, true, true, true, true, true, true, true, true, true, true], [true, true, true, true, true, true, true, true, true, true, true, true, true, true, true, true, true, true], [true, true, true, true, true, true, true, true, true, true, true, true, true, true, true, true, true, true, true], [true, true, true, true, true, true, true, true, true, true, true, true, true, true, true, true, true, true], [true, true, true, true, true, true, true, true, true, true, true, true, true, true, true, true, true, true], [true, true, true, true, true, true, true, true, true, true, true, true, true, true, true, true, true, true, false, false, false, true], [true, true, true, true, true, true, true, true, true, true, true, true, true, true, true, true, true, true, false, false, true, true, true], [true, true, true, true, true, true, true, true, true, true, true, true, true, true, true, true, true, true, false, false, true, true, true, true], [true, true, true, true, true, true, true, true, true, true, true, true, true, true, true, true, true, true, false, false, true, true, true, true, true], [true, true, true, true, true, true, true, true, true, true, true, true, true, true, true, true, true, true, true, true, true, true, true, true, true, true], [true, true, true, true, true, true, true, true, true, true, true, true, true, true, true, true, true, true, true, true, true, true, true, true, true, true, true], [true, true, true, true, true, true, true, true, true, true, true, true, true, true, true, true, true, true, true, true, true, true, true, true, true, true, true, true]] 29 1 rfl rfl rfl rfl fun K hK => ?_
        first | refine D.q rfl (q_fa am_fi57_0 am_cl3 rfl rfl rfl) ?_ | refine D.q rfl (q_fas am_fi57_0 am_cl3 rfl rfl rfl) ?_
        first | refine D.q rfl (q_load1 am_ag3 rfl rfl) ?_ | refine D.q rfl (q_load1 am_ag3 rfl (cells_adr rfl (by first | (simp only [List.getElem?_map, Int.toNat_natCast, Nat.zero_add, Option.map_some, hidx, hprev]; rfl) | rfl) rfl)) ?_
        refine D.call rfl (Quiet.call rfl rfl rfl (place_t h1) (.inl rfl) rfl) ?_
        first | refine D.q rfl (q_not_t rfl) ?_ | refine D.q rfl (q_not_f rfl) ?_ | refine D.q rfl (q_not rfl) ?_
        refine D.q rfl (q_move rfl) ?_
        first | refine D.skip rfl ?_ | refine D.q rfl (q_fa am_fi57_1 am_cl3 rfl rfl rfl) ?_ | refine D.q rfl (q_fas am_fi57_1 am_cl3 rfl rfl rfl) ?_
        first | refine D.skip rfl ?_ | refine D.q rfl (q_load1 am_ag3 rfl rfl) ?_ | refine D.q rfl (q_load1 am_ag3 rfl (cells_adr rfl (by first | (simp only [List.getElem?_map, Int.toNat_natCast, Nat.zero_add, Option.map_some, hidx, hprev]; rfl) | rfl) rfl)) ?_
        first | refine D.skip rfl ?_ | refine D.q rfl (q_lss_t rfl rfl (by first | omega | assumption)) ?_ | refine D.q rfl (q_lss_f rfl rfl (by first | omega | assumption)) ?_ | refine D.q rfl (q_lss rfl rfl) ?_
        first | refine D.q rfl (q_pick_t rfl rfl) ?_ | refine D.q rfl (q_pick_f rfl rfl) ?_
        refine D.q rfl (q_move rfl) ?_
        first | refine D.skip rfl ?_ | refine D.q rfl (q_fa am_fi57_1 am_cl3 rfl rfl rfl) ?_ | refine D.q rfl (q_fas am_fi57_1 am_cl3 rfl rfl rfl) ?_
        first | refine D.skip rfl ?_ | refine D.q rfl (q_load1 am_ag3 rfl rfl) ?_ | refine D.q rfl (q_load1 am_ag3 rfl (cells_adr rfl (by first | (simp only [List.getElem?_map, Int.toNat_natCast, Nat.zero_add, Option.map_some, hidx, hprev]; rfl) | rfl) rfl)) ?_
        first | refine D.skip rfl ?_ | refine D.q rfl (q_gtr_t rfl rfl (by first | omega | assumption)) ?_ | refine D.q rfl (q_gtr_f rfl rfl (by first | omega | assumption)) ?_ | refine D.q rfl (q_gtr rfl rfl) ?_
        first | refine D.q rfl (q_pick_t rfl rfl) ?_ | refine D.q rfl (q_pick_f rfl rfl) ?_
        refine D.q rfl (q_move rfl) ?_
        first | refine D.skip rfl ?_ | refine D.q rfl (q_move rfl) ?_
        first | refine D.skip rfl ?_ | refine D.q rfl (q_gtr_t rfl rfl (by first | omega | assumption)) ?_ | refine D.q rfl (q_gtr_f rfl rfl (by first | omega | assumption)) ?_ | refine D.q rfl (q_gtr rfl rfl) ?_
        first | refine D.skip rfl ?_ | refine D.q rfl (q_move rfl) ?_
        first | refine D.skip rfl ?_ | refine D.q rfl (q_fa am_fi57_0 am_cl3 rfl rfl rfl) ?_ | refine D.q rfl (q_fas am_fi57_0 am_cl3 rfl rfl rfl) ?_
        first | refine D.skip rfl ?_ | refine D.q rfl (q_load1 am_ag3 rfl rfl) ?_ | refine D.q rfl (q_load1 am_ag3 rfl (cells_adr rfl (by first | (simp only [List.getElem?_map, Int.toNat_natCast, Nat.zero_add, Option.map_some, hidx, hprev]; rfl) | rfl) rfl)) ?_
        first | refine D.skip rfl ?_ | refine D.q rfl (q_move rfl) ?_
        first | refine D.skip rfl ?_ | refine D.q rfl (q_move rfl) ?_
        first | refine D.skip rfl ?_ | refine D.q rfl (q_sub rfl rfl (by first | omega | assumption) (by first | omega | assumption)) ?_
        first | refine D.skip rfl ?_ | refine D.q rfl (q_ia am_el22 am_cl57 rfl rfl rfl rfl rfl (by first | omega | assumption) (by first | omega | assumption) rfl) ?_ | refine D.q rfl (q_ias am_el22 am_cl57 rfl rfl rfl (by first | omega | assumption) (by first | (simp only [List.getElem?_map, Int.toNat_natCast, Nat.zero_add, Option.map_some, hidx, hprev]; rfl) | rfl)) ?_
        first | refine D.skip rfl ?_ | refine D.q rfl (q_fa am_fi57_0 am_cl3 rfl rfl rfl) ?_ | refine D.q rfl (q_fas am_fi57_0 am_cl3 rfl rfl rfl) ?_
        first | refine D.skip rfl ?_ | refine D.q rfl (q_load1 am_ag3 rfl rfl) ?_ | refine D.q rfl (q_load1 am_ag3 rfl (cells_adr rfl (by first | (simp only [List.getElem?_map, Int.toNat_natCast, Nat.zero_add, Option.map_some, hidx, hprev]; rfl) | rfl) rfl)) ?_
        first | refine D.skip rfl ?_ | refine D.q rfl (q_leq_t rfl rfl (by first | omega | assumption)) ?_ | refine D.q rfl (q_leq_f rfl rfl (by first | omega | assumption)) ?_ | refine D.q rfl (q_leq rfl rfl) ?_
        first | refine D.skip rfl ?_ | refine D.q rfl (q_pick_t rfl rfl) ?_ | refine D.q rfl (q_pick_f rfl rfl) ?_
        first | refine D.q rfl (q_pick_t rfl rfl) ?_ | refine D.q rfl (q_pick_f rfl rfl) ?_
        refine D.end ?_
        refine S.end (hK _ ?_)
        clear hK K
        try show Ev _ _ _ _
        repeat refine Ev.seq ?_
        refine Ev.cond rfl (fun h => ?_) (fun h => ?_)
        · cases h
        refine Ev.skip ?_
        show Ev _ _ _ _
        repeat refine Ev.seq ?_
        refine Ev.region_S fun K hK => ?_
        refine S.q rfl rfl (q_add rfl rfl (by first | omega | assumption) (by first | omega | assumption)) ?_
        refine S.q rfl rfl (q_move rfl) ?_
        refine S.end (hK _ ?_)
        clear hK K
        try show Ev _ _ _ _
        refine ⟨⟨(pre ++ [s], suf), by rw [← hp]; simp, ?_⟩, by simp, ?_⟩
        · rw [List.getLast?_append, List.getLast?_singleton, Option.some_or]
          exact hok.trans ⟨fun h => h.2, fun h => ⟨⟨h1, h2, h3, fun q' hq => by rw [hlast] at hq; cases hq; exact h4⟩, h⟩⟩
        · refine Wk.ren [] List.nodup_nil ?_ rfl rfl rfl rfl (fun i hi => absurd hi (Nat.not_lt_zero i))
          simp only [slotsRen, renAV, argSlots, St.get, find_cons, reduceIte, Nat.reduceEqDiff, and_self, List.length_append, List.length_cons, List.length_nil, Nat.zero_add, Int.natCast_add, Int.cast_ofNat_Int]
end Go.Proofs.Ytigjoaejncfmdaa
namespace Go.Proofs.Ytigjoaejncfmdaa
open Go Go.AM
set_option linter.unusedSimpArgs false
set_option maxRecDepth 100000
-- PP
def intC (n : Int) : List AV := [.lit (.int .i64 n)]

def idxFrom (v : Int) : List Int → Int → Int
  | [], _ => -1
  | x :: l, k => if v = x then k else idxFrom v l (k + 1)

theorem index_fun (l : List Int) (v : Int) (hlen : l.length ≤ 1000000) : Fun Try.prog 86 [.sh 1 (l.map intC), .lit (.int .i64 v)] (Ret (.lit (.int .i64 (idxFrom v l 0))) []) := by
  refine Fun.of (nt := 19) (rs := [.tmp 4]) Try.func86 rfl rfl rfl rfl rfl ?_
  repeat refine Ev.seq ?_
  refine Ev.region_S fun K hK => ?_
  refine S.q rfl rfl (q_assign rfl) ?_
  refine S.end (hK _ ?_)
  clear hK K
  try show Ev _ _ _ _
  repeat refine Ev.seq ?_
  refine Ev.region_S fun K hK => ?_
  refine S.q rfl rfl (q_move rfl) ?_
  refine S.q rfl rfl (q_len am_el43 rfl (by simp only [lenAV, List.length_map]; rfl)) ?_
  refine S.q rfl rfl (q_move rfl) ?_
  refine S.end (hK _ ?_)
  clear hK K
  try show Ev _ _ _ _
  refine Ev.block (Ev.loop (ι := {p : List Int × List Int // p.1 ++ p.2 = l ∧ idxFrom v l 0 = idxFrom v p.2 p.1.length}) (fun p => ⟨[(0, .sh 1 (l.map intC)), (1, .lit (.int .i64 v)), (7, .lit (.int .i64 l.length)), (8, .lit (.int .i64 p.1.1.length))], [], 0, 19, 0⟩)
      (fun p => p.1.2.length) ⟨([], l), rfl, rfl⟩ ?_ ?_)
  · refine Wk.ren [] List.nodup_nil ?_ rfl rfl rfl rfl (fun i hi => absurd hi (Nat.not_lt_zero i))
    simp only [slotsRen, renAV, argSlots, St.get, find_cons, reduceIte, Nat.reduceEqDiff, and_self, List.length_nil, Int.natCast_zero, Int.ofNat_zero, Int.cast_ofNat_Int]
  · rintro ⟨⟨pre, suf⟩, hp, hok⟩
    simp only at hp hok
    dsimp only
    cases suf with
    | nil =>
      rw [List.append_nil] at hp
      subst hp
      repeat refine Ev.seq ?_
      refine Ev.region_S fun K hK => ?_
      first | refine S.q rfl rfl (q_lss_t rfl rfl (by first | omega | assumption)) ?_ | refine S.q rfl rfl (q_lss_f rfl rfl (by first | omega | assumption)) ?_ | refine S.q rfl rfl (q_lss rfl rfl) ?_
      refine S.end (hK _ ?_)
      clear hK K
      try show Ev _ _ _ _
      repeat refine Ev.seq ?_
      refine Ev.cond rfl (fun h => ?_) (fun h => ?_)
      · cases h
      refine Ev.exit ?_
      show Ev _ _ _ _
      repeat refine Ev.seq ?_
      refine Ev.region_S fun K hK => ?_
      refine S.q rfl rfl (q_assign rfl) ?_
      refine S.end (hK _ ?_)
      clear hK K
      try show Ev _ _ _ _
      repeat refine Ev.seq ?_
      refine Ev.ret ?_
      refine ⟨[], List.nodup_nil, ?_⟩
      simp only [retP, resAV, packAV, renAV, renL, keepObjs, St.get, find_cons, reduceIte, Option.map_some, Nat.reduceEqDiff, Ret, and_self, hok, idxFrom]
    | cons s suf =>
      have hlt : (pre.length : Int) < l.length := by rw [← hp, List.length_append, List.length_cons]; omega
      have hidx : l[pre.length]? = some s := by rw [← hp]; simp
      repeat refine Ev.seq ?_
      refine Ev.region_S fun K hK => ?_
      first | refine S.q rfl rfl (q_lss_t rfl rfl (by first | omega | assumption)) ?_ | refine S.q rfl rfl (q_lss_f rfl rfl (by first | omega | assumption)) ?_ | refine S.q rfl rfl (q_lss rfl rfl) ?_
      refine S.end (hK _ ?_)
      clear hK K
      try show Ev _ _ _ _
      repeat refine Ev.seq ?_
      refine Ev.cond rfl (fun h => ?_) (fun h => ?_)
      rotate_left
      · cases h
      refine Ev.skip ?_
      show Ev _ _ _ _
      repeat refine Ev.seq ?_
      refine Ev.block ?_
      repeat refine Ev.seq ?_
      refine Ev.region_S fun K hK => ?_
      refine S.q rfl rfl (q_move rfl) ?_
      refine S.q rfl rfl (q_assign rfl) ?_
      refine S.end (hK _ ?_)
      clear hK K
      try show Ev _ _ _ _
      by_cases hv : v = s
      · repeat refine Ev.seq ?_
        refine Ev.region_S fun K hK => ?_
        refine S.q rfl rfl (q_move rfl) ?_
        refine S.q rfl rfl (q_move rfl) ?_
        refine S.q rfl rfl (q_move rfl) ?_
        first | refine S.q rfl rfl (q_ia am_el43 am_cl3 rfl rfl rfl rfl rfl (by first | omega | assumption) (by first | omega | assumption) rfl) ?_ | refine S.q rfl rfl (q_ias am_el43 am_cl3 rfl rfl rfl (by first | omega | assumption) (by first | (simp only [List.getElem?_map, Int.toNat_natCast, Nat.zero_add, Option.map_some, hidx]; rfl) | rfl)) ?_
        first | refine S.q rfl rfl (q_load1 am_ag3 rfl rfl) ?_ | refine S.q rfl rfl (q_load1 am_ag3 rfl (cells_adr rfl (by first | (simp only [List.getElem?_map, Int.toNat_natCast, Nat.zero_add, Option.map_some, hidx]; rfl) | rfl) rfl)) ?_
        first | refine S.q rfl rfl (q_eql_t rfl rfl (by first | omega | assumption)) ?_ | refine S.q rfl rfl (q_eql_f rfl rfl (by first | omega | assumption)) ?_ | refine S.q rfl rfl (q_eql rfl rfl) ?_
        refine S.end (hK _ ?_)
        clear hK K
        try show Ev _ _ _ _
        repeat refine Ev.seq ?_
        refine Ev.cond rfl (fun h => ?_) (fun h => ?_)
        rotate_left
        · cases h
        repeat refine Ev.seq ?_
        refine Ev.region_S fun K hK => ?_
        refine S.q rfl rfl (q_move rfl) ?_
        refine S.q rfl rfl (q_assign rfl) ?_
        refine S.end (hK _ ?_)
        clear hK K
        try show Ev _ _ _ _
        have hval : idxFrom v l 0 = pre.length := by rw [hok, idxFrom, if_pos hv]
        repeat refine Ev.seq ?_
        refine Ev.ret ?_
        refine ⟨[], List.nodup_nil, ?_⟩
        simp only [retP, resAV, packAV, renAV, renL, keepObjs, St.get, find_cons, reduceIte, Option.map_some, Nat.reduceEqDiff, Ret, and_self, hval]
      · repeat refine Ev.seq ?_
        refine Ev.region_S fun K hK => ?_
        refine S.q rfl rfl (q_move rfl) ?_
        refine S.q rfl rfl (q_move rfl) ?_
        refine S.q rfl rfl (q_move rfl) ?_
        first | refine S.q rfl rfl (q_ia am_el43 am_cl3 rfl rfl rfl rfl rfl (by first | omega | assumption) (by first | omega | assumption) rfl) ?_ | refine S.q rfl rfl (q_ias am_el43 am_cl3 rfl rfl rfl (by first | omega | assumption) (by first | (simp only [List.getElem?_map, Int.toNat_natCast, Nat.zero_add, Option.map_some, hidx]; rfl) | rfl)) ?_
        first | refine S.q rfl rfl (q_load1 am_ag3 rfl rfl) ?_ | refine S.q rfl rfl (q_load1 am_ag3 rfl (cells_adr rfl (by first | (simp only [List.getElem?_map, Int.toNat_natCast, Nat.zero_add, Option.map_some, hidx]; rfl) | rfl) rfl)) ?_
        first | refine S.q rfl rfl (q_eql_t rfl rfl (by first | omega | assumption)) ?_ | refine S.q rfl rfl (q_eql_f rfl rfl (by first | omega | assumption)) ?_ | refine S.q rfl rfl (q_eql rfl rfl) ?_
        refine S.end (hK _ ?_)
        clear hK K
        try show Ev _ _ _ _
        repeat refine Ev.seq ?_
        refine Ev.cond rfl (fun h => ?_) (fun h => ?_)
        · cases h
        refine Ev.skip ?_
        show Ev _ _ _ _
        repeat refine Ev.seq ?_
        refine Ev.region_S fun K hK => ?_
        refine S.q rfl rfl (q_add rfl rfl (by first | omega | assumption) (by first | omega | assumption)) ?_
        refine S.q rfl rfl (q_move rfl) ?_
        refine S.end (hK _ ?_)
        clear hK K
        try show Ev _ _ _ _
        refine ⟨⟨(pre ++ [s], suf), by rw [← hp]; simp, ?_⟩, by simp, ?_⟩
        · rw [hok, idxFrom, if_neg hv, List.length_append]
          rfl
        · refine Wk.ren [] List.nodup_nil ?_ rfl rfl rfl rfl (fun i hi => absurd hi (Nat.not_lt_zero i))
          simp only [slotsRen, renAV, argSlots, St.get, find_cons, reduceIte, Nat.reduceEqDiff, and_self, List.length_append, List.length_cons, List.length_nil, Nat.zero_add, Int.natCast_add, Int.cast_ofNat_Int]

theorem idxFrom_nonneg (v : Int) : ∀ (l : List Int) (k : Int), 0 ≤ k → (0 ≤ idxFrom v l k ↔ v ∈ l)
  | [], k, _ => by simp [idxFrom]
  | x :: l, k, hk => by
    unfold idxFrom
    split
    · rename_i h; simp [h, hk]
    · rename_i h; simp [h, idxFrom_nonneg v l (k + 1) (by omega)]

theorem contains_fun (l : List Int) (v : Int) (hlen : l.length ≤ 1000000) : Fun Try.prog 74 [.sh 1 (l.map intC), .lit (.int .i64 v)] (Ret (.lit (.bool (decide (v ∈ l)))) []) := by
  have hi := idxFrom_nonneg v l 0 (Int.le_refl _)
  refine Fun.of (nt := 9) (rs := [.tmp 4]) Try.func74 rfl rfl rfl rfl rfl ?_
  repeat refine Ev.seq ?_
  refine Ev.region_S fun K hK => ?_
  refine S.q rfl rfl (q_assign rfl) ?_
  refine S.end (hK _ ?_)
  clear hK K
  try show Ev _ _ _ _
  by_cases hv : v ∈ l
  · have h0 := hi.2 hv
    repeat refine Ev.seq ?_
    refine Ev.region_S fun K hK => ?_
    refine S.q rfl rfl (q_move rfl) ?_
    refine S.q rfl rfl (q_move rfl) ?_
    refine SeqL.call rfl rfl rfl rfl (index_fun l v hlen) (.inl rfl) (fun d h => by cases h; exact of_decide_eq_true rfl) ?_
    rintro v objs ⟨rfl, rfl⟩
    refine ⟨_, _, _, rfl, rfl, fun r ob h => fresh0 h, Nat.le_refl _, ?_⟩
    first | refine S.q rfl rfl (q_geq_t rfl rfl (by first | omega | assumption)) ?_ | refine S.q rfl rfl (q_geq_f rfl rfl (by first | omega | assumption)) ?_ | refine S.q rfl rfl (q_geq rfl rfl) ?_
    refine S.q rfl rfl (q_assign rfl) ?_
    refine S.end (hK _ ?_)
    clear hK K
    try show Ev _ _ _ _
    repeat refine Ev.seq ?_
    refine Ev.ret ?_
    refine ⟨[], List.nodup_nil, ?_⟩
    simp only [retP, resAV, packAV, renAV, renL, keepObjs, St.get, find_cons, reduceIte, Option.map_some, Nat.reduceEqDiff, Ret, and_self, hv, decide_true]
  · have h0 : ¬ 0 ≤ idxFrom v l 0 := fun h => hv (hi.1 h)
    repeat refine Ev.seq ?_
    refine Ev.region_S fun K hK => ?_
    refine S.q rfl rfl (q_move rfl) ?_
    refine S.q rfl rfl (q_move rfl) ?_
    refine SeqL.call rfl rfl rfl rfl (index_fun l v hlen) (.inl rfl) (fun d h => by cases h; exact of_decide_eq_true rfl) ?_
    rintro v objs ⟨rfl, rfl⟩
    refine ⟨_, _, _, rfl, rfl, fun r ob h => fresh0 h, Nat.le_refl _, ?_⟩
    first | refine S.q rfl rfl (q_geq_t rfl rfl (by first | omega | assumption)) ?_ | refine S.q rfl rfl (q_geq_f rfl rfl (by first | omega | assumption)) ?_ | refine S.q rfl rfl (q_geq rfl rfl) ?_
    refine S.q rfl rfl (q_assign rfl) ?_
    refine S.end (hK _ ?_)
    clear hK K
    try show Ev _ _ _ _
    repeat refine Ev.seq ?_
    refine Ev.ret ?_
    refine ⟨[], List.nodup_nil, ?_⟩
    simp only [retP, resAV, packAV, renAV, renL, keepObjs, St.get, find_cons, reduceIte, Option.map_some, Nat.reduceEqDiff, Ret, and_self, hv, decide_false]

def sizes : List Int := [6, 8, 10, 12, 16, 20, 25, 32, 40]

theorem sizes_fun : Fun Try.prog 28 [] (Ret (.als 0 0 9) [(0, ⟨true, 3, 1, sizes.map intC, true⟩)]) := by
  refine Fun.of (nt := 2) (rs := [.tmp 0]) Try.func28 rfl rfl rfl rfl rfl ?_
  repeat refine Ev.seq ?_
  refine Ev.region_S fun K hK => ?_
  refine S.q rfl rfl (q_assign rfl) ?_
  refine S.end (hK _ ?_)
  clear hK K
  try show Ev _ _ _ _
  repeat refine Ev.seq ?_
  refine Ev.region_S fun K hK => ?_
  first | refine S.new (q_buildSlice (cl := true) am_el43 am_ze3 am_cl3 rfl (by simp only [fillAV, rowsOf, cellsAV, splice, Value.oneCell', cond_true, cond_false, Option.bind_some, Option.map_some, List.getElem?_cons_zero, List.getElem?_cons_succ, List.length_cons, List.length_nil, List.take_succ_cons, List.take_zero, List.drop_succ_cons, List.drop_zero, List.nil_append, List.cons_append, List.append_nil, Nat.reduceAdd, beq_dec, ble_dec, Nat.reduceEqDiff, Nat.reduceLeDiff, decide_true, decide_false, Bool.and_self, Bool.and_true, Bool.true_and]; rfl) rfl rfl) rfl rfl ?_ | refine S.new (q_buildSlice (cl := false) am_el43 am_ze3 am_cl3 rfl (by simp only [fillAV, rowsOf, cellsAV, splice, Value.oneCell', cond_true, cond_false, Option.bind_some, Option.map_some, List.getElem?_cons_zero, List.getElem?_cons_succ, List.length_cons, List.length_nil, List.take_succ_cons, List.take_zero, List.drop_succ_cons, List.drop_zero, List.nil_append, List.cons_append, List.append_nil, Nat.reduceAdd, beq_dec, ble_dec, Nat.reduceEqDiff, Nat.reduceLeDiff, decide_true, decide_false, Bool.and_self, Bool.and_true, Bool.true_and]; rfl) rfl rfl) rfl rfl ?_
  refine S.q rfl rfl (q_assign rfl) ?_
  refine S.end (hK _ ?_)
  clear hK K
  try show Ev _ _ _ _
  repeat refine Ev.seq ?_
  refine Ev.ret ?_
  refine ⟨[0], by decide, ?_⟩
  simp only [retP, resAV, packAV, renAV, renL, keepObjs, renObj, pos_cons, pos_nil, Nat.reduceAdd, Nat.zero_add, List.cons_append, List.nil_append, List.append_nil, St.get, find_cons, reduceIte, Option.map_some, Option.bind_some, Nat.reduceEqDiff, Ret, and_self, sizes, intC, List.map_cons, List.map_nil]

theorem size_fun (d : Int) : Fun Try.prog 67 [.lit (.int .i64 d)] (Ret (.lit (.bool (decide (d ∈ sizes)))) []) := by
  refine Fun.of (nt := 6) (rs := [.tmp 2]) Try.func67 rfl rfl rfl rfl rfl ?_
  repeat refine Ev.seq ?_
  refine Ev.region_S fun K hK => ?_
  refine S.q rfl rfl (q_assign rfl) ?_
  refine S.end (hK _ ?_)
  clear hK K
  try show Ev _ _ _ _
  repeat refine Ev.seq ?_
  refine Ev.region_S fun K hK => ?_
  refine SeqL.call rfl rfl rfl rfl (sizes_fun) (.inl rfl) (fun d h => by cases h; exact of_decide_eq_true rfl) ?_
  rintro v objs ⟨rfl, rfl⟩
  refine ⟨_, _, _ + 1, rfl, rfl, fun r ob h => fresh1 h, Nat.le_succ _, ?_⟩
  refine S.q rfl rfl (q_move rfl) ?_
  refine SeqL.call rfl rfl rfl rfl (contains_fun sizes d (by decide)) (.inr (noSh_ret rfl)) (fun d h => by cases h; exact of_decide_eq_true rfl) ?_
  rintro v objs ⟨rfl, rfl⟩
  refine ⟨_, _, _, rfl, rfl, fun r ob h => fresh0 h, Nat.le_refl _, ?_⟩
  refine S.q rfl rfl (q_assign rfl) ?_
  refine S.end (hK _ ?_)
  clear hK K
  try show Ev _ _ _ _
  repeat refine Ev.seq ?_
  refine Ev.ret ?_
  refine ⟨[], List.nodup_nil, ?_⟩
  simp only [retP, resAV, packAV, renAV, renL, keepObjs, St.get, find_cons, reduceIte, Option.map_some, Nat.reduceEqDiff, Ret, and_self]
end Go.Proofs.Ytigjoaejncfmdaa
namespace Go.Proofs.Ytigjoaejncfmdaa
open Go Go.AM
set_option linter.unusedSimpArgs false
set_option maxRecDepth 100000
-- PP
def areaOf (d : Int) : Int := (7854 * d * d + 50) / 100

theorem area_fun (d : Int) (h0 : 0 ≤ d) (h1 : d ≤ 1000) : Fun Try.prog 51 [.lit (.int .i64 d)] (Ret (.lit (.int .i64 (areaOf d))) []) := by
  have h2 : 0 ≤ 7854 * d * d := Int.mul_nonneg (by omega) h0
  have h3 : 7854 * d * d ≤ 7854 * 1000 * 1000 := Int.mul_le_mul (by omega) h1 h0 (by omega)
  have h4 : -9223372036854775808 ≤ 7854 * d * d := by omega
  have h5 : 7854 * d * d ≤ 9223372036854775807 := by omega
  refine Fun.of (nt := 9) (rs := [.tmp 2]) Try.func51 rfl rfl rfl rfl rfl ?_
  repeat refine Ev.seq ?_
  refine Ev.region_S fun K hK => ?_
  refine S.q rfl rfl (q_assign rfl) ?_
  refine S.end (hK _ ?_)
  clear hK K
  try show Ev _ _ _ _
  repeat refine Ev.seq ?_
  refine Ev.region_S fun K hK => ?_
  refine S.q rfl rfl (q_move rfl) ?_
  refine S.q rfl rfl (q_mul rfl rfl (by first | omega | assumption) (by first | omega | assumption)) ?_
  refine S.q rfl rfl (q_move rfl) ?_
  refine S.q rfl rfl (q_mul rfl rfl (by first | omega | assumption) (by first | omega | assumption)) ?_
  refine S.q rfl rfl (q_add rfl rfl (by first | omega | assumption) (by first | omega | assumption)) ?_
  refine S.q rfl rfl (q_quo rfl rfl (by first | omega | assumption) (by first | omega | assumption) (by first | omega | assumption)) ?_
  refine S.q rfl rfl (q_assign rfl) ?_
  refine S.end (hK _ ?_)
  clear hK K
  try show Ev _ _ _ _
  repeat refine Ev.seq ?_
  refine Ev.ret ?_
  refine ⟨[], List.nodup_nil, ?_⟩
  simp only [retP, resAV, packAV, renAV, renL, keepObjs, St.get, find_cons, reduceIte, Option.map_some, Nat.reduceEqDiff, Ret, and_self, areaOf]

theorem area1_fun (d : Int) (h0 : 0 ≤ d) (h1 : d ≤ 1000) : Fun Try.prog 50 [.sadr [.lit (.int .i64 d)] 0] (Ret (.lit (.int .i64 (areaOf d))) []) := by
  refine Fun.of (nt := 4) (rs := [.tmp 1]) Try.func50 rfl rfl rfl rfl rfl ?_
  repeat refine Ev.seq ?_
  refine Ev.region_S fun K hK => ?_
  refine S.q rfl rfl (q_assign rfl) ?_
  refine S.end (hK _ ?_)
  clear hK K
  try show Ev _ _ _ _
  repeat refine Ev.seq ?_
  refine Ev.region_S fun K hK => ?_
  first | refine S.q rfl rfl (q_load1 am_ag3 rfl rfl) ?_ | refine S.q rfl rfl (q_load1 am_ag3 rfl (cells_adr rfl rfl rfl)) ?_
  refine SeqL.call rfl rfl rfl rfl (area_fun d h0 h1) (.inl rfl) (fun d h => by cases h; exact of_decide_eq_true rfl) ?_
  rintro v objs ⟨rfl, rfl⟩
  refine ⟨_, _, _, rfl, rfl, fun r ob h => fresh0 h, Nat.le_refl _, ?_⟩
  refine S.q rfl rfl (q_assign rfl) ?_
  refine S.end (hK _ ?_)
  clear hK K
  try show Ev _ _ _ _
  repeat refine Ev.seq ?_
  refine Ev.ret ?_
  refine ⟨[], List.nodup_nil, ?_⟩
  simp only [retP, resAV, packAV, renAV, renL, keepObjs, St.get, find_cons, reduceIte, Option.map_some, Nat.reduceEqDiff, Ret, and_self]

theorem size_t {d : Int} (h : d ∈ sizes) : Fun Try.prog 67 [.lit (.int .i64 d)] (Ret (.lit (.bool true)) []) := by
  have := size_fun d
  rwa [decide_eq_true h] at this
theorem size_f {d : Int} (h : ¬ d ∈ sizes) : Fun Try.prog 67 [.lit (.int .i64 d)] (Ret (.lit (.bool false)) []) := by
  have := size_fun d
  rwa [decide_eq_false h] at this
theorem sizes_bd {d : Int} (h : d ∈ sizes) : 6 ≤ d ∧ d ≤ 40 := by
  simp only [sizes, List.mem_cons, List.not_mem_nil, or_false] at h
  omega

def errN (d : Int) : Int := if d ∈ sizes then 0 else 1
def areaN (d : Int) : Int := if d ∈ sizes then areaOf d else 0

theorem sized_fun (d : Int) : Fun Try.prog 49 [.lit (.int .i64 d), .fn (.func 50) [] [.sadr [.lit (.int .i64 d)] 0]] (Ret (.tup [.lit (.int .i64 (areaN d)), .lit (.int .i64 (errN d))]) []) := by
  refine Fun.of (nt := 11) (rs := [.tmp 4, .tmp 5]) Try.func49 rfl rfl rfl rfl rfl ?_
  repeat refine Ev.seq ?_
  refine Ev.region_S fun K hK => ?_
  refine S.q rfl rfl (q_assign rfl) ?_
  refine S.q rfl rfl (q_assign rfl) ?_
  refine S.end (hK _ ?_)
  clear hK K
  try show Ev _ _ _ _
  by_cases hd : d ∈ sizes
  · have hb := sizes_bd hd
    repeat refine Ev.seq ?_
    refine Ev.region_S fun K hK => ?_
    refine S.q rfl rfl (q_move rfl) ?_
    refine SeqL.call rfl rfl rfl rfl (size_t hd) (.inl rfl) (fun d h => by cases h; exact of_decide_eq_true rfl) ?_
    rintro v objs ⟨rfl, rfl⟩
    refine ⟨_, _, _, rfl, rfl, fun r ob h => fresh0 h, Nat.le_refl _, ?_⟩
    first | refine S.q rfl rfl (q_not_t rfl) ?_ | refine S.q rfl rfl (q_not_f rfl) ?_ | refine S.q rfl rfl (q_not rfl) ?_
    refine S.end (hK _ ?_)
    clear hK K
    try show Ev _ _ _ _
    repeat refine Ev.seq ?_
    refine Ev.cond rfl (fun h => ?_) (fun h => ?_)
    · cases h
    refine Ev.skip ?_
    show Ev _ _ _ _
    repeat refine Ev.seq ?_
    refine Ev.region_S fun K hK => ?_
    refine S.q rfl rfl (q_move rfl) ?_
    refine SeqL.call rfl rfl rfl rfl (area1_fun d (by omega) (by omega)) (.inl rfl) (fun d h => by cases h; exact of_decide_eq_true rfl) ?_
    rintro v objs ⟨rfl, rfl⟩
    refine ⟨_, _, _, rfl, rfl, fun r ob h => fresh0 h, Nat.le_refl _, ?_⟩
    refine S.q rfl rfl (q_assign rfl) ?_
    refine S.q rfl rfl (q_assign rfl) ?_
    refine S.end (hK _ ?_)
    clear hK K
    try show Ev _ _ _ _
    repeat refine Ev.seq ?_
    refine Ev.ret ?_
    refine ⟨[], List.nodup_nil, ?_⟩
    simp only [retP, resAV, packAV, renAV, renL, keepObjs, St.get, find_cons, reduceIte, Option.map_some, Nat.reduceEqDiff, Ret, and_self, areaN, errN, hd, if_true]
  · repeat refine Ev.seq ?_
    refine Ev.region_S fun K hK => ?_
    refine S.q rfl rfl (q_move rfl) ?_
    refine SeqL.call rfl rfl rfl rfl (size_f hd) (.inl rfl) (fun d h => by cases h; exact of_decide_eq_true rfl) ?_
    rintro v objs ⟨rfl, rfl⟩
    refine ⟨_, _, _, rfl, rfl, fun r ob h => fresh0 h, Nat.le_refl _, ?_⟩
    first | refine S.q rfl rfl (q_not_t rfl) ?_ | refine S.q rfl rfl (q_not_f rfl) ?_ | refine S.q rfl rfl (q_not rfl) ?_
    refine S.end (hK _ ?_)
    clear hK K
    try show Ev _ _ _ _
    repeat refine Ev.seq ?_
    refine Ev.cond rfl (fun h => ?_) (fun h => ?_)
    rotate_left
    · cases h
    repeat refine Ev.seq ?_
    refine Ev.region_S fun K hK => ?_
    refine S.q rfl rfl (q_assign rfl) ?_
    refine S.q rfl rfl (q_assign rfl) ?_
    refine S.end (hK _ ?_)
    clear hK K
    try show Ev _ _ _ _
    repeat refine Ev.seq ?_
    refine Ev.ret ?_
    refine ⟨[], List.nodup_nil, ?_⟩
    simp only [retP, resAV, packAV, renAV, renL, keepObjs, St.get, find_cons, reduceIte, Option.map_some, Nat.reduceEqDiff, Ret, and_self, areaN, errN, hd, if_false]

theorem Area_fun (d : Int) : Fun Try.prog 26 [.lit (.int .i64 d)] (Ret (.tup [.lit (.int .i64 (areaN d)), .lit (.int .i64 (errN d))]) []) := by
  refine Fun.of (nt := 9) (rs := [.tmp 2, .tmp 3]) Try.func26 rfl rfl rfl rfl rfl ?_
  repeat refine Ev.seq ?_
  refine Ev.region_S fun K hK => ?_
  first | refine S.new (q_box (cl := true) rfl rfl rfl rfl) rfl rfl ?_ | refine S.new (q_box (cl := false) rfl rfl rfl rfl) rfl rfl ?_
  refine S.q rfl rfl (q_assign rfl) ?_
  refine S.q rfl rfl (q_assign rfl) ?_
  refine S.end (hK _ ?_)
  clear hK K
  try show Ev _ _ _ _
  repeat refine Ev.seq ?_
  refine Ev.region_S fun K hK => ?_
  first | refine S.q rfl rfl (q_load1 am_ag3 rfl rfl) ?_ | refine S.q rfl rfl (q_load1 am_ag3 rfl (cells_adr rfl rfl rfl)) ?_
  refine S.q rfl rfl (q_makeFunc rfl rfl) ?_
  refine SeqL.call rfl rfl rfl rfl (sized_fun d) (.inr (noSh_ret rfl)) (fun d h => by cases h; exact of_decide_eq_true rfl) ?_
  rintro v objs ⟨rfl, rfl⟩
  refine ⟨_, _, _, rfl, rfl, fun r ob h => fresh0 h, Nat.le_refl _, ?_⟩
  refine S.q rfl rfl (q_extract rfl rfl) ?_
  refine S.q rfl rfl (q_extract rfl rfl) ?_
  refine S.q rfl rfl (q_assign rfl) ?_
  refine S.q rfl rfl (q_assign rfl) ?_
  refine S.end (hK _ ?_)
  clear hK K
  try show Ev _ _ _ _
  repeat refine Ev.seq ?_
  refine Ev.ret ?_
  refine ⟨[], List.nodup_nil, ?_⟩
  simp only [retP, resAV, packAV, renAV, renL, keepObjs, St.get, find_cons, reduceIte, Option.map_some, Nat.reduceEqDiff, Ret, and_self]
end Go.Proofs.Ytigjoaejncfmdaa
namespace Go.Proofs.Ytigjoaejncfmdaa
open Go Go.AM
set_option linter.unusedSimpArgs false
set_option maxRecDepth 100000
-- PP
theorem valid_t {l : List (Int × Int)} (h : OKSteps l) : Fun Try.prog 47 [.sh 2 (l.map stepC)] (Ret (.lit (.bool true)) []) := by
  have := valid_fun l
  rwa [decide_eq_true h] at this
theorem valid_f {l : List (Int × Int)} (h : ¬ OKSteps l) : Fun Try.prog 47 [.sh 2 (l.map stepC)] (Ret (.lit (.bool false)) []) := by
  have := valid_fun l
  rwa [decide_eq_false h] at this

def lastOK (l : List (Int × Int)) : Prop := ∀ s, l.getLast? = some s → s.2 = 0
instance (l) : Decidable (lastOK l) := by
  unfold lastOK
  cases h : l.getLast? with
  | none => exact .isTrue (by simp)
  | some s => exact decidable_of_iff (s.2 = 0) (by simp)

def sizeOK (d a : Int) : Prop := d ∈ sizes ∧ 0 ≤ a ∧ a ≤ 1048576
instance (d a) : Decidable (sizeOK d a) := by unfold sizeOK; infer_instance

/-- The error of a demand, a size and an anchorage length. -/
def givenE (l : List (Int × Int)) (d a : Int) : Int := if OKSteps l then (if sizeOK d a then (if lastOK l then 0 else 21) else 2) else 1
def givenA (l : List (Int × Int)) (d a : Int) : Int := if givenE l d a = 0 then areaOf d else 0

theorem Area_t {d : Int} (h : d ∈ sizes) : Fun Try.prog 26 [.lit (.int .i64 d)] (Ret (.tup [.lit (.int .i64 (areaOf d)), .lit (.int .i64 0)]) []) := by
  have := Area_fun d
  rwa [areaN, errN, if_pos h, if_pos h] at this
theorem Area_f {d : Int} (h : ¬ d ∈ sizes) : Fun Try.prog 26 [.lit (.int .i64 d)] (Ret (.tup [.lit (.int .i64 0), .lit (.int .i64 1)]) []) := by
  have := Area_fun d
  rwa [areaN, errN, if_neg h, if_neg h] at this

theorem given_fun (l : List (Int × Int)) (d a : Int) : Fun Try.prog 38 [.sh 2 (l.map stepC), .lit (.int .i64 d), .lit (.int .i64 a)] (Ret (.tup [.lit (.int .i64 (givenA l d a)), .lit (.int .i64 (givenE l d a))]) []) := by
  refine Fun.of (nt := 42) (rs := [.tmp 6, .tmp 7]) Try.func38 rfl rfl rfl rfl rfl ?_
  repeat refine Ev.seq ?_
  refine Ev.region_S fun K hK => ?_
  refine S.q rfl rfl (q_assign rfl) ?_
  refine S.q rfl rfl (q_assign rfl) ?_
  refine S.end (hK _ ?_)
  clear hK K
  try show Ev _ _ _ _
  by_cases hl : OKSteps l
  case neg =>
    have he : givenE l d a = 1 := if_neg hl
    have ha : givenA l d a = 0 := by unfold givenA; rw [he]; rfl
    repeat refine Ev.seq ?_
    refine Ev.region_S fun K hK => ?_
    refine S.q rfl rfl (q_move rfl) ?_
    refine SeqL.call rfl rfl rfl rfl (valid_f hl) (.inl rfl) (fun d h => by cases h; exact of_decide_eq_true rfl) ?_
    rintro v objs ⟨rfl, rfl⟩
    refine ⟨_, _, _, rfl, rfl, fun r ob h => fresh0 h, Nat.le_refl _, ?_⟩
    first | refine S.q rfl rfl (q_not_t rfl) ?_ | refine S.q rfl rfl (q_not_f rfl) ?_ | refine S.q rfl rfl (q_not rfl) ?_
    refine S.end (hK _ ?_)
    clear hK K
    try show Ev _ _ _ _
    repeat refine Ev.seq ?_
    refine Ev.cond rfl (fun h => ?_) (fun h => ?_)
    rotate_left
    · cases h
    repeat refine Ev.seq ?_
    refine Ev.region_S fun K hK => ?_
    refine S.q rfl rfl (q_assign rfl) ?_
    refine S.q rfl rfl (q_assign rfl) ?_
    refine S.end (hK _ ?_)
    clear hK K
    try show Ev _ _ _ _
    repeat refine Ev.seq ?_
    refine Ev.ret ?_
    refine ⟨[], List.nodup_nil, ?_⟩
    simp only [retP, resAV, packAV, renAV, renL, keepObjs, St.get, find_cons, reduceIte, Option.map_some, Nat.reduceEqDiff, Ret, and_self, he, ha]
  repeat refine Ev.seq ?_
  refine Ev.region_S fun K hK => ?_
  refine S.q rfl rfl (q_move rfl) ?_
  refine SeqL.call rfl rfl rfl rfl (valid_t hl) (.inl rfl) (fun d h => by cases h; exact of_decide_eq_true rfl) ?_
  rintro v objs ⟨rfl, rfl⟩
  refine ⟨_, _, _, rfl, rfl, fun r ob h => fresh0 h, Nat.le_refl _, ?_⟩
  first | refine S.q rfl rfl (q_not_t rfl) ?_ | refine S.q rfl rfl (q_not_f rfl) ?_ | refine S.q rfl rfl (q_not rfl) ?_
  refine S.end (hK _ ?_)
  clear hK K
  try show Ev _ _ _ _
  repeat refine Ev.seq ?_
  refine Ev.cond rfl (fun h => ?_) (fun h => ?_)
  · cases h
  refine Ev.skip ?_
  show Ev _ _ _ _
  by_cases hd : d ∈ sizes
  case neg =>
    have he : givenE l d a = 2 := by unfold givenE; rw [if_pos hl, if_neg (fun h => hd h.1)]
    have ha : givenA l d a = 0 := by unfold givenA; rw [he]; rfl
    repeat refine Ev.seq ?_
    refine Ev.region_S fun K hK => ?_
    refine S.q rfl rfl (q_move rfl) ?_
    refine SeqL.call rfl rfl rfl rfl (Area_f hd) (.inl rfl) (fun d h => by cases h; exact of_decide_eq_true rfl) ?_
    rintro v objs ⟨rfl, rfl⟩
    refine ⟨_, _, _, rfl, rfl, fun r ob h => fresh0 h, Nat.le_refl _, ?_⟩
    refine S.q rfl rfl (q_move rfl) ?_
    refine S.q rfl rfl (q_extract rfl rfl) ?_
    refine S.q rfl rfl (q_extract rfl rfl) ?_
    refine S.q rfl rfl (q_assign rfl) ?_
    refine S.q rfl rfl (q_assign rfl) ?_
    refine S.end (hK _ ?_)
    clear hK K
    try show Ev _ _ _ _
    repeat refine Ev.seq ?_
    refine Ev.region_S fun K hK => ?_
    refine S.q rfl rfl (q_move rfl) ?_
    first | refine S.q rfl rfl (q_neq_t rfl rfl (by first | omega | assumption)) ?_ | refine S.q rfl rfl (q_neq_f rfl rfl (by first | omega | assumption)) ?_ | refine S.q rfl rfl (q_neq rfl rfl) ?_
    refine S.q rfl rfl (q_move rfl) ?_
    first | refine S.skip rfl rfl ?_ | refine S.q rfl rfl (q_move rfl) ?_
    first | refine S.skip rfl rfl ?_ | refine S.q rfl rfl (q_lss_t rfl rfl (by first | omega | assumption)) ?_ | refine S.q rfl rfl (q_lss_f rfl rfl (by first | omega | assumption)) ?_ | refine S.q rfl rfl (q_lss rfl rfl) ?_
    first | refine S.q rfl rfl (q_pick_t rfl rfl) ?_ | refine S.q rfl rfl (q_pick_f rfl rfl) ?_
    refine S.q rfl rfl (q_move rfl) ?_
    first | refine S.skip rfl rfl ?_ | refine S.q rfl rfl (q_move rfl) ?_
    first | refine S.skip rfl rfl ?_ | refine S.q rfl rfl (q_gtr_t rfl rfl (by first | omega | assumption)) ?_ | refine S.q rfl rfl (q_gtr_f rfl rfl (by first | omega | assumption)) ?_ | refine S.q rfl rfl (q_gtr rfl rfl) ?_
    first | refine S.q rfl rfl (q_pick_t rfl rfl) ?_ | refine S.q rfl rfl (q_pick_f rfl rfl) ?_
    refine S.end (hK _ ?_)
    clear hK K
    try show Ev _ _ _ _
    repeat refine Ev.seq ?_
    refine Ev.cond rfl (fun h => ?_) (fun h => ?_)
    rotate_left
    · cases h
    repeat refine Ev.seq ?_
    refine Ev.region_S fun K hK => ?_
    refine S.q rfl rfl (q_assign rfl) ?_
    refine S.q rfl rfl (q_assign rfl) ?_
    refine S.end (hK _ ?_)
    clear hK K
    try show Ev _ _ _ _
    repeat refine Ev.seq ?_
    refine Ev.ret ?_
    refine ⟨[], List.nodup_nil, ?_⟩
    simp only [retP, resAV, packAV, renAV, renL, keepObjs, St.get, find_cons, reduceIte, Option.map_some, Nat.reduceEqDiff, Ret, and_self, he, ha]
  repeat refine Ev.seq ?_
  refine Ev.region_S fun K hK => ?_
  refine S.q rfl rfl (q_move rfl) ?_
  refine SeqL.call rfl rfl rfl rfl (Area_t hd) (.inl rfl) (fun d h => by cases h; exact of_decide_eq_true rfl) ?_
  rintro v objs ⟨rfl, rfl⟩
  refine ⟨_, _, _, rfl, rfl, fun r ob h => fresh0 h, Nat.le_refl _, ?_⟩
  refine S.q rfl rfl (q_move rfl) ?_
  refine S.q rfl rfl (q_extract rfl rfl) ?_
  refine S.q rfl rfl (q_extract rfl rfl) ?_
  refine S.q rfl rfl (q_assign rfl) ?_
  refine S.q rfl rfl (q_assign rfl) ?_
  refine S.end (hK _ ?_)
  clear hK K
  try show Ev _ _ _ _
  by_cases ha1 : a < 0
  · have he : givenE l d a = 2 := by unfold givenE; rw [if_pos hl, if_neg (fun h => by have := h.2.1; omega)]
    have ha : givenA l d a = 0 := by unfold givenA; rw [he]; rfl
    repeat refine Ev.seq ?_
    refine Ev.region_S fun K hK => ?_
    refine S.q rfl rfl (q_move rfl) ?_
    first | refine S.q rfl rfl (q_neq_t rfl rfl (by first | omega | assumption)) ?_ | refine S.q rfl rfl (q_neq_f rfl rfl (by first | omega | assumption)) ?_ | refine S.q rfl rfl (q_neq rfl rfl) ?_
    refine S.q rfl rfl (q_move rfl) ?_
    first | refine S.skip rfl rfl ?_ | refine S.q rfl rfl (q_move rfl) ?_
    first | refine S.skip rfl rfl ?_ | refine S.q rfl rfl (q_lss_t rfl rfl (by first | omega | assumption)) ?_ | refine S.q rfl rfl (q_lss_f rfl rfl (by first | omega | assumption)) ?_ | refine S.q rfl rfl (q_lss rfl rfl) ?_
    first | refine S.q rfl rfl (q_pick_t rfl rfl) ?_ | refine S.q rfl rfl (q_pick_f rfl rfl) ?_
    refine S.q rfl rfl (q_move rfl) ?_
    first | refine S.skip rfl rfl ?_ | refine S.q rfl rfl (q_move rfl) ?_
    first | refine S.skip rfl rfl ?_ | refine S.q rfl rfl (q_gtr_t rfl rfl (by first | omega | assumption)) ?_ | refine S.q rfl rfl (q_gtr_f rfl rfl (by first | omega | assumption)) ?_ | refine S.q rfl rfl (q_gtr rfl rfl) ?_
    first | refine S.q rfl rfl (q_pick_t rfl rfl) ?_ | refine S.q rfl rfl (q_pick_f rfl rfl) ?_
    refine S.end (hK _ ?_)
    clear hK K
    try show Ev _ _ _ _
    repeat refine Ev.seq ?_
    refine Ev.cond rfl (fun h => ?_) (fun h => ?_)
    rotate_left
    · cases h
    repeat refine Ev.seq ?_
    refine Ev.region_S fun K hK => ?_
    refine S.q rfl rfl (q_assign rfl) ?_
    refine S.q rfl rfl (q_assign rfl) ?_
    refine S.end (hK _ ?_)
    clear hK K
    try show Ev _ _ _ _
    repeat refine Ev.seq ?_
    refine Ev.ret ?_
    refine ⟨[], List.nodup_nil, ?_⟩
    simp only [retP, resAV, packAV, renAV, renL, keepObjs, St.get, find_cons, reduceIte, Option.map_some, Nat.reduceEqDiff, Ret, and_self, he, ha]
  by_cases ha2 : 1048576 < a
  · have he : givenE l d a = 2 := by unfold givenE; rw [if_pos hl, if_neg (fun h => by have := h.2.2; omega)]
    have ha : givenA l d a = 0 := by unfold givenA; rw [he]; rfl
    repeat refine Ev.seq ?_
    refine Ev.region_S fun K hK => ?_
    refine S.q rfl rfl (q_move rfl) ?_
    first | refine S.q rfl rfl (q_neq_t rfl rfl (by first | omega | assumption)) ?_ | refine S.q rfl rfl (q_neq_f rfl rfl (by first | omega | assumption)) ?_ | refine S.q rfl rfl (q_neq rfl rfl) ?_
    refine S.q rfl rfl (q_move rfl) ?_
    first | refine S.skip rfl rfl ?_ | refine S.q rfl rfl (q_move rfl) ?_
    first | refine S.skip rfl rfl ?_ | refine S.q rfl rfl (q_lss_t rfl rfl (by first | omega | assumption)) ?_ | refine S.q rfl rfl (q_lss_f rfl rfl (by first | omega | assumption)) ?_ | refine S.q rfl rfl (q_lss rfl rfl) ?_
    first | refine S.q rfl rfl (q_pick_t rfl rfl) ?_ | refine S.q rfl rfl (q_pick_f rfl rfl) ?_
    refine S.q rfl rfl (q_move rfl) ?_
    first | refine S.skip rfl rfl ?_ | refine S.q rfl rfl (q_move rfl) ?_
    first | refine S.skip rfl rfl ?_ | refine S.q rfl rfl (q_gtr_t rfl rfl (by first | omega | assumption)) ?_ | refine S.q rfl rfl (q_gtr_f rfl rfl (by first | omega | assumption)) ?_ | refine S.q rfl rfl (q_gtr rfl rfl) ?_
    first | refine S.q rfl rfl (q_pick_t rfl rfl) ?_ | refine S.q rfl rfl (q_pick_f rfl rfl) ?_
    refine S.end (hK _ ?_)
    clear hK K
    try show Ev _ _ _ _
    repeat refine Ev.seq ?_
    refine Ev.cond rfl (fun h => ?_) (fun h => ?_)
    rotate_left
    · cases h
    repeat refine Ev.seq ?_
    refine Ev.region_S fun K hK => ?_
    refine S.q rfl rfl (q_assign rfl) ?_
    refine S.q rfl rfl (q_assign rfl) ?_
    refine S.end (hK _ ?_)
    clear hK K
    try show Ev _ _ _ _
    repeat refine Ev.seq ?_
    refine Ev.ret ?_
    refine ⟨[], List.nodup_nil, ?_⟩
    simp only [retP, resAV, packAV, renAV, renL, keepObjs, St.get, find_cons, reduceIte, Option.map_some, Nat.reduceEqDiff, Ret, and_self, he, ha]
  have hsz : sizeOK d a := ⟨hd, by omega, by omega⟩
  repeat refine Ev.seq ?_
  refine Ev.region_S fun K hK => ?_
  refine S.q rfl rfl (q_move rfl) ?_
  first | refine S.q rfl rfl (q_neq_t rfl rfl (by first | omega | assumption)) ?_ | refine S.q rfl rfl (q_neq_f rfl rfl (by first | omega | assumption)) ?_ | refine S.q rfl rfl (q_neq rfl rfl) ?_
  refine S.q rfl rfl (q_move rfl) ?_
  first | refine S.skip rfl rfl ?_ | refine S.q rfl rfl (q_move rfl) ?_
  first | refine S.skip rfl rfl ?_ | refine S.q rfl rfl (q_lss_t rfl rfl (by first | omega | assumption)) ?_ | refine S.q rfl rfl (q_lss_f rfl rfl (by first | omega | assumption)) ?_ | refine S.q rfl rfl (q_lss rfl rfl) ?_
  first | refine S.q rfl rfl (q_pick_t rfl rfl) ?_ | refine S.q rfl rfl (q_pick_f rfl rfl) ?_
  refine S.q rfl rfl (q_move rfl) ?_
  first | refine S.skip rfl rfl ?_ | refine S.q rfl rfl (q_move rfl) ?_
  first | refine S.skip rfl rfl ?_ | refine S.q rfl rfl (q_gtr_t rfl rfl (by first | omega | assumption)) ?_ | refine S.q rfl rfl (q_gtr_f rfl rfl (by first | omega | assumption)) ?_ | refine S.q rfl rfl (q_gtr rfl rfl) ?_
  first | refine S.q rfl rfl (q_pick_t rfl rfl) ?_ | refine S.q rfl rfl (q_pick_f rfl rfl) ?_
  refine S.end (hK _ ?_)
  clear hK K
  try show Ev _ _ _ _
  repeat refine Ev.seq ?_
  refine Ev.cond rfl (fun h => ?_) (fun h => ?_)
  · cases h
  refine Ev.skip ?_
  show Ev _ _ _ _
  have hlen : l.length ≤ 200 := hl.1
  rcases List.eq_nil_or_concat l with hnil | ⟨l', q, hq⟩
  · subst hnil
    have he : givenE [] d a = 0 := by unfold givenE; rw [if_pos hl, if_pos hsz]; rfl
    have ha : givenA [] d a = areaOf d := by unfold givenA; rw [he]; rfl
    repeat refine Ev.seq ?_
    refine Ev.region_S fun K hK => ?_
    refine S.q rfl rfl (q_move rfl) ?_
    refine S.q rfl rfl (q_len am_el22 rfl (by simp only [lenAV, List.length_map]; rfl)) ?_
    first | refine S.q rfl rfl (q_gtr_t rfl rfl (by first | omega | assumption)) ?_ | refine S.q rfl rfl (q_gtr_f rfl rfl (by first | omega | assumption)) ?_ | refine S.q rfl rfl (q_gtr rfl rfl) ?_
    refine S.q rfl rfl (q_move rfl) ?_
    first | refine S.skip rfl rfl ?_ | refine S.q rfl rfl (q_move rfl) ?_
    first | refine S.skip rfl rfl ?_ | refine S.q rfl rfl (q_move rfl) ?_
    first | refine S.skip rfl rfl ?_ | refine S.q rfl rfl (q_len am_el22 rfl (by simp only [lenAV, List.length_map]; rfl)) ?_
    first | refine S.skip rfl rfl ?_ | refine S.q rfl rfl (q_sub rfl rfl (by first | omega | assumption) (by first | omega | assumption)) ?_
    first | refine S.skip rfl rfl ?_ | refine S.q rfl rfl (q_ia am_el22 am_cl57 rfl rfl rfl rfl rfl (by first | omega | assumption) (by first | omega | assumption) rfl) ?_ | refine S.q rfl rfl (q_ias am_el22 am_cl57 rfl rfl rfl (by first | omega | assumption) rfl) ?_
    first | refine S.skip rfl rfl ?_ | refine S.q rfl rfl (q_fa am_fi57_1 am_cl3 rfl rfl rfl) ?_ | refine S.q rfl rfl (q_fas am_fi57_1 am_cl3 rfl rfl rfl) ?_
    first | refine S.skip rfl rfl ?_ | refine S.q rfl rfl (q_load1 am_ag3 rfl rfl) ?_ | refine S.q rfl rfl (q_load1 am_ag3 rfl (cells_adr rfl rfl rfl)) ?_
    first | refine S.skip rfl rfl ?_ | refine S.q rfl rfl (q_neq_t rfl rfl (by first | omega | assumption)) ?_ | refine S.q rfl rfl (q_neq_f rfl rfl (by first | omega | assumption)) ?_ | refine S.q rfl rfl (q_neq rfl rfl) ?_
    first | refine S.q rfl rfl (q_pick_t rfl rfl) ?_ | refine S.q rfl rfl (q_pick_f rfl rfl) ?_
    refine S.end (hK _ ?_)
    clear hK K
    try show Ev _ _ _ _
    repeat refine Ev.seq ?_
    refine Ev.cond rfl (fun h => ?_) (fun h => ?_)
    · cases h
    refine Ev.skip ?_
    show Ev _ _ _ _
    repeat refine Ev.seq ?_
    refine Ev.region_S fun K hK => ?_
    refine S.q rfl rfl (q_move rfl) ?_
    refine S.q rfl rfl (q_assign rfl) ?_
    refine S.q rfl rfl (q_assign rfl) ?_
    refine S.end (hK _ ?_)
    clear hK K
    try show Ev _ _ _ _
    repeat refine Ev.seq ?_
    refine Ev.ret ?_
    refine ⟨[], List.nodup_nil, ?_⟩
    simp only [retP, resAV, packAV, renAV, renL, keepObjs, St.get, find_cons, reduceIte, Option.map_some, Nat.reduceEqDiff, Ret, and_self, he, ha]
  · rw [List.concat_eq_append] at hq
    have hpos : (0 : Int) < l.length := by rw [hq]; simp
    have hidx : l[((l.length : Int) - 1).toNat]? = some q := by rw [hq]; simp
    have hlast : l.getLast? = some q := by rw [hq]; simp
    by_cases h0 : q.2 = 0
    · have hok : lastOK l := fun s hs => by rw [hlast] at hs; cases hs; exact h0
      have he : givenE l d a = 0 := by unfold givenE; rw [if_pos hl, if_pos hsz, if_pos hok]
      have ha : givenA l d a = areaOf d := by unfold givenA; rw [he]; rfl
      repeat refine Ev.seq ?_
      refine Ev.region_S fun K hK => ?_
      refine S.q rfl rfl (q_move rfl) ?_
      refine S.q rfl rfl (q_len am_el22 rfl (by simp only [lenAV, List.length_map]; rfl)) ?_
      first | refine S.q rfl rfl (q_gtr_t rfl rfl (by first | omega | assumption)) ?_ | refine S.q rfl rfl (q_gtr_f rfl rfl (by first | omega | assumption)) ?_ | refine S.q rfl rfl (q_gtr rfl rfl) ?_
      refine S.q rfl rfl (q_move rfl) ?_
      first | refine S.skip rfl rfl ?_ | refine S.q rfl rfl (q_move rfl) ?_
      first | refine S.skip rfl rfl ?_ | refine S.q rfl rfl (q_move rfl) ?_
      first | refine S.skip rfl rfl ?_ | refine S.q rfl rfl (q_len am_el22 rfl (by simp only [lenAV, List.length_map]; rfl)) ?_
      first | refine S.skip rfl rfl ?_ | refine S.q rfl rfl (q_sub rfl rfl (by first | omega | assumption) (by first | omega | assumption)) ?_
      first | refine S.skip rfl rfl ?_ | refine S.q rfl rfl (q_ia am_el22 am_cl57 rfl rfl rfl rfl rfl (by first | omega | assumption) (by first | omega | assumption) rfl) ?_ | refine S.q rfl rfl (q_ias am_el22 am_cl57 rfl rfl rfl (by first | omega | assumption) (by first | (simp only [List.getElem?_map, Int.toNat_natCast, Nat.zero_add, Option.map_some, hidx]; rfl) | rfl)) ?_
      first | refine S.skip rfl rfl ?_ | refine S.q rfl rfl (q_fa am_fi57_1 am_cl3 rfl rfl rfl) ?_ | refine S.q rfl rfl (q_fas am_fi57_1 am_cl3 rfl rfl rfl) ?_
      first | refine S.skip rfl rfl ?_ | refine S.q rfl rfl (q_load1 am_ag3 rfl rfl) ?_ | refine S.q rfl rfl (q_load1 am_ag3 rfl (cells_adr rfl (by first | (simp only [List.getElem?_map, Int.toNat_natCast, Nat.zero_add, Option.map_some, hidx]; rfl) | rfl) rfl)) ?_
      first | refine S.skip rfl rfl ?_ | refine S.q rfl rfl (q_neq_t rfl rfl (by first | omega | assumption)) ?_ | refine S.q rfl rfl (q_neq_f rfl rfl (by first | omega | assumption)) ?_ | refine S.q rfl rfl (q_neq rfl rfl) ?_
      first | refine S.q rfl rfl (q_pick_t rfl rfl) ?_ | refine S.q rfl rfl (q_pick_f rfl rfl) ?_
      refine S.end (hK _ ?_)
      clear hK K
      try show Ev _ _ _ _
      repeat refine Ev.seq ?_
      refine Ev.cond rfl (fun h => ?_) (fun h => ?_)
      · cases h
      refine Ev.skip ?_
      show Ev _ _ _ _
      repeat refine Ev.seq ?_
      refine Ev.region_S fun K hK => ?_
      refine S.q rfl rfl (q_move rfl) ?_
      refine S.q rfl rfl (q_assign rfl) ?_
      refine S.q rfl rfl (q_assign rfl) ?_
      refine S.end (hK _ ?_)
      clear hK K
      try show Ev _ _ _ _
      repeat refine Ev.seq ?_
      refine Ev.ret ?_
      refine ⟨[], List.nodup_nil, ?_⟩
      simp only [retP, resAV, packAV, renAV, renL, keepObjs, St.get, find_cons, reduceIte, Option.map_some, Nat.reduceEqDiff, Ret, and_self, he, ha]
    · have hok : ¬ lastOK l := fun h => h0 (h q hlast)
      have he : givenE l d a = 21 := by unfold givenE; rw [if_pos hl, if_pos hsz, if_neg hok]
      have ha : givenA l d a = 0 := by unfold givenA; rw [he]; rfl
      repeat refine Ev.seq ?_
      refine Ev.region_S fun K hK => ?_
      refine S.q rfl rfl (q_move rfl) ?_
      refine S.q rfl rfl (q_len am_el22 rfl (by simp only [lenAV, List.length_map]; rfl)) ?_
      first | refine S.q rfl rfl (q_gtr_t rfl rfl (by first | omega | assumption)) ?_ | refine S.q rfl rfl (q_gtr_f rfl rfl (by first | omega | assumption)) ?_ | refine S.q rfl rfl (q_gtr rfl rfl) ?_
      refine S.q rfl rfl (q_move rfl) ?_
      first | refine S.skip rfl rfl ?_ | refine S.q rfl rfl (q_move rfl) ?_
      first | refine S.skip rfl rfl ?_ | refine S.q rfl rfl (q_move rfl) ?_
      first | refine S.skip rfl rfl ?_ | refine S.q rfl rfl (q_len am_el22 rfl (by simp only [lenAV, List.length_map]; rfl)) ?_
      first | refine S.skip rfl rfl ?_ | refine S.q rfl rfl (q_sub rfl rfl (by first | omega | assumption) (by first | omega | assumption)) ?_
      first | refine S.skip rfl rfl ?_ | refine S.q rfl rfl (q_ia am_el22 am_cl57 rfl rfl rfl rfl rfl (by first | omega | assumption) (by first | omega | assumption) rfl) ?_ | refine S.q rfl rfl (q_ias am_el22 am_cl57 rfl rfl rfl (by first | omega | assumption) (by first | (simp only [List.getElem?_map, Int.toNat_natCast, Nat.zero_add, Option.map_some, hidx]; rfl) | rfl)) ?_
      first | refine S.skip rfl rfl ?_ | refine S.q rfl rfl (q_fa am_fi57_1 am_cl3 rfl rfl rfl) ?_ | refine S.q rfl rfl (q_fas am_fi57_1 am_cl3 rfl rfl rfl) ?_
      first | refine S.skip rfl rfl ?_ | refine S.q rfl rfl (q_load1 am_ag3 rfl rfl) ?_ | refine S.q rfl rfl (q_load1 am_ag3 rfl (cells_adr rfl (by first | (simp only [List.getElem?_map, Int.toNat_natCast, Nat.zero_add, Option.map_some, hidx]; rfl) | rfl) rfl)) ?_
      first | refine S.skip rfl rfl ?_ | refine S.q rfl rfl (q_neq_t rfl rfl (by first | omega | assumption)) ?_ | refine S.q rfl rfl (q_neq_f rfl rfl (by first | omega | assumption)) ?_ | refine S.q rfl rfl (q_neq rfl rfl) ?_
      first | refine S.q rfl rfl (q_pick_t rfl rfl) ?_ | refine S.q rfl rfl (q_pick_f rfl rfl) ?_
      refine S.end (hK _ ?_)
      clear hK K
      try show Ev _ _ _ _
      repeat refine Ev.seq ?_
      refine Ev.cond rfl (fun h => ?_) (fun h => ?_)
      rotate_left
      · cases h
      repeat refine Ev.seq ?_
      refine Ev.region_S fun K hK => ?_
      refine S.q rfl rfl (q_assign rfl) ?_
      refine S.q rfl rfl (q_assign rfl) ?_
      refine S.end (hK _ ?_)
      clear hK K
      try show Ev _ _ _ _
      repeat refine Ev.seq ?_
      refine Ev.ret ?_
      refine ⟨[], List.nodup_nil, ?_⟩
      simp only [retP, resAV, packAV, renAV, renL, keepObjs, St.get, find_cons, reduceIte, Option.map_some, Nat.reduceEqDiff, Ret, and_self, he, ha]
end Go.Proofs.Ytigjoaejncfmdaa
namespace Go.Proofs.Ytigjoaejncfmdaa
open Go Go.AM
set_option linter.unusedSimpArgs false
set_option maxRecDepth 100000
-- PP
def levAdd (acc : List (Int × Int)) (lo hi : Int) : List (Int × Int) :=
  match acc.getLast? with
  | some o => if o.2 = lo then acc.dropLast ++ [(o.1, hi)] else acc ++ [(lo, hi)]
  | none => acc ++ [(lo, hi)]

def levGo (v : Int) : List (Int × Int) → List (Int × Int) → List (Int × Int)
  | [], acc => acc
  | [_], acc => acc
  | s :: n :: l, acc => levGo v (n :: l) (if s.2 ≤ v then acc else levAdd acc s.1 n.1)

theorem map_set_last (acc : List (Int × Int)) (o o' : Int × Int) : ((acc ++ [o]).map stepC).set (0 + (((acc ++ [o]).length : Int) - 1).toNat) (stepC o') = (acc ++ [o']).map stepC := by
  have : 0 + (((acc ++ [o]).length : Int) - 1).toNat = (acc.map stepC).length := by simp
  rw [this, List.map_append, List.map_append, List.set_append_right _ _ (Nat.le_refl _), Nat.sub_self]
  rfl

theorem map_set_last' (acc : List (Int × Int)) (o : Int × Int) (a b : Int) : ((acc ++ [o]).map stepC).set (0 + (((acc ++ [o]).length : Int) - 1).toNat) [.lit (.int .i64 a), .lit (.int .i64 b)] = (acc ++ [(a, b)]).map stepC := map_set_last acc o (a, b)

theorem level_fun (l : List (Int × Int)) (v : Int) (hlen : l.length ≤ 200) (hlast : lastOK l) (hv : 0 ≤ v) :
    Fun Try.prog 40 [.sh 2 (l.map stepC), .lit (.int .i64 v)] (Ret (.als 0 0 (levGo v l []).length) [(0, ⟨true, 36, 2, (levGo v l []).map stepC, true⟩)]) := by
  refine Fun.of (nt := 57) (rs := [.tmp 4]) Try.func40 rfl rfl rfl rfl rfl ?_
  repeat refine Ev.seq ?_
  refine Ev.region_S fun K hK => ?_
  refine S.q rfl rfl (q_assign rfl) ?_
  refine S.end (hK _ ?_)
  clear hK K
  try show Ev _ _ _ _
  repeat refine Ev.seq ?_
  refine Ev.region_S fun K hK => ?_
  refine S.q rfl rfl (q_assign rfl) ?_
  refine S.end (hK _ ?_)
  clear hK K
  try show Ev _ _ _ _
  repeat refine Ev.seq ?_
  refine Ev.region_S fun K hK => ?_
  refine S.q rfl rfl (q_move rfl) ?_
  refine S.q rfl rfl (q_len am_el22 rfl (by simp only [lenAV, List.length_map]; rfl)) ?_
  refine S.q rfl rfl (q_move rfl) ?_
  refine S.end (hK _ ?_)
  clear hK K
  try show Ev _ _ _ _
  refine Ev.block (Ev.loop (ι := {p : (List (Int × Int) × List (Int × Int)) × List (Int × Int) // p.1.1 ++ p.1.2 = l ∧ levGo v l [] = levGo v p.1.2 p.2 ∧ p.2.length ≤ p.1.1.length})
      (fun p => ⟨[(0, .sh 2 (l.map stepC)), (1, .lit (.int .i64 v)), (5, .als 0 0 p.1.2.length), (10, .sh 2 (l.map stepC)), (11, .lit (.int .i64 l.length)), (12, .lit (.int .i64 p.1.1.1.length))], [(0, ⟨true, 36, 2, p.1.2.map stepC, true⟩)], 1, 57, 0⟩)
      (fun p => p.1.1.2.length) ⟨(([], l), []), rfl, rfl, Nat.le_refl _⟩ ?_ ?_)
  · refine Wk.trans (Wk.nil 5 36 2 rfl) ?_
    refine Wk.ren [0] (by decide) ?_ rfl rfl rfl rfl (fun i hi => absurd hi (Nat.not_lt_zero i))
    simp only [slotsRen, renAV, argSlots, St.get, find_cons, reduceIte, Nat.reduceEqDiff, and_self, pos_cons, Option.map_some, List.length_nil, Int.natCast_zero, Int.ofNat_zero, Int.cast_ofNat_Int]
  · rintro ⟨⟨⟨pre, suf⟩, acc⟩, hp, hok, hac⟩
    simp only at hp hok hac
    dsimp only
    cases suf with
    | nil =>
      rw [List.append_nil] at hp
      subst hp
      repeat refine Ev.seq ?_
      refine Ev.region_S fun K hK => ?_
      first | refine S.q rfl rfl (q_lss_t rfl rfl (by first | omega | assumption)) ?_ | refine S.q rfl rfl (q_lss_f rfl rfl (by first | omega | assumption)) ?_ | refine S.q rfl rfl (q_lss rfl rfl) ?_
      refine S.end (hK _ ?_)
      clear hK K
      try show Ev _ _ _ _
      repeat refine Ev.seq ?_
      refine Ev.cond rfl (fun h => ?_) (fun h => ?_)
      · cases h
      refine Ev.exit ?_
      show Ev _ _ _ _
      repeat refine Ev.seq ?_
      refine Ev.region_S fun K hK => ?_
      refine S.q rfl rfl (q_move rfl) ?_
      refine S.q rfl rfl (q_assign rfl) ?_
      refine S.end (hK _ ?_)
      clear hK K
      try show Ev _ _ _ _
      repeat refine Ev.seq ?_
      refine Ev.ret ?_
      refine ⟨[0], by decide, ?_⟩
      simp only [retP, resAV, packAV, renAV, renL, keepObjs, renObj, pos_cons, pos_nil, Nat.reduceAdd, Nat.zero_add, List.cons_append, List.nil_append, List.append_nil, St.get, find_cons, reduceIte, Option.map_some, Option.bind_some, Nat.reduceEqDiff, Ret, and_self, hok, levGo]
    | cons s suf =>
      have hlt : (pre.length : Int) < l.length := by rw [← hp, List.length_append, List.length_cons]; omega
      have hidx : l[pre.length]? = some s := by rw [← hp]; simp
      repeat refine Ev.seq ?_
      refine Ev.region_S fun K hK => ?_
      first | refine S.q rfl rfl (q_lss_t rfl rfl (by first | omega | assumption)) ?_ | refine S.q rfl rfl (q_lss_f rfl rfl (by first | omega | assumption)) ?_ | refine S.q rfl rfl (q_lss rfl rfl) ?_
      refine S.end (hK _ ?_)
      clear hK K
      try show Ev _ _ _ _
      repeat refine Ev.seq ?_
      refine Ev.cond rfl (fun h => ?_) (fun h => ?_)
      rotate_left
      · cases h
      refine Ev.skip ?_
      show Ev _ _ _ _
      repeat refine Ev.seq ?_
      refine Ev.block ?_
      repeat refine Ev.seq ?_
      refine Ev.region_S fun K hK => ?_
      refine S.q rfl rfl (q_move rfl) ?_
      first | refine S.q rfl rfl (q_ia am_el22 am_cl57 rfl rfl rfl rfl rfl (by first | omega | assumption) (by first | omega | assumption) rfl) ?_ | refine S.q rfl rfl (q_ias am_el22 am_cl57 rfl rfl rfl (by first | omega | assumption) (by first | (simp only [List.getElem?_map, Int.toNat_natCast, Nat.zero_add, Option.map_some, hidx]; rfl) | rfl)) ?_
      first | refine S.q rfl rfl (q_loadA am_ag57 am_cl57 rfl (cells_sadr0) rfl (take_all rfl)) ?_ | refine S.q rfl rfl (q_loadA am_ag57 am_cl57 rfl (cells_adr0 rfl (by first | (simp only [List.getElem?_map, Int.toNat_natCast, Nat.zero_add, Option.map_some, hidx]; rfl) | rfl)) rfl (take_all rfl)) ?_ | refine S.q rfl rfl (q_loadA am_ag57 am_cl57 rfl (cells_sadr (by (try simp only [splice, del_cons, del_nil, List.set_cons_zero, List.set_cons_succ, List.take_succ_cons, List.take_zero, List.drop_succ_cons, List.drop_zero, List.nil_append, List.cons_append, List.append_nil, List.length_cons, List.length_nil, Nat.reduceAdd, Nat.reduceEqDiff, reduceIte]); rfl)) rfl (by (try simp only [splice, del_cons, del_nil, List.set_cons_zero, List.set_cons_succ, List.take_succ_cons, List.take_zero, List.drop_succ_cons, List.drop_zero, List.nil_append, List.cons_append, List.append_nil, List.length_cons, List.length_nil, Nat.reduceAdd, Nat.reduceEqDiff, reduceIte]); rfl)) ?_ | refine S.q rfl rfl (q_loadA am_ag57 am_cl57 rfl (cells_adr rfl (by first | (simp only [List.getElem?_map, Int.toNat_natCast, Nat.zero_add, Option.map_some, hidx]; rfl) | rfl) (by (try simp only [splice, del_cons, del_nil, List.set_cons_zero, List.set_cons_succ, List.take_succ_cons, List.take_zero, List.drop_succ_cons, List.drop_zero, List.nil_append, List.cons_append, List.append_nil, List.length_cons, List.length_nil, Nat.reduceAdd, Nat.reduceEqDiff, reduceIte]); rfl)) rfl (by (try simp only [splice, del_cons, del_nil, List.set_cons_zero, List.set_cons_succ, List.take_succ_cons, List.take_zero, List.drop_succ_cons, List.drop_zero, List.nil_append, List.cons_append, List.append_nil, List.length_cons, List.length_nil, Nat.reduceAdd, Nat.reduceEqDiff, reduceIte]); rfl)) ?_
      refine S.new (q_alloc am_ze57 rfl) rfl rfl ?_
      refine S.q rfl rfl (q_assign rfl) ?_
      first | refine S.st (cl' := true) rfl am_in57 am_cl57 rfl rfl rfl (by first | (simp only [List.getElem?_map, Int.toNat_natCast, Nat.zero_add, Option.map_some, hidx]; rfl) | rfl) rfl rfl (by (try simp only [splice, del_cons, del_nil, List.set_cons_zero, List.set_cons_succ, List.take_succ_cons, List.take_zero, List.drop_succ_cons, List.drop_zero, List.nil_append, List.cons_append, List.append_nil, List.length_cons, List.length_nil, Nat.reduceAdd, Nat.reduceEqDiff, reduceIte]); rfl) (by (try simp only [splice, del_cons, del_nil, List.set_cons_zero, List.set_cons_succ, List.take_succ_cons, List.take_zero, List.drop_succ_cons, List.drop_zero, List.nil_append, List.cons_append, List.append_nil, List.length_cons, List.length_nil, Nat.reduceAdd, Nat.reduceEqDiff, reduceIte]); rfl) rfl (by (try simp only [splice, del_cons, del_nil, List.set_cons_zero, List.set_cons_succ, List.take_succ_cons, List.take_zero, List.drop_succ_cons, List.drop_zero, List.nil_append, List.cons_append, List.append_nil, List.length_cons, List.length_nil, Nat.reduceAdd, Nat.reduceEqDiff, reduceIte]); rfl) ?_ | refine S.st (cl' := false) rfl am_in57 am_cl57 rfl rfl rfl (by first | (simp only [List.getElem?_map, Int.toNat_natCast, Nat.zero_add, Option.map_some, hidx]; rfl) | rfl) rfl rfl (by (try simp only [splice, del_cons, del_nil, List.set_cons_zero, List.set_cons_succ, List.take_succ_cons, List.take_zero, List.drop_succ_cons, List.drop_zero, List.nil_append, List.cons_append, List.append_nil, List.length_cons, List.length_nil, Nat.reduceAdd, Nat.reduceEqDiff, reduceIte]); rfl) (by (try simp only [splice, del_cons, del_nil, List.set_cons_zero, List.set_cons_succ, List.take_succ_cons, List.take_zero, List.drop_succ_cons, List.drop_zero, List.nil_append, List.cons_append, List.append_nil, List.length_cons, List.length_nil, Nat.reduceAdd, Nat.reduceEqDiff, reduceIte]); rfl) rfl (by (try simp only [splice, del_cons, del_nil, List.set_cons_zero, List.set_cons_succ, List.take_succ_cons, List.take_zero, List.drop_succ_cons, List.drop_zero, List.nil_append, List.cons_append, List.append_nil, List.length_cons, List.length_nil, Nat.reduceAdd, Nat.reduceEqDiff, reduceIte]); rfl) ?_
      refine S.end (hK _ ?_)
      clear hK K
      try show Ev _ _ _ _
      by_cases h1 : s.2 ≤ v
      · repeat refine Ev.seq ?_
        refine Ev.region_S fun K hK => ?_
        first | refine S.q rfl rfl (q_fa am_fi57_1 am_cl3 rfl rfl rfl) ?_ | refine S.q rfl rfl (q_fas am_fi57_1 am_cl3 rfl rfl rfl) ?_
        first | refine S.q rfl rfl (q_load1 am_ag3 rfl rfl) ?_ | refine S.q rfl rfl (q_load1 am_ag3 rfl (cells_adr rfl (by first | (simp only [List.getElem?_map, Int.toNat_natCast, Nat.zero_add, Option.map_some, hidx]; rfl) | rfl) rfl)) ?_
        refine S.q rfl rfl (q_move rfl) ?_
        first | refine S.q rfl rfl (q_leq_t rfl rfl (by first | omega | assumption)) ?_ | refine S.q rfl rfl (q_leq_f rfl rfl (by first | omega | assumption)) ?_ | refine S.q rfl rfl (q_leq rfl rfl) ?_
        refine S.end (hK _ ?_)
        clear hK K
        try show Ev _ _ _ _
        repeat refine Ev.seq ?_
        refine Ev.cond rfl (fun h => ?_) (fun h => ?_)
        rotate_left
        · cases h
        refine Ev.exit ?_
        show Ev _ _ _ _
        repeat refine Ev.seq ?_
        refine Ev.region_S fun K hK => ?_
        refine S.q rfl rfl (q_add rfl rfl (by first | omega | assumption) (by first | omega | assumption)) ?_
        refine S.q rfl rfl (q_move rfl) ?_
        refine S.end (hK _ ?_)
        clear hK K
        try show Ev _ _ _ _
        refine ⟨⟨((pre ++ [s], suf), acc), by rw [← hp]; simp, by rw [hok]; cases suf with | nil => rfl | cons a b => rw [levGo, if_pos h1], by simp; omega⟩, by simp, ?_⟩
        refine Wk.ren [0] (by decide) ?_ ?_ rfl rfl rfl (fun i hi => absurd hi (Nat.not_lt_zero i))
        · simp only [slotsRen, renAV, argSlots, St.get, find_cons, reduceIte, Nat.reduceEqDiff, Nat.reduceAdd, Nat.reduceMul, and_self, pos_cons, Option.map_some, List.length_append, List.length_cons, List.length_nil, Nat.zero_add, Int.natCast_add, Int.cast_ofNat_Int]
        · simp only [keepObjs, find_cons, del_cons, del_nil, reduceIte, Nat.reduceEqDiff, Nat.reduceAdd, Nat.reduceMul, Option.bind_some, renObj, List.nil_append]
      cases suf with
      | nil =>
        exfalso
        have := hlast s (by rw [← hp]; simp)
        omega
      | cons nx suf =>
        have hnext : l[((pre.length : Int) + 1).toNat]? = some nx := by
          rw [← hp, show ((pre.length : Int) + 1).toNat = pre.length + 1 by omega]
          simp
        have hlt2 : (pre.length : Int) + 1 < l.length := by rw [← hp, List.length_append, List.length_cons, List.length_cons]; omega
        repeat refine Ev.seq ?_
        refine Ev.region_S fun K hK => ?_
        first | refine S.q rfl rfl (q_fa am_fi57_1 am_cl3 rfl rfl rfl) ?_ | refine S.q rfl rfl (q_fas am_fi57_1 am_cl3 rfl rfl rfl) ?_
        first | refine S.q rfl rfl (q_load1 am_ag3 rfl rfl) ?_ | refine S.q rfl rfl (q_load1 am_ag3 rfl (cells_adr rfl (by first | (simp only [List.getElem?_map, Int.toNat_natCast, Nat.zero_add, Option.map_some, hidx]; rfl) | rfl) rfl)) ?_
        refine S.q rfl rfl (q_move rfl) ?_
        first | refine S.q rfl rfl (q_leq_t rfl rfl (by first | omega | assumption)) ?_ | refine S.q rfl rfl (q_leq_f rfl rfl (by first | omega | assumption)) ?_ | refine S.q rfl rfl (q_leq rfl rfl) ?_
        refine S.end (hK _ ?_)
        clear hK K
        try show Ev _ _ _ _
        repeat refine Ev.seq ?_
        refine Ev.cond rfl (fun h => ?_) (fun h => ?_)
        · cases h
        refine Ev.skip ?_
        show Ev _ _ _ _
        repeat refine Ev.seq ?_
        refine Ev.region_S fun K hK => ?_
        refine S.q rfl rfl (q_move rfl) ?_
        refine S.q rfl rfl (q_move rfl) ?_
        refine S.q rfl rfl (q_add rfl rfl (by first | omega | assumption) (by first | omega | assumption)) ?_
        first | refine S.q rfl rfl (q_ia am_el22 am_cl57 rfl rfl rfl rfl rfl (by first | omega | assumption) (by first | omega | assumption) rfl) ?_ | refine S.q rfl rfl (q_ias am_el22 am_cl57 rfl rfl rfl (by first | omega | assumption) (by first | (simp only [List.getElem?_map, Int.toNat_natCast, Nat.zero_add, Option.map_some, hnext]; rfl) | rfl)) ?_
        first | refine S.q rfl rfl (q_fa am_fi57_0 am_cl3 rfl rfl rfl) ?_ | refine S.q rfl rfl (q_fas am_fi57_0 am_cl3 rfl rfl rfl) ?_
        first | refine S.q rfl rfl (q_load1 am_ag3 rfl rfl) ?_ | refine S.q rfl rfl (q_load1 am_ag3 rfl (cells_adr rfl (by first | (simp only [List.getElem?_map, Int.toNat_natCast, Nat.zero_add, Option.map_some, hnext]; rfl) | rfl) rfl)) ?_
        refine S.q rfl rfl (q_assign rfl) ?_
        refine S.end (hK _ ?_)
        clear hK K
        try show Ev _ _ _ _
        repeat refine Ev.seq ?_
        refine Ev.region_S fun K hK => ?_
        refine S.q rfl rfl (q_move rfl) ?_
        refine S.q rfl rfl (q_len am_el25 rfl (by simp only [lenAV, List.length_map]; rfl)) ?_
        refine S.q rfl rfl (q_assign rfl) ?_
        refine S.end (hK _ ?_)
        clear hK K
        try show Ev _ _ _ _
        rcases List.eq_nil_or_concat acc with hacc | ⟨acc', o, hacc⟩
        · subst hacc
          have hl0 : ([] : List (Int × Int)).length = 0 := rfl
          repeat refine Ev.seq ?_
          refine Ev.region_D [[], [true], [true, true], [true, true, true], [true, true, true], [true, true, true, false, true], [true, true, true, true, true, true], [true, true, true, true, true, true, true], [true, true, true, true, true, true, true, true], [true, true, true], [true, true, true, false, false, false, false, false, false, true], [true, true, true, true, true, true, true, true, true, true, true], [true, true, true, true, true, true, true, true, true, true, true, true]] 13 0 rfl rfl rfl rfl fun K hK => ?_
          refine D.q rfl (q_move rfl) ?_
          first | refine D.q rfl (q_gtr_t rfl rfl (by first | omega | assumption)) ?_ | refine D.q rfl (q_gtr_f rfl rfl (by first | omega | assumption)) ?_ | refine D.q rfl (q_gtr rfl rfl) ?_
          refine D.q rfl (q_move rfl) ?_
          first | refine D.skip rfl ?_ | refine D.q rfl (q_move rfl) ?_
          first | refine D.skip rfl ?_ | refine D.q rfl (q_move rfl) ?_
          first | refine D.skip rfl ?_ | refine D.q rfl (q_sub rfl rfl (by first | omega | assumption) (by first | omega | assumption)) ?_
          first | refine D.skip rfl ?_ | refine D.q rfl (q_ia am_el25 am_cl36 rfl rfl rfl rfl rfl (by first | omega | assumption) (by first | omega | assumption) rfl) ?_ | refine D.q rfl (q_ias am_el25 am_cl36 rfl rfl rfl (by first | omega | assumption) rfl) ?_
          first | refine D.skip rfl ?_ | refine D.q rfl (q_fa am_fi36_1 am_cl3 rfl rfl rfl) ?_ | refine D.q rfl (q_fas am_fi36_1 am_cl3 rfl rfl rfl) ?_
          first | refine D.skip rfl ?_ | refine D.q rfl (q_load1 am_ag3 rfl rfl) ?_ | refine D.q rfl (q_load1 am_ag3 rfl (cells_adr rfl rfl rfl)) ?_
          first | refine D.skip rfl ?_ | refine D.q rfl (q_fa am_fi57_0 am_cl3 rfl rfl rfl) ?_ | refine D.q rfl (q_fas am_fi57_0 am_cl3 rfl rfl rfl) ?_
          first | refine D.skip rfl ?_ | refine D.q rfl (q_load1 am_ag3 rfl rfl) ?_ | refine D.q rfl (q_load1 am_ag3 rfl (cells_adr rfl rfl rfl)) ?_
          first | refine D.skip rfl ?_ | refine D.q rfl (q_eql_t rfl rfl (by first | omega | assumption)) ?_ | refine D.q rfl (q_eql_f rfl rfl (by first | omega | assumption)) ?_ | refine D.q rfl (q_eql rfl rfl) ?_
          first | refine D.q rfl (q_pick_t rfl rfl) ?_ | refine D.q rfl (q_pick_f rfl rfl) ?_
          refine D.end ?_
          refine S.end (hK _ ?_)
          clear hK K
          try show Ev _ _ _ _
          repeat refine Ev.seq ?_
          refine Ev.cond rfl (fun h => ?_) (fun h => ?_)
          · cases h
          refine Ev.skip ?_
          show Ev _ _ _ _
          repeat refine Ev.seq ?_
          refine Ev.region_S fun K hK => ?_
          refine S.q rfl rfl (q_move rfl) ?_
          first | refine S.q rfl rfl (q_fa am_fi57_0 am_cl3 rfl rfl rfl) ?_ | refine S.q rfl rfl (q_fas am_fi57_0 am_cl3 rfl rfl rfl) ?_
          first | refine S.q rfl rfl (q_load1 am_ag3 rfl rfl) ?_ | refine S.q rfl rfl (q_load1 am_ag3 rfl (cells_adr rfl rfl rfl)) ?_
          refine S.q rfl rfl (q_move rfl) ?_
          refine S.q rfl rfl (q_build am_ze36 am_pl36 rfl (by simp only [fillAV, rowsOf, cellsAV, splice, Value.oneCell', cond_true, cond_false, Option.bind_some, Option.map_some, List.getElem?_cons_zero, List.getElem?_cons_succ, List.length_cons, List.length_nil, List.take_succ_cons, List.take_zero, List.drop_succ_cons, List.drop_zero, List.nil_append, List.cons_append, List.append_nil, Nat.reduceAdd, beq_dec, ble_dec, Nat.reduceEqDiff, Nat.reduceLeDiff, decide_true, decide_false, Bool.and_self, Bool.and_true, Bool.true_and]; rfl)) ?_
          first | refine S.new (q_buildSlice (cl := true) am_el25 am_ze36 am_cl36 rfl (by simp only [fillAV, rowsOf, cellsAV, splice, Value.oneCell', cond_true, cond_false, Option.bind_some, Option.map_some, List.getElem?_cons_zero, List.getElem?_cons_succ, List.length_cons, List.length_nil, List.take_succ_cons, List.take_zero, List.drop_succ_cons, List.drop_zero, List.nil_append, List.cons_append, List.append_nil, Nat.reduceAdd, beq_dec, ble_dec, Nat.reduceEqDiff, Nat.reduceLeDiff, decide_true, decide_false, Bool.and_self, Bool.and_true, Bool.true_and]; rfl) rfl rfl) rfl rfl ?_ | refine S.new (q_buildSlice (cl := false) am_el25 am_ze36 am_cl36 rfl (by simp only [fillAV, rowsOf, cellsAV, splice, Value.oneCell', cond_true, cond_false, Option.bind_some, Option.map_some, List.getElem?_cons_zero, List.getElem?_cons_succ, List.length_cons, List.length_nil, List.take_succ_cons, List.take_zero, List.drop_succ_cons, List.drop_zero, List.nil_append, List.cons_append, List.append_nil, Nat.reduceAdd, beq_dec, ble_dec, Nat.reduceEqDiff, Nat.reduceLeDiff, decide_true, decide_false, Bool.and_self, Bool.and_true, Bool.true_and]; rfl) rfl rfl) rfl rfl ?_
          first | refine S.ap (cl' := true) rfl rfl am_el25 am_ze36 am_cl36 am_by36 rfl rfl rfl (by first | exact head_nil | exact head_own rfl (by first | exact List.length_map _ | (simp only [List.length_map, List.length_append, List.length_cons, List.length_nil, Nat.zero_add]; done) | rfl)) (by first | exact rows_own rfl (by first | exact List.length_map _ | (simp only [List.length_map, List.length_append, List.length_cons, List.length_nil, Nat.zero_add]; done) | rfl) | rfl) (by first | exact within_own rfl (by first | exact List.length_map _ | (simp only [List.length_map, List.length_append, List.length_cons, List.length_nil, Nat.zero_add]; done) | rfl) | rfl) (by (try simp only [List.length_map, List.length_cons, List.length_nil, Nat.zero_add, Nat.add_zero]); rfl) (by first | omega | assumption) (by first | omega | assumption) (by (try simp only [List.nil_append, List.append_nil]); rfl) rfl (by (try simp only [splice, del_cons, del_nil, List.set_cons_zero, List.set_cons_succ, List.take_succ_cons, List.take_zero, List.drop_succ_cons, List.drop_zero, List.nil_append, List.cons_append, List.append_nil, List.length_cons, List.length_nil, Nat.reduceAdd, Nat.reduceEqDiff, reduceIte]); rfl) ?_ | refine S.ap (cl' := false) rfl rfl am_el25 am_ze36 am_cl36 am_by36 rfl rfl rfl (by first | exact head_nil | exact head_own rfl (by first | exact List.length_map _ | (simp only [List.length_map, List.length_append, List.length_cons, List.length_nil, Nat.zero_add]; done) | rfl)) (by first | exact rows_own rfl (by first | exact List.length_map _ | (simp only [List.length_map, List.length_append, List.length_cons, List.length_nil, Nat.zero_add]; done) | rfl) | rfl) (by first | exact within_own rfl (by first | exact List.length_map _ | (simp only [List.length_map, List.length_append, List.length_cons, List.length_nil, Nat.zero_add]; done) | rfl) | rfl) (by (try simp only [List.length_map, List.length_cons, List.length_nil, Nat.zero_add, Nat.add_zero]); rfl) (by first | omega | assumption) (by first | omega | assumption) (by (try simp only [List.nil_append, List.append_nil]); rfl) rfl (by (try simp only [splice, del_cons, del_nil, List.set_cons_zero, List.set_cons_succ, List.take_succ_cons, List.take_zero, List.drop_succ_cons, List.drop_zero, List.nil_append, List.cons_append, List.append_nil, List.length_cons, List.length_nil, Nat.reduceAdd, Nat.reduceEqDiff, reduceIte]); rfl) ?_
          refine S.q rfl rfl (q_assign rfl) ?_
          refine S.end (hK _ ?_)
          clear hK K
          try show Ev _ _ _ _
          repeat refine Ev.seq ?_
          refine Ev.region_S fun K hK => ?_
          refine S.q rfl rfl (q_add rfl rfl (by first | omega | assumption) (by first | omega | assumption)) ?_
          refine S.q rfl rfl (q_move rfl) ?_
          refine S.end (hK _ ?_)
          clear hK K
          try show Ev _ _ _ _
          refine ⟨⟨((pre ++ [s], nx :: suf), [(s.1, nx.1)]), by rw [← hp]; simp, by rw [hok, levGo, if_neg h1]; rfl, by simp⟩, by simp, ?_⟩
          refine Wk.ren [55] (by decide) ?_ ?_ rfl rfl rfl (fun i hi => absurd hi (Nat.not_lt_zero i))
          · simp only [slotsRen, renAV, argSlots, St.get, find_cons, reduceIte, Nat.reduceEqDiff, Nat.reduceAdd, Nat.reduceMul, and_self, pos_cons, Option.map_some, List.length_append, List.length_cons, List.length_nil, Nat.zero_add, Int.natCast_add, Int.cast_ofNat_Int, stepC, List.map_append, List.map_cons, List.map_nil]
          · simp only [keepObjs, find_cons, del_cons, del_nil, reduceIte, Nat.reduceEqDiff, Nat.reduceAdd, Nat.reduceMul, Option.bind_some, renObj, List.nil_append, stepC, List.map_append, List.map_cons, List.map_nil]
        · rw [List.concat_eq_append] at hacc
          subst hacc
          have hl0 : 0 < (acc' ++ [o]).length := by simp
          have hlast' : (acc' ++ [o])[(((acc' ++ [o]).length : Int) - 1).toNat]? = some o := by simp
          by_cases h2 : o.2 = s.1
          · repeat refine Ev.seq ?_
            refine Ev.region_D [[], [true], [true, true], [true, true, true], [true, true, true], [true, true, true, false, true], [true, true, true, true, true, true], [true, true, true, true, true, true, true], [true, true, true, true, true, true, true, true], [true, true, true], [true, true, true, false, false, false, false, false, false, true], [true, true, true, true, true, true, true, true, true, true, true], [true, true, true, true, true, true, true, true, true, true, true, true]] 13 0 rfl rfl rfl rfl fun K hK => ?_
            refine D.q rfl (q_move rfl) ?_
            first | refine D.q rfl (q_gtr_t rfl rfl (by first | omega | assumption)) ?_ | refine D.q rfl (q_gtr_f rfl rfl (by first | omega | assumption)) ?_ | refine D.q rfl (q_gtr rfl rfl) ?_
            refine D.q rfl (q_move rfl) ?_
            first | refine D.skip rfl ?_ | refine D.q rfl (q_move rfl) ?_
            first | refine D.skip rfl ?_ | refine D.q rfl (q_move rfl) ?_
            first | refine D.skip rfl ?_ | refine D.q rfl (q_sub rfl rfl (by first | omega | assumption) (by first | omega | assumption)) ?_
            first | refine D.skip rfl ?_ | refine D.q rfl (q_ia am_el25 am_cl36 rfl rfl rfl rfl rfl (by first | omega | assumption) (by first | omega | assumption) rfl) ?_ | refine D.q rfl (q_ias am_el25 am_cl36 rfl rfl rfl (by first | omega | assumption) (by first | (simp only [List.getElem?_map, Int.toNat_natCast, Nat.zero_add, Option.map_some, hlast']; rfl) | rfl)) ?_
            first | refine D.skip rfl ?_ | refine D.q rfl (q_fa am_fi36_1 am_cl3 rfl rfl rfl) ?_ | refine D.q rfl (q_fas am_fi36_1 am_cl3 rfl rfl rfl) ?_
            first | refine D.skip rfl ?_ | refine D.q rfl (q_load1 am_ag3 rfl rfl) ?_ | refine D.q rfl (q_load1 am_ag3 rfl (cells_adr rfl (by first | (simp only [List.getElem?_map, Int.toNat_natCast, Nat.zero_add, Option.map_some, hlast']; rfl) | rfl) rfl)) ?_
            first | refine D.skip rfl ?_ | refine D.q rfl (q_fa am_fi57_0 am_cl3 rfl rfl rfl) ?_ | refine D.q rfl (q_fas am_fi57_0 am_cl3 rfl rfl rfl) ?_
            first | refine D.skip rfl ?_ | refine D.q rfl (q_load1 am_ag3 rfl rfl) ?_ | refine D.q rfl (q_load1 am_ag3 rfl (cells_adr rfl (by first | (simp only [List.getElem?_map, Int.toNat_natCast, Nat.zero_add, Option.map_some, hlast']; rfl) | rfl) rfl)) ?_
            first | refine D.skip rfl ?_ | refine D.q rfl (q_eql_t rfl rfl (by first | omega | assumption)) ?_ | refine D.q rfl (q_eql_f rfl rfl (by first | omega | assumption)) ?_ | refine D.q rfl (q_eql rfl rfl) ?_
            first | refine D.q rfl (q_pick_t rfl rfl) ?_ | refine D.q rfl (q_pick_f rfl rfl) ?_
            refine D.end ?_
            refine S.end (hK _ ?_)
            clear hK K
            try show Ev _ _ _ _
            repeat refine Ev.seq ?_
            refine Ev.cond rfl (fun h => ?_) (fun h => ?_)
            rotate_left
            · cases h
            repeat refine Ev.seq ?_
            refine Ev.region_S fun K hK => ?_
            refine S.q rfl rfl (q_move rfl) ?_
            refine S.q rfl rfl (q_move rfl) ?_
            refine S.q rfl rfl (q_sub rfl rfl (by first | omega | assumption) (by first | omega | assumption)) ?_
            refine S.q rfl rfl (q_move rfl) ?_
            first | refine S.q rfl rfl (q_ia am_el25 am_cl36 rfl rfl rfl rfl rfl (by first | omega | assumption) (by first | omega | assumption) rfl) ?_ | refine S.q rfl rfl (q_ias am_el25 am_cl36 rfl rfl rfl (by first | omega | assumption) (by first | (simp only [List.getElem?_map, Int.toNat_natCast, Nat.zero_add, Option.map_some, hlast', stepC]; rfl) | rfl)) ?_
            first | refine S.q rfl rfl (q_fa am_fi36_1 am_cl3 rfl rfl rfl) ?_ | refine S.q rfl rfl (q_fas am_fi36_1 am_cl3 rfl rfl rfl) ?_
            first | refine S.st (cl' := true) rfl am_in3 am_cl3 rfl rfl rfl (by first | (simp only [List.getElem?_map, Int.toNat_natCast, Nat.zero_add, Option.map_some, hlast', stepC]; rfl) | rfl) rfl rfl (by (try simp only [stepC, splice, del_cons, del_nil, List.set_cons_zero, List.set_cons_succ, List.take_succ_cons, List.take_zero, List.drop_succ_cons, List.drop_zero, List.nil_append, List.cons_append, List.append_nil, List.length_cons, List.length_nil, Nat.reduceAdd, Nat.reduceEqDiff, reduceIte]); rfl) (by (try simp only [stepC, splice, del_cons, del_nil, List.set_cons_zero, List.set_cons_succ, List.take_succ_cons, List.take_zero, List.drop_succ_cons, List.drop_zero, List.nil_append, List.cons_append, List.append_nil, List.length_cons, List.length_nil, Nat.reduceAdd, Nat.reduceEqDiff, reduceIte]); rfl) rfl (by (try simp only [stepC, splice, del_cons, del_nil, List.set_cons_zero, List.set_cons_succ, List.take_succ_cons, List.take_zero, List.drop_succ_cons, List.drop_zero, List.nil_append, List.cons_append, List.append_nil, List.length_cons, List.length_nil, Nat.reduceAdd, Nat.reduceEqDiff, reduceIte]); rfl) ?_ | refine S.st (cl' := false) rfl am_in3 am_cl3 rfl rfl rfl (by first | (simp only [List.getElem?_map, Int.toNat_natCast, Nat.zero_add, Option.map_some, hlast', stepC]; rfl) | rfl) rfl rfl (by (try simp only [stepC, splice, del_cons, del_nil, List.set_cons_zero, List.set_cons_succ, List.take_succ_cons, List.take_zero, List.drop_succ_cons, List.drop_zero, List.nil_append, List.cons_append, List.append_nil, List.length_cons, List.length_nil, Nat.reduceAdd, Nat.reduceEqDiff, reduceIte]); rfl) (by (try simp only [stepC, splice, del_cons, del_nil, List.set_cons_zero, List.set_cons_succ, List.take_succ_cons, List.take_zero, List.drop_succ_cons, List.drop_zero, List.nil_append, List.cons_append, List.append_nil, List.length_cons, List.length_nil, Nat.reduceAdd, Nat.reduceEqDiff, reduceIte]); rfl) rfl (by (try simp only [stepC, splice, del_cons, del_nil, List.set_cons_zero, List.set_cons_succ, List.take_succ_cons, List.take_zero, List.drop_succ_cons, List.drop_zero, List.nil_append, List.cons_append, List.append_nil, List.length_cons, List.length_nil, Nat.reduceAdd, Nat.reduceEqDiff, reduceIte]); rfl) ?_
            refine S.end (hK _ ?_)
            clear hK K
            try show Ev _ _ _ _
            refine Ev.exit ?_
            show Ev _ _ _ _
            repeat refine Ev.seq ?_
            refine Ev.region_S fun K hK => ?_
            refine S.q rfl rfl (q_add rfl rfl (by first | omega | assumption) (by first | omega | assumption)) ?_
            refine S.q rfl rfl (q_move rfl) ?_
            refine S.end (hK _ ?_)
            clear hK K
            try show Ev _ _ _ _
            refine ⟨⟨((pre ++ [s], nx :: suf), acc' ++ [(o.1, nx.1)]), by rw [← hp]; simp, by rw [hok, levGo, if_neg h1, levAdd]; simp [h2], by simp at hac ⊢; omega⟩, by simp, ?_⟩
            refine Wk.ren [0] (by decide) ?_ ?_ rfl rfl rfl (fun i hi => absurd hi (Nat.not_lt_zero i))
            · simp only [slotsRen, renAV, argSlots, St.get, find_cons, reduceIte, Nat.reduceEqDiff, Nat.reduceAdd, Nat.reduceMul, and_self, pos_cons, Option.map_some, List.length_append, List.length_cons, List.length_nil, Nat.zero_add, Int.natCast_add, Int.cast_ofNat_Int, map_set_last' acc' o o.1 nx.1]
            · simp only [keepObjs, find_cons, del_cons, del_nil, reduceIte, Nat.reduceEqDiff, Nat.reduceAdd, Nat.reduceMul, Option.bind_some, renObj, List.nil_append, map_set_last' acc' o o.1 nx.1]
          · repeat refine Ev.seq ?_
            refine Ev.region_D [[], [true], [true, true], [true, true, true], [true, true, true], [true, true, true, false, true], [true, true, true, true, true, true], [true, true, true, true, true, true, true], [true, true, true, true, true, true, true, true], [true, true, true], [true, true, true, false, false, false, false, false, false, true], [true, true, true, true, true, true, true, true, true, true, true], [true, true, true, true, true, true, true, true, true, true, true, true]] 13 0 rfl rfl rfl rfl fun K hK => ?_
            refine D.q rfl (q_move rfl) ?_
            first | refine D.q rfl (q_gtr_t rfl rfl (by first | omega | assumption)) ?_ | refine D.q rfl (q_gtr_f rfl rfl (by first | omega | assumption)) ?_ | refine D.q rfl (q_gtr rfl rfl) ?_
            refine D.q rfl (q_move rfl) ?_
            first | refine D.skip rfl ?_ | refine D.q rfl (q_move rfl) ?_
            first | refine D.skip rfl ?_ | refine D.q rfl (q_move rfl) ?_
            first | refine D.skip rfl ?_ | refine D.q rfl (q_sub rfl rfl (by first | omega | assumption) (by first | omega | assumption)) ?_
            first | refine D.skip rfl ?_ | refine D.q rfl (q_ia am_el25 am_cl36 rfl rfl rfl rfl rfl (by first | omega | assumption) (by first | omega | assumption) rfl) ?_ | refine D.q rfl (q_ias am_el25 am_cl36 rfl rfl rfl (by first | omega | assumption) (by first | (simp only [List.getElem?_map, Int.toNat_natCast, Nat.zero_add, Option.map_some, hlast']; rfl) | rfl)) ?_
            first | refine D.skip rfl ?_ | refine D.q rfl (q_fa am_fi36_1 am_cl3 rfl rfl rfl) ?_ | refine D.q rfl (q_fas am_fi36_1 am_cl3 rfl rfl rfl) ?_
            first | refine D.skip rfl ?_ | refine D.q rfl (q_load1 am_ag3 rfl rfl) ?_ | refine D.q rfl (q_load1 am_ag3 rfl (cells_adr rfl (by first | (simp only [List.getElem?_map, Int.toNat_natCast, Nat.zero_add, Option.map_some, hlast']; rfl) | rfl) rfl)) ?_
            first | refine D.skip rfl ?_ | refine D.q rfl (q_fa am_fi57_0 am_cl3 rfl rfl rfl) ?_ | refine D.q rfl (q_fas am_fi57_0 am_cl3 rfl rfl rfl) ?_
            first | refine D.skip rfl ?_ | refine D.q rfl (q_load1 am_ag3 rfl rfl) ?_ | refine D.q rfl (q_load1 am_ag3 rfl (cells_adr rfl (by first | (simp only [List.getElem?_map, Int.toNat_natCast, Nat.zero_add, Option.map_some, hlast']; rfl) | rfl) rfl)) ?_
            first | refine D.skip rfl ?_ | refine D.q rfl (q_eql_t rfl rfl (by first | omega | assumption)) ?_ | refine D.q rfl (q_eql_f rfl rfl (by first | omega | assumption)) ?_ | refine D.q rfl (q_eql rfl rfl) ?_
            first | refine D.q rfl (q_pick_t rfl rfl) ?_ | refine D.q rfl (q_pick_f rfl rfl) ?_
            refine D.end ?_
            refine S.end (hK _ ?_)
            clear hK K
            try show Ev _ _ _ _
            repeat refine Ev.seq ?_
            refine Ev.cond rfl (fun h => ?_) (fun h => ?_)
            · cases h
            refine Ev.skip ?_
            show Ev _ _ _ _
            repeat refine Ev.seq ?_
            refine Ev.region_S fun K hK => ?_
            refine S.q rfl rfl (q_move rfl) ?_
            first | refine S.q rfl rfl (q_fa am_fi57_0 am_cl3 rfl rfl rfl) ?_ | refine S.q rfl rfl (q_fas am_fi57_0 am_cl3 rfl rfl rfl) ?_
            first | refine S.q rfl rfl (q_load1 am_ag3 rfl rfl) ?_ | refine S.q rfl rfl (q_load1 am_ag3 rfl (cells_adr rfl rfl rfl)) ?_
            refine S.q rfl rfl (q_move rfl) ?_
            refine S.q rfl rfl (q_build am_ze36 am_pl36 rfl (by simp only [fillAV, rowsOf, cellsAV, splice, Value.oneCell', cond_true, cond_false, Option.bind_some, Option.map_some, List.getElem?_cons_zero, List.getElem?_cons_succ, List.length_cons, List.length_nil, List.take_succ_cons, List.take_zero, List.drop_succ_cons, List.drop_zero, List.nil_append, List.cons_append, List.append_nil, Nat.reduceAdd, beq_dec, ble_dec, Nat.reduceEqDiff, Nat.reduceLeDiff, decide_true, decide_false, Bool.and_self, Bool.and_true, Bool.true_and]; rfl)) ?_
            first | refine S.new (q_buildSlice (cl := true) am_el25 am_ze36 am_cl36 rfl (by simp only [fillAV, rowsOf, cellsAV, splice, Value.oneCell', cond_true, cond_false, Option.bind_some, Option.map_some, List.getElem?_cons_zero, List.getElem?_cons_succ, List.length_cons, List.length_nil, List.take_succ_cons, List.take_zero, List.drop_succ_cons, List.drop_zero, List.nil_append, List.cons_append, List.append_nil, Nat.reduceAdd, beq_dec, ble_dec, Nat.reduceEqDiff, Nat.reduceLeDiff, decide_true, decide_false, Bool.and_self, Bool.and_true, Bool.true_and]; rfl) rfl rfl) rfl rfl ?_ | refine S.new (q_buildSlice (cl := false) am_el25 am_ze36 am_cl36 rfl (by simp only [fillAV, rowsOf, cellsAV, splice, Value.oneCell', cond_true, cond_false, Option.bind_some, Option.map_some, List.getElem?_cons_zero, List.getElem?_cons_succ, List.length_cons, List.length_nil, List.take_succ_cons, List.take_zero, List.drop_succ_cons, List.drop_zero, List.nil_append, List.cons_append, List.append_nil, Nat.reduceAdd, beq_dec, ble_dec, Nat.reduceEqDiff, Nat.reduceLeDiff, decide_true, decide_false, Bool.and_self, Bool.and_true, Bool.true_and]; rfl) rfl rfl) rfl rfl ?_
            first | refine S.ap (cl' := true) rfl rfl am_el25 am_ze36 am_cl36 am_by36 rfl rfl rfl (by first | exact head_nil | exact head_own rfl (by first | exact List.length_map _ | (simp only [List.length_map, List.length_append, List.length_cons, List.length_nil, Nat.zero_add]; done) | rfl)) (by first | exact rows_own rfl (by first | exact List.length_map _ | (simp only [List.length_map, List.length_append, List.length_cons, List.length_nil, Nat.zero_add]; done) | rfl) | rfl) (by first | exact within_own rfl (by first | exact List.length_map _ | (simp only [List.length_map, List.length_append, List.length_cons, List.length_nil, Nat.zero_add]; done) | rfl) | rfl) (by (try simp only [List.length_map, List.length_cons, List.length_nil, Nat.zero_add, Nat.add_zero]); rfl) (by first | omega | assumption) (by first | omega | assumption) (by (try simp only [List.nil_append, List.append_nil]); rfl) rfl (by (try simp only [splice, del_cons, del_nil, List.set_cons_zero, List.set_cons_succ, List.take_succ_cons, List.take_zero, List.drop_succ_cons, List.drop_zero, List.nil_append, List.cons_append, List.append_nil, List.length_cons, List.length_nil, Nat.reduceAdd, Nat.reduceEqDiff, reduceIte]); rfl) ?_ | refine S.ap (cl' := false) rfl rfl am_el25 am_ze36 am_cl36 am_by36 rfl rfl rfl (by first | exact head_nil | exact head_own rfl (by first | exact List.length_map _ | (simp only [List.length_map, List.length_append, List.length_cons, List.length_nil, Nat.zero_add]; done) | rfl)) (by first | exact rows_own rfl (by first | exact List.length_map _ | (simp only [List.length_map, List.length_append, List.length_cons, List.length_nil, Nat.zero_add]; done) | rfl) | rfl) (by first | exact within_own rfl (by first | exact List.length_map _ | (simp only [List.length_map, List.length_append, List.length_cons, List.length_nil, Nat.zero_add]; done) | rfl) | rfl) (by (try simp only [List.length_map, List.length_cons, List.length_nil, Nat.zero_add, Nat.add_zero]); rfl) (by first | omega | assumption) (by first | omega | assumption) (by (try simp only [List.nil_append, List.append_nil]); rfl) rfl (by (try simp only [splice, del_cons, del_nil, List.set_cons_zero, List.set_cons_succ, List.take_succ_cons, List.take_zero, List.drop_succ_cons, List.drop_zero, List.nil_append, List.cons_append, List.append_nil, List.length_cons, List.length_nil, Nat.reduceAdd, Nat.reduceEqDiff, reduceIte]); rfl) ?_
            refine S.q rfl rfl (q_assign rfl) ?_
            refine S.end (hK _ ?_)
            clear hK K
            try show Ev _ _ _ _
            repeat refine Ev.seq ?_
            refine Ev.region_S fun K hK => ?_
            refine S.q rfl rfl (q_add rfl rfl (by first | omega | assumption) (by first | omega | assumption)) ?_
            refine S.q rfl rfl (q_move rfl) ?_
            refine S.end (hK _ ?_)
            clear hK K
            try show Ev _ _ _ _
            refine ⟨⟨((pre ++ [s], nx :: suf), acc' ++ [o] ++ [(s.1, nx.1)]), by rw [← hp]; simp, by rw [hok, levGo, if_neg h1, levAdd]; simp [h2], by simp at hac ⊢; omega⟩, by simp, ?_⟩
            refine Wk.ren [55] (by decide) ?_ ?_ rfl rfl rfl (fun i hi => absurd hi (Nat.not_lt_zero i))
            · simp only [slotsRen, renAV, argSlots, St.get, find_cons, reduceIte, Nat.reduceEqDiff, Nat.reduceAdd, Nat.reduceMul, and_self, pos_cons, Option.map_some, List.length_append, List.length_cons, List.length_nil, Nat.zero_add, Int.natCast_add, Int.cast_ofNat_Int, stepC, List.map_append, List.map_cons, List.map_nil]
            · simp only [keepObjs, find_cons, del_cons, del_nil, reduceIte, Nat.reduceEqDiff, Nat.reduceAdd, Nat.reduceMul, Option.bind_some, renObj, List.nil_append, stepC, List.map_append, List.map_cons, List.map_nil]
end Go.Proofs.Ytigjoaejncfmdaa
namespace Go.Proofs.Ytigjoaejncfmdaa
open Go Go.AM
set_option linter.unusedSimpArgs false
set_option maxRecDepth 100000
-- PP
def most : List (Int × Int) → Int → Int
  | [], m => m
  | s :: l, m => most l (max m s.2)
theorem most_append (l : List (Int × Int)) (s : Int × Int) : ∀ m, most (l ++ [s]) m = max (most l m) s.2 := by
  induction l with
  | nil => intro m; rfl
  | cons x l ih => intro m; exact ih _
theorem most_bd (l : List (Int × Int)) (hl : ∀ s ∈ l, 0 ≤ s.2 ∧ s.2 ≤ 1099511627776) : ∀ m, 0 ≤ m → m ≤ 1099511627776 → 0 ≤ most l m ∧ most l m ≤ 1099511627776 := by
  induction l with
  | nil => intro m h1 h2; exact ⟨h1, h2⟩
  | cons x l ih =>
    intro m h1 h2
    have := hl x (by simp)
    exact ih (fun s hs => hl s (by simp [hs])) _ (by omega) (by omega)

theorem okL_mem : ∀ {l : List (Int × Int)} {p : Option (Int × Int)}, okL p l → ∀ s ∈ l, Place s.1 ∧ 0 ≤ s.2 ∧ s.2 ≤ 1099511627776
  | [], _, _, s, hs => by simp at hs
  | x :: l, p, h, s, hs => by
    rcases List.mem_cons.1 hs with rfl | hs
    · exact ⟨h.1.1, h.1.2.1, h.1.2.2.1⟩
    · exact okL_mem h.2 s hs

theorem count_fun (l : List (Int × Int)) (a : Int) (ha : 1 ≤ a) (ha' : a ≤ 1000000) (hl : ∀ s ∈ l, 0 ≤ s.2 ∧ s.2 ≤ 1099511627776) (hlen : l.length ≤ 1000) :
    Fun Try.prog 39 [.sh 2 (l.map stepC), .lit (.int .i64 a)] (Ret (.lit (.int .i64 ((most l 0 + a - 1) / a))) []) := by
  refine Fun.of (nt := 25) (rs := [.tmp 4]) Try.func39 rfl rfl rfl rfl rfl ?_
  repeat refine Ev.seq ?_
  refine Ev.region_S fun K hK => ?_
  refine S.q rfl rfl (q_assign rfl) ?_
  refine S.end (hK _ ?_)
  clear hK K
  try show Ev _ _ _ _
  repeat refine Ev.seq ?_
  refine Ev.region_S fun K hK => ?_
  refine S.q rfl rfl (q_assign rfl) ?_
  refine S.end (hK _ ?_)
  clear hK K
  try show Ev _ _ _ _
  repeat refine Ev.seq ?_
  refine Ev.region_S fun K hK => ?_
  refine S.q rfl rfl (q_move rfl) ?_
  refine S.q rfl rfl (q_len am_el22 rfl (by simp only [lenAV, List.length_map]; rfl)) ?_
  refine S.q rfl rfl (q_move rfl) ?_
  refine S.end (hK _ ?_)
  clear hK K
  try show Ev _ _ _ _
  refine Ev.block (Ev.loop (ι := {p : List (Int × Int) × List (Int × Int) // p.1 ++ p.2 = l}) (fun p => ⟨[(1, .lit (.int .i64 a)), (5, .lit (.int .i64 (most p.1.1 0))), (8, .sh 2 (l.map stepC)), (9, .lit (.int .i64 l.length)), (10, .lit (.int .i64 p.1.1.length))], [], 0, 25, 0⟩)
    (fun p => p.1.2.length) ⟨([], l), rfl⟩ ?_ ?_)
  · refine Wk.ren [] List.nodup_nil ?_ rfl rfl rfl rfl (fun i hi => absurd hi (Nat.not_lt_zero i))
    simp only [slotsRen, renAV, argSlots, St.get, find_cons, reduceIte, Nat.reduceEqDiff, and_self, most, List.length_nil, Int.natCast_zero, Int.ofNat_zero, Int.cast_ofNat_Int]
  · rintro ⟨⟨pre, suf⟩, hp⟩
    simp only at hp
    dsimp only
    cases suf with
    | nil =>
      rw [List.append_nil] at hp
      subst hp
      have hb := most_bd pre hl 0 (by omega) (by omega)
      repeat refine Ev.seq ?_
      refine Ev.region_S fun K hK => ?_
      first | refine S.q rfl rfl (q_lss_t rfl rfl (by first | omega | assumption)) ?_ | refine S.q rfl rfl (q_lss_f rfl rfl (by first | omega | assumption)) ?_ | refine S.q rfl rfl (q_lss rfl rfl) ?_
      refine S.end (hK _ ?_)
      clear hK K
      try show Ev _ _ _ _
      repeat refine Ev.seq ?_
      refine Ev.cond rfl (fun h => ?_) (fun h => ?_)
      · cases h
      refine Ev.exit ?_
      show Ev _ _ _ _
      repeat refine Ev.seq ?_
      refine Ev.region_S fun K hK => ?_
      refine S.q rfl rfl (q_move rfl) ?_
      refine S.q rfl rfl (q_move rfl) ?_
      refine S.q rfl rfl (q_add rfl rfl (by first | omega | assumption) (by first | omega | assumption)) ?_
      refine S.q rfl rfl (q_sub rfl rfl (by first | omega | assumption) (by first | omega | assumption)) ?_
      refine S.q rfl rfl (q_move rfl) ?_
      refine S.q rfl rfl (q_quo rfl rfl (by first | omega | assumption) (by first | omega | assumption) (by first | omega | assumption)) ?_
      refine S.q rfl rfl (q_assign rfl) ?_
      refine S.end (hK _ ?_)
      clear hK K
      try show Ev _ _ _ _
      repeat refine Ev.seq ?_
      refine Ev.ret ?_
      refine ⟨[], List.nodup_nil, ?_⟩
      simp only [retP, resAV, packAV, renAV, renL, keepObjs, St.get, find_cons, reduceIte, Option.map_some, Nat.reduceEqDiff, Ret, and_self]
    | cons s suf =>
      have hlt : (pre.length : Int) < l.length := by rw [← hp, List.length_append, List.length_cons]; omega
      have hidx : l[pre.length]? = some s := by rw [← hp]; simp
      repeat refine Ev.seq ?_
      refine Ev.region_S fun K hK => ?_
      first | refine S.q rfl rfl (q_lss_t rfl rfl (by first | omega | assumption)) ?_ | refine S.q rfl rfl (q_lss_f rfl rfl (by first | omega | assumption)) ?_ | refine S.q rfl rfl (q_lss rfl rfl) ?_
      refine S.end (hK _ ?_)
      clear hK K
      try show Ev _ _ _ _
      repeat refine Ev.seq ?_
      refine Ev.cond rfl (fun h => ?_) (fun h => ?_)
      rotate_left
      · cases h
      refine Ev.skip ?_
      show Ev _ _ _ _
      repeat refine Ev.seq ?_
      refine Ev.block ?_
      repeat refine Ev.seq ?_
      refine Ev.region_S fun K hK => ?_
      first | refine S.q rfl rfl (q_ia am_el22 am_cl57 rfl rfl rfl rfl rfl (by first | omega | assumption) (by first | omega | assumption) rfl) ?_ | refine S.q rfl rfl (q_ias am_el22 am_cl57 rfl rfl rfl (by first | omega | assumption) (by first | (simp only [List.getElem?_map, Int.toNat_natCast, Nat.zero_add, Option.map_some, hidx]; rfl) | rfl)) ?_
      first | refine S.q rfl rfl (q_loadA am_ag57 am_cl57 rfl (cells_sadr0) rfl (take_all rfl)) ?_ | refine S.q rfl rfl (q_loadA am_ag57 am_cl57 rfl (cells_adr0 rfl (by first | (simp only [List.getElem?_map, Int.toNat_natCast, Nat.zero_add, Option.map_some, hidx]; rfl) | rfl)) rfl (take_all rfl)) ?_ | refine S.q rfl rfl (q_loadA am_ag57 am_cl57 rfl (cells_sadr (by (try simp only [splice, del_cons, del_nil, List.set_cons_zero, List.set_cons_succ, List.take_succ_cons, List.take_zero, List.drop_succ_cons, List.drop_zero, List.nil_append, List.cons_append, List.append_nil, List.length_cons, List.length_nil, Nat.reduceAdd, Nat.reduceEqDiff, reduceIte]); rfl)) rfl (by (try simp only [splice, del_cons, del_nil, List.set_cons_zero, List.set_cons_succ, List.take_succ_cons, List.take_zero, List.drop_succ_cons, List.drop_zero, List.nil_append, List.cons_append, List.append_nil, List.length_cons, List.length_nil, Nat.reduceAdd, Nat.reduceEqDiff, reduceIte]); rfl)) ?_ | refine S.q rfl rfl (q_loadA am_ag57 am_cl57 rfl (cells_adr rfl (by first | (simp only [List.getElem?_map, Int.toNat_natCast, Nat.zero_add, Option.map_some, hidx]; rfl) | rfl) (by (try simp only [splice, del_cons, del_nil, List.set_cons_zero, List.set_cons_succ, List.take_succ_cons, List.take_zero, List.drop_succ_cons, List.drop_zero, List.nil_append, List.cons_append, List.append_nil, List.length_cons, List.length_nil, Nat.reduceAdd, Nat.reduceEqDiff, reduceIte]); rfl)) rfl (by (try simp only [splice, del_cons, del_nil, List.set_cons_zero, List.set_cons_succ, List.take_succ_cons, List.take_zero, List.drop_succ_cons, List.drop_zero, List.nil_append, List.cons_append, List.append_nil, List.length_cons, List.length_nil, Nat.reduceAdd, Nat.reduceEqDiff, reduceIte]); rfl)) ?_
      refine S.new (q_alloc am_ze57 rfl) rfl rfl ?_
      first | refine S.st (cl' := true) rfl am_in57 am_cl57 rfl rfl rfl (by first | (simp only [List.getElem?_map, Int.toNat_natCast, Nat.zero_add, Option.map_some, hidx]; rfl) | rfl) rfl rfl (by (try simp only [splice, del_cons, del_nil, List.set_cons_zero, List.set_cons_succ, List.take_succ_cons, List.take_zero, List.drop_succ_cons, List.drop_zero, List.nil_append, List.cons_append, List.append_nil, List.length_cons, List.length_nil, Nat.reduceAdd, Nat.reduceEqDiff, reduceIte]); rfl) (by (try simp only [splice, del_cons, del_nil, List.set_cons_zero, List.set_cons_succ, List.take_succ_cons, List.take_zero, List.drop_succ_cons, List.drop_zero, List.nil_append, List.cons_append, List.append_nil, List.length_cons, List.length_nil, Nat.reduceAdd, Nat.reduceEqDiff, reduceIte]); rfl) rfl (by (try simp only [splice, del_cons, del_nil, List.set_cons_zero, List.set_cons_succ, List.take_succ_cons, List.take_zero, List.drop_succ_cons, List.drop_zero, List.nil_append, List.cons_append, List.append_nil, List.length_cons, List.length_nil, Nat.reduceAdd, Nat.reduceEqDiff, reduceIte]); rfl) ?_ | refine S.st (cl' := false) rfl am_in57 am_cl57 rfl rfl rfl (by first | (simp only [List.getElem?_map, Int.toNat_natCast, Nat.zero_add, Option.map_some, hidx]; rfl) | rfl) rfl rfl (by (try simp only [splice, del_cons, del_nil, List.set_cons_zero, List.set_cons_succ, List.take_succ_cons, List.take_zero, List.drop_succ_cons, List.drop_zero, List.nil_append, List.cons_append, List.append_nil, List.length_cons, List.length_nil, Nat.reduceAdd, Nat.reduceEqDiff, reduceIte]); rfl) (by (try simp only [splice, del_cons, del_nil, List.set_cons_zero, List.set_cons_succ, List.take_succ_cons, List.take_zero, List.drop_succ_cons, List.drop_zero, List.nil_append, List.cons_append, List.append_nil, List.length_cons, List.length_nil, Nat.reduceAdd, Nat.reduceEqDiff, reduceIte]); rfl) rfl (by (try simp only [splice, del_cons, del_nil, List.set_cons_zero, List.set_cons_succ, List.take_succ_cons, List.take_zero, List.drop_succ_cons, List.drop_zero, List.nil_append, List.cons_append, List.append_nil, List.length_cons, List.length_nil, Nat.reduceAdd, Nat.reduceEqDiff, reduceIte]); rfl) ?_
      refine S.end (hK _ ?_)
      clear hK K
      try show Ev _ _ _ _
      repeat refine Ev.seq ?_
      refine Ev.region_S fun K hK => ?_
      refine S.q rfl rfl (q_move rfl) ?_
      first | refine S.q rfl rfl (q_fa am_fi57_1 am_cl3 rfl rfl rfl) ?_ | refine S.q rfl rfl (q_fas am_fi57_1 am_cl3 rfl rfl rfl) ?_
      first | refine S.q rfl rfl (q_load1 am_ag3 rfl rfl) ?_ | refine S.q rfl rfl (q_load1 am_ag3 rfl (cells_adr rfl rfl rfl)) ?_
      refine S.q rfl rfl (q_max rfl rfl) ?_
      refine S.q rfl rfl (q_assign rfl) ?_
      refine S.end (hK _ ?_)
      clear hK K
      try show Ev _ _ _ _
      repeat refine Ev.seq ?_
      refine Ev.region_S fun K hK => ?_
      refine S.q rfl rfl (q_add rfl rfl (by first | omega | assumption) (by first | omega | assumption)) ?_
      refine S.q rfl rfl (q_move rfl) ?_
      refine S.end (hK _ ?_)
      clear hK K
      try show Ev _ _ _ _
      refine ⟨⟨(pre ++ [s], suf), by rw [← hp]; simp⟩, by simp, ?_⟩
      refine Wk.ren [] List.nodup_nil ?_ rfl rfl rfl rfl (fun i hi => absurd hi (Nat.not_lt_zero i))
      simp only [slotsRen, renAV, argSlots, St.get, find_cons, reduceIte, Nat.reduceEqDiff, and_self, most_append, List.length_append, List.length_cons, List.length_nil, Nat.zero_add, Int.natCast_add, Int.cast_ofNat_Int]

theorem givenE_zero {l : List (Int × Int)} {d a : Int} (h : givenE l d a = 0) : OKSteps l ∧ sizeOK d a ∧ lastOK l := by
  unfold givenE at h
  split at h
  · rename_i h1
    split at h
    · rename_i h2
      split at h
      · rename_i h3
        exact ⟨h1, h2, h3⟩
      · omega
    · omega
  · omega

theorem area_bd {d : Int} (h : d ∈ sizes) : 28 ≤ areaOf d ∧ areaOf d ≤ 125664 := by
  simp only [sizes, List.mem_cons, List.not_mem_nil, or_false] at h
  rcases h with h | h | h | h | h | h | h | h | h <;> subst h <;> decide

def leastN (l : List (Int × Int)) (d : Int) : Int := (most l 0 + areaOf d - 1) / areaOf d

end Go.Proofs.Ytigjoaejncfmdaa
namespace Go.Proofs.Ytigjoaejncfmdaa
open Go Go.AM
set_option linter.unusedSimpArgs false
set_option maxRecDepth 100000
-- PP
end Go.Proofs.Ytigjoaejncfmdaa
namespace Go.Proofs.Ytigjoaejncfmdaa
open Go Go.AM
set_option linter.unusedSimpArgs false
set_option maxRecDepth 100000
-- PP
end Go.Proofs.Ytigjoaejncfmdaa
