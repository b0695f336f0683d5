/-
  Layer 12: the same shape.
  Conditions: none.
-/
import Derived.Test.YthpjfkmhpoeojaaGreatDoorSched
namespace Go.Proofs.YthpjfkmhpoeojaaGreatDoor
open Go Go.AM
set_option linter.unusedSimpArgs false
set_option linter.unusedVariables false
set_option maxRecDepth 100000
set_option maxHeartbeats 1000000
theorem eqInts_fun (a b : List Int) (ha : a.length ≤ 140737488355328) (hb : b.length ≤ 140737488355328) : Fun Tryz.prog 69 [.sh 1 (a.map intC), .sh 1 (b.map intC)] (Ret (.lit (.bool (decide (a = b)))) []) := by
  refine Fun.of (nt := 26) (rs := [.tmp 4]) Tryz.func69 rfl rfl rfl rfl rfl ?_; refine Ev.sr fun K hK => S.o q.as (S.end (hK _ ?_)); clear hK K; refine Ev.seq ?_; refine Ev.sr fun K hK => S.o q.mv (S.o (q.lens am_el54) (S.o q.mv (S.o (q.lens am_el54) (S.o q.neq (S.end (hK _ ?_)))))); clear hK K; refine Ev.cn (fun c1 => ?_) (fun c1 => ?_)
  · first
  | omega | contradiction
  | refine Ev.sr fun K hK => S.o q.as (S.end (hK _ ?_)); clear hK K; refine Ev.ret ?_; refine Ev.ret1 ?_; refine ⟨?_, rfl⟩
    first
     | exact bF (fun h => by subst h; omega)
     | exact bF (fun h => by subst h; rw [hidx] at hidx2; simp only [Option.some.injEq] at hidx2; omega)
     | exact bT (hinv.symm.trans (List.take_of_length_le (by omega)))
  · first
  | omega | contradiction
  | refine Ev.skip ?_; show Ev _ _ _ _; refine Ev.seq ?_; refine Ev.sr fun K hK => S.o q.mv (S.o (q.lens am_el54) (S.o q.mv (S.end (hK _ ?_)))); clear hK K; refine Ev.block ?_; refine Ev.loopU (ι := {q : List Int × List Int // q.1 ++ q.2 = a ∧ b.take q.1.length = q.1}) [] [0, 1, 12] (fun ⟨(pre, suf), _⟩ => [(13, .lit (.int .i64 ((pre.length : Int))))]) (fun ⟨(pre, suf), _⟩ => []) (fun ⟨(pre, suf), _⟩ => suf.length) ⟨([], a), rfl, rfl⟩ (.c (.c (.c .n))) keep_n (slots_c (he := (by first | rfl | (simp; done) | (congr 2; omega))) (h := trivial)) ?_; rintro ⟨⟨pre, suf⟩, hp, hinv⟩ R0 hR0; dsimp only [List.cons_append, List.nil_append, List.length_cons, List.length_nil]
    simp only at hp hinv
    have hpl : pre.length + suf.length = (a).length := by rw [← hp, List.length_append]
    rcases suf with _ | ⟨s, suf⟩
    · rw [List.append_nil] at hp; subst hp; simp only [List.length_nil] at hpl; refine Ev.sr fun K hK => S.o q.lss (S.end (hK _ ?_)); clear hK K; refine Ev.ud (fun c2 => ?_) (fun c2 => ?_)
      · first
      | omega | contradiction
      | refine Ev.seq ?_; refine Ev.block ?_; refine Ev.sr fun K hK => S.o q.mv (S.o q.as (S.end (hK _ ?_))); clear hK K; refine Ev.sm (tbs [(0, 0), (0, 0), (2, 3), (3, 7), (0, 0), (0, 0), (6, 48), (7, 112), (8, 255)]) 9 fun K hK => M.o q.mv (M.o q.mv (M.o (q.ix am_el54 am_cl3 (hl := (by first | exact atig (by omega)))) (M.o (q.ls am_ag3) (M.o q.mv (M.o q.mv (M.o (q.ix am_el54 am_cl3 (hl := (by first | exact atig (by omega)))) (M.o (q.ls am_ag3) (M.o q.neq (M.end [] (h := S.end (hK _ ?_))))))))))); clear hK K; refine Ev.cn (fun c3 => ?_) (fun c3 => ?_)
        · first
        | omega | contradiction
        | refine Ev.sr fun K hK => S.o q.as (S.end (hK _ ?_)); clear hK K; refine Ev.ret ?_; refine hR0 _ _ ?_; refine Ev.ret1 ?_; refine ⟨?_, rfl⟩
          first
           | exact bF (fun h => by subst h; omega)
           | exact bF (fun h => by subst h; rw [hidx] at hidx2; simp only [Option.some.injEq] at hidx2; omega)
           | exact bT (hinv.symm.trans (List.take_of_length_le (by omega)))
        · first
        | omega | contradiction
        | refine Ev.skip ?_; show Ev _ _ _ _; refine Ev.region_S fun K hK => S.o q.add (S.o q.mv (S.end (hK _ ?_))); clear hK K; refine hR0 _ _ ?_; refine roundU [] [0, 1, 12] ⟨(pre ++ [s], suf), by rw [← hp]; simp, ?_⟩ ?_ keep_n (slots_c (he := (by first | rfl | (simp; done) | (congr 2; omega))) (h := trivial)) (.c (.c (.c .n))); simp only [List.length_append, List.length_cons, List.length_nil, Nat.zero_add]; rw [List.take_add_one, hinv, hidx2]; simp only [Option.toList_some, List.append_cancel_left_eq, List.cons.injEq, and_true]; omega; all_goals (dsimp only; simp only [List.length_cons]; omega)
      · first
      | omega | contradiction
      | refine Ev.exit ?_; refine hR0 _ _ ?_; show Ev _ _ _ _; refine Ev.sr fun K hK => S.o q.as (S.end (hK _ ?_)); clear hK K; refine Ev.ret ?_; refine Ev.ret1 ?_; refine ⟨?_, rfl⟩
        first
         | exact bF (fun h => by subst h; omega)
         | exact bF (fun h => by subst h; rw [hidx] at hidx2; simp only [Option.some.injEq] at hidx2; omega)
         | exact bT (hinv.symm.trans (List.take_of_length_le (by omega)))
    · simp only [List.length_cons] at hpl
      have hidx : (a)[pre.length]? = some s := by rw [← hp]; simp
      obtain ⟨s2, hidx2⟩ : ∃ s2, b[pre.length]? = some s2 := ⟨_, List.getElem?_eq_getElem (by omega)⟩; refine Ev.sr fun K hK => S.o q.lss (S.end (hK _ ?_)); clear hK K; refine Ev.ud (fun c4 => ?_) (fun c4 => ?_)
      · first
      | omega | contradiction
      | refine Ev.seq ?_; refine Ev.block ?_; refine Ev.sr fun K hK => S.o q.mv (S.o q.as (S.end (hK _ ?_))); clear hK K; refine Ev.sm (tbs [(0, 0), (0, 0), (2, 3), (3, 7), (0, 0), (0, 0), (6, 48), (7, 112), (8, 255)]) 9 fun K hK => M.o q.mv (M.o q.mv (M.o (q.ix am_el54 am_cl3 (hl := (by first | exact ati hidx (by omega) | exact ati hidx2 (by omega) | exact atig (by omega)))) (M.o (q.ls am_ag3) (M.o q.mv (M.o q.mv (M.o (q.ix am_el54 am_cl3 (hl := (by first | exact ati hidx (by omega) | exact ati hidx2 (by omega) | exact atig (by omega)))) (M.o (q.ls am_ag3) (M.o q.neq (M.end [] (h := S.end (hK _ ?_))))))))))); clear hK K; refine Ev.cn (fun c5 => ?_) (fun c5 => ?_)
        · first
        | omega | contradiction
        | refine Ev.sr fun K hK => S.o q.as (S.end (hK _ ?_)); clear hK K; refine Ev.ret ?_; refine hR0 _ _ ?_; refine Ev.ret1 ?_; refine ⟨?_, rfl⟩
          first
           | exact bF (fun h => by subst h; omega)
           | exact bF (fun h => by subst h; rw [hidx] at hidx2; simp only [Option.some.injEq] at hidx2; omega)
           | exact bT (hinv.symm.trans (List.take_of_length_le (by omega)))
        · first
        | omega | contradiction
        | refine Ev.skip ?_; show Ev _ _ _ _; refine Ev.region_S fun K hK => S.o q.add (S.o q.mv (S.end (hK _ ?_))); clear hK K; refine hR0 _ _ ?_; refine roundU [] [0, 1, 12] ⟨(pre ++ [s], suf), by rw [← hp]; simp, ?_⟩ ?_ keep_n (slots_c (he := (by first | rfl | (simp; done) | (congr 2; omega))) (h := trivial)) (.c (.c (.c .n))); simp only [List.length_append, List.length_cons, List.length_nil, Nat.zero_add]; rw [List.take_add_one, hinv, hidx2]; simp only [Option.toList_some, List.append_cancel_left_eq, List.cons.injEq, and_true]; omega; all_goals (dsimp only; simp only [List.length_cons]; omega)
      · first
      | omega | contradiction
      | refine Ev.exit ?_; refine hR0 _ _ ?_; show Ev _ _ _ _; refine Ev.sr fun K hK => S.o q.as (S.end (hK _ ?_)); clear hK K; refine Ev.ret ?_; refine Ev.ret1 ?_; refine ⟨?_, rfl⟩
        first
         | exact bF (fun h => by subst h; omega)
         | exact bF (fun h => by subst h; rw [hidx] at hidx2; simp only [Option.some.injEq] at hidx2; omega)
         | exact bT (hinv.symm.trans (List.take_of_length_le (by omega)))
theorem idxP_find {T : Type} (p : T → Bool) : ∀ (l : List T) (k : Int), 0 ≤ k → (idxP p l k < 0 → l.find? p = none) ∧ (0 ≤ idxP p l k → ∃ x, l.find? p = some x ∧ l[(idxP p l k - k).toNat]? = some x)
  | [], k, hk => by simp [idxP]
  | x :: l, k, hk => by
    rw [idxP]
    split
    · rename_i hx
      exact ⟨fun h => by omega, fun _ => ⟨x, by simp [hx], by simp⟩⟩
    · rename_i hx
      obtain ⟨h1, h2⟩ := idxP_find p l (k + 1) (by omega)
      have hx' : p x = false := by simpa using hx
      refine ⟨fun h => by simp [hx', h1 h], fun h => ?_⟩; obtain ⟨y, h3, h4⟩ := h2 h; have := (idxP_get p l (k + 1) (by omega) h).1; refine ⟨y, by simp [hx', h3], ?_⟩; rw [show (idxP p l (k + 1) - k).toNat = (idxP p l (k + 1) - (k + 1)).toNat + 1 by omega]
      simpa using h4
def barAt (l : List Bar) (mk : List UInt8) : Option Bar := l.find? fun b => decide (b.mark = mk)
theorem barAt_none {l : List Bar} {mk : List UInt8} (h : markI l mk < 0) : barAt l mk = none := (idxP_find _ l 0 (Int.le_refl _)).1 h
theorem barAt_some {l : List Bar} {mk : List UInt8} (h : 0 ≤ markI l mk) : ∃ y, barAt l mk = some y ∧ l[(markI l mk).toNat]? = some y ∧ y ∈ l ∧ y.mark = mk := by
  obtain ⟨y, h1, h2⟩ := (idxP_find (fun b : Bar => decide (b.mark = mk)) l 0 (Int.le_refl _)).2 h; rw [Int.sub_zero] at h2; exact ⟨y, h1, h2, List.mem_of_getElem? h2, by simpa using List.find?_some h1⟩
def sameD (x y : Bar) : Prop := x.size = y.size ∧ x.code = y.code ∧ x.dims = y.dims
instance (x y) : Decidable (sameD x y) := by unfold sameD; infer_instance
def sameV (x y : Bar) : Prop := okBar x ∧ okBar y ∧ sameD x y
instance (x y) : Decidable (sameV x y) := by unfold sameV; infer_instance
def sameE (x y : Bar) : Int := if okBar x ∧ okBar y then 0 else 1
theorem same_fun (x y : Bar) (hx : x.w) (hy : y.w) : Fun Tryz.prog 51 [.agg x.c, .agg y.c] (Ret (.tup [.lit (.bool (decide (sameV x y))), .lit (.int .i64 (sameE x y))]) []) := by
  obtain ⟨hx1, hx2⟩ := hx; obtain ⟨hy1, hy2⟩ := hy; have hx : x.w := ⟨hx1, hx2⟩; have hy : y.w := ⟨hy1, hy2⟩; refine Fun.of (nt := 33) (rs := [.tmp 4, .tmp 5]) Tryz.func51 rfl rfl rfl rfl rfl ?_; refine Ev.sr fun K hK => S.nn (q.bx [_, _, _, _, _] true) (S.nn (q.bx [_, _, _, _, _] true) (S.o q.as (S.o q.as (S.end (hK _ ?_))))); clear hK K; refine Ev.seq ?_; refine Ev.sr fun K hK => S.o (q.lvA [_, _, _, _, _] am_ag56 am_cl56) (S.c0 (hF := valid_fun _ (by assumption)) (h := S.o q.not (S.bn q.mv (fun c1 => ?_) (fun c1 => ?_))))
  · first
  | omega | contradiction
  | refine S.sk (S.sk (S.sk (S.o q.pt (S.end (hK _ ?_))))); clear hK K; refine Ev.ct ?_; refine Ev.sr fun K hK => S.o q.as (S.o q.as (S.end (hK _ ?_))); clear hK K; refine Ev.ret ?_; refine Ev.ret2 ?_; refine ⟨?_, rfl⟩
    first
     | (rw [show sameE x y = 1 from if_neg (fun h => absurd h.1 ‹_›), decide_eq_false (fun h : sameV x y => absurd h.1 ‹_›)]; done) | (rw [show sameE x y = 1 from if_neg (fun h => absurd h.2 ‹_›), decide_eq_false (fun h : sameV x y => absurd h.2.1 ‹_›)]; done)
     | (rw [show sameE x y = 0 from if_pos ⟨‹_›, ‹_›⟩]; congr 4; first | (rw [decide_eq_decide]; exact ⟨fun h => ⟨‹_›, ‹_›, by omega, by omega, h⟩, fun h => h.2.2.2.2⟩) | exact (decide_eq_false (fun h : sameV x y => by have h1 := h.2.2.1; have h2 := h.2.2.2.1; omega)).symm)
  · first
  | omega | contradiction
  | refine S.o (q.lvA [_, _, _, _, _] am_ag56 am_cl56) (S.c0 (hF := valid_fun _ (by assumption)) (h := S.o q.not (S.o q.pf (S.end (hK _ ?_))))); clear hK K; refine Ev.cn (fun c2 => ?_) (fun c2 => ?_)
    · first
    | omega | contradiction
    | refine Ev.sr fun K hK => S.o q.as (S.o q.as (S.end (hK _ ?_))); clear hK K; refine Ev.ret ?_; refine Ev.ret2 ?_; refine ⟨?_, rfl⟩
      first
       | (rw [show sameE x y = 1 from if_neg (fun h => absurd h.1 ‹_›), decide_eq_false (fun h : sameV x y => absurd h.1 ‹_›)]; done) | (rw [show sameE x y = 1 from if_neg (fun h => absurd h.2 ‹_›), decide_eq_false (fun h : sameV x y => absurd h.2.1 ‹_›)]; done)
       | (rw [show sameE x y = 0 from if_pos ⟨‹_›, ‹_›⟩]; congr 4; first | (rw [decide_eq_decide]; exact ⟨fun h => ⟨‹_›, ‹_›, by omega, by omega, h⟩, fun h => h.2.2.2.2⟩) | exact (decide_eq_false (fun h : sameV x y => by have h1 := h.2.2.1; have h2 := h.2.2.2.1; omega)).symm)
    · first
    | omega | contradiction
    | refine Ev.skip ?_; show Ev _ _ _ _; refine Ev.sr fun K hK => S.o (q.fa 1 am_fi56_1 am_cl3) (S.o (q.lv am_ag3) (S.o (q.fa 1 am_fi56_1 am_cl3) (S.o (q.lv am_ag3) (S.o q.eql (S.bd q.mv (fun c3 => ?_) (fun c3 => ?_))))))
      · first
      | omega | contradiction
      | refine S.o (q.fa 3 am_fi56_3 am_cl3) (S.o (q.lv am_ag3) (S.o (q.fa 3 am_fi56_3 am_cl3) (S.o (q.lv am_ag3) (S.o q.eql (S.o q.pt (S.bd q.mv (fun c4 => ?_) (fun c4 => ?_)))))))
        · first
        | omega | contradiction
        | refine S.o (q.fa 4 am_fi56_4 am_cl54) (S.o (q.lv am_ag54) (S.o (q.fa 4 am_fi56_4 am_cl54) (S.o (q.lv am_ag54) (S.c0 (hF := eqInts_fun _ _ (by omega) (by omega)) (h := S.o q.pt (S.o q.as (S.o q.as (S.end (hK _ ?_))))))))); clear hK K; refine Ev.ret ?_; refine Ev.ret2 ?_; refine ⟨?_, rfl⟩
          first
           | (rw [show sameE x y = 1 from if_neg (fun h => absurd h.1 ‹_›), decide_eq_false (fun h : sameV x y => absurd h.1 ‹_›)]; done) | (rw [show sameE x y = 1 from if_neg (fun h => absurd h.2 ‹_›), decide_eq_false (fun h : sameV x y => absurd h.2.1 ‹_›)]; done)
           | (rw [show sameE x y = 0 from if_pos ⟨‹_›, ‹_›⟩]; congr 4; first | (rw [decide_eq_decide]; exact ⟨fun h => ⟨‹_›, ‹_›, by omega, by omega, h⟩, fun h => h.2.2.2.2⟩) | exact (decide_eq_false (fun h : sameV x y => by have h1 := h.2.2.1; have h2 := h.2.2.2.1; omega)).symm)
        · first
        | omega | contradiction
        | refine S.sk (S.sk (S.sk (S.sk (S.sk (S.o q.pf (S.o q.as (S.o q.as (S.end (hK _ ?_))))))))); clear hK K; refine Ev.ret ?_; refine Ev.ret2 ?_; refine ⟨?_, rfl⟩
          first
           | (rw [show sameE x y = 1 from if_neg (fun h => absurd h.1 ‹_›), decide_eq_false (fun h : sameV x y => absurd h.1 ‹_›)]; done) | (rw [show sameE x y = 1 from if_neg (fun h => absurd h.2 ‹_›), decide_eq_false (fun h : sameV x y => absurd h.2.1 ‹_›)]; done)
           | (rw [show sameE x y = 0 from if_pos ⟨‹_›, ‹_›⟩]; congr 4; first | (rw [decide_eq_decide]; exact ⟨fun h => ⟨‹_›, ‹_›, by omega, by omega, h⟩, fun h => h.2.2.2.2⟩) | exact (decide_eq_false (fun h : sameV x y => by have h1 := h.2.2.1; have h2 := h.2.2.2.1; omega)).symm)
      · first
      | omega | contradiction
      | refine S.sk (S.sk (S.sk (S.sk (S.sk (S.o q.pf (S.o q.mv (S.sk (S.sk (S.sk (S.sk (S.sk (S.o q.pf (S.o q.as (S.o q.as (S.end (hK _ ?_)))))))))))))))); clear hK K; refine Ev.ret ?_; refine Ev.ret2 ?_; refine ⟨?_, rfl⟩
        first
         | (rw [show sameE x y = 1 from if_neg (fun h => absurd h.1 ‹_›), decide_eq_false (fun h : sameV x y => absurd h.1 ‹_›)]; done) | (rw [show sameE x y = 1 from if_neg (fun h => absurd h.2 ‹_›), decide_eq_false (fun h : sameV x y => absurd h.2.1 ‹_›)]; done)
         | (rw [show sameE x y = 0 from if_pos ⟨‹_›, ‹_›⟩]; congr 4; first | (rw [decide_eq_decide]; exact ⟨fun h => ⟨‹_›, ‹_›, by omega, by omega, h⟩, fun h => h.2.2.2.2⟩) | exact (decide_eq_false (fun h : sameV x y => by have h1 := h.2.2.1; have h2 := h.2.2.2.1; omega)).symm)
theorem rsame_fun (x y : Bar) (hx : x.dims.length ≤ 140737488355328) (hy : y.dims.length ≤ 140737488355328) : Fun Tryz.prog 62 [.agg x.c, .agg y.c] (Ret (.lit (.bool (decide (sameD x y)))) []) := by
  refine Fun.of (nt := 45) (rs := [.tmp 4]) Tryz.func62 rfl rfl rfl rfl rfl ?_; refine Ev.sr fun K hK => S.nn (q.bx [_, _, _, _, _] true) (S.nn (q.bx [_, _, _, _, _] true) (S.o q.as (S.end (hK _ ?_)))); clear hK K; refine Ev.seq ?_; refine Ev.sr fun K hK => S.o (q.fa 1 am_fi56_1 am_cl3) (S.o (q.lv am_ag3) (S.o (q.fa 1 am_fi56_1 am_cl3) (S.o (q.lv am_ag3) (S.o q.neq (S.bn q.mv (fun c1 => ?_) (fun c1 => ?_))))))
  · first
  | omega | contradiction
  | refine S.sk (S.sk (S.sk (S.sk (S.sk (S.o q.pt (S.o q.mv (S.sk (S.sk (S.sk (S.sk (S.sk (S.sk (S.sk (S.o q.pt (S.end (hK _ ?_)))))))))))))))); clear hK K; refine Ev.ct ?_; refine Ev.sr fun K hK => S.o q.as (S.end (hK _ ?_)); clear hK K; refine Ev.ret ?_; refine Ev.ret1 ?_; refine ⟨?_, rfl⟩
    first
     | exact bF (fun h => by have h1 := h.1; have h2 := h.2.1; have h3 := congrArg List.length h.2.2; omega)
     | exact bF (fun h => by have h3 := h.2.2; rw [h3] at hidx; rw [hidx] at hidx2; simp only [Option.some.injEq] at hidx2; omega)
     | exact bT ⟨by omega, by omega, hinv.symm.trans (List.take_of_length_le (by omega))⟩
  · first
  | omega | contradiction
  | refine S.o (q.fa 3 am_fi56_3 am_cl3) (S.o (q.lv am_ag3) (S.o (q.fa 3 am_fi56_3 am_cl3) (S.o (q.lv am_ag3) (S.o q.neq (S.o q.pf (S.bn q.mv (fun c2 => ?_) (fun c2 => ?_)))))))
    · first
    | omega | contradiction
    | refine S.sk (S.sk (S.sk (S.sk (S.sk (S.sk (S.sk (S.o q.pt (S.end (hK _ ?_))))))))); clear hK K; refine Ev.ct ?_; refine Ev.sr fun K hK => S.o q.as (S.end (hK _ ?_)); clear hK K; refine Ev.ret ?_; refine Ev.ret1 ?_; refine ⟨?_, rfl⟩
      first
       | exact bF (fun h => by have h1 := h.1; have h2 := h.2.1; have h3 := congrArg List.length h.2.2; omega)
       | exact bF (fun h => by have h3 := h.2.2; rw [h3] at hidx; rw [hidx] at hidx2; simp only [Option.some.injEq] at hidx2; omega)
       | exact bT ⟨by omega, by omega, hinv.symm.trans (List.take_of_length_le (by omega))⟩
    · first
    | omega | contradiction
    | refine S.o (q.fa 4 am_fi56_4 am_cl54) (S.o (q.lv am_ag54) (S.o (q.lens am_el54) (S.o (q.fa 4 am_fi56_4 am_cl54) (S.o (q.lv am_ag54) (S.o (q.lens am_el54) (S.o q.neq (S.o q.pf (S.end (hK _ ?_))))))))); clear hK K; refine Ev.cn (fun c3 => ?_) (fun c3 => ?_)
      · first
      | omega | contradiction
      | refine Ev.sr fun K hK => S.o q.as (S.end (hK _ ?_)); clear hK K; refine Ev.ret ?_; refine Ev.ret1 ?_; refine ⟨?_, rfl⟩
        first
         | exact bF (fun h => by have h1 := h.1; have h2 := h.2.1; have h3 := congrArg List.length h.2.2; omega)
         | exact bF (fun h => by have h3 := h.2.2; rw [h3] at hidx; rw [hidx] at hidx2; simp only [Option.some.injEq] at hidx2; omega)
         | exact bT ⟨by omega, by omega, hinv.symm.trans (List.take_of_length_le (by omega))⟩
      · first
      | omega | contradiction
      | refine Ev.skip ?_; show Ev _ _ _ _; refine Ev.seq ?_; refine Ev.sr fun K hK => S.o q.as (S.end (hK _ ?_)); clear hK K; refine Ev.block ?_; refine Ev.loopU (ι := {q : List Int × List Int // q.1 ++ q.2 = x.dims ∧ y.dims.take q.1.length = q.1}) [0, 1] [2, 3] (fun ⟨(pre, suf), _⟩ => [(5, .lit (.int .i64 ((pre.length : Int))))]) (fun ⟨(pre, suf), _⟩ => [(0, ⟨false, 56, 5, [[.lit (str (x.mark)), .lit (.int .i64 (x.size)), .lit (.int .i64 (x.count)), .lit (.int .i64 (x.code)), .sh 1 ((x.dims).map intC)]], true⟩), (1, ⟨false, 56, 5, [[.lit (str (y.mark)), .lit (.int .i64 (y.size)), .lit (.int .i64 (y.count)), .lit (.int .i64 (y.code)), .sh 1 ((y.dims).map intC)]], true⟩)]) (fun ⟨(pre, suf), _⟩ => suf.length) ⟨([], x.dims), rfl, rfl⟩ (.c (.c .n)) (keep_c (he := (by first | rfl | (simp; done))) (h := (keep_c (he := (by first | rfl | (simp; done))) (h := keep_n)))) (slots_c (he := (by first | rfl | (simp; done) | (congr 2; omega))) (h := trivial)) ?_; rintro ⟨⟨pre, suf⟩, hp, hinv⟩ R0 hR0; dsimp only [List.cons_append, List.nil_append, List.length_cons, List.length_nil]
        simp only at hp hinv
        have hpl : pre.length + suf.length = (x.dims).length := by rw [← hp, List.length_append]
        rcases suf with _ | ⟨s, suf⟩
        · rw [List.append_nil] at hp; have hpd := congrArg List.length hp; rw [hp] at hinv; simp only [List.length_nil] at hpl; refine Ev.seq ?_; refine Ev.sr fun K hK => S.o q.mv (S.o (q.fa 4 am_fi56_4 am_cl54) (S.o (q.lv am_ag54) (S.o (q.lens am_el54) (S.o q.lss (S.end (hK _ ?_)))))); clear hK K; refine Ev.cd (fun c4 => ?_) (fun c4 => ?_)
          · first
          | omega | contradiction
          | refine Ev.skip ?_; show Ev _ _ _ _; refine Ev.seq ?_; refine Ev.block ?_; refine Ev.sm (tbs [(0, 0), (1, 1), (0, 0), (3, 7), (4, 15), (0, 0), (6, 32), (0, 0), (8, 224), (9, 480), (10, 1023)]) 11 fun K hK => M.o (q.fa 4 am_fi56_4 am_cl54) (M.o (q.lv am_ag54) (M.o q.mv (M.o (q.ix am_el54 am_cl3 (hl := (by first | exact atig (by omega)))) (M.o (q.ls am_ag3) (M.o (q.fa 4 am_fi56_4 am_cl54) (M.o (q.lv am_ag54) (M.o q.mv (M.o (q.ix am_el54 am_cl3 (hl := (by first | exact atig (by omega)))) (M.o (q.ls am_ag3) (M.o q.neq (M.end [_, _] (h := S.end (hK _ ?_))))))))))))); clear hK K; refine Ev.cn (fun c5 => ?_) (fun c5 => ?_)
            · first
            | omega | contradiction
            | refine Ev.sr fun K hK => S.o q.as (S.end (hK _ ?_)); clear hK K; refine Ev.ret ?_; refine hR0 _ _ ?_; refine Ev.ret1 ?_; refine ⟨?_, rfl⟩
              first
               | exact bF (fun h => by have h1 := h.1; have h2 := h.2.1; have h3 := congrArg List.length h.2.2; omega)
               | exact bF (fun h => by have h3 := h.2.2; rw [h3] at hidx; rw [hidx] at hidx2; simp only [Option.some.injEq] at hidx2; omega)
               | exact bT ⟨by omega, by omega, hinv.symm.trans (List.take_of_length_le (by omega))⟩
            · first
            | omega | contradiction
            | refine Ev.skip ?_; show Ev _ _ _ _; refine Ev.region_S fun K hK => S.o q.mv (S.o q.add (S.o q.as (S.end (hK _ ?_)))); clear hK K; refine hR0 _ _ ?_; refine roundU [0, 1] [2, 3] ⟨(pre ++ [s], suf), by rw [← hp]; simp, ?_⟩ ?_ (keep_c (he := (by first | rfl | (simp; done))) (h := (keep_c (he := (by first | rfl | (simp; done))) (h := keep_n)))) (slots_c (he := (by first | rfl | (simp; done) | (congr 2; omega))) (h := trivial)) (.c (.c .n)); simp only [List.length_append, List.length_cons, List.length_nil, Nat.zero_add]; rw [List.take_add_one, hinv, hidx2]; simp only [Option.toList_some, List.append_cancel_left_eq, List.cons.injEq, and_true]; omega; all_goals (dsimp only; simp only [List.length_cons]; omega)
          · first
          | omega | contradiction
          | refine Ev.exit ?_; refine hR0 _ _ ?_; show Ev _ _ _ _; refine Ev.sr fun K hK => S.o q.as (S.end (hK _ ?_)); clear hK K; refine Ev.ret ?_; refine Ev.ret1 ?_; refine ⟨?_, rfl⟩
            first
             | exact bF (fun h => by have h1 := h.1; have h2 := h.2.1; have h3 := congrArg List.length h.2.2; omega)
             | exact bF (fun h => by have h3 := h.2.2; rw [h3] at hidx; rw [hidx] at hidx2; simp only [Option.some.injEq] at hidx2; omega)
             | exact bT ⟨by omega, by omega, hinv.symm.trans (List.take_of_length_le (by omega))⟩
        · simp only [List.length_cons] at hpl
          have hidx : x.dims[pre.length]? = some s := by rw [← hp]; simp
          obtain ⟨s2, hidx2⟩ : ∃ s2, y.dims[pre.length]? = some s2 := ⟨_, List.getElem?_eq_getElem (by omega)⟩; refine Ev.seq ?_; refine Ev.sr fun K hK => S.o q.mv (S.o (q.fa 4 am_fi56_4 am_cl54) (S.o (q.lv am_ag54) (S.o (q.lens am_el54) (S.o q.lss (S.end (hK _ ?_)))))); clear hK K; refine Ev.cd (fun c6 => ?_) (fun c6 => ?_)
          · first
          | omega | contradiction
          | refine Ev.skip ?_; show Ev _ _ _ _; refine Ev.seq ?_; refine Ev.block ?_; refine Ev.sm (tbs [(0, 0), (1, 1), (0, 0), (3, 7), (4, 15), (0, 0), (6, 32), (0, 0), (8, 224), (9, 480), (10, 1023)]) 11 fun K hK => M.o (q.fa 4 am_fi56_4 am_cl54) (M.o (q.lv am_ag54) (M.o q.mv (M.o (q.ix am_el54 am_cl3 (hl := (by first | exact ati hidx (by omega) | exact ati hidx2 (by omega) | exact atig (by omega)))) (M.o (q.ls am_ag3) (M.o (q.fa 4 am_fi56_4 am_cl54) (M.o (q.lv am_ag54) (M.o q.mv (M.o (q.ix am_el54 am_cl3 (hl := (by first | exact ati hidx (by omega) | exact ati hidx2 (by omega) | exact atig (by omega)))) (M.o (q.ls am_ag3) (M.o q.neq (M.end [_, _] (h := S.end (hK _ ?_))))))))))))); clear hK K; refine Ev.cn (fun c7 => ?_) (fun c7 => ?_)
            · first
            | omega | contradiction
            | refine Ev.sr fun K hK => S.o q.as (S.end (hK _ ?_)); clear hK K; refine Ev.ret ?_; refine hR0 _ _ ?_; refine Ev.ret1 ?_; refine ⟨?_, rfl⟩
              first
               | exact bF (fun h => by have h1 := h.1; have h2 := h.2.1; have h3 := congrArg List.length h.2.2; omega)
               | exact bF (fun h => by have h3 := h.2.2; rw [h3] at hidx; rw [hidx] at hidx2; simp only [Option.some.injEq] at hidx2; omega)
               | exact bT ⟨by omega, by omega, hinv.symm.trans (List.take_of_length_le (by omega))⟩
            · first
            | omega | contradiction
            | refine Ev.skip ?_; show Ev _ _ _ _; refine Ev.region_S fun K hK => S.o q.mv (S.o q.add (S.o q.as (S.end (hK _ ?_)))); clear hK K; refine hR0 _ _ ?_; refine roundU [0, 1] [2, 3] ⟨(pre ++ [s], suf), by rw [← hp]; simp, ?_⟩ ?_ (keep_c (he := (by first | rfl | (simp; done))) (h := (keep_c (he := (by first | rfl | (simp; done))) (h := keep_n)))) (slots_c (he := (by first | rfl | (simp; done) | (congr 2; omega))) (h := trivial)) (.c (.c .n)); simp only [List.length_append, List.length_cons, List.length_nil, Nat.zero_add]; rw [List.take_add_one, hinv, hidx2]; simp only [Option.toList_some, List.append_cancel_left_eq, List.cons.injEq, and_true]; omega; all_goals (dsimp only; simp only [List.length_cons]; omega)
          · first
          | omega | contradiction
          | refine Ev.exit ?_; refine hR0 _ _ ?_; show Ev _ _ _ _; refine Ev.sr fun K hK => S.o q.as (S.end (hK _ ?_)); clear hK K; refine Ev.ret ?_; refine Ev.ret1 ?_; refine ⟨?_, rfl⟩
            first
             | exact bF (fun h => by have h1 := h.1; have h2 := h.2.1; have h3 := congrArg List.length h.2.2; omega)
             | exact bF (fun h => by have h3 := h.2.2; rw [h3] at hidx; rw [hidx] at hidx2; simp only [Option.some.injEq] at hidx2; omega)
             | exact bT ⟨by omega, by omega, hinv.symm.trans (List.take_of_length_le (by omega))⟩
end Go.Proofs.YthpjfkmhpoeojaaGreatDoor
