/-
  Layer 12: the same shape.
  Conditions: none.
-/
import Derived.Test.YtddogeicmhbidaaGreatDoorSteel
import Derived.Test.YtddogeicmhbidaaGreatDoorAmRes
namespace Go.Proofs.YtddogeicmhbidaaGreatDoor
open Go Go.AM
set_option linter.unusedSimpArgs false
set_option linter.unusedVariables false
set_option maxRecDepth 100000
set_option maxHeartbeats 1000000

theorem eqInts_fun (a b : List Int) (ha : a.length ≤ 140737488355328) (hb : b.length ≤ 140737488355328) : Fun Tryz.prog 73 [.sh 1 (a.map intC), .sh 1 (b.map intC)] (Ret (.lit (.bool (decide (a = b)))) []) := by
  refine Fun.of (nt := 26) (rs := [.tmp 4]) Tryz.func73 rfl rfl rfl rfl rfl ?_
  refine Ev.sr fun K hK => S.o q.as (S.end (hK _ ?_))
  clear hK K
  refine Ev.seq ?_
  refine Ev.sr fun K hK => S.o q.mv (S.o (q.lens am_el47) (S.o q.mv (S.o (q.lens am_el47) (S.o q.neq (S.end (hK _ ?_))))))
  clear hK K
  refine Ev.cn (fun c1 => ?_) (fun c1 => ?_)
  · first
  | (first | omega | contradiction)
  | refine Ev.sr fun K hK => S.o q.as (S.end (hK _ ?_))
    clear hK K
    refine Ev.ret ?_
    refine Ev.ret1 ?_
    refine ⟨?_, rfl⟩
    first
     | exact bF (fun h => by subst h; omega)
     | exact bF (fun h => by subst h; rw [hidx] at hidx2; simp only [Option.some.injEq] at hidx2; omega)
     | exact bT (hinv.symm.trans (List.take_of_length_le (by omega)))
  · first
  | (first | omega | contradiction)
  | refine Ev.skip ?_
    show Ev _ _ _ _
    refine Ev.seq ?_
    refine Ev.sr fun K hK => S.o q.mv (S.o (q.lens am_el47) (S.o q.mv (S.end (hK _ ?_))))
    clear hK K
    refine Ev.block ?_
    refine Ev.loopU (ι := {q : List Int × List Int // q.1 ++ q.2 = a ∧ b.take q.1.length = q.1}) [] [0, 1, 12] (fun ⟨(pre, suf), _⟩ => [(13, .lit (.int .i64 ((pre.length : Int))))]) (fun ⟨(pre, suf), _⟩ => []) (fun ⟨(pre, suf), _⟩ => suf.length) ⟨([], a), rfl, rfl⟩ (.c (.c (.c .n))) keep_n (slots_c (he := (by first | rfl | (simp; done) | (congr 2; omega))) (h := trivial)) ?_
    rintro ⟨⟨pre, suf⟩, hp, hinv⟩ R0 hR0
    dsimp only [List.cons_append, List.nil_append, List.length_cons, List.length_nil]
    simp only at hp hinv
    have hpl : pre.length + suf.length = (a).length := by rw [← hp, List.length_append]
    rcases suf with _ | ⟨s, suf⟩
    · rw [List.append_nil] at hp; subst hp; simp only [List.length_nil] at hpl
      refine Ev.sr fun K hK => S.o q.lss (S.end (hK _ ?_))
      clear hK K
      refine Ev.ud (fun c2 => ?_) (fun c2 => ?_)
      · first
      | (first | omega | contradiction)
      | refine Ev.seq ?_
        refine Ev.block ?_
        refine Ev.sr fun K hK => S.o q.mv (S.o q.as (S.end (hK _ ?_)))
        clear hK K
        refine Ev.sm (tbs [(0, 0), (0, 0), (2, 3), (3, 7), (0, 0), (0, 0), (6, 48), (7, 112), (8, 255)]) 9 fun K hK => M.o q.mv (M.o q.mv (M.o (q.ix am_el47 am_cl3 (hl := (by first | exact atig (by omega)))) (M.o (q.ls am_ag3) (M.o q.mv (M.o q.mv (M.o (q.ix am_el47 am_cl3 (hl := (by first | exact atig (by omega)))) (M.o (q.ls am_ag3) (M.o q.neq (M.end [] (h := S.end (hK _ ?_)))))))))))
        clear hK K
        refine Ev.cn (fun c3 => ?_) (fun c3 => ?_)
        · first
        | (first | omega | contradiction)
        | refine Ev.sr fun K hK => S.o q.as (S.end (hK _ ?_))
          clear hK K
          refine Ev.ret ?_
          refine hR0 _ _ ?_
          refine Ev.ret1 ?_
          refine ⟨?_, rfl⟩
          first
           | exact bF (fun h => by subst h; omega)
           | exact bF (fun h => by subst h; rw [hidx] at hidx2; simp only [Option.some.injEq] at hidx2; omega)
           | exact bT (hinv.symm.trans (List.take_of_length_le (by omega)))
        · first
        | (first | omega | contradiction)
        | refine Ev.skip ?_
          show Ev _ _ _ _
          refine Ev.region_S fun K hK => S.o q.add (S.o q.mv (S.end (hK _ ?_)))
          clear hK K
          refine hR0 _ _ ?_
          refine roundU [] [0, 1, 12] ⟨(pre ++ [s], suf), by rw [← hp]; simp, ?_⟩ ?_ keep_n (slots_c (he := (by first | rfl | (simp; done) | (congr 2; omega))) (h := trivial)) (.c (.c (.c .n)))
          simp only [List.length_append, List.length_cons, List.length_nil, Nat.zero_add]
          rw [List.take_add_one, hinv, hidx2]
          simp only [Option.toList_some, List.append_cancel_left_eq, List.cons.injEq, and_true]
          omega
          all_goals (dsimp only; simp only [List.length_cons]; omega)
      · first
      | (first | omega | contradiction)
      | refine Ev.exit ?_
        refine hR0 _ _ ?_
        show Ev _ _ _ _
        refine Ev.sr fun K hK => S.o q.as (S.end (hK _ ?_))
        clear hK K
        refine Ev.ret ?_
        refine Ev.ret1 ?_
        refine ⟨?_, rfl⟩
        first
         | exact bF (fun h => by subst h; omega)
         | exact bF (fun h => by subst h; rw [hidx] at hidx2; simp only [Option.some.injEq] at hidx2; omega)
         | exact bT (hinv.symm.trans (List.take_of_length_le (by omega)))
    · simp only [List.length_cons] at hpl
      have hidx : (a)[pre.length]? = some s := by rw [← hp]; simp
      obtain ⟨s2, hidx2⟩ : ∃ s2, b[pre.length]? = some s2 := ⟨_, List.getElem?_eq_getElem (by omega)⟩
      refine Ev.sr fun K hK => S.o q.lss (S.end (hK _ ?_))
      clear hK K
      refine Ev.ud (fun c4 => ?_) (fun c4 => ?_)
      · first
      | (first | omega | contradiction)
      | refine Ev.seq ?_
        refine Ev.block ?_
        refine Ev.sr fun K hK => S.o q.mv (S.o q.as (S.end (hK _ ?_)))
        clear hK K
        refine Ev.sm (tbs [(0, 0), (0, 0), (2, 3), (3, 7), (0, 0), (0, 0), (6, 48), (7, 112), (8, 255)]) 9 fun K hK => M.o q.mv (M.o q.mv (M.o (q.ix am_el47 am_cl3 (hl := (by first | exact ati hidx (by omega) | exact ati hidx2 (by omega) | exact atig (by omega)))) (M.o (q.ls am_ag3) (M.o q.mv (M.o q.mv (M.o (q.ix am_el47 am_cl3 (hl := (by first | exact ati hidx (by omega) | exact ati hidx2 (by omega) | exact atig (by omega)))) (M.o (q.ls am_ag3) (M.o q.neq (M.end [] (h := S.end (hK _ ?_)))))))))))
        clear hK K
        refine Ev.cn (fun c5 => ?_) (fun c5 => ?_)
        · first
        | (first | omega | contradiction)
        | refine Ev.sr fun K hK => S.o q.as (S.end (hK _ ?_))
          clear hK K
          refine Ev.ret ?_
          refine hR0 _ _ ?_
          refine Ev.ret1 ?_
          refine ⟨?_, rfl⟩
          first
           | exact bF (fun h => by subst h; omega)
           | exact bF (fun h => by subst h; rw [hidx] at hidx2; simp only [Option.some.injEq] at hidx2; omega)
           | exact bT (hinv.symm.trans (List.take_of_length_le (by omega)))
        · first
        | (first | omega | contradiction)
        | refine Ev.skip ?_
          show Ev _ _ _ _
          refine Ev.region_S fun K hK => S.o q.add (S.o q.mv (S.end (hK _ ?_)))
          clear hK K
          refine hR0 _ _ ?_
          refine roundU [] [0, 1, 12] ⟨(pre ++ [s], suf), by rw [← hp]; simp, ?_⟩ ?_ keep_n (slots_c (he := (by first | rfl | (simp; done) | (congr 2; omega))) (h := trivial)) (.c (.c (.c .n)))
          simp only [List.length_append, List.length_cons, List.length_nil, Nat.zero_add]
          rw [List.take_add_one, hinv, hidx2]
          simp only [Option.toList_some, List.append_cancel_left_eq, List.cons.injEq, and_true]
          omega
          all_goals (dsimp only; simp only [List.length_cons]; omega)
      · first
      | (first | omega | contradiction)
      | refine Ev.exit ?_
        refine hR0 _ _ ?_
        show Ev _ _ _ _
        refine Ev.sr fun K hK => S.o q.as (S.end (hK _ ?_))
        clear hK K
        refine Ev.ret ?_
        refine Ev.ret1 ?_
        refine ⟨?_, rfl⟩
        first
         | exact bF (fun h => by subst h; omega)
         | exact bF (fun h => by subst h; rw [hidx] at hidx2; simp only [Option.some.injEq] at hidx2; omega)
         | exact bT (hinv.symm.trans (List.take_of_length_le (by omega)))

theorem idxP_find {T : Type} (p : T → Bool) : ∀ (l : List T) (k : Int), 0 ≤ k → (idxP p l k < 0 → l.find? p = none) ∧ (0 ≤ idxP p l k → ∃ x, l.find? p = some x ∧ l[(idxP p l k - k).toNat]? = some x)
  | [], k, hk => by simp [idxP]
  | x :: l, k, hk => by
    rw [idxP]
    split
    · rename_i hx
      exact ⟨fun h => by omega, fun _ => ⟨x, by simp [hx], by simp⟩⟩
    · rename_i hx
      obtain ⟨h1, h2⟩ := idxP_find p l (k + 1) (by omega)
      have hx' : p x = false := by simpa using hx
      refine ⟨fun h => by simp [hx', h1 h], fun h => ?_⟩
      obtain ⟨y, h3, h4⟩ := h2 h
      have := (idxP_get p l (k + 1) (by omega) h).1
      refine ⟨y, by simp [hx', h3], ?_⟩
      rw [show (idxP p l (k + 1) - k).toNat = (idxP p l (k + 1) - (k + 1)).toNat + 1 by omega]
      simpa using h4
def barAt (l : List Bar) (mk : List UInt8) : Option Bar := l.find? fun b => decide (b.mark = mk)
theorem barAt_some {l : List Bar} {mk : List UInt8} (h : 0 ≤ markI l mk) : ∃ y, barAt l mk = some y ∧ l[(markI l mk).toNat]? = some y ∧ y ∈ l ∧ y.mark = mk := by
  obtain ⟨y, h1, h2⟩ := (idxP_find (fun b : Bar => decide (b.mark = mk)) l 0 (Int.le_refl _)).2 h
  rw [Int.sub_zero] at h2
  exact ⟨y, h1, h2, List.mem_of_getElem? h2, by simpa using List.find?_some h1⟩
def sameD (x y : Bar) : Prop := x.size = y.size ∧ x.code = y.code ∧ x.dims = y.dims
instance (x y) : Decidable (sameD x y) := by unfold sameD; infer_instance
def sameV (x y : Bar) : Prop := okBar x ∧ okBar y ∧ sameD x y
instance (x y) : Decidable (sameV x y) := by unfold sameV; infer_instance
def sameE (x y : Bar) : Int := if okBar x ∧ okBar y then 0 else 1
theorem okBar_w {b : Bar} (h : okBar b) : b.w := by
  have h1 := isName_len h.1
  have h2 := h.2.2.2.2.2.1
  have h3 : dimsN b.code ≤ 5 := by unfold dimsN; repeat' split <;> omega
  exact ⟨by omega, by omega⟩
theorem same_fun (x y : Bar) (hx : x.w) (hy : y.w) : Fun Tryz.prog 44 [.agg x.c, .agg y.c] (Ret (.tup [.lit (.bool (decide (sameV x y))), .lit (.int .i64 (sameE x y))]) []) := by
  obtain ⟨hx1, hx2⟩ := hx
  obtain ⟨hy1, hy2⟩ := hy
  have hx : x.w := ⟨hx1, hx2⟩
  have hy : y.w := ⟨hy1, hy2⟩
  refine Fun.of (nt := 33) (rs := [.tmp 4, .tmp 5]) Tryz.func44 rfl rfl rfl rfl rfl ?_
  refine Ev.sr fun K hK => S.nn (q.bx [_, _, _, _, _] true) (S.nn (q.bx [_, _, _, _, _] true) (S.o q.as (S.o q.as (S.end (hK _ ?_)))))
  clear hK K
  refine Ev.seq ?_
  refine Ev.sr fun K hK => S.o (q.lvA [_, _, _, _, _] am_ag49 am_cl49) (S.c0 (hF := valid_fun _ (by assumption)) (h := S.o q.not (S.bn q.mv (fun c1 => ?_) (fun c1 => ?_))))
  · first
  | (first | omega | contradiction)
  | refine S.sk (S.sk (S.sk (S.o q.pt (S.end (hK _ ?_)))))
    clear hK K
    refine Ev.ct ?_
    refine Ev.sr fun K hK => S.o q.as (S.o q.as (S.end (hK _ ?_)))
    clear hK K
    refine Ev.ret ?_
    refine Ev.ret2 ?_
    refine ⟨?_, rfl⟩
    first
     | (rw [show sameE x y = 1 from if_neg (fun h => absurd h.1 ‹_›), decide_eq_false (fun h : sameV x y => absurd h.1 ‹_›)]; done) | (rw [show sameE x y = 1 from if_neg (fun h => absurd h.2 ‹_›), decide_eq_false (fun h : sameV x y => absurd h.2.1 ‹_›)]; done)
     | (rw [show sameE x y = 0 from if_pos ⟨‹_›, ‹_›⟩]; congr 4; first | (rw [decide_eq_decide]; exact ⟨fun h => ⟨‹_›, ‹_›, by omega, by omega, h⟩, fun h => h.2.2.2.2⟩) | exact (decide_eq_false (fun h : sameV x y => by have h1 := h.2.2.1; have h2 := h.2.2.2.1; omega)).symm)
  · first
  | (first | omega | contradiction)
  | refine S.o (q.lvA [_, _, _, _, _] am_ag49 am_cl49) (S.c0 (hF := valid_fun _ (by assumption)) (h := S.o q.not (S.o q.pf (S.end (hK _ ?_)))))
    clear hK K
    refine Ev.cn (fun c2 => ?_) (fun c2 => ?_)
    · first
    | (first | omega | contradiction)
    | refine Ev.sr fun K hK => S.o q.as (S.o q.as (S.end (hK _ ?_)))
      clear hK K
      refine Ev.ret ?_
      refine Ev.ret2 ?_
      refine ⟨?_, rfl⟩
      first
       | (rw [show sameE x y = 1 from if_neg (fun h => absurd h.1 ‹_›), decide_eq_false (fun h : sameV x y => absurd h.1 ‹_›)]; done) | (rw [show sameE x y = 1 from if_neg (fun h => absurd h.2 ‹_›), decide_eq_false (fun h : sameV x y => absurd h.2.1 ‹_›)]; done)
       | (rw [show sameE x y = 0 from if_pos ⟨‹_›, ‹_›⟩]; congr 4; first | (rw [decide_eq_decide]; exact ⟨fun h => ⟨‹_›, ‹_›, by omega, by omega, h⟩, fun h => h.2.2.2.2⟩) | exact (decide_eq_false (fun h : sameV x y => by have h1 := h.2.2.1; have h2 := h.2.2.2.1; omega)).symm)
    · first
    | (first | omega | contradiction)
    | refine Ev.skip ?_
      show Ev _ _ _ _
      refine Ev.sr fun K hK => S.o (q.fa 1 am_fi49_1 am_cl3) (S.o (q.lv am_ag3) (S.o (q.fa 1 am_fi49_1 am_cl3) (S.o (q.lv am_ag3) (S.o q.eql (S.bd q.mv (fun c3 => ?_) (fun c3 => ?_))))))
      · first
      | (first | omega | contradiction)
      | refine S.o (q.fa 3 am_fi49_3 am_cl3) (S.o (q.lv am_ag3) (S.o (q.fa 3 am_fi49_3 am_cl3) (S.o (q.lv am_ag3) (S.o q.eql (S.o q.pt (S.bd q.mv (fun c4 => ?_) (fun c4 => ?_)))))))
        · first
        | (first | omega | contradiction)
        | refine S.o (q.fa 4 am_fi49_4 am_cl47) (S.o (q.lv am_ag47) (S.o (q.fa 4 am_fi49_4 am_cl47) (S.o (q.lv am_ag47) (S.c0 (hF := eqInts_fun _ _ (by omega) (by omega)) (h := S.o q.pt (S.o q.as (S.o q.as (S.end (hK _ ?_)))))))))
          clear hK K
          refine Ev.ret ?_
          refine Ev.ret2 ?_
          refine ⟨?_, rfl⟩
          first
           | (rw [show sameE x y = 1 from if_neg (fun h => absurd h.1 ‹_›), decide_eq_false (fun h : sameV x y => absurd h.1 ‹_›)]; done) | (rw [show sameE x y = 1 from if_neg (fun h => absurd h.2 ‹_›), decide_eq_false (fun h : sameV x y => absurd h.2.1 ‹_›)]; done)
           | (rw [show sameE x y = 0 from if_pos ⟨‹_›, ‹_›⟩]; congr 4; first | (rw [decide_eq_decide]; exact ⟨fun h => ⟨‹_›, ‹_›, by omega, by omega, h⟩, fun h => h.2.2.2.2⟩) | exact (decide_eq_false (fun h : sameV x y => by have h1 := h.2.2.1; have h2 := h.2.2.2.1; omega)).symm)
        · first
        | (first | omega | contradiction)
        | refine S.sk (S.sk (S.sk (S.sk (S.sk (S.o q.pf (S.o q.as (S.o q.as (S.end (hK _ ?_)))))))))
          clear hK K
          refine Ev.ret ?_
          refine Ev.ret2 ?_
          refine ⟨?_, rfl⟩
          first
           | (rw [show sameE x y = 1 from if_neg (fun h => absurd h.1 ‹_›), decide_eq_false (fun h : sameV x y => absurd h.1 ‹_›)]; done) | (rw [show sameE x y = 1 from if_neg (fun h => absurd h.2 ‹_›), decide_eq_false (fun h : sameV x y => absurd h.2.1 ‹_›)]; done)
           | (rw [show sameE x y = 0 from if_pos ⟨‹_›, ‹_›⟩]; congr 4; first | (rw [decide_eq_decide]; exact ⟨fun h => ⟨‹_›, ‹_›, by omega, by omega, h⟩, fun h => h.2.2.2.2⟩) | exact (decide_eq_false (fun h : sameV x y => by have h1 := h.2.2.1; have h2 := h.2.2.2.1; omega)).symm)
      · first
      | (first | omega | contradiction)
      | refine S.sk (S.sk (S.sk (S.sk (S.sk (S.o q.pf (S.o q.mv (S.sk (S.sk (S.sk (S.sk (S.sk (S.o q.pf (S.o q.as (S.o q.as (S.end (hK _ ?_))))))))))))))))
        clear hK K
        refine Ev.ret ?_
        refine Ev.ret2 ?_
        refine ⟨?_, rfl⟩
        first
         | (rw [show sameE x y = 1 from if_neg (fun h => absurd h.1 ‹_›), decide_eq_false (fun h : sameV x y => absurd h.1 ‹_›)]; done) | (rw [show sameE x y = 1 from if_neg (fun h => absurd h.2 ‹_›), decide_eq_false (fun h : sameV x y => absurd h.2.1 ‹_›)]; done)
         | (rw [show sameE x y = 0 from if_pos ⟨‹_›, ‹_›⟩]; congr 4; first | (rw [decide_eq_decide]; exact ⟨fun h => ⟨‹_›, ‹_›, by omega, by omega, h⟩, fun h => h.2.2.2.2⟩) | exact (decide_eq_false (fun h : sameV x y => by have h1 := h.2.2.1; have h2 := h.2.2.2.1; omega)).symm)
end Go.Proofs.YtddogeicmhbidaaGreatDoor
namespace Go.Proofs.YtddogeicmhbidaaGreatDoor
open Go Go.AM
set_option linter.unusedSimpArgs false
set_option linter.unusedVariables false
set_option maxRecDepth 100000
set_option maxHeartbeats 1000000

theorem cloneInts_fun (l : List Int) (hlen : l.length ≤ 1000000) : Fun Tryz.prog 72 [.sh 1 (l.map intC)] (Ret (.als 0 0 l.length) [(0, ⟨true, 3, 1, l.map intC, true⟩)]) := by
  refine Fun.of (nt := 8) (rs := [.tmp 2]) Tryz.func72 rfl rfl rfl rfl rfl ?_
  refine Ev.sr fun K hK => S.o q.as (S.end (hK _ ?_))
  clear hK K
  refine Ev.seq ?_
  refine Ev.sr fun K hK => S.o q.mv (S.eqn am_el47 (fun c1 c2 => (S.end (hK _ ?_))))
  clear hK K
  refine Ev.c (fun c3 => ?_) (fun c3 => ?_)
  · first
  | (first | omega | contradiction)
  | refine Ev.sr fun K hK => S.o q.as (S.end (hK _ ?_))
    clear hK K
    refine Ev.weaken (Wk.nown intC 2 3 1) ?_
    refine Ev.ret ?_
    refine Ev.own1 ?_
    refine ⟨?_, ?_⟩
    all_goals first
     | rfl
     | (rw [List.map_eq_nil_iff.1 (c2 c3)]; done) | (rw [List.map_eq_nil_iff.1 (c2 c3)] <;> rfl)
     | (congr 1; simp; done)
     | (simp; done)
  · first
  | (first | omega | contradiction)
  | refine Ev.skip ?_
    show Ev _ _ _ _
    refine Ev.sr fun K hK => S.nn (v := .als 0 0 ([] : List (Int)).length) (o := ⟨true, 3, 1, ([] : List (Int)).map intC, true⟩) (q.bs [] true am_el47 am_ze3 am_cl3) (S.o q.mv (S.ap' [] am_el47 am_ze3 am_cl3 am_by3 (hh := head_own') (hr := rows_sh) (h := S.o q.as (S.end (hK _ ?_)))))
    clear hK K
    refine Ev.ret ?_
    refine Ev.own1 ?_
    refine ⟨?_, ?_⟩
    all_goals first
     | rfl
     | (rw [List.map_eq_nil_iff.1 (c2 c3)]; done) | (rw [List.map_eq_nil_iff.1 (c2 c3)] <;> rfl)
     | (congr 1; simp; done)
     | (simp; done)
theorem copyOf_fun (b : Bar) (h : b.dims.length ≤ 1000000) : Fun Tryz.prog 43 [.agg b.c] (Ret (.agg b.c) []) := by
  refine Fun.of (nt := 8) (rs := [.cell 2 49]) Tryz.func43 rfl rfl rfl rfl rfl ?_
  refine Ev.sr fun K hK => S.nn (q.bx [_, _, _, _, _] true) (S.nn (q.al am_ze49) (S.end (hK _ ?_)))
  clear hK K
  refine Ev.sr fun K hK => S.o (q.fa 4 am_fi49_4 am_cl47) (S.o (q.lv am_ag47) (S.c1 (hF := cloneInts_fun _ (by omega)) (h := SeqL.weaken (Wk.frz 5 [_, _]) (S.o (q.fa 4 am_fi49_4 am_cl47) (S.sv [_, _, _, _, _] true [_] am_in47 am_cl47 (h := S.end (hK _ ?_)))))))
  clear hK K
  refine Ev.sr fun K hK => S.o (q.lvA [_, _, _, _, _] am_ag49 am_cl49) (S.sv [_, _, _, _, _] true [_] am_in49 am_cl49 (h := S.end (hK _ ?_)))
  clear hK K
  refine Ev.ret ?_
  refine Ev.retv1 (res_c [_, _, _, _, _] am_ag49 am_cl49 res_n) ?_
  refine ⟨?_, rfl⟩
  rfl

instance : DecidableEq Bar := fun x y => decidable_of_iff (x.mark = y.mark ∧ x.size = y.size ∧ x.count = y.count ∧ x.code = y.code ∧ x.dims = y.dims) (by cases x; cases y; simp)
theorem bars_take {a b : List Bar} (h : b.take a.length = a) (hl : a.length = b.length) : a = b := h.symm.trans (List.take_of_length_le (by omega))
theorem bar_eq {x y : Bar} (h1 : x.mark = y.mark) (h2 : x.size = y.size) (h3 : x.count = y.count) (h4 : x.code = y.code) (h5 : x.dims = y.dims) : x = y := by
  cases x; cases y; simp only at h1 h2 h3 h4 h5; subst h1 h2 h3 h4 h5; rfl
theorem same14_fun (a b : List Bar) (ha : a.length ≤ 140737488355328) (hb : b.length ≤ 140737488355328) (hwa : ∀ x ∈ a, x.dims.length ≤ 140737488355328) (hwb : ∀ x ∈ b, x.dims.length ≤ 140737488355328) : Fun Tryz.prog 17 [.sh 5 (a.map Bar.c), .sh 5 (b.map Bar.c)] (Ret (.lit (.bool (decide (a = b)))) []) := by
  refine Fun.of (nt := 81) (rs := [.tmp 4]) Tryz.func17 rfl rfl rfl rfl rfl ?_
  refine Ev.sr fun K hK => S.o q.as (S.end (hK _ ?_))
  clear hK K
  refine Ev.seq ?_
  refine Ev.sr fun K hK => S.o q.mv (S.o (q.lens am_el22) (S.o q.mv (S.o (q.lens am_el22) (S.o q.neq (S.end (hK _ ?_))))))
  clear hK K
  refine Ev.cn (fun c1 => ?_) (fun c1 => ?_)
  · first
  | (first | omega | contradiction)
  | refine Ev.sr fun K hK => S.o q.as (S.end (hK _ ?_))
    clear hK K
    refine Ev.ret ?_
    refine Ev.ret1 ?_
    refine ⟨?_, rfl⟩
    first
     | exact bF (fun h => by have h1 := congrArg List.length h; omega)
     | exact bF (fun h => by have he := hxy h; subst he; first | contradiction | omega)
     | exact bF (fun h => by have he := hxy h; subst he; rw [hidk] at hidk2; simp only [Option.some.injEq] at hidk2; omega)
     | exact bT (bars_take hinv (by omega))
  · first
  | (first | omega | contradiction)
  | refine Ev.skip ?_
    show Ev _ _ _ _
    refine Ev.seq ?_
    refine Ev.sr fun K hK => S.o q.as (S.end (hK _ ?_))
    clear hK K
    refine Ev.block ?_
    refine Ev.loopU (ι := {q : List Bar × List Bar // q.1 ++ q.2 = a ∧ b.take q.1.length = q.1}) [] [0, 1] (fun ⟨(pre, suf), _⟩ => [(5, .lit (.int .i64 ((pre.length : Int))))]) (fun ⟨(pre, suf), _⟩ => []) (fun ⟨(pre, suf), _⟩ => suf.length) ⟨([], a), rfl, rfl⟩ (.c (.c .n)) keep_n (slots_c (he := (by first | rfl | (simp; done) | (congr 2; omega))) (h := trivial)) ?_
    rintro ⟨⟨pre, suf⟩, hp, hinv⟩ R0 hR0
    dsimp only [List.cons_append, List.nil_append, List.length_cons, List.length_nil]
    simp only at hp hinv
    have hpl : pre.length + suf.length = (a).length := by rw [← hp, List.length_append]
    rcases suf with _ | ⟨s, suf⟩
    · rw [List.append_nil] at hp; subst pre; simp only [List.length_nil] at hpl
      refine Ev.seq ?_
      refine Ev.sr fun K hK => S.o q.mv (S.o q.mv (S.o (q.lens am_el22) (S.o q.lss (S.end (hK _ ?_)))))
      clear hK K
      refine Ev.cd (fun c2 => ?_) (fun c2 => ?_)
      · first
      | (first | omega | contradiction)
      | refine Ev.skip ?_
        show Ev _ _ _ _
        refine Ev.seq ?_
        refine Ev.block ?_
        refine Ev.sl (tbs [(0, 0), (0, 0), (2, 3), (3, 7), (0, 0), (0, 0), (6, 48), (7, 112), (0, 0), (0, 0), (10, 783), (11, 2047)]) 10 fun K hK => M.o q.mv (M.o q.mv (M.o (q.ix am_el22 am_cl49 (hl := (by first | exact atig (by omega)))) (M.o (q.lsA [_, _, _, _, _] am_ag49 am_cl49) (M.o q.mv (M.o q.mv (M.o (q.ix am_el22 am_cl49 (hl := (by first | exact atig (by omega)))) (M.o (q.lsA [_, _, _, _, _] am_ag49 am_cl49) (M.nn [_] (q.al am_ze49) (h := M.nn [_, _] (q.al am_ze49) (h := M.late [_, _, _, _, _] true [_, _] am_in49 am_cl49 (h := S.sv [_, _, _, _, _] true [_] am_in49 am_cl49 (h := S.end (hK _ ?_)))))))))))))
        clear hK K
        refine Ev.seq ?_
        refine Ev.sr fun K hK => S.o (q.fa 0 am_fi49_0 am_cl9) (S.o (q.lv am_ag9) (S.o (q.fa 0 am_fi49_0 am_cl9) (S.o (q.lv am_ag9) (S.o q.snes (S.bn q.mv (fun c3 => ?_) (fun c3 => ?_))))))
        · first
        | (first | omega | contradiction)
        | refine S.sk (S.sk (S.sk (S.sk (S.sk (S.o q.pt (S.o q.mv (S.sk (S.sk (S.sk (S.sk (S.sk (S.o q.pt (S.o q.mv (S.sk (S.sk (S.sk (S.sk (S.sk (S.o q.pt (S.o q.mv (S.sk (S.sk (S.sk (S.sk (S.sk (S.sk (S.sk (S.o q.pt (S.end (hK _ ?_))))))))))))))))))))))))))))))
          clear hK K
          refine Ev.ct ?_
          refine Ev.sr fun K hK => S.o q.as (S.end (hK _ ?_))
          clear hK K
          refine Ev.ret ?_
          refine hR0 _ _ ?_
          refine Ev.ret1 ?_
          refine ⟨?_, rfl⟩
          first
           | exact bF (fun h => by have h1 := congrArg List.length h; omega)
           | exact bF (fun h => by have he := hxy h; subst he; first | contradiction | omega)
           | exact bF (fun h => by have he := hxy h; subst he; rw [hidk] at hidk2; simp only [Option.some.injEq] at hidk2; omega)
           | exact bT (bars_take hinv (by omega))
        · first
        | (first | omega | contradiction)
        | refine S.o (q.fa 1 am_fi49_1 am_cl3) (S.o (q.lv am_ag3) (S.o (q.fa 1 am_fi49_1 am_cl3) (S.o (q.lv am_ag3) (S.o q.neq (S.o q.pf (S.bn q.mv (fun c4 => ?_) (fun c4 => ?_)))))))
          · first
          | (first | omega | contradiction)
          | refine S.sk (S.sk (S.sk (S.sk (S.sk (S.o q.pt (S.o q.mv (S.sk (S.sk (S.sk (S.sk (S.sk (S.o q.pt (S.o q.mv (S.sk (S.sk (S.sk (S.sk (S.sk (S.sk (S.sk (S.o q.pt (S.end (hK _ ?_)))))))))))))))))))))))
            clear hK K
            refine Ev.ct ?_
            refine Ev.sr fun K hK => S.o q.as (S.end (hK _ ?_))
            clear hK K
            refine Ev.ret ?_
            refine hR0 _ _ ?_
            refine Ev.ret1 ?_
            refine ⟨?_, rfl⟩
            first
             | exact bF (fun h => by have h1 := congrArg List.length h; omega)
             | exact bF (fun h => by have he := hxy h; subst he; first | contradiction | omega)
             | exact bF (fun h => by have he := hxy h; subst he; rw [hidk] at hidk2; simp only [Option.some.injEq] at hidk2; omega)
             | exact bT (bars_take hinv (by omega))
          · first
          | (first | omega | contradiction)
          | refine S.o (q.fa 2 am_fi49_2 am_cl3) (S.o (q.lv am_ag3) (S.o (q.fa 2 am_fi49_2 am_cl3) (S.o (q.lv am_ag3) (S.o q.neq (S.o q.pf (S.bn q.mv (fun c5 => ?_) (fun c5 => ?_)))))))
            · first
            | (first | omega | contradiction)
            | refine S.sk (S.sk (S.sk (S.sk (S.sk (S.o q.pt (S.o q.mv (S.sk (S.sk (S.sk (S.sk (S.sk (S.sk (S.sk (S.o q.pt (S.end (hK _ ?_))))))))))))))))
              clear hK K
              refine Ev.ct ?_
              refine Ev.sr fun K hK => S.o q.as (S.end (hK _ ?_))
              clear hK K
              refine Ev.ret ?_
              refine hR0 _ _ ?_
              refine Ev.ret1 ?_
              refine ⟨?_, rfl⟩
              first
               | exact bF (fun h => by have h1 := congrArg List.length h; omega)
               | exact bF (fun h => by have he := hxy h; subst he; first | contradiction | omega)
               | exact bF (fun h => by have he := hxy h; subst he; rw [hidk] at hidk2; simp only [Option.some.injEq] at hidk2; omega)
               | exact bT (bars_take hinv (by omega))
            · first
            | (first | omega | contradiction)
            | refine S.o (q.fa 3 am_fi49_3 am_cl3) (S.o (q.lv am_ag3) (S.o (q.fa 3 am_fi49_3 am_cl3) (S.o (q.lv am_ag3) (S.o q.neq (S.o q.pf (S.bn q.mv (fun c6 => ?_) (fun c6 => ?_)))))))
              · first
              | (first | omega | contradiction)
              | refine S.sk (S.sk (S.sk (S.sk (S.sk (S.sk (S.sk (S.o q.pt (S.end (hK _ ?_)))))))))
                clear hK K
                refine Ev.ct ?_
                refine Ev.sr fun K hK => S.o q.as (S.end (hK _ ?_))
                clear hK K
                refine Ev.ret ?_
                refine hR0 _ _ ?_
                refine Ev.ret1 ?_
                refine ⟨?_, rfl⟩
                first
                 | exact bF (fun h => by have h1 := congrArg List.length h; omega)
                 | exact bF (fun h => by have he := hxy h; subst he; first | contradiction | omega)
                 | exact bF (fun h => by have he := hxy h; subst he; rw [hidk] at hidk2; simp only [Option.some.injEq] at hidk2; omega)
                 | exact bT (bars_take hinv (by omega))
              · first
              | (first | omega | contradiction)
              | refine S.o (q.fa 4 am_fi49_4 am_cl47) (S.o (q.lv am_ag47) (S.o (q.lens am_el47) (S.o (q.fa 4 am_fi49_4 am_cl47) (S.o (q.lv am_ag47) (S.o (q.lens am_el47) (S.o q.neq (S.o q.pf (S.end (hK _ ?_)))))))))
                clear hK K
                refine Ev.cn (fun c7 => ?_) (fun c7 => ?_)
                · first
                | (first | omega | contradiction)
                | refine Ev.sr fun K hK => S.o q.as (S.end (hK _ ?_))
                  clear hK K
                  refine Ev.ret ?_
                  refine hR0 _ _ ?_
                  refine Ev.ret1 ?_
                  refine ⟨?_, rfl⟩
                  first
                   | exact bF (fun h => by have h1 := congrArg List.length h; omega)
                   | exact bF (fun h => by have he := hxy h; subst he; first | contradiction | omega)
                   | exact bF (fun h => by have he := hxy h; subst he; rw [hidk] at hidk2; simp only [Option.some.injEq] at hidk2; omega)
                   | exact bT (bars_take hinv (by omega))
                · first
                | (first | omega | contradiction)
                | refine Ev.skip ?_
                  show Ev _ _ _ _
                  refine Ev.sr fun K hK => S.o q.as (S.end (hK _ ?_))
                  clear hK K
                  refine Ev.block ?_
                  refine Ev.loopU (ι := {q : List Int × List Int // q.1 ++ q.2 = s.dims ∧ s2.dims.take q.1.length = q.1}) [32, 36] [0, 1, 5, 6, 7, 14, 15, 16, 17, 20, 21, 22, 23, 24, 25, 26, 27, 28, 29, 30, 31, 32, 33, 34, 35, 36, 37, 38, 39, 40, 41, 42, 43, 44, 45, 46, 47, 48, 49, 50, 51, 52, 53, 54, 55, 56, 57, 58, 59, 60, 61, 62] (fun ⟨(prek, sufk), _⟩ => [(8, .lit (.int .i64 ((prek.length : Int))))]) (fun ⟨(prek, sufk), _⟩ => [(0, ⟨false, 49, 5, [[.lit (str (s.mark)), .lit (.int .i64 (s.size)), .lit (.int .i64 (s.count)), .lit (.int .i64 (s.code)), .sh 1 ((s.dims).map intC)]], true⟩), (1, ⟨false, 49, 5, [[.lit (str (s2.mark)), .lit (.int .i64 (s2.size)), .lit (.int .i64 (s2.count)), .lit (.int .i64 (s2.code)), .sh 1 ((s2.dims).map intC)]], true⟩)]) (fun ⟨(prek, sufk), _⟩ => sufk.length) ⟨([], s.dims), rfl, rfl⟩ (.c (.c (.c (.c (.c (.c (.c (.c (.c (.c (.c (.c (.c (.c (.c (.c (.c (.c (.c (.c (.c (.c (.c (.c (.c (.c (.c (.c (.c (.c (.c (.c (.c (.c (.c (.c (.c (.c (.c (.c (.c (.c (.c (.c (.c (.c (.c (.c (.c (.c (.c (.c .n)))))))))))))))))))))))))))))))))))))))))))))))))))) (keep_c (he := (by first | rfl | (simp; done))) (h := (keep_c (he := (by first | rfl | (simp; done))) (h := keep_n)))) (slots_c (he := (by first | rfl | (simp; done) | (congr 2; omega))) (h := trivial)) ?_
                  rintro ⟨⟨prek, sufk⟩, hpk, hinvk⟩ R2 hR2
                  dsimp only [List.cons_append, List.nil_append, List.length_cons, List.length_nil]
                  simp only at hpk hinvk
                  have hplk : prek.length + sufk.length = s.dims.length := by rw [← hpk, List.length_append]
                  rcases sufk with _ | ⟨sk, sufk⟩
                  · rw [List.append_nil] at hpk; have hpd := congrArg List.length hpk; rw [hpk] at hinvk; simp only [List.length_nil] at hplk
                    refine Ev.seq ?_
                    refine Ev.sr fun K hK => S.o q.mv (S.o (q.fa 4 am_fi49_4 am_cl47) (S.o (q.lv am_ag47) (S.o (q.lens am_el47) (S.o q.lss (S.end (hK _ ?_))))))
                    clear hK K
                    refine Ev.cd (fun c8 => ?_) (fun c8 => ?_)
                    · first
                    | (first | omega | contradiction)
                    | refine Ev.skip ?_
                      show Ev _ _ _ _
                      refine Ev.seq ?_
                      refine Ev.block ?_
                      refine Ev.sm (tbs [(0, 0), (1, 1), (0, 0), (3, 7), (4, 15), (0, 0), (6, 32), (0, 0), (8, 224), (9, 480), (10, 1023)]) 11 fun K hK => M.o (q.fa 4 am_fi49_4 am_cl47) (M.o (q.lv am_ag47) (M.o q.mv (M.o (q.ix am_el47 am_cl3 (hl := (by first | exact atig (by omega)))) (M.o (q.ls am_ag3) (M.o (q.fa 4 am_fi49_4 am_cl47) (M.o (q.lv am_ag47) (M.o q.mv (M.o (q.ix am_el47 am_cl3 (hl := (by first | exact atig (by omega)))) (M.o (q.ls am_ag3) (M.o q.neq (M.end [_, _] (h := S.end (hK _ ?_)))))))))))))
                      clear hK K
                      refine Ev.cn (fun c9 => ?_) (fun c9 => ?_)
                      · first
                      | (first | omega | contradiction)
                      | refine Ev.sr fun K hK => S.o q.as (S.end (hK _ ?_))
                        clear hK K
                        refine Ev.ret ?_
                        refine hR2 _ _ ?_
                        refine hR0 _ _ ?_
                        refine Ev.ret1 ?_
                        refine ⟨?_, rfl⟩
                        first
                         | exact bF (fun h => by have h1 := congrArg List.length h; omega)
                         | exact bF (fun h => by have he := hxy h; subst he; first | contradiction | omega)
                         | exact bF (fun h => by have he := hxy h; subst he; rw [hidk] at hidk2; simp only [Option.some.injEq] at hidk2; omega)
                         | exact bT (bars_take hinv (by omega))
                      · first
                      | (first | omega | contradiction)
                      | refine Ev.skip ?_
                        show Ev _ _ _ _
                        refine Ev.region_S fun K hK => S.o q.mv (S.o q.add (S.o q.as (S.end (hK _ ?_))))
                        clear hK K
                        refine hR2 _ _ ?_
                        refine roundU [0, 1] [0, 1, 5, 6, 7, 14, 15, 16, 17, 20, 21, 22, 23, 24, 25, 26, 27, 28, 29, 30, 31, 32, 33, 34, 35, 36, 37, 38, 39, 40, 41, 42, 43, 44, 45, 46, 47, 48, 49, 50, 51, 52, 53, 54, 55, 56, 57, 58, 59, 60, 61, 62] ⟨(prek ++ [sk], sufk), by rw [← hpk]; simp, ?_⟩ ?_ (keep_c (he := (by first | rfl | (simp; done))) (h := (keep_c (he := (by first | rfl | (simp; done))) (h := keep_n)))) (slots_c (he := (by first | rfl | (simp; done) | (congr 2; omega))) (h := trivial)) (.c (.c (.c (.c (.c (.c (.c (.c (.c (.c (.c (.c (.c (.c (.c (.c (.c (.c (.c (.c (.c (.c (.c (.c (.c (.c (.c (.c (.c (.c (.c (.c (.c (.c (.c (.c (.c (.c (.c (.c (.c (.c (.c (.c (.c (.c (.c (.c (.c (.c (.c (.c .n))))))))))))))))))))))))))))))))))))))))))))))))))))
                        simp only [List.length_append, List.length_cons, List.length_nil, Nat.zero_add]
                        rw [List.take_add_one, hinvk, hidk2]
                        simp only [Option.toList_some, List.append_cancel_left_eq, List.cons.injEq, and_true]
                        omega
                        all_goals (dsimp only; simp only [List.length_cons]; omega)
                    · first
                    | (first | omega | contradiction)
                    | refine Ev.exit ?_
                      refine hR2 _ _ ?_
                      show Ev _ _ _ _
                      have hfin : s = s2 := bar_eq (by first | assumption | omega) (by omega) (by omega) (by omega) (hinvk.symm.trans (List.take_of_length_le (by omega)))
                      refine Ev.region_S fun K hK => S.o q.mv (S.o q.add (S.o q.as (S.end (hK _ ?_))))
                      clear hK K
                      refine hR0 _ _ ?_
                      refine roundU [] [0, 1] ⟨(pre ++ [s], suf), by rw [← hp]; simp, ?_⟩ ?_ keep_n (slots_c (he := (by first | rfl | (simp; done) | (congr 2; omega))) (h := trivial)) (.c (.c .n))
                      simp only [List.length_append, List.length_cons, List.length_nil, Nat.zero_add]
                      rw [List.take_add_one, hinv, hidx2, hfin]
                      rfl
                      all_goals (dsimp only; simp only [List.length_cons]; omega)
                  · simp only [List.length_cons] at hplk
                    have hidk : s.dims[prek.length]? = some sk := by rw [← hpk]; simp
                    obtain ⟨sk2, hidk2⟩ : ∃ sk2, s2.dims[prek.length]? = some sk2 := ⟨_, List.getElem?_eq_getElem (by omega)⟩
                    refine Ev.seq ?_
                    refine Ev.sr fun K hK => S.o q.mv (S.o (q.fa 4 am_fi49_4 am_cl47) (S.o (q.lv am_ag47) (S.o (q.lens am_el47) (S.o q.lss (S.end (hK _ ?_))))))
                    clear hK K
                    refine Ev.cd (fun c10 => ?_) (fun c10 => ?_)
                    · first
                    | (first | omega | contradiction)
                    | refine Ev.skip ?_
                      show Ev _ _ _ _
                      refine Ev.seq ?_
                      refine Ev.block ?_
                      refine Ev.sm (tbs [(0, 0), (1, 1), (0, 0), (3, 7), (4, 15), (0, 0), (6, 32), (0, 0), (8, 224), (9, 480), (10, 1023)]) 11 fun K hK => M.o (q.fa 4 am_fi49_4 am_cl47) (M.o (q.lv am_ag47) (M.o q.mv (M.o (q.ix am_el47 am_cl3 (hl := (by first | exact ati hidk (by omega) | exact ati hidk2 (by omega) | exact atig (by omega)))) (M.o (q.ls am_ag3) (M.o (q.fa 4 am_fi49_4 am_cl47) (M.o (q.lv am_ag47) (M.o q.mv (M.o (q.ix am_el47 am_cl3 (hl := (by first | exact ati hidk (by omega) | exact ati hidk2 (by omega) | exact atig (by omega)))) (M.o (q.ls am_ag3) (M.o q.neq (M.end [_, _] (h := S.end (hK _ ?_)))))))))))))
                      clear hK K
                      refine Ev.cn (fun c11 => ?_) (fun c11 => ?_)
                      · first
                      | (first | omega | contradiction)
                      | refine Ev.sr fun K hK => S.o q.as (S.end (hK _ ?_))
                        clear hK K
                        refine Ev.ret ?_
                        refine hR2 _ _ ?_
                        refine hR0 _ _ ?_
                        refine Ev.ret1 ?_
                        refine ⟨?_, rfl⟩
                        first
                         | exact bF (fun h => by have h1 := congrArg List.length h; omega)
                         | exact bF (fun h => by have he := hxy h; subst he; first | contradiction | omega)
                         | exact bF (fun h => by have he := hxy h; subst he; rw [hidk] at hidk2; simp only [Option.some.injEq] at hidk2; omega)
                         | exact bT (bars_take hinv (by omega))
                      · first
                      | (first | omega | contradiction)
                      | refine Ev.skip ?_
                        show Ev _ _ _ _
                        refine Ev.region_S fun K hK => S.o q.mv (S.o q.add (S.o q.as (S.end (hK _ ?_))))
                        clear hK K
                        refine hR2 _ _ ?_
                        refine roundU [0, 1] [0, 1, 5, 6, 7, 14, 15, 16, 17, 20, 21, 22, 23, 24, 25, 26, 27, 28, 29, 30, 31, 32, 33, 34, 35, 36, 37, 38, 39, 40, 41, 42, 43, 44, 45, 46, 47, 48, 49, 50, 51, 52, 53, 54, 55, 56, 57, 58, 59, 60, 61, 62] ⟨(prek ++ [sk], sufk), by rw [← hpk]; simp, ?_⟩ ?_ (keep_c (he := (by first | rfl | (simp; done))) (h := (keep_c (he := (by first | rfl | (simp; done))) (h := keep_n)))) (slots_c (he := (by first | rfl | (simp; done) | (congr 2; omega))) (h := trivial)) (.c (.c (.c (.c (.c (.c (.c (.c (.c (.c (.c (.c (.c (.c (.c (.c (.c (.c (.c (.c (.c (.c (.c (.c (.c (.c (.c (.c (.c (.c (.c (.c (.c (.c (.c (.c (.c (.c (.c (.c (.c (.c (.c (.c (.c (.c (.c (.c (.c (.c (.c (.c .n))))))))))))))))))))))))))))))))))))))))))))))))))))
                        simp only [List.length_append, List.length_cons, List.length_nil, Nat.zero_add]
                        rw [List.take_add_one, hinvk, hidk2]
                        simp only [Option.toList_some, List.append_cancel_left_eq, List.cons.injEq, and_true]
                        omega
                        all_goals (dsimp only; simp only [List.length_cons]; omega)
                    · first
                    | (first | omega | contradiction)
                    | refine Ev.exit ?_
                      refine hR2 _ _ ?_
                      show Ev _ _ _ _
                      have hfin : s = s2 := bar_eq (by first | assumption | omega) (by omega) (by omega) (by omega) (hinvk.symm.trans (List.take_of_length_le (by omega)))
                      refine Ev.region_S fun K hK => S.o q.mv (S.o q.add (S.o q.as (S.end (hK _ ?_))))
                      clear hK K
                      refine hR0 _ _ ?_
                      refine roundU [] [0, 1] ⟨(pre ++ [s], suf), by rw [← hp]; simp, ?_⟩ ?_ keep_n (slots_c (he := (by first | rfl | (simp; done) | (congr 2; omega))) (h := trivial)) (.c (.c .n))
                      simp only [List.length_append, List.length_cons, List.length_nil, Nat.zero_add]
                      rw [List.take_add_one, hinv, hidx2, hfin]
                      rfl
                      all_goals (dsimp only; simp only [List.length_cons]; omega)
      · first
      | (first | omega | contradiction)
      | refine Ev.exit ?_
        refine hR0 _ _ ?_
        show Ev _ _ _ _
        refine Ev.sr fun K hK => S.o q.as (S.end (hK _ ?_))
        clear hK K
        refine Ev.ret ?_
        refine Ev.ret1 ?_
        refine ⟨?_, rfl⟩
        first
         | exact bF (fun h => by have h1 := congrArg List.length h; omega)
         | exact bF (fun h => by have he := hxy h; subst he; first | contradiction | omega)
         | exact bF (fun h => by have he := hxy h; subst he; rw [hidk] at hidk2; simp only [Option.some.injEq] at hidk2; omega)
         | exact bT (bars_take hinv (by omega))
    · simp only [List.length_cons] at hpl
      have hidx : (a)[pre.length]? = some s := by rw [← hp]; simp
      obtain ⟨s2, hidx2⟩ : ∃ s2, b[pre.length]? = some s2 := ⟨_, List.getElem?_eq_getElem (by omega)⟩
      have hxy : a = b → s = s2 := fun h => by rw [h, hidx2] at hidx; simp only [Option.some.injEq] at hidx; exact hidx.symm
      have hs1 := hwa s (by rw [← hp]; simp)
      have hs2 := hwb s2 (List.mem_of_getElem? hidx2)
      refine Ev.seq ?_
      refine Ev.sr fun K hK => S.o q.mv (S.o q.mv (S.o (q.lens am_el22) (S.o q.lss (S.end (hK _ ?_)))))
      clear hK K
      refine Ev.cd (fun c12 => ?_) (fun c12 => ?_)
      · first
      | (first | omega | contradiction)
      | refine Ev.skip ?_
        show Ev _ _ _ _
        refine Ev.seq ?_
        refine Ev.block ?_
        refine Ev.sl (tbs [(0, 0), (0, 0), (2, 3), (3, 7), (0, 0), (0, 0), (6, 48), (7, 112), (0, 0), (0, 0), (10, 783), (11, 2047)]) 10 fun K hK => M.o q.mv (M.o q.mv (M.o (q.ix am_el22 am_cl49 (hl := (by first | exact ati hidx (by omega) | exact ati hidx2 (by omega) | exact atig (by omega)))) (M.o (q.lsA [_, _, _, _, _] am_ag49 am_cl49) (M.o q.mv (M.o q.mv (M.o (q.ix am_el22 am_cl49 (hl := (by first | exact ati hidx (by omega) | exact ati hidx2 (by omega) | exact atig (by omega)))) (M.o (q.lsA [_, _, _, _, _] am_ag49 am_cl49) (M.nn [_] (q.al am_ze49) (h := M.nn [_, _] (q.al am_ze49) (h := M.late [_, _, _, _, _] true [_, _] am_in49 am_cl49 (h := S.sv [_, _, _, _, _] true [_] am_in49 am_cl49 (h := S.end (hK _ ?_)))))))))))))
        clear hK K
        refine Ev.seq ?_
        refine Ev.sr fun K hK => S.o (q.fa 0 am_fi49_0 am_cl9) (S.o (q.lv am_ag9) (S.o (q.fa 0 am_fi49_0 am_cl9) (S.o (q.lv am_ag9) (S.o q.snes (S.bn q.mv (fun c13 => ?_) (fun c13 => ?_))))))
        · first
        | (first | omega | contradiction)
        | refine S.sk (S.sk (S.sk (S.sk (S.sk (S.o q.pt (S.o q.mv (S.sk (S.sk (S.sk (S.sk (S.sk (S.o q.pt (S.o q.mv (S.sk (S.sk (S.sk (S.sk (S.sk (S.o q.pt (S.o q.mv (S.sk (S.sk (S.sk (S.sk (S.sk (S.sk (S.sk (S.o q.pt (S.end (hK _ ?_))))))))))))))))))))))))))))))
          clear hK K
          refine Ev.ct ?_
          refine Ev.sr fun K hK => S.o q.as (S.end (hK _ ?_))
          clear hK K
          refine Ev.ret ?_
          refine hR0 _ _ ?_
          refine Ev.ret1 ?_
          refine ⟨?_, rfl⟩
          first
           | exact bF (fun h => by have h1 := congrArg List.length h; omega)
           | exact bF (fun h => by have he := hxy h; subst he; first | contradiction | omega)
           | exact bF (fun h => by have he := hxy h; subst he; rw [hidk] at hidk2; simp only [Option.some.injEq] at hidk2; omega)
           | exact bT (bars_take hinv (by omega))
        · first
        | (first | omega | contradiction)
        | refine S.o (q.fa 1 am_fi49_1 am_cl3) (S.o (q.lv am_ag3) (S.o (q.fa 1 am_fi49_1 am_cl3) (S.o (q.lv am_ag3) (S.o q.neq (S.o q.pf (S.bn q.mv (fun c14 => ?_) (fun c14 => ?_)))))))
          · first
          | (first | omega | contradiction)
          | refine S.sk (S.sk (S.sk (S.sk (S.sk (S.o q.pt (S.o q.mv (S.sk (S.sk (S.sk (S.sk (S.sk (S.o q.pt (S.o q.mv (S.sk (S.sk (S.sk (S.sk (S.sk (S.sk (S.sk (S.o q.pt (S.end (hK _ ?_)))))))))))))))))))))))
            clear hK K
            refine Ev.ct ?_
            refine Ev.sr fun K hK => S.o q.as (S.end (hK _ ?_))
            clear hK K
            refine Ev.ret ?_
            refine hR0 _ _ ?_
            refine Ev.ret1 ?_
            refine ⟨?_, rfl⟩
            first
             | exact bF (fun h => by have h1 := congrArg List.length h; omega)
             | exact bF (fun h => by have he := hxy h; subst he; first | contradiction | omega)
             | exact bF (fun h => by have he := hxy h; subst he; rw [hidk] at hidk2; simp only [Option.some.injEq] at hidk2; omega)
             | exact bT (bars_take hinv (by omega))
          · first
          | (first | omega | contradiction)
          | refine S.o (q.fa 2 am_fi49_2 am_cl3) (S.o (q.lv am_ag3) (S.o (q.fa 2 am_fi49_2 am_cl3) (S.o (q.lv am_ag3) (S.o q.neq (S.o q.pf (S.bn q.mv (fun c15 => ?_) (fun c15 => ?_)))))))
            · first
            | (first | omega | contradiction)
            | refine S.sk (S.sk (S.sk (S.sk (S.sk (S.o q.pt (S.o q.mv (S.sk (S.sk (S.sk (S.sk (S.sk (S.sk (S.sk (S.o q.pt (S.end (hK _ ?_))))))))))))))))
              clear hK K
              refine Ev.ct ?_
              refine Ev.sr fun K hK => S.o q.as (S.end (hK _ ?_))
              clear hK K
              refine Ev.ret ?_
              refine hR0 _ _ ?_
              refine Ev.ret1 ?_
              refine ⟨?_, rfl⟩
              first
               | exact bF (fun h => by have h1 := congrArg List.length h; omega)
               | exact bF (fun h => by have he := hxy h; subst he; first | contradiction | omega)
               | exact bF (fun h => by have he := hxy h; subst he; rw [hidk] at hidk2; simp only [Option.some.injEq] at hidk2; omega)
               | exact bT (bars_take hinv (by omega))
            · first
            | (first | omega | contradiction)
            | refine S.o (q.fa 3 am_fi49_3 am_cl3) (S.o (q.lv am_ag3) (S.o (q.fa 3 am_fi49_3 am_cl3) (S.o (q.lv am_ag3) (S.o q.neq (S.o q.pf (S.bn q.mv (fun c16 => ?_) (fun c16 => ?_)))))))
              · first
              | (first | omega | contradiction)
              | refine S.sk (S.sk (S.sk (S.sk (S.sk (S.sk (S.sk (S.o q.pt (S.end (hK _ ?_)))))))))
                clear hK K
                refine Ev.ct ?_
                refine Ev.sr fun K hK => S.o q.as (S.end (hK _ ?_))
                clear hK K
                refine Ev.ret ?_
                refine hR0 _ _ ?_
                refine Ev.ret1 ?_
                refine ⟨?_, rfl⟩
                first
                 | exact bF (fun h => by have h1 := congrArg List.length h; omega)
                 | exact bF (fun h => by have he := hxy h; subst he; first | contradiction | omega)
                 | exact bF (fun h => by have he := hxy h; subst he; rw [hidk] at hidk2; simp only [Option.some.injEq] at hidk2; omega)
                 | exact bT (bars_take hinv (by omega))
              · first
              | (first | omega | contradiction)
              | refine S.o (q.fa 4 am_fi49_4 am_cl47) (S.o (q.lv am_ag47) (S.o (q.lens am_el47) (S.o (q.fa 4 am_fi49_4 am_cl47) (S.o (q.lv am_ag47) (S.o (q.lens am_el47) (S.o q.neq (S.o q.pf (S.end (hK _ ?_)))))))))
                clear hK K
                refine Ev.cn (fun c17 => ?_) (fun c17 => ?_)
                · first
                | (first | omega | contradiction)
                | refine Ev.sr fun K hK => S.o q.as (S.end (hK _ ?_))
                  clear hK K
                  refine Ev.ret ?_
                  refine hR0 _ _ ?_
                  refine Ev.ret1 ?_
                  refine ⟨?_, rfl⟩
                  first
                   | exact bF (fun h => by have h1 := congrArg List.length h; omega)
                   | exact bF (fun h => by have he := hxy h; subst he; first | contradiction | omega)
                   | exact bF (fun h => by have he := hxy h; subst he; rw [hidk] at hidk2; simp only [Option.some.injEq] at hidk2; omega)
                   | exact bT (bars_take hinv (by omega))
                · first
                | (first | omega | contradiction)
                | refine Ev.skip ?_
                  show Ev _ _ _ _
                  refine Ev.sr fun K hK => S.o q.as (S.end (hK _ ?_))
                  clear hK K
                  refine Ev.block ?_
                  refine Ev.loopU (ι := {q : List Int × List Int // q.1 ++ q.2 = s.dims ∧ s2.dims.take q.1.length = q.1}) [32, 36] [0, 1, 5, 6, 7, 14, 15, 16, 17, 20, 21, 22, 23, 24, 25, 26, 27, 28, 29, 30, 31, 32, 33, 34, 35, 36, 37, 38, 39, 40, 41, 42, 43, 44, 45, 46, 47, 48, 49, 50, 51, 52, 53, 54, 55, 56, 57, 58, 59, 60, 61, 62] (fun ⟨(prek, sufk), _⟩ => [(8, .lit (.int .i64 ((prek.length : Int))))]) (fun ⟨(prek, sufk), _⟩ => [(0, ⟨false, 49, 5, [[.lit (str (s.mark)), .lit (.int .i64 (s.size)), .lit (.int .i64 (s.count)), .lit (.int .i64 (s.code)), .sh 1 ((s.dims).map intC)]], true⟩), (1, ⟨false, 49, 5, [[.lit (str (s2.mark)), .lit (.int .i64 (s2.size)), .lit (.int .i64 (s2.count)), .lit (.int .i64 (s2.code)), .sh 1 ((s2.dims).map intC)]], true⟩)]) (fun ⟨(prek, sufk), _⟩ => sufk.length) ⟨([], s.dims), rfl, rfl⟩ (.c (.c (.c (.c (.c (.c (.c (.c (.c (.c (.c (.c (.c (.c (.c (.c (.c (.c (.c (.c (.c (.c (.c (.c (.c (.c (.c (.c (.c (.c (.c (.c (.c (.c (.c (.c (.c (.c (.c (.c (.c (.c (.c (.c (.c (.c (.c (.c (.c (.c (.c (.c .n)))))))))))))))))))))))))))))))))))))))))))))))))))) (keep_c (he := (by first | rfl | (simp; done))) (h := (keep_c (he := (by first | rfl | (simp; done))) (h := keep_n)))) (slots_c (he := (by first | rfl | (simp; done) | (congr 2; omega))) (h := trivial)) ?_
                  rintro ⟨⟨prek, sufk⟩, hpk, hinvk⟩ R2 hR2
                  dsimp only [List.cons_append, List.nil_append, List.length_cons, List.length_nil]
                  simp only at hpk hinvk
                  have hplk : prek.length + sufk.length = s.dims.length := by rw [← hpk, List.length_append]
                  rcases sufk with _ | ⟨sk, sufk⟩
                  · rw [List.append_nil] at hpk; have hpd := congrArg List.length hpk; rw [hpk] at hinvk; simp only [List.length_nil] at hplk
                    refine Ev.seq ?_
                    refine Ev.sr fun K hK => S.o q.mv (S.o (q.fa 4 am_fi49_4 am_cl47) (S.o (q.lv am_ag47) (S.o (q.lens am_el47) (S.o q.lss (S.end (hK _ ?_))))))
                    clear hK K
                    refine Ev.cd (fun c18 => ?_) (fun c18 => ?_)
                    · first
                    | (first | omega | contradiction)
                    | refine Ev.skip ?_
                      show Ev _ _ _ _
                      refine Ev.seq ?_
                      refine Ev.block ?_
                      refine Ev.sm (tbs [(0, 0), (1, 1), (0, 0), (3, 7), (4, 15), (0, 0), (6, 32), (0, 0), (8, 224), (9, 480), (10, 1023)]) 11 fun K hK => M.o (q.fa 4 am_fi49_4 am_cl47) (M.o (q.lv am_ag47) (M.o q.mv (M.o (q.ix am_el47 am_cl3 (hl := (by first | exact ati hidx (by omega) | exact ati hidx2 (by omega) | exact atig (by omega)))) (M.o (q.ls am_ag3) (M.o (q.fa 4 am_fi49_4 am_cl47) (M.o (q.lv am_ag47) (M.o q.mv (M.o (q.ix am_el47 am_cl3 (hl := (by first | exact ati hidx (by omega) | exact ati hidx2 (by omega) | exact atig (by omega)))) (M.o (q.ls am_ag3) (M.o q.neq (M.end [_, _] (h := S.end (hK _ ?_)))))))))))))
                      clear hK K
                      refine Ev.cn (fun c19 => ?_) (fun c19 => ?_)
                      · first
                      | (first | omega | contradiction)
                      | refine Ev.sr fun K hK => S.o q.as (S.end (hK _ ?_))
                        clear hK K
                        refine Ev.ret ?_
                        refine hR2 _ _ ?_
                        refine hR0 _ _ ?_
                        refine Ev.ret1 ?_
                        refine ⟨?_, rfl⟩
                        first
                         | exact bF (fun h => by have h1 := congrArg List.length h; omega)
                         | exact bF (fun h => by have he := hxy h; subst he; first | contradiction | omega)
                         | exact bF (fun h => by have he := hxy h; subst he; rw [hidk] at hidk2; simp only [Option.some.injEq] at hidk2; omega)
                         | exact bT (bars_take hinv (by omega))
                      · first
                      | (first | omega | contradiction)
                      | refine Ev.skip ?_
                        show Ev _ _ _ _
                        refine Ev.region_S fun K hK => S.o q.mv (S.o q.add (S.o q.as (S.end (hK _ ?_))))
                        clear hK K
                        refine hR2 _ _ ?_
                        refine roundU [0, 1] [0, 1, 5, 6, 7, 14, 15, 16, 17, 20, 21, 22, 23, 24, 25, 26, 27, 28, 29, 30, 31, 32, 33, 34, 35, 36, 37, 38, 39, 40, 41, 42, 43, 44, 45, 46, 47, 48, 49, 50, 51, 52, 53, 54, 55, 56, 57, 58, 59, 60, 61, 62] ⟨(prek ++ [sk], sufk), by rw [← hpk]; simp, ?_⟩ ?_ (keep_c (he := (by first | rfl | (simp; done))) (h := (keep_c (he := (by first | rfl | (simp; done))) (h := keep_n)))) (slots_c (he := (by first | rfl | (simp; done) | (congr 2; omega))) (h := trivial)) (.c (.c (.c (.c (.c (.c (.c (.c (.c (.c (.c (.c (.c (.c (.c (.c (.c (.c (.c (.c (.c (.c (.c (.c (.c (.c (.c (.c (.c (.c (.c (.c (.c (.c (.c (.c (.c (.c (.c (.c (.c (.c (.c (.c (.c (.c (.c (.c (.c (.c (.c (.c .n))))))))))))))))))))))))))))))))))))))))))))))))))))
                        simp only [List.length_append, List.length_cons, List.length_nil, Nat.zero_add]
                        rw [List.take_add_one, hinvk, hidk2]
                        simp only [Option.toList_some, List.append_cancel_left_eq, List.cons.injEq, and_true]
                        omega
                        all_goals (dsimp only; simp only [List.length_cons]; omega)
                    · first
                    | (first | omega | contradiction)
                    | refine Ev.exit ?_
                      refine hR2 _ _ ?_
                      show Ev _ _ _ _
                      have hfin : s = s2 := bar_eq (by first | assumption | omega) (by omega) (by omega) (by omega) (hinvk.symm.trans (List.take_of_length_le (by omega)))
                      refine Ev.region_S fun K hK => S.o q.mv (S.o q.add (S.o q.as (S.end (hK _ ?_))))
                      clear hK K
                      refine hR0 _ _ ?_
                      refine roundU [] [0, 1] ⟨(pre ++ [s], suf), by rw [← hp]; simp, ?_⟩ ?_ keep_n (slots_c (he := (by first | rfl | (simp; done) | (congr 2; omega))) (h := trivial)) (.c (.c .n))
                      simp only [List.length_append, List.length_cons, List.length_nil, Nat.zero_add]
                      rw [List.take_add_one, hinv, hidx2, hfin]
                      rfl
                      all_goals (dsimp only; simp only [List.length_cons]; omega)
                  · simp only [List.length_cons] at hplk
                    have hidk : s.dims[prek.length]? = some sk := by rw [← hpk]; simp
                    obtain ⟨sk2, hidk2⟩ : ∃ sk2, s2.dims[prek.length]? = some sk2 := ⟨_, List.getElem?_eq_getElem (by omega)⟩
                    refine Ev.seq ?_
                    refine Ev.sr fun K hK => S.o q.mv (S.o (q.fa 4 am_fi49_4 am_cl47) (S.o (q.lv am_ag47) (S.o (q.lens am_el47) (S.o q.lss (S.end (hK _ ?_))))))
                    clear hK K
                    refine Ev.cd (fun c20 => ?_) (fun c20 => ?_)
                    · first
                    | (first | omega | contradiction)
                    | refine Ev.skip ?_
                      show Ev _ _ _ _
                      refine Ev.seq ?_
                      refine Ev.block ?_
                      refine Ev.sm (tbs [(0, 0), (1, 1), (0, 0), (3, 7), (4, 15), (0, 0), (6, 32), (0, 0), (8, 224), (9, 480), (10, 1023)]) 11 fun K hK => M.o (q.fa 4 am_fi49_4 am_cl47) (M.o (q.lv am_ag47) (M.o q.mv (M.o (q.ix am_el47 am_cl3 (hl := (by first | exact ati hidx (by omega) | exact ati hidx2 (by omega) | exact ati hidk (by omega) | exact ati hidk2 (by omega) | exact atig (by omega)))) (M.o (q.ls am_ag3) (M.o (q.fa 4 am_fi49_4 am_cl47) (M.o (q.lv am_ag47) (M.o q.mv (M.o (q.ix am_el47 am_cl3 (hl := (by first | exact ati hidx (by omega) | exact ati hidx2 (by omega) | exact ati hidk (by omega) | exact ati hidk2 (by omega) | exact atig (by omega)))) (M.o (q.ls am_ag3) (M.o q.neq (M.end [_, _] (h := S.end (hK _ ?_)))))))))))))
                      clear hK K
                      refine Ev.cn (fun c21 => ?_) (fun c21 => ?_)
                      · first
                      | (first | omega | contradiction)
                      | refine Ev.sr fun K hK => S.o q.as (S.end (hK _ ?_))
                        clear hK K
                        refine Ev.ret ?_
                        refine hR2 _ _ ?_
                        refine hR0 _ _ ?_
                        refine Ev.ret1 ?_
                        refine ⟨?_, rfl⟩
                        first
                         | exact bF (fun h => by have h1 := congrArg List.length h; omega)
                         | exact bF (fun h => by have he := hxy h; subst he; first | contradiction | omega)
                         | exact bF (fun h => by have he := hxy h; subst he; rw [hidk] at hidk2; simp only [Option.some.injEq] at hidk2; omega)
                         | exact bT (bars_take hinv (by omega))
                      · first
                      | (first | omega | contradiction)
                      | refine Ev.skip ?_
                        show Ev _ _ _ _
                        refine Ev.region_S fun K hK => S.o q.mv (S.o q.add (S.o q.as (S.end (hK _ ?_))))
                        clear hK K
                        refine hR2 _ _ ?_
                        refine roundU [0, 1] [0, 1, 5, 6, 7, 14, 15, 16, 17, 20, 21, 22, 23, 24, 25, 26, 27, 28, 29, 30, 31, 32, 33, 34, 35, 36, 37, 38, 39, 40, 41, 42, 43, 44, 45, 46, 47, 48, 49, 50, 51, 52, 53, 54, 55, 56, 57, 58, 59, 60, 61, 62] ⟨(prek ++ [sk], sufk), by rw [← hpk]; simp, ?_⟩ ?_ (keep_c (he := (by first | rfl | (simp; done))) (h := (keep_c (he := (by first | rfl | (simp; done))) (h := keep_n)))) (slots_c (he := (by first | rfl | (simp; done) | (congr 2; omega))) (h := trivial)) (.c (.c (.c (.c (.c (.c (.c (.c (.c (.c (.c (.c (.c (.c (.c (.c (.c (.c (.c (.c (.c (.c (.c (.c (.c (.c (.c (.c (.c (.c (.c (.c (.c (.c (.c (.c (.c (.c (.c (.c (.c (.c (.c (.c (.c (.c (.c (.c (.c (.c (.c (.c .n))))))))))))))))))))))))))))))))))))))))))))))))))))
                        simp only [List.length_append, List.length_cons, List.length_nil, Nat.zero_add]
                        rw [List.take_add_one, hinvk, hidk2]
                        simp only [Option.toList_some, List.append_cancel_left_eq, List.cons.injEq, and_true]
                        omega
                        all_goals (dsimp only; simp only [List.length_cons]; omega)
                    · first
                    | (first | omega | contradiction)
                    | refine Ev.exit ?_
                      refine hR2 _ _ ?_
                      show Ev _ _ _ _
                      have hfin : s = s2 := bar_eq (by first | assumption | omega) (by omega) (by omega) (by omega) (hinvk.symm.trans (List.take_of_length_le (by omega)))
                      refine Ev.region_S fun K hK => S.o q.mv (S.o q.add (S.o q.as (S.end (hK _ ?_))))
                      clear hK K
                      refine hR0 _ _ ?_
                      refine roundU [] [0, 1] ⟨(pre ++ [s], suf), by rw [← hp]; simp, ?_⟩ ?_ keep_n (slots_c (he := (by first | rfl | (simp; done) | (congr 2; omega))) (h := trivial)) (.c (.c .n))
                      simp only [List.length_append, List.length_cons, List.length_nil, Nat.zero_add]
                      rw [List.take_add_one, hinv, hidx2, hfin]
                      rfl
                      all_goals (dsimp only; simp only [List.length_cons]; omega)
      · first
      | (first | omega | contradiction)
      | refine Ev.exit ?_
        refine hR0 _ _ ?_
        show Ev _ _ _ _
        refine Ev.sr fun K hK => S.o q.as (S.end (hK _ ?_))
        clear hK K
        refine Ev.ret ?_
        refine Ev.ret1 ?_
        refine ⟨?_, rfl⟩
        first
         | exact bF (fun h => by have h1 := congrArg List.length h; omega)
         | exact bF (fun h => by have he := hxy h; subst he; first | contradiction | omega)
         | exact bF (fun h => by have he := hxy h; subst he; rw [hidk] at hidk2; simp only [Option.some.injEq] at hidk2; omega)
         | exact bT (bars_take hinv (by omega))
end Go.Proofs.YtddogeicmhbidaaGreatDoor
