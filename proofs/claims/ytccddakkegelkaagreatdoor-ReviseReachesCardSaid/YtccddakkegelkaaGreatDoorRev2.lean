/-
  Layer 41: comparing schedules.
  Conditions: none.
-/
import Derived.Test.YtccddakkegelkaaGreatDoorRev1
import Derived.Test.YtccddakkegelkaaGreatDoorSteel
import Derived.Test.YtccddakkegelkaaGreatDoorRev5
namespace Go.Proofs.YtccddakkegelkaaGreatDoor
open Go Go.AM
set_option linter.unusedSimpArgs false
set_option linter.unusedVariables false
set_option maxRecDepth 100000

theorem eqInts_fun (a b : List Int) (ha : a.length ≤ 140737488355328) (hb : b.length ≤ 140737488355328) : Fun Tryz.prog 67 [.sh 1 (a.map intC), .sh 1 (b.map intC)] (Ret (.lit (.bool (decide (a = b)))) []) := by
  refine Fun.of (nt := 26) (rs := [.tmp 4]) Tryz.func67 rfl rfl rfl rfl rfl ?_
  refine Ev.sr fun K hK => S.o q.as (S.end (hK _ ?_))
  clear hK K
  refine Ev.seq ?_
  refine Ev.sr fun K hK => S.o q.mv (S.o (q.lens am_el42) (S.o q.mv (S.o (q.lens am_el42) (S.o q.neq (S.end (hK _ ?_))))))
  clear hK K
  refine Ev.cn (fun c1 => ?_) (fun c1 => ?_)
  · first
  | (first | omega | contradiction)
  | refine Ev.sr fun K hK => S.o q.as (S.end (hK _ ?_))
    clear hK K
    refine Ev.ret ?_
    refine Ev.ret1 ?_
    refine ⟨?_, rfl⟩
    first
     | exact bF (fun h => by subst h; omega)
     | exact bF (fun h => by subst h; rw [hidx] at hidx2; simp only [Option.some.injEq] at hidx2; omega)
     | exact bT (hinv.symm.trans (List.take_of_length_le (by omega)))
  · first
  | (first | omega | contradiction)
  | refine Ev.skip ?_
    show Ev _ _ _ _
    refine Ev.seq ?_
    refine Ev.sr fun K hK => S.o q.mv (S.o (q.lens am_el42) (S.o q.mv (S.end (hK _ ?_))))
    clear hK K
    refine Ev.block ?_
    refine Ev.loopU (ι := {q : List Int × List Int // q.1 ++ q.2 = a ∧ b.take q.1.length = q.1}) [] [0, 1, 12] (fun ⟨(pre, suf), _⟩ => [(13, .lit (.int .i64 ((pre.length : Int))))]) (fun ⟨(pre, suf), _⟩ => []) (fun ⟨(pre, suf), _⟩ => suf.length) ⟨([], a), rfl, rfl⟩ (.c (.c (.c .n))) keep_n (slots_c (he := (by first | rfl | (simp; done) | (congr 2; omega))) (h := trivial)) ?_
    rintro ⟨⟨pre, suf⟩, hp, hinv⟩ R0 hR0
    dsimp only [List.cons_append, List.nil_append, List.length_cons, List.length_nil]
    simp only at hp hinv
    have hpl : pre.length + suf.length = (a).length := by rw [← hp, List.length_append]
    rcases suf with _ | ⟨s, suf⟩
    · rw [List.append_nil] at hp; subst hp; simp only [List.length_nil] at hpl
      refine Ev.sr fun K hK => S.o q.lss (S.end (hK _ ?_))
      clear hK K
      refine Ev.ud (fun c2 => ?_) (fun c2 => ?_)
      · first
      | (first | omega | contradiction)
      | refine Ev.seq ?_
        refine Ev.block ?_
        refine Ev.sr fun K hK => S.o q.mv (S.o q.as (S.end (hK _ ?_)))
        clear hK K
        refine Ev.sm (tbs [(0, 0), (0, 0), (2, 3), (3, 7), (0, 0), (0, 0), (6, 48), (7, 112), (8, 255)]) 9 fun K hK => M.o q.mv (M.o q.mv (M.o (q.ix am_el42 am_cl3 (hl := (by first | exact atig (by omega)))) (M.o (q.ls am_ag3) (M.o q.mv (M.o q.mv (M.o (q.ix am_el42 am_cl3 (hl := (by first | exact atig (by omega)))) (M.o (q.ls am_ag3) (M.o q.neq (M.end [] (h := S.end (hK _ ?_)))))))))))
        clear hK K
        refine Ev.cn (fun c3 => ?_) (fun c3 => ?_)
        · first
        | (first | omega | contradiction)
        | refine Ev.sr fun K hK => S.o q.as (S.end (hK _ ?_))
          clear hK K
          refine Ev.ret ?_
          refine hR0 _ _ ?_
          refine Ev.ret1 ?_
          refine ⟨?_, rfl⟩
          first
           | exact bF (fun h => by subst h; omega)
           | exact bF (fun h => by subst h; rw [hidx] at hidx2; simp only [Option.some.injEq] at hidx2; omega)
           | exact bT (hinv.symm.trans (List.take_of_length_le (by omega)))
        · first
        | (first | omega | contradiction)
        | refine Ev.skip ?_
          show Ev _ _ _ _
          refine Ev.region_S fun K hK => S.o q.add (S.o q.mv (S.end (hK _ ?_)))
          clear hK K
          refine hR0 _ _ ?_
          refine roundU [] [0, 1, 12] ⟨(pre ++ [s], suf), by rw [← hp]; simp, ?_⟩ ?_ keep_n (slots_c (he := (by first | rfl | (simp; done) | (congr 2; omega))) (h := trivial)) (.c (.c (.c .n)))
          simp only [List.length_append, List.length_cons, List.length_nil, Nat.zero_add]
          rw [List.take_add_one, hinv, hidx2]
          simp only [Option.toList_some, List.append_cancel_left_eq, List.cons.injEq, and_true]
          omega
          all_goals (dsimp only; simp only [List.length_cons]; omega)
      · first
      | (first | omega | contradiction)
      | refine Ev.exit ?_
        refine hR0 _ _ ?_
        show Ev _ _ _ _
        refine Ev.sr fun K hK => S.o q.as (S.end (hK _ ?_))
        clear hK K
        refine Ev.ret ?_
        refine Ev.ret1 ?_
        refine ⟨?_, rfl⟩
        first
         | exact bF (fun h => by subst h; omega)
         | exact bF (fun h => by subst h; rw [hidx] at hidx2; simp only [Option.some.injEq] at hidx2; omega)
         | exact bT (hinv.symm.trans (List.take_of_length_le (by omega)))
    · simp only [List.length_cons] at hpl
      have hidx : (a)[pre.length]? = some s := by rw [← hp]; simp
      obtain ⟨s2, hidx2⟩ : ∃ s2, b[pre.length]? = some s2 := ⟨_, List.getElem?_eq_getElem (by omega)⟩
      refine Ev.sr fun K hK => S.o q.lss (S.end (hK _ ?_))
      clear hK K
      refine Ev.ud (fun c4 => ?_) (fun c4 => ?_)
      · first
      | (first | omega | contradiction)
      | refine Ev.seq ?_
        refine Ev.block ?_
        refine Ev.sr fun K hK => S.o q.mv (S.o q.as (S.end (hK _ ?_)))
        clear hK K
        refine Ev.sm (tbs [(0, 0), (0, 0), (2, 3), (3, 7), (0, 0), (0, 0), (6, 48), (7, 112), (8, 255)]) 9 fun K hK => M.o q.mv (M.o q.mv (M.o (q.ix am_el42 am_cl3 (hl := (by first | exact ati hidx (by omega) | exact ati hidx2 (by omega) | exact atig (by omega)))) (M.o (q.ls am_ag3) (M.o q.mv (M.o q.mv (M.o (q.ix am_el42 am_cl3 (hl := (by first | exact ati hidx (by omega) | exact ati hidx2 (by omega) | exact atig (by omega)))) (M.o (q.ls am_ag3) (M.o q.neq (M.end [] (h := S.end (hK _ ?_)))))))))))
        clear hK K
        refine Ev.cn (fun c5 => ?_) (fun c5 => ?_)
        · first
        | (first | omega | contradiction)
        | refine Ev.sr fun K hK => S.o q.as (S.end (hK _ ?_))
          clear hK K
          refine Ev.ret ?_
          refine hR0 _ _ ?_
          refine Ev.ret1 ?_
          refine ⟨?_, rfl⟩
          first
           | exact bF (fun h => by subst h; omega)
           | exact bF (fun h => by subst h; rw [hidx] at hidx2; simp only [Option.some.injEq] at hidx2; omega)
           | exact bT (hinv.symm.trans (List.take_of_length_le (by omega)))
        · first
        | (first | omega | contradiction)
        | refine Ev.skip ?_
          show Ev _ _ _ _
          refine Ev.region_S fun K hK => S.o q.add (S.o q.mv (S.end (hK _ ?_)))
          clear hK K
          refine hR0 _ _ ?_
          refine roundU [] [0, 1, 12] ⟨(pre ++ [s], suf), by rw [← hp]; simp, ?_⟩ ?_ keep_n (slots_c (he := (by first | rfl | (simp; done) | (congr 2; omega))) (h := trivial)) (.c (.c (.c .n)))
          simp only [List.length_append, List.length_cons, List.length_nil, Nat.zero_add]
          rw [List.take_add_one, hinv, hidx2]
          simp only [Option.toList_some, List.append_cancel_left_eq, List.cons.injEq, and_true]
          omega
          all_goals (dsimp only; simp only [List.length_cons]; omega)
      · first
      | (first | omega | contradiction)
      | refine Ev.exit ?_
        refine hR0 _ _ ?_
        show Ev _ _ _ _
        refine Ev.sr fun K hK => S.o q.as (S.end (hK _ ?_))
        clear hK K
        refine Ev.ret ?_
        refine Ev.ret1 ?_
        refine ⟨?_, rfl⟩
        first
         | exact bF (fun h => by subst h; omega)
         | exact bF (fun h => by subst h; rw [hidx] at hidx2; simp only [Option.some.injEq] at hidx2; omega)
         | exact bT (hinv.symm.trans (List.take_of_length_le (by omega)))

theorem idxP_find {T : Type} (p : T → Bool) : ∀ (l : List T) (k : Int), 0 ≤ k → (idxP p l k < 0 → l.find? p = none) ∧ (0 ≤ idxP p l k → ∃ x, l.find? p = some x ∧ l[(idxP p l k - k).toNat]? = some x)
  | [], k, hk => by simp [idxP]
  | x :: l, k, hk => by
    rw [idxP]
    split
    · rename_i hx
      exact ⟨fun h => by omega, fun _ => ⟨x, by simp [hx], by simp⟩⟩
    · rename_i hx
      obtain ⟨h1, h2⟩ := idxP_find p l (k + 1) (by omega)
      have hx' : p x = false := by simpa using hx
      refine ⟨fun h => by simp [hx', h1 h], fun h => ?_⟩
      obtain ⟨y, h3, h4⟩ := h2 h
      have := (idxP_get p l (k + 1) (by omega) h).1
      refine ⟨y, by simp [hx', h3], ?_⟩
      rw [show (idxP p l (k + 1) - k).toNat = (idxP p l (k + 1) - (k + 1)).toNat + 1 by omega]
      simpa using h4
def barAt (l : List Bar) (mk : List UInt8) : Option Bar := l.find? fun b => decide (b.mark = mk)
theorem barAt_none {l : List Bar} {mk : List UInt8} (h : markI l mk < 0) : barAt l mk = none := (idxP_find _ l 0 (Int.le_refl _)).1 h
theorem barAt_some {l : List Bar} {mk : List UInt8} (h : 0 ≤ markI l mk) : ∃ y, barAt l mk = some y ∧ l[(markI l mk).toNat]? = some y ∧ y ∈ l ∧ y.mark = mk := by
  obtain ⟨y, h1, h2⟩ := (idxP_find (fun b : Bar => decide (b.mark = mk)) l 0 (Int.le_refl _)).2 h
  rw [Int.sub_zero] at h2
  exact ⟨y, h1, h2, List.mem_of_getElem? h2, by simpa using List.find?_some h1⟩
def sameD (x y : Bar) : Prop := x.size = y.size ∧ x.code = y.code ∧ x.dims = y.dims
instance (x y) : Decidable (sameD x y) := by unfold sameD; infer_instance
def sameV (x y : Bar) : Prop := okBar x ∧ okBar y ∧ sameD x y
instance (x y) : Decidable (sameV x y) := by unfold sameV; infer_instance
def sameE (x y : Bar) : Int := if okBar x ∧ okBar y then 0 else 1
theorem okBar_w {b : Bar} (h : okBar b) : b.w := by
  have h1 := isName_len h.1
  have h2 := h.2.2.2.2.2.1
  have h3 : dimsN b.code ≤ 5 := by unfold dimsN; repeat' split <;> omega
  exact ⟨by omega, by omega⟩
theorem same_fun (x y : Bar) (hx : x.w) (hy : y.w) : Fun Tryz.prog 45 [.agg x.c, .agg y.c] (Ret (.tup [.lit (.bool (decide (sameV x y))), .lit (.int .i64 (sameE x y))]) []) := by
  obtain ⟨hx1, hx2⟩ := hx
  obtain ⟨hy1, hy2⟩ := hy
  have hx : x.w := ⟨hx1, hx2⟩
  have hy : y.w := ⟨hy1, hy2⟩
  refine Fun.of (nt := 33) (rs := [.tmp 4, .tmp 5]) Tryz.func45 rfl rfl rfl rfl rfl ?_
  refine Ev.sr fun K hK => S.nn (q.bx [_, _, _, _, _] true) (S.nn (q.bx [_, _, _, _, _] true) (S.o q.as (S.o q.as (S.end (hK _ ?_)))))
  clear hK K
  refine Ev.seq ?_
  refine Ev.sr fun K hK => S.o (q.lvA [_, _, _, _, _] am_ag44 am_cl44) (S.c0 (hF := valid_fun _ (by assumption)) (h := S.o q.not (S.bn q.mv (fun c1 => ?_) (fun c1 => ?_))))
  · first
  | (first | omega | contradiction)
  | refine S.sk (S.sk (S.sk (S.o q.pt (S.end (hK _ ?_)))))
    clear hK K
    refine Ev.ct ?_
    refine Ev.sr fun K hK => S.o q.as (S.o q.as (S.end (hK _ ?_)))
    clear hK K
    refine Ev.ret ?_
    refine Ev.ret2 ?_
    refine ⟨?_, rfl⟩
    first
     | (rw [show sameE x y = 1 from if_neg (fun h => absurd h.1 ‹_›), decide_eq_false (fun h : sameV x y => absurd h.1 ‹_›)]; done) | (rw [show sameE x y = 1 from if_neg (fun h => absurd h.2 ‹_›), decide_eq_false (fun h : sameV x y => absurd h.2.1 ‹_›)]; done)
     | (rw [show sameE x y = 0 from if_pos ⟨‹_›, ‹_›⟩]; congr 4; first | (rw [decide_eq_decide]; exact ⟨fun h => ⟨‹_›, ‹_›, by omega, by omega, h⟩, fun h => h.2.2.2.2⟩) | exact (decide_eq_false (fun h : sameV x y => by have h1 := h.2.2.1; have h2 := h.2.2.2.1; omega)).symm)
  · first
  | (first | omega | contradiction)
  | refine S.o (q.lvA [_, _, _, _, _] am_ag44 am_cl44) (S.c0 (hF := valid_fun _ (by assumption)) (h := S.o q.not (S.o q.pf (S.end (hK _ ?_)))))
    clear hK K
    refine Ev.cn (fun c2 => ?_) (fun c2 => ?_)
    · first
    | (first | omega | contradiction)
    | refine Ev.sr fun K hK => S.o q.as (S.o q.as (S.end (hK _ ?_)))
      clear hK K
      refine Ev.ret ?_
      refine Ev.ret2 ?_
      refine ⟨?_, rfl⟩
      first
       | (rw [show sameE x y = 1 from if_neg (fun h => absurd h.1 ‹_›), decide_eq_false (fun h : sameV x y => absurd h.1 ‹_›)]; done) | (rw [show sameE x y = 1 from if_neg (fun h => absurd h.2 ‹_›), decide_eq_false (fun h : sameV x y => absurd h.2.1 ‹_›)]; done)
       | (rw [show sameE x y = 0 from if_pos ⟨‹_›, ‹_›⟩]; congr 4; first | (rw [decide_eq_decide]; exact ⟨fun h => ⟨‹_›, ‹_›, by omega, by omega, h⟩, fun h => h.2.2.2.2⟩) | exact (decide_eq_false (fun h : sameV x y => by have h1 := h.2.2.1; have h2 := h.2.2.2.1; omega)).symm)
    · first
    | (first | omega | contradiction)
    | refine Ev.skip ?_
      show Ev _ _ _ _
      refine Ev.sr fun K hK => S.o (q.fa 1 am_fi44_1 am_cl3) (S.o (q.lv am_ag3) (S.o (q.fa 1 am_fi44_1 am_cl3) (S.o (q.lv am_ag3) (S.o q.eql (S.bd q.mv (fun c3 => ?_) (fun c3 => ?_))))))
      · first
      | (first | omega | contradiction)
      | refine S.o (q.fa 3 am_fi44_3 am_cl3) (S.o (q.lv am_ag3) (S.o (q.fa 3 am_fi44_3 am_cl3) (S.o (q.lv am_ag3) (S.o q.eql (S.o q.pt (S.bd q.mv (fun c4 => ?_) (fun c4 => ?_)))))))
        · first
        | (first | omega | contradiction)
        | refine S.o (q.fa 4 am_fi44_4 am_cl42) (S.o (q.lv am_ag42) (S.o (q.fa 4 am_fi44_4 am_cl42) (S.o (q.lv am_ag42) (S.c0 (hF := eqInts_fun _ _ (by omega) (by omega)) (h := S.o q.pt (S.o q.as (S.o q.as (S.end (hK _ ?_)))))))))
          clear hK K
          refine Ev.ret ?_
          refine Ev.ret2 ?_
          refine ⟨?_, rfl⟩
          first
           | (rw [show sameE x y = 1 from if_neg (fun h => absurd h.1 ‹_›), decide_eq_false (fun h : sameV x y => absurd h.1 ‹_›)]; done) | (rw [show sameE x y = 1 from if_neg (fun h => absurd h.2 ‹_›), decide_eq_false (fun h : sameV x y => absurd h.2.1 ‹_›)]; done)
           | (rw [show sameE x y = 0 from if_pos ⟨‹_›, ‹_›⟩]; congr 4; first | (rw [decide_eq_decide]; exact ⟨fun h => ⟨‹_›, ‹_›, by omega, by omega, h⟩, fun h => h.2.2.2.2⟩) | exact (decide_eq_false (fun h : sameV x y => by have h1 := h.2.2.1; have h2 := h.2.2.2.1; omega)).symm)
        · first
        | (first | omega | contradiction)
        | refine S.sk (S.sk (S.sk (S.sk (S.sk (S.o q.pf (S.o q.as (S.o q.as (S.end (hK _ ?_)))))))))
          clear hK K
          refine Ev.ret ?_
          refine Ev.ret2 ?_
          refine ⟨?_, rfl⟩
          first
           | (rw [show sameE x y = 1 from if_neg (fun h => absurd h.1 ‹_›), decide_eq_false (fun h : sameV x y => absurd h.1 ‹_›)]; done) | (rw [show sameE x y = 1 from if_neg (fun h => absurd h.2 ‹_›), decide_eq_false (fun h : sameV x y => absurd h.2.1 ‹_›)]; done)
           | (rw [show sameE x y = 0 from if_pos ⟨‹_›, ‹_›⟩]; congr 4; first | (rw [decide_eq_decide]; exact ⟨fun h => ⟨‹_›, ‹_›, by omega, by omega, h⟩, fun h => h.2.2.2.2⟩) | exact (decide_eq_false (fun h : sameV x y => by have h1 := h.2.2.1; have h2 := h.2.2.2.1; omega)).symm)
      · first
      | (first | omega | contradiction)
      | refine S.sk (S.sk (S.sk (S.sk (S.sk (S.o q.pf (S.o q.mv (S.sk (S.sk (S.sk (S.sk (S.sk (S.o q.pf (S.o q.as (S.o q.as (S.end (hK _ ?_))))))))))))))))
        clear hK K
        refine Ev.ret ?_
        refine Ev.ret2 ?_
        refine ⟨?_, rfl⟩
        first
         | (rw [show sameE x y = 1 from if_neg (fun h => absurd h.1 ‹_›), decide_eq_false (fun h : sameV x y => absurd h.1 ‹_›)]; done) | (rw [show sameE x y = 1 from if_neg (fun h => absurd h.2 ‹_›), decide_eq_false (fun h : sameV x y => absurd h.2.1 ‹_›)]; done)
         | (rw [show sameE x y = 0 from if_pos ⟨‹_›, ‹_›⟩]; congr 4; first | (rw [decide_eq_decide]; exact ⟨fun h => ⟨‹_›, ‹_›, by omega, by omega, h⟩, fun h => h.2.2.2.2⟩) | exact (decide_eq_false (fun h : sameV x y => by have h1 := h.2.2.1; have h2 := h.2.2.2.1; omega)).symm)

def kindOf (b : List Bar) (x : Bar) : Int := match barAt b x.mark with
  | none => 4
  | some y => if sameD x y ∧ x.count = y.count then 1 else 2
theorem kind_4 {b : List Bar} {s : Bar} (h : markI b s.mark < 0) : kindOf b s = 4 := by rw [kindOf, barAt_none h]
theorem kind_1 {b : List Bar} {s y : Bar} (hy : barAt b s.mark = some y) (h1 : sameV s y) (h2 : s.count = y.count) : kindOf b s = 1 := by rw [kindOf, hy]; exact if_pos ⟨h1.2.2, h2⟩
theorem kind_2 {b : List Bar} {s y : Bar} (hy : barAt b s.mark = some y) (hs : okBar s) (hok : okBar y) (h1 : ¬ sameV s y) : kindOf b s = 2 := by rw [kindOf, hy]; exact if_neg fun h => h1 ⟨hs, hok, h.1⟩
theorem kind_2c {b : List Bar} {s y : Bar} (hy : barAt b s.mark = some y) (h1 : ¬ s.count = y.count) : kindOf b s = 2 := by rw [kindOf, hy]; exact if_neg fun h => h1 h.2
def cK (b : List Bar) (x : Bar) : Chg := (kindOf b x, x.mark)
def newP (a : List Bar) (x : Bar) : Bool := decide (markI a x.mark < 0)
def addK (x : Bar) : Chg := (3, x.mark)
def cmpP (a b : List Bar) : List Chg := a.map (cK b) ++ (b.filter (newP a)).map addK
theorem cmp_snoc {b pre : List Bar} {s : Bar} {k : Int} (h : kindOf b s = k) : (pre.map (cK b) ++ [(k, s.mark)]).map findC = ((pre ++ [s]).map (cK b)).map findC := by
  subst h
  simp [cK]
theorem add_snoc {a pre : List Bar} {s : Bar} {l : List Chg} (h : markI a s.mark < 0) : ((l ++ (pre.filter (newP a)).map addK) ++ [(3, s.mark)]).map findC = (l ++ ((pre ++ [s]).filter (newP a)).map addK).map findC := by
  rw [List.filter_append, show [s].filter (newP a) = [s] by simp [newP, h]]
  simp [addK]
theorem add_skip {a pre : List Bar} {s : Bar} {l : List Chg} (h : ¬ markI a s.mark < 0) : (l ++ (pre.filter (newP a)).map addK).map findC = (l ++ ((pre ++ [s]).filter (newP a)).map addK).map findC := by
  rw [List.filter_append, show [s].filter (newP a) = [] by simp [newP, h], List.append_nil]
theorem add_skip_n {a pre : List Bar} {s : Bar} (h : ¬ markI a s.mark < 0) : (pre ++ [s]).filter (newP a) = pre.filter (newP a) := by
  rw [List.filter_append, show [s].filter (newP a) = [] by simp [newP, h], List.append_nil]
theorem add_snoc_n {a pre : List Bar} {s : Bar} (h : markI a s.mark < 0) : (pre ++ [s]).filter (newP a) = pre.filter (newP a) ++ [s] := by
  rw [List.filter_append, show [s].filter (newP a) = [s] by simp [newP, h]]
theorem filter_le {T : Type} (p : T → Bool) (l : List T) : (l.filter p).length ≤ l.length := List.length_filter_le p l
theorem compare_fun (a b : List Bar) (ha : okSched a) (hb : okSched b) : Fun Tryz.prog 25 [.sh 5 (a.map Bar.c), .sh 5 (b.map Bar.c)] (Ret (.sh 2 ((cmpP a b).map findC)) []) := by
  have hal := ha.1
  have hbl := hb.1
  refine Fun.of (nt := 77) (rs := [.tmp 4]) Tryz.func25 rfl rfl rfl rfl rfl ?_
  refine Ev.sr fun K hK => S.o q.as (S.end (hK _ ?_))
  clear hK K
  refine Ev.sr fun K hK => S.o q.as (S.end (hK _ ?_))
  clear hK K
  refine Ev.seq ?_
  refine Ev.sr fun K hK => S.o q.mv (S.o (q.lens am_el22) (S.o q.mv (S.end (hK _ ?_))))
  clear hK K
  refine Ev.block ?_
  refine Ev.weaken (Wk.nown findC 5 34 2) ?_
  refine Ev.loopU (ι := {p : List (Bar) × List (Bar) // p.1 ++ p.2 = a ∧ True}) [0] [0, 1, 4, 14, 15] (fun ⟨(pre, suf), _⟩ => [(16, .lit (.int .i64 ((pre.length : Int)))), (5, .als 0 0 (pre.map (cK b)).length)]) (fun ⟨(pre, suf), _⟩ => [(0, ⟨true, 34, 2, (pre.map (cK b)).map findC, true⟩)]) (fun ⟨(pre, suf), _⟩ => suf.length) ⟨([], a), rfl, trivial⟩ (.c (.c (.c (.c (.c .n))))) (keep_c (he := (by first | rfl | exact cmp_snoc (kind_4 (by omega)) | exact cmp_snoc (kind_1 hy ‹_› (by omega)) | exact cmp_snoc (kind_2 hy hsok hyok ‹_›) | exact cmp_snoc (kind_2c hy (by omega)))) (h := keep_n)) (slots_c (he := (by first | rfl | (congr 2; simp; done))) (h := (slots_c (he := (by first | rfl | (congr 1; simp; done))) (h := trivial)))) ?_
  rintro ⟨⟨pre, suf⟩, hp, hinv⟩ R0 hR0
  dsimp only [List.cons_append, List.nil_append, List.length_cons, List.length_nil]
  simp only at hp hinv
  have hpl : pre.length + suf.length = (a).length := by rw [← hp, List.length_append]
  rcases suf with _ | ⟨s, suf⟩
  · rw [List.append_nil] at hp; subst pre; simp only [List.length_nil] at hpl
    refine Ev.sr fun K hK => S.o q.lss (S.end (hK _ ?_))
    clear hK K
    refine Ev.ud (fun c1 => ?_) (fun c1 => ?_)
    · first
    | (first | omega | contradiction)
    | refine Ev.seq ?_
      refine Ev.block ?_
      refine Ev.sr fun K hK => S.o (q.ix am_el22 am_cl44 (hl := (by first | exact ati hyi (by omega) | exact atig (by omega)))) (S.o (q.lsA [_, _, _, _, _] am_ag44 am_cl44) (S.nn (q.al am_ze44) (S.sv [_, _, _, _, _] true [_] am_in44 am_cl44 (h := S.end (hK _ ?_)))))
      clear hK K
      refine Ev.sr fun K hK => S.o q.as (S.end (hK _ ?_))
      clear hK K
      refine Ev.seq ?_
      refine Ev.sr fun K hK => S.o q.mv (S.o (q.fa 0 am_fi44_0 am_cl9) (S.o (q.lv am_ag9) (S.c0 (hF := find_fun _ _ (by omega)) (h := S.o q.as (S.end (hK _ ?_))))))
      clear hK K
      refine Ev.sr fun K hK => S.o q.mv (S.o q.geq (S.end (hK _ ?_)))
      clear hK K
      refine Ev.cd (fun c2 => ?_) (fun c2 => ?_)
      · first
      | (first | omega | contradiction)
      | obtain ⟨y, hy, hyi, hym, hyk⟩ := barAt_some ‹0 ≤ markI b s.mark›
        have hyok : okBar y := hb.2.1 y hym
        have hyw : y.w := okBar_w hyok
        have hE : sameE s y = 0 := if_pos ⟨hsok, hyok⟩
        refine Ev.sr fun K hK => S.o q.as (S.end (hK _ ?_))
        clear hK K
        refine Ev.sm (tbs [(0, 0), (0, 0), (0, 0), (3, 6), (4, 14), (5, 31), (6, 63), (7, 127), (7, 127), (8, 255), (10, 1023)]) 10 fun K hK => M.o (q.lvA [_, _, _, _, _] am_ag44 am_cl44) (M.o q.mv (M.o q.mv (M.o (q.ix am_el22 am_cl44 (hl := (by first | exact ati hyi (by omega) | exact atig (by omega)))) (M.o (q.lsA [_, _, _, _, _] am_ag44 am_cl44) (M.c0 (hF := same_fun _ _ (by assumption) (by assumption)) (h := M.o q.mv (M.o q.ex (M.o q.ex (M.o q.as (M.end [_, _] (h := S.o q.as (S.end (hK _ ?_)))))))))))))
        clear hK K
        refine Ev.sm (tbs [(0, 0), (1, 1), (2, 3), (3, 7), (4, 15), (5, 31), (6, 63), (7, 127), (6, 63), (6, 63), (10, 831), (11, 1855), (12, 3903), (13, 8191), (14, 16383)]) 15 fun K hK => M.o q.mv (M.o q.eql (M.bd q.mv (fun c3 => ?_) (fun c3 => ?_)))
        · first
        | (first | omega | contradiction)
        | refine M.o q.mv (M.o q.pt (M.bd q.mv (fun c4 => ?_) (fun c4 => ?_)))
          · first
          | (first | omega | contradiction)
          | refine M.o (q.fa 2 am_fi44_2 am_cl3) (M.o (q.lv am_ag3) (M.o q.mv (M.o q.mv (M.o (q.ix am_el22 am_cl44 (hl := (by first | exact ati hyi (by omega) | exact atig (by omega)))) (M.o (q.fs 2 am_fi44_2 am_cl3) (M.o (q.ls am_ag3) (M.o q.eql (M.o q.pt (M.end [_, _] (h := S.end (hK _ ?_)))))))))))
            clear hK K
            refine Ev.cd (fun c5 => ?_) (fun c5 => ?_)
            · first
            | (first | omega | contradiction)
            | refine Ev.region_S fun K hK => S.o q.as (S.end (hK _ ?_))
              clear hK K
              show Ev _ _ _ _
              refine Ev.region_S fun K hK => S.o q.mv (S.o q.mv (S.o (q.fa 0 am_fi44_0 am_cl9) (S.o (q.lv am_ag9) (S.o (q.bd [_, _] am_ze34 am_pl34) (S.nn (q.bs [[_, _]] true am_el25 am_ze34 am_cl34) (S.ap' [_, _] am_el25 am_ze34 am_cl34 am_by34 (hh := head_own') (hr := (rows_lit [(⟨_, _⟩ : Int × List UInt8)])) (h := S.o q.as (S.end (hK _ ?_)))))))))
              clear hK K
              show Ev _ _ _ _
              refine Ev.region_S fun K hK => S.o q.add (S.o q.mv (S.end (hK _ ?_)))
              clear hK K
              refine hR0 _ _ ?_
              refine roundU [103] [0, 1, 4, 14, 15] ⟨(pre ++ [s], suf), by rw [← hp]; simp, ?_⟩ ?_ (keep_c (he := (by first | rfl | exact cmp_snoc (kind_4 (by omega)) | exact cmp_snoc (kind_1 hy ‹_› (by omega)) | exact cmp_snoc (kind_2 hy hsok hyok ‹_›) | exact cmp_snoc (kind_2c hy (by omega)))) (h := keep_n)) (slots_c (he := (by first | rfl | (congr 2; simp; done))) (h := (slots_c (he := (by first | rfl | (congr 1; simp; done))) (h := trivial)))) (.c (.c (.c (.c (.c .n)))))
              trivial
              all_goals (dsimp only; simp only [List.length_cons]; omega)
            · first
            | (first | omega | contradiction)
            | refine Ev.skip ?_
              show Ev _ _ _ _
              refine Ev.region_S fun K hK => S.o q.mv (S.o q.mv (S.o (q.fa 0 am_fi44_0 am_cl9) (S.o (q.lv am_ag9) (S.o (q.bd [_, _] am_ze34 am_pl34) (S.nn (q.bs [[_, _]] true am_el25 am_ze34 am_cl34) (S.ap' [_, _] am_el25 am_ze34 am_cl34 am_by34 (hh := head_own') (hr := (rows_lit [(⟨_, _⟩ : Int × List UInt8)])) (h := S.o q.as (S.end (hK _ ?_)))))))))
              clear hK K
              show Ev _ _ _ _
              refine Ev.region_S fun K hK => S.o q.add (S.o q.mv (S.end (hK _ ?_)))
              clear hK K
              refine hR0 _ _ ?_
              refine roundU [103] [0, 1, 4, 14, 15] ⟨(pre ++ [s], suf), by rw [← hp]; simp, ?_⟩ ?_ (keep_c (he := (by first | rfl | exact cmp_snoc (kind_4 (by omega)) | exact cmp_snoc (kind_1 hy ‹_› (by omega)) | exact cmp_snoc (kind_2 hy hsok hyok ‹_›) | exact cmp_snoc (kind_2c hy (by omega)))) (h := keep_n)) (slots_c (he := (by first | rfl | (congr 2; simp; done))) (h := (slots_c (he := (by first | rfl | (congr 1; simp; done))) (h := trivial)))) (.c (.c (.c (.c (.c .n)))))
              trivial
              all_goals (dsimp only; simp only [List.length_cons]; omega)
          · first
          | (first | omega | contradiction)
          | refine M.sk (M.sk (M.sk (M.sk (M.sk (M.sk (M.sk (M.sk (M.o q.pf (M.end [_, _] (h := S.end (hK _ ?_)))))))))))
            clear hK K
            refine Ev.cf ?_
            refine Ev.skip ?_
            show Ev _ _ _ _
            refine Ev.region_S fun K hK => S.o q.mv (S.o q.mv (S.o (q.fa 0 am_fi44_0 am_cl9) (S.o (q.lv am_ag9) (S.o (q.bd [_, _] am_ze34 am_pl34) (S.nn (q.bs [[_, _]] true am_el25 am_ze34 am_cl34) (S.ap' [_, _] am_el25 am_ze34 am_cl34 am_by34 (hh := head_own') (hr := (rows_lit [(⟨_, _⟩ : Int × List UInt8)])) (h := S.o q.as (S.end (hK _ ?_)))))))))
            clear hK K
            show Ev _ _ _ _
            refine Ev.region_S fun K hK => S.o q.add (S.o q.mv (S.end (hK _ ?_)))
            clear hK K
            refine hR0 _ _ ?_
            refine roundU [103] [0, 1, 4, 14, 15] ⟨(pre ++ [s], suf), by rw [← hp]; simp, ?_⟩ ?_ (keep_c (he := (by first | rfl | exact cmp_snoc (kind_4 (by omega)) | exact cmp_snoc (kind_1 hy ‹_› (by omega)) | exact cmp_snoc (kind_2 hy hsok hyok ‹_›) | exact cmp_snoc (kind_2c hy (by omega)))) (h := keep_n)) (slots_c (he := (by first | rfl | (congr 2; simp; done))) (h := (slots_c (he := (by first | rfl | (congr 1; simp; done))) (h := trivial)))) (.c (.c (.c (.c (.c .n)))))
            trivial
            all_goals (dsimp only; simp only [List.length_cons]; omega)
        · first
        | (first | omega | contradiction)
        | refine M.sk (M.o q.pf (M.o q.mv (M.sk (M.sk (M.sk (M.sk (M.sk (M.sk (M.sk (M.sk (M.o q.pf (M.end [_, _] (h := S.end (hK _ ?_))))))))))))))
          clear hK K
          refine Ev.cf ?_
          refine Ev.skip ?_
          show Ev _ _ _ _
          refine Ev.region_S fun K hK => S.o q.mv (S.o q.mv (S.o (q.fa 0 am_fi44_0 am_cl9) (S.o (q.lv am_ag9) (S.o (q.bd [_, _] am_ze34 am_pl34) (S.nn (q.bs [[_, _]] true am_el25 am_ze34 am_cl34) (S.ap' [_, _] am_el25 am_ze34 am_cl34 am_by34 (hh := head_own') (hr := (rows_lit [(⟨_, _⟩ : Int × List UInt8)])) (h := S.o q.as (S.end (hK _ ?_)))))))))
          clear hK K
          show Ev _ _ _ _
          refine Ev.region_S fun K hK => S.o q.add (S.o q.mv (S.end (hK _ ?_)))
          clear hK K
          refine hR0 _ _ ?_
          refine roundU [103] [0, 1, 4, 14, 15] ⟨(pre ++ [s], suf), by rw [← hp]; simp, ?_⟩ ?_ (keep_c (he := (by first | rfl | exact cmp_snoc (kind_4 (by omega)) | exact cmp_snoc (kind_1 hy ‹_› (by omega)) | exact cmp_snoc (kind_2 hy hsok hyok ‹_›) | exact cmp_snoc (kind_2c hy (by omega)))) (h := keep_n)) (slots_c (he := (by first | rfl | (congr 2; simp; done))) (h := (slots_c (he := (by first | rfl | (congr 1; simp; done))) (h := trivial)))) (.c (.c (.c (.c (.c .n)))))
          trivial
          all_goals (dsimp only; simp only [List.length_cons]; omega)
      · first
      | (first | omega | contradiction)
      | refine Ev.skip ?_
        show Ev _ _ _ _
        refine Ev.region_S fun K hK => S.o q.mv (S.o q.mv (S.o (q.fa 0 am_fi44_0 am_cl9) (S.o (q.lv am_ag9) (S.o (q.bd [_, _] am_ze34 am_pl34) (S.nn (q.bs [[_, _]] true am_el25 am_ze34 am_cl34) (S.ap' [_, _] am_el25 am_ze34 am_cl34 am_by34 (hh := head_own') (hr := (rows_lit [(⟨_, _⟩ : Int × List UInt8)])) (h := S.o q.as (S.end (hK _ ?_)))))))))
        clear hK K
        show Ev _ _ _ _
        refine Ev.region_S fun K hK => S.o q.add (S.o q.mv (S.end (hK _ ?_)))
        clear hK K
        refine hR0 _ _ ?_
        refine roundU [3] [0, 1, 4, 14, 15] ⟨(pre ++ [s], suf), by rw [← hp]; simp, ?_⟩ ?_ (keep_c (he := (by first | rfl | exact cmp_snoc (kind_4 (by omega)) | exact cmp_snoc (kind_1 hy ‹_› (by omega)) | exact cmp_snoc (kind_2 hy hsok hyok ‹_›) | exact cmp_snoc (kind_2c hy (by omega)))) (h := keep_n)) (slots_c (he := (by first | rfl | (congr 2; simp; done))) (h := (slots_c (he := (by first | rfl | (congr 1; simp; done))) (h := trivial)))) (.c (.c (.c (.c (.c .n)))))
        trivial
        all_goals (dsimp only; simp only [List.length_cons]; omega)
    · first
    | (first | omega | contradiction)
    | refine Ev.exit ?_
      refine hR0 _ _ ?_
      show Ev _ _ _ _
      refine Ev.seq ?_
      refine Ev.sr fun K hK => S.o q.mv (S.o (q.lens am_el22) (S.o q.mv (S.end (hK _ ?_))))
      clear hK K
      refine Ev.block ?_
      refine Ev.loopU (ι := {q : List Bar × List Bar // q.1 ++ q.2 = b}) [0] [0, 1, 4, 14, 15, 16, 17, 58, 59] (fun ⟨(pre2, suf2), _⟩ => [(60, .lit (.int .i64 ((pre2.length : Int)))), (5, .als 0 0 (a.map (cK b) ++ (pre2.filter (newP a)).map addK).length)]) (fun ⟨(pre2, suf2), _⟩ => [(0, ⟨true, 34, 2, (a.map (cK b) ++ (pre2.filter (newP a)).map addK).map findC, true⟩)]) (fun ⟨(pre2, suf2), _⟩ => suf2.length) ⟨([], b), rfl⟩ (.c (.c (.c (.c (.c (.c (.c (.c (.c .n))))))))) (keep_c (he := (by first | rfl | (simp; done) | exact add_snoc (by omega) | exact add_skip (by omega))) (h := keep_n)) (slots_c (he := (by first | rfl | (congr 2; simp; done))) (h := (slots_c (he := (by first | rfl | (congr 1; rw [List.filter_nil]; simp; done) | (congr 1; rw [add_snoc_n (by omega)]; simp; done) | (rw [add_skip_n (by omega)]))) (h := trivial)))) ?_
      rintro ⟨⟨pre2, suf2⟩, hp2⟩ R2 hR2
      dsimp only [List.cons_append, List.nil_append, List.length_cons, List.length_nil]
      simp only at hp2
      have hpl2 : pre2.length + suf2.length = b.length := by rw [← hp2, List.length_append]
      have hfl := filter_le (newP a) pre2
      rcases suf2 with _ | ⟨s, suf2⟩
      · rw [List.append_nil] at hp2; subst hp2; simp only [List.length_nil] at hpl2
        refine Ev.sr fun K hK => S.o q.lss (S.end (hK _ ?_))
        clear hK K
        refine Ev.ud (fun c6 => ?_) (fun c6 => ?_)
        · first
        | (first | omega | contradiction)
        | refine Ev.seq ?_
          refine Ev.block ?_
          refine Ev.sr fun K hK => S.o (q.ix am_el22 am_cl44 (hl := (by first | exact ati hyi (by omega) | exact atig (by omega)))) (S.o (q.lsA [_, _, _, _, _] am_ag44 am_cl44) (S.nn (q.al am_ze44) (S.sv [_, _, _, _, _] true [_] am_in44 am_cl44 (h := S.end (hK _ ?_)))))
          clear hK K
          refine Ev.sr fun K hK => S.o q.mv (S.o (q.fa 0 am_fi44_0 am_cl9) (S.o (q.lv am_ag9) (S.c0 (hF := find_fun _ _ (by omega)) (h := S.o q.lss (S.end (hK _ ?_))))))
          clear hK K
          refine Ev.cd (fun c7 => ?_) (fun c7 => ?_)
          · first
          | (first | omega | contradiction)
          | refine Ev.region_S fun K hK => S.o q.mv (S.o (q.fa 0 am_fi44_0 am_cl9) (S.o (q.lv am_ag9) (S.o (q.bd [_, _] am_ze34 am_pl34) (S.nn (q.bs [[_, _]] true am_el25 am_ze34 am_cl34) (S.ap' [_, _] am_el25 am_ze34 am_cl34 am_by34 (hh := head_own') (hr := (rows_lit [(⟨_, _⟩ : Int × List UInt8)])) (h := S.o q.as (S.end (hK _ ?_))))))))
            clear hK K
            show Ev _ _ _ _
            refine Ev.region_S fun K hK => S.o q.add (S.o q.mv (S.end (hK _ ?_)))
            clear hK K
            refine hR2 _ _ ?_
            refine roundU [3] [0, 1, 4, 14, 15, 16, 17, 58, 59] ⟨(pre2 ++ [s], suf2), by rw [← hp2]; simp⟩ ?_ (keep_c (he := (by first | rfl | (simp; done) | exact add_snoc (by omega) | exact add_skip (by omega))) (h := keep_n)) (slots_c (he := (by first | rfl | (congr 2; simp; done))) (h := (slots_c (he := (by first | rfl | (congr 1; rw [List.filter_nil]; simp; done) | (congr 1; rw [add_snoc_n (by omega)]; simp; done) | (rw [add_skip_n (by omega)]))) (h := trivial)))) (.c (.c (.c (.c (.c (.c (.c (.c (.c .n)))))))))
            skip
            all_goals (dsimp only; simp only [List.length_cons]; omega)
          · first
          | (first | omega | contradiction)
          | refine Ev.skip ?_
            show Ev _ _ _ _
            refine Ev.region_S fun K hK => S.o q.add (S.o q.mv (S.end (hK _ ?_)))
            clear hK K
            refine hR2 _ _ ?_
            refine roundU [0] [0, 1, 4, 14, 15, 16, 17, 58, 59] ⟨(pre2 ++ [s], suf2), by rw [← hp2]; simp⟩ ?_ (keep_c (he := (by first | rfl | (simp; done) | exact add_snoc (by omega) | exact add_skip (by omega))) (h := keep_n)) (slots_c (he := (by first | rfl | (congr 2; simp; done))) (h := (slots_c (he := (by first | rfl | (congr 1; rw [List.filter_nil]; simp; done) | (congr 1; rw [add_snoc_n (by omega)]; simp; done) | (rw [add_skip_n (by omega)]))) (h := trivial)))) (.c (.c (.c (.c (.c (.c (.c (.c (.c .n)))))))))
            skip
            all_goals (dsimp only; simp only [List.length_cons]; omega)
        · first
        | (first | omega | contradiction)
        | refine Ev.exit ?_
          refine hR2 _ _ ?_
          show Ev _ _ _ _
          refine Ev.sr fun K hK => S.o q.mv (S.o q.as (S.end (hK _ ?_)))
          clear hK K
          refine Ev.weaken (Wk.frz 4 []) ?_
          refine Ev.ret ?_
          refine Ev.ret1 ?_
          refine ⟨?_, rfl⟩
          rfl
      · simp only [List.length_cons] at hpl2
        have hidx2 : b[pre2.length]? = some s := by rw [← hp2]; simp
        refine Ev.sr fun K hK => S.o q.lss (S.end (hK _ ?_))
        clear hK K
        refine Ev.ud (fun c8 => ?_) (fun c8 => ?_)
        · first
        | (first | omega | contradiction)
        | refine Ev.seq ?_
          refine Ev.block ?_
          refine Ev.sr fun K hK => S.o (q.ix am_el22 am_cl44 (hl := (by first | exact ati hyi (by omega) | exact ati hidx2 (by omega) | exact atig (by omega)))) (S.o (q.lsA [_, _, _, _, _] am_ag44 am_cl44) (S.nn (q.al am_ze44) (S.sv [_, _, _, _, _] true [_] am_in44 am_cl44 (h := S.end (hK _ ?_)))))
          clear hK K
          refine Ev.sr fun K hK => S.o q.mv (S.o (q.fa 0 am_fi44_0 am_cl9) (S.o (q.lv am_ag9) (S.c0 (hF := find_fun _ _ (by omega)) (h := S.o q.lss (S.end (hK _ ?_))))))
          clear hK K
          refine Ev.cd (fun c9 => ?_) (fun c9 => ?_)
          · first
          | (first | omega | contradiction)
          | refine Ev.region_S fun K hK => S.o q.mv (S.o (q.fa 0 am_fi44_0 am_cl9) (S.o (q.lv am_ag9) (S.o (q.bd [_, _] am_ze34 am_pl34) (S.nn (q.bs [[_, _]] true am_el25 am_ze34 am_cl34) (S.ap' [_, _] am_el25 am_ze34 am_cl34 am_by34 (hh := head_own') (hr := (rows_lit [(⟨_, _⟩ : Int × List UInt8)])) (h := S.o q.as (S.end (hK _ ?_))))))))
            clear hK K
            show Ev _ _ _ _
            refine Ev.region_S fun K hK => S.o q.add (S.o q.mv (S.end (hK _ ?_)))
            clear hK K
            refine hR2 _ _ ?_
            refine roundU [3] [0, 1, 4, 14, 15, 16, 17, 58, 59] ⟨(pre2 ++ [s], suf2), by rw [← hp2]; simp⟩ ?_ (keep_c (he := (by first | rfl | (simp; done) | exact add_snoc (by omega) | exact add_skip (by omega))) (h := keep_n)) (slots_c (he := (by first | rfl | (congr 2; simp; done))) (h := (slots_c (he := (by first | rfl | (congr 1; rw [List.filter_nil]; simp; done) | (congr 1; rw [add_snoc_n (by omega)]; simp; done) | (rw [add_skip_n (by omega)]))) (h := trivial)))) (.c (.c (.c (.c (.c (.c (.c (.c (.c .n)))))))))
            skip
            all_goals (dsimp only; simp only [List.length_cons]; omega)
          · first
          | (first | omega | contradiction)
          | refine Ev.skip ?_
            show Ev _ _ _ _
            refine Ev.region_S fun K hK => S.o q.add (S.o q.mv (S.end (hK _ ?_)))
            clear hK K
            refine hR2 _ _ ?_
            refine roundU [0] [0, 1, 4, 14, 15, 16, 17, 58, 59] ⟨(pre2 ++ [s], suf2), by rw [← hp2]; simp⟩ ?_ (keep_c (he := (by first | rfl | (simp; done) | exact add_snoc (by omega) | exact add_skip (by omega))) (h := keep_n)) (slots_c (he := (by first | rfl | (congr 2; simp; done))) (h := (slots_c (he := (by first | rfl | (congr 1; rw [List.filter_nil]; simp; done) | (congr 1; rw [add_snoc_n (by omega)]; simp; done) | (rw [add_skip_n (by omega)]))) (h := trivial)))) (.c (.c (.c (.c (.c (.c (.c (.c (.c .n)))))))))
            skip
            all_goals (dsimp only; simp only [List.length_cons]; omega)
        · first
        | (first | omega | contradiction)
        | refine Ev.exit ?_
          refine hR2 _ _ ?_
          show Ev _ _ _ _
          refine Ev.sr fun K hK => S.o q.mv (S.o q.as (S.end (hK _ ?_)))
          clear hK K
          refine Ev.weaken (Wk.frz 4 []) ?_
          refine Ev.ret ?_
          refine Ev.ret1 ?_
          refine ⟨?_, rfl⟩
          rfl
  · simp only [List.length_cons] at hpl
    have hidx : (a)[pre.length]? = some s := by rw [← hp]; simp
    have hsok : okBar s := ha.2.1 s (by rw [← hp]; simp)
    have hsw : s.w := okBar_w hsok
    refine Ev.sr fun K hK => S.o q.lss (S.end (hK _ ?_))
    clear hK K
    refine Ev.ud (fun c10 => ?_) (fun c10 => ?_)
    · first
    | (first | omega | contradiction)
    | refine Ev.seq ?_
      refine Ev.block ?_
      refine Ev.sr fun K hK => S.o (q.ix am_el22 am_cl44 (hl := (by first | exact ati hyi (by omega) | exact ati hidx (by omega) | exact atig (by omega)))) (S.o (q.lsA [_, _, _, _, _] am_ag44 am_cl44) (S.nn (q.al am_ze44) (S.sv [_, _, _, _, _] true [_] am_in44 am_cl44 (h := S.end (hK _ ?_)))))
      clear hK K
      refine Ev.sr fun K hK => S.o q.as (S.end (hK _ ?_))
      clear hK K
      refine Ev.seq ?_
      refine Ev.sr fun K hK => S.o q.mv (S.o (q.fa 0 am_fi44_0 am_cl9) (S.o (q.lv am_ag9) (S.c0 (hF := find_fun _ _ (by omega)) (h := S.o q.as (S.end (hK _ ?_))))))
      clear hK K
      refine Ev.sr fun K hK => S.o q.mv (S.o q.geq (S.end (hK _ ?_)))
      clear hK K
      refine Ev.cd (fun c11 => ?_) (fun c11 => ?_)
      · first
      | (first | omega | contradiction)
      | obtain ⟨y, hy, hyi, hym, hyk⟩ := barAt_some ‹0 ≤ markI b s.mark›
        have hyok : okBar y := hb.2.1 y hym
        have hyw : y.w := okBar_w hyok
        have hE : sameE s y = 0 := if_pos ⟨hsok, hyok⟩
        refine Ev.sr fun K hK => S.o q.as (S.end (hK _ ?_))
        clear hK K
        refine Ev.sm (tbs [(0, 0), (0, 0), (0, 0), (3, 6), (4, 14), (5, 31), (6, 63), (7, 127), (7, 127), (8, 255), (10, 1023)]) 10 fun K hK => M.o (q.lvA [_, _, _, _, _] am_ag44 am_cl44) (M.o q.mv (M.o q.mv (M.o (q.ix am_el22 am_cl44 (hl := (by first | exact ati hyi (by omega) | exact ati hidx (by omega) | exact atig (by omega)))) (M.o (q.lsA [_, _, _, _, _] am_ag44 am_cl44) (M.c0 (hF := same_fun _ _ (by assumption) (by assumption)) (h := M.o q.mv (M.o q.ex (M.o q.ex (M.o q.as (M.end [_, _] (h := S.o q.as (S.end (hK _ ?_)))))))))))))
        clear hK K
        refine Ev.sm (tbs [(0, 0), (1, 1), (2, 3), (3, 7), (4, 15), (5, 31), (6, 63), (7, 127), (6, 63), (6, 63), (10, 831), (11, 1855), (12, 3903), (13, 8191), (14, 16383)]) 15 fun K hK => M.o q.mv (M.o q.eql (M.bd q.mv (fun c12 => ?_) (fun c12 => ?_)))
        · first
        | (first | omega | contradiction)
        | refine M.o q.mv (M.o q.pt (M.bd q.mv (fun c13 => ?_) (fun c13 => ?_)))
          · first
          | (first | omega | contradiction)
          | refine M.o (q.fa 2 am_fi44_2 am_cl3) (M.o (q.lv am_ag3) (M.o q.mv (M.o q.mv (M.o (q.ix am_el22 am_cl44 (hl := (by first | exact ati hyi (by omega) | exact ati hidx (by omega) | exact atig (by omega)))) (M.o (q.fs 2 am_fi44_2 am_cl3) (M.o (q.ls am_ag3) (M.o q.eql (M.o q.pt (M.end [_, _] (h := S.end (hK _ ?_)))))))))))
            clear hK K
            refine Ev.cd (fun c14 => ?_) (fun c14 => ?_)
            · first
            | (first | omega | contradiction)
            | refine Ev.region_S fun K hK => S.o q.as (S.end (hK _ ?_))
              clear hK K
              show Ev _ _ _ _
              refine Ev.region_S fun K hK => S.o q.mv (S.o q.mv (S.o (q.fa 0 am_fi44_0 am_cl9) (S.o (q.lv am_ag9) (S.o (q.bd [_, _] am_ze34 am_pl34) (S.nn (q.bs [[_, _]] true am_el25 am_ze34 am_cl34) (S.ap' [_, _] am_el25 am_ze34 am_cl34 am_by34 (hh := head_own') (hr := (rows_lit [(⟨_, _⟩ : Int × List UInt8)])) (h := S.o q.as (S.end (hK _ ?_)))))))))
              clear hK K
              show Ev _ _ _ _
              refine Ev.region_S fun K hK => S.o q.add (S.o q.mv (S.end (hK _ ?_)))
              clear hK K
              refine hR0 _ _ ?_
              refine roundU [103] [0, 1, 4, 14, 15] ⟨(pre ++ [s], suf), by rw [← hp]; simp, ?_⟩ ?_ (keep_c (he := (by first | rfl | exact cmp_snoc (kind_4 (by omega)) | exact cmp_snoc (kind_1 hy ‹_› (by omega)) | exact cmp_snoc (kind_2 hy hsok hyok ‹_›) | exact cmp_snoc (kind_2c hy (by omega)))) (h := keep_n)) (slots_c (he := (by first | rfl | (congr 2; simp; done))) (h := (slots_c (he := (by first | rfl | (congr 1; simp; done))) (h := trivial)))) (.c (.c (.c (.c (.c .n)))))
              trivial
              all_goals (dsimp only; simp only [List.length_cons]; omega)
            · first
            | (first | omega | contradiction)
            | refine Ev.skip ?_
              show Ev _ _ _ _
              refine Ev.region_S fun K hK => S.o q.mv (S.o q.mv (S.o (q.fa 0 am_fi44_0 am_cl9) (S.o (q.lv am_ag9) (S.o (q.bd [_, _] am_ze34 am_pl34) (S.nn (q.bs [[_, _]] true am_el25 am_ze34 am_cl34) (S.ap' [_, _] am_el25 am_ze34 am_cl34 am_by34 (hh := head_own') (hr := (rows_lit [(⟨_, _⟩ : Int × List UInt8)])) (h := S.o q.as (S.end (hK _ ?_)))))))))
              clear hK K
              show Ev _ _ _ _
              refine Ev.region_S fun K hK => S.o q.add (S.o q.mv (S.end (hK _ ?_)))
              clear hK K
              refine hR0 _ _ ?_
              refine roundU [103] [0, 1, 4, 14, 15] ⟨(pre ++ [s], suf), by rw [← hp]; simp, ?_⟩ ?_ (keep_c (he := (by first | rfl | exact cmp_snoc (kind_4 (by omega)) | exact cmp_snoc (kind_1 hy ‹_› (by omega)) | exact cmp_snoc (kind_2 hy hsok hyok ‹_›) | exact cmp_snoc (kind_2c hy (by omega)))) (h := keep_n)) (slots_c (he := (by first | rfl | (congr 2; simp; done))) (h := (slots_c (he := (by first | rfl | (congr 1; simp; done))) (h := trivial)))) (.c (.c (.c (.c (.c .n)))))
              trivial
              all_goals (dsimp only; simp only [List.length_cons]; omega)
          · first
          | (first | omega | contradiction)
          | refine M.sk (M.sk (M.sk (M.sk (M.sk (M.sk (M.sk (M.sk (M.o q.pf (M.end [_, _] (h := S.end (hK _ ?_)))))))))))
            clear hK K
            refine Ev.cf ?_
            refine Ev.skip ?_
            show Ev _ _ _ _
            refine Ev.region_S fun K hK => S.o q.mv (S.o q.mv (S.o (q.fa 0 am_fi44_0 am_cl9) (S.o (q.lv am_ag9) (S.o (q.bd [_, _] am_ze34 am_pl34) (S.nn (q.bs [[_, _]] true am_el25 am_ze34 am_cl34) (S.ap' [_, _] am_el25 am_ze34 am_cl34 am_by34 (hh := head_own') (hr := (rows_lit [(⟨_, _⟩ : Int × List UInt8)])) (h := S.o q.as (S.end (hK _ ?_)))))))))
            clear hK K
            show Ev _ _ _ _
            refine Ev.region_S fun K hK => S.o q.add (S.o q.mv (S.end (hK _ ?_)))
            clear hK K
            refine hR0 _ _ ?_
            refine roundU [103] [0, 1, 4, 14, 15] ⟨(pre ++ [s], suf), by rw [← hp]; simp, ?_⟩ ?_ (keep_c (he := (by first | rfl | exact cmp_snoc (kind_4 (by omega)) | exact cmp_snoc (kind_1 hy ‹_› (by omega)) | exact cmp_snoc (kind_2 hy hsok hyok ‹_›) | exact cmp_snoc (kind_2c hy (by omega)))) (h := keep_n)) (slots_c (he := (by first | rfl | (congr 2; simp; done))) (h := (slots_c (he := (by first | rfl | (congr 1; simp; done))) (h := trivial)))) (.c (.c (.c (.c (.c .n)))))
            trivial
            all_goals (dsimp only; simp only [List.length_cons]; omega)
        · first
        | (first | omega | contradiction)
        | refine M.sk (M.o q.pf (M.o q.mv (M.sk (M.sk (M.sk (M.sk (M.sk (M.sk (M.sk (M.sk (M.o q.pf (M.end [_, _] (h := S.end (hK _ ?_))))))))))))))
          clear hK K
          refine Ev.cf ?_
          refine Ev.skip ?_
          show Ev _ _ _ _
          refine Ev.region_S fun K hK => S.o q.mv (S.o q.mv (S.o (q.fa 0 am_fi44_0 am_cl9) (S.o (q.lv am_ag9) (S.o (q.bd [_, _] am_ze34 am_pl34) (S.nn (q.bs [[_, _]] true am_el25 am_ze34 am_cl34) (S.ap' [_, _] am_el25 am_ze34 am_cl34 am_by34 (hh := head_own') (hr := (rows_lit [(⟨_, _⟩ : Int × List UInt8)])) (h := S.o q.as (S.end (hK _ ?_)))))))))
          clear hK K
          show Ev _ _ _ _
          refine Ev.region_S fun K hK => S.o q.add (S.o q.mv (S.end (hK _ ?_)))
          clear hK K
          refine hR0 _ _ ?_
          refine roundU [103] [0, 1, 4, 14, 15] ⟨(pre ++ [s], suf), by rw [← hp]; simp, ?_⟩ ?_ (keep_c (he := (by first | rfl | exact cmp_snoc (kind_4 (by omega)) | exact cmp_snoc (kind_1 hy ‹_› (by omega)) | exact cmp_snoc (kind_2 hy hsok hyok ‹_›) | exact cmp_snoc (kind_2c hy (by omega)))) (h := keep_n)) (slots_c (he := (by first | rfl | (congr 2; simp; done))) (h := (slots_c (he := (by first | rfl | (congr 1; simp; done))) (h := trivial)))) (.c (.c (.c (.c (.c .n)))))
          trivial
          all_goals (dsimp only; simp only [List.length_cons]; omega)
      · first
      | (first | omega | contradiction)
      | refine Ev.skip ?_
        show Ev _ _ _ _
        refine Ev.region_S fun K hK => S.o q.mv (S.o q.mv (S.o (q.fa 0 am_fi44_0 am_cl9) (S.o (q.lv am_ag9) (S.o (q.bd [_, _] am_ze34 am_pl34) (S.nn (q.bs [[_, _]] true am_el25 am_ze34 am_cl34) (S.ap' [_, _] am_el25 am_ze34 am_cl34 am_by34 (hh := head_own') (hr := (rows_lit [(⟨_, _⟩ : Int × List UInt8)])) (h := S.o q.as (S.end (hK _ ?_)))))))))
        clear hK K
        show Ev _ _ _ _
        refine Ev.region_S fun K hK => S.o q.add (S.o q.mv (S.end (hK _ ?_)))
        clear hK K
        refine hR0 _ _ ?_
        refine roundU [3] [0, 1, 4, 14, 15] ⟨(pre ++ [s], suf), by rw [← hp]; simp, ?_⟩ ?_ (keep_c (he := (by first | rfl | exact cmp_snoc (kind_4 (by omega)) | exact cmp_snoc (kind_1 hy ‹_› (by omega)) | exact cmp_snoc (kind_2 hy hsok hyok ‹_›) | exact cmp_snoc (kind_2c hy (by omega)))) (h := keep_n)) (slots_c (he := (by first | rfl | (congr 2; simp; done))) (h := (slots_c (he := (by first | rfl | (congr 1; simp; done))) (h := trivial)))) (.c (.c (.c (.c (.c .n)))))
        trivial
        all_goals (dsimp only; simp only [List.length_cons]; omega)
    · first
    | (first | omega | contradiction)
    | refine Ev.exit ?_
      refine hR0 _ _ ?_
      show Ev _ _ _ _
      refine Ev.seq ?_
      refine Ev.sr fun K hK => S.o q.mv (S.o (q.lens am_el22) (S.o q.mv (S.end (hK _ ?_))))
      clear hK K
      refine Ev.block ?_
      refine Ev.loopU (ι := {q : List Bar × List Bar // q.1 ++ q.2 = b}) [0] [0, 1, 4, 14, 15, 16, 17, 58, 59] (fun ⟨(pre2, suf2), _⟩ => [(60, .lit (.int .i64 ((pre2.length : Int)))), (5, .als 0 0 (a.map (cK b) ++ (pre2.filter (newP a)).map addK).length)]) (fun ⟨(pre2, suf2), _⟩ => [(0, ⟨true, 34, 2, (a.map (cK b) ++ (pre2.filter (newP a)).map addK).map findC, true⟩)]) (fun ⟨(pre2, suf2), _⟩ => suf2.length) ⟨([], b), rfl⟩ (.c (.c (.c (.c (.c (.c (.c (.c (.c .n))))))))) (keep_c (he := (by first | rfl | (simp; done) | exact add_snoc (by omega) | exact add_skip (by omega))) (h := keep_n)) (slots_c (he := (by first | rfl | (congr 2; simp; done))) (h := (slots_c (he := (by first | rfl | (congr 1; rw [List.filter_nil]; simp; done) | (congr 1; rw [add_snoc_n (by omega)]; simp; done) | (rw [add_skip_n (by omega)]))) (h := trivial)))) ?_
      rintro ⟨⟨pre2, suf2⟩, hp2⟩ R2 hR2
      dsimp only [List.cons_append, List.nil_append, List.length_cons, List.length_nil]
      simp only at hp2
      have hpl2 : pre2.length + suf2.length = b.length := by rw [← hp2, List.length_append]
      have hfl := filter_le (newP a) pre2
      rcases suf2 with _ | ⟨s, suf2⟩
      · rw [List.append_nil] at hp2; subst hp2; simp only [List.length_nil] at hpl2
        refine Ev.sr fun K hK => S.o q.lss (S.end (hK _ ?_))
        clear hK K
        refine Ev.ud (fun c15 => ?_) (fun c15 => ?_)
        · first
        | (first | omega | contradiction)
        | refine Ev.seq ?_
          refine Ev.block ?_
          refine Ev.sr fun K hK => S.o (q.ix am_el22 am_cl44 (hl := (by first | exact ati hyi (by omega) | exact ati hidx (by omega) | exact atig (by omega)))) (S.o (q.lsA [_, _, _, _, _] am_ag44 am_cl44) (S.nn (q.al am_ze44) (S.sv [_, _, _, _, _] true [_] am_in44 am_cl44 (h := S.end (hK _ ?_)))))
          clear hK K
          refine Ev.sr fun K hK => S.o q.mv (S.o (q.fa 0 am_fi44_0 am_cl9) (S.o (q.lv am_ag9) (S.c0 (hF := find_fun _ _ (by omega)) (h := S.o q.lss (S.end (hK _ ?_))))))
          clear hK K
          refine Ev.cd (fun c16 => ?_) (fun c16 => ?_)
          · first
          | (first | omega | contradiction)
          | refine Ev.region_S fun K hK => S.o q.mv (S.o (q.fa 0 am_fi44_0 am_cl9) (S.o (q.lv am_ag9) (S.o (q.bd [_, _] am_ze34 am_pl34) (S.nn (q.bs [[_, _]] true am_el25 am_ze34 am_cl34) (S.ap' [_, _] am_el25 am_ze34 am_cl34 am_by34 (hh := head_own') (hr := (rows_lit [(⟨_, _⟩ : Int × List UInt8)])) (h := S.o q.as (S.end (hK _ ?_))))))))
            clear hK K
            show Ev _ _ _ _
            refine Ev.region_S fun K hK => S.o q.add (S.o q.mv (S.end (hK _ ?_)))
            clear hK K
            refine hR2 _ _ ?_
            refine roundU [3] [0, 1, 4, 14, 15, 16, 17, 58, 59] ⟨(pre2 ++ [s], suf2), by rw [← hp2]; simp⟩ ?_ (keep_c (he := (by first | rfl | (simp; done) | exact add_snoc (by omega) | exact add_skip (by omega))) (h := keep_n)) (slots_c (he := (by first | rfl | (congr 2; simp; done))) (h := (slots_c (he := (by first | rfl | (congr 1; rw [List.filter_nil]; simp; done) | (congr 1; rw [add_snoc_n (by omega)]; simp; done) | (rw [add_skip_n (by omega)]))) (h := trivial)))) (.c (.c (.c (.c (.c (.c (.c (.c (.c .n)))))))))
            skip
            all_goals (dsimp only; simp only [List.length_cons]; omega)
          · first
          | (first | omega | contradiction)
          | refine Ev.skip ?_
            show Ev _ _ _ _
            refine Ev.region_S fun K hK => S.o q.add (S.o q.mv (S.end (hK _ ?_)))
            clear hK K
            refine hR2 _ _ ?_
            refine roundU [0] [0, 1, 4, 14, 15, 16, 17, 58, 59] ⟨(pre2 ++ [s], suf2), by rw [← hp2]; simp⟩ ?_ (keep_c (he := (by first | rfl | (simp; done) | exact add_snoc (by omega) | exact add_skip (by omega))) (h := keep_n)) (slots_c (he := (by first | rfl | (congr 2; simp; done))) (h := (slots_c (he := (by first | rfl | (congr 1; rw [List.filter_nil]; simp; done) | (congr 1; rw [add_snoc_n (by omega)]; simp; done) | (rw [add_skip_n (by omega)]))) (h := trivial)))) (.c (.c (.c (.c (.c (.c (.c (.c (.c .n)))))))))
            skip
            all_goals (dsimp only; simp only [List.length_cons]; omega)
        · first
        | (first | omega | contradiction)
        | refine Ev.exit ?_
          refine hR2 _ _ ?_
          show Ev _ _ _ _
          refine Ev.sr fun K hK => S.o q.mv (S.o q.as (S.end (hK _ ?_)))
          clear hK K
          refine Ev.weaken (Wk.frz 4 []) ?_
          refine Ev.ret ?_
          refine Ev.ret1 ?_
          refine ⟨?_, rfl⟩
          rfl
      · simp only [List.length_cons] at hpl2
        have hidx2 : b[pre2.length]? = some s := by rw [← hp2]; simp
        refine Ev.sr fun K hK => S.o q.lss (S.end (hK _ ?_))
        clear hK K
        refine Ev.ud (fun c17 => ?_) (fun c17 => ?_)
        · first
        | (first | omega | contradiction)
        | refine Ev.seq ?_
          refine Ev.block ?_
          refine Ev.sr fun K hK => S.o (q.ix am_el22 am_cl44 (hl := (by first | exact ati hyi (by omega) | exact ati hidx (by omega) | exact ati hidx2 (by omega) | exact atig (by omega)))) (S.o (q.lsA [_, _, _, _, _] am_ag44 am_cl44) (S.nn (q.al am_ze44) (S.sv [_, _, _, _, _] true [_] am_in44 am_cl44 (h := S.end (hK _ ?_)))))
          clear hK K
          refine Ev.sr fun K hK => S.o q.mv (S.o (q.fa 0 am_fi44_0 am_cl9) (S.o (q.lv am_ag9) (S.c0 (hF := find_fun _ _ (by omega)) (h := S.o q.lss (S.end (hK _ ?_))))))
          clear hK K
          refine Ev.cd (fun c18 => ?_) (fun c18 => ?_)
          · first
          | (first | omega | contradiction)
          | refine Ev.region_S fun K hK => S.o q.mv (S.o (q.fa 0 am_fi44_0 am_cl9) (S.o (q.lv am_ag9) (S.o (q.bd [_, _] am_ze34 am_pl34) (S.nn (q.bs [[_, _]] true am_el25 am_ze34 am_cl34) (S.ap' [_, _] am_el25 am_ze34 am_cl34 am_by34 (hh := head_own') (hr := (rows_lit [(⟨_, _⟩ : Int × List UInt8)])) (h := S.o q.as (S.end (hK _ ?_))))))))
            clear hK K
            show Ev _ _ _ _
            refine Ev.region_S fun K hK => S.o q.add (S.o q.mv (S.end (hK _ ?_)))
            clear hK K
            refine hR2 _ _ ?_
            refine roundU [3] [0, 1, 4, 14, 15, 16, 17, 58, 59] ⟨(pre2 ++ [s], suf2), by rw [← hp2]; simp⟩ ?_ (keep_c (he := (by first | rfl | (simp; done) | exact add_snoc (by omega) | exact add_skip (by omega))) (h := keep_n)) (slots_c (he := (by first | rfl | (congr 2; simp; done))) (h := (slots_c (he := (by first | rfl | (congr 1; rw [List.filter_nil]; simp; done) | (congr 1; rw [add_snoc_n (by omega)]; simp; done) | (rw [add_skip_n (by omega)]))) (h := trivial)))) (.c (.c (.c (.c (.c (.c (.c (.c (.c .n)))))))))
            skip
            all_goals (dsimp only; simp only [List.length_cons]; omega)
          · first
          | (first | omega | contradiction)
          | refine Ev.skip ?_
            show Ev _ _ _ _
            refine Ev.region_S fun K hK => S.o q.add (S.o q.mv (S.end (hK _ ?_)))
            clear hK K
            refine hR2 _ _ ?_
            refine roundU [0] [0, 1, 4, 14, 15, 16, 17, 58, 59] ⟨(pre2 ++ [s], suf2), by rw [← hp2]; simp⟩ ?_ (keep_c (he := (by first | rfl | (simp; done) | exact add_snoc (by omega) | exact add_skip (by omega))) (h := keep_n)) (slots_c (he := (by first | rfl | (congr 2; simp; done))) (h := (slots_c (he := (by first | rfl | (congr 1; rw [List.filter_nil]; simp; done) | (congr 1; rw [add_snoc_n (by omega)]; simp; done) | (rw [add_skip_n (by omega)]))) (h := trivial)))) (.c (.c (.c (.c (.c (.c (.c (.c (.c .n)))))))))
            skip
            all_goals (dsimp only; simp only [List.length_cons]; omega)
        · first
        | (first | omega | contradiction)
        | refine Ev.exit ?_
          refine hR2 _ _ ?_
          show Ev _ _ _ _
          refine Ev.sr fun K hK => S.o q.mv (S.o q.as (S.end (hK _ ?_)))
          clear hK K
          refine Ev.weaken (Wk.frz 4 []) ?_
          refine Ev.ret ?_
          refine Ev.ret1 ?_
          refine ⟨?_, rfl⟩
          rfl

def cmpE (a b : List Bar) : Int := if okSched a ∧ okSched b then 0 else 1
def cmpV (a b : List Bar) : List Chg := if okSched a ∧ okSched b then cmpP a b else []
theorem Compare_fun (a b : List Bar) (ha : a.length ≤ 140737488355328) (hb : b.length ≤ 140737488355328) (hwa : schedW a) (hwb : schedW b) : Fun Tryz.prog 7 [.sh 5 (a.map Bar.c), .sh 5 (b.map Bar.c)] (Ret (.tup [.sh 2 ((cmpV a b).map findC), .lit (.int .i64 (cmpE a b))]) []) := by
  refine Fun.of (nt := 17) (rs := [.tmp 4, .tmp 5]) Tryz.func7 rfl rfl rfl rfl rfl ?_
  refine Ev.sr fun K hK => S.o q.as (S.o q.as (S.end (hK _ ?_)))
  clear hK K
  refine Ev.seq ?_
  refine Ev.sr fun K hK => S.o q.mv (S.c0 (hF := schedValid_fun _ (by omega) (by assumption)) (h := S.o q.not (S.bn q.mv (fun c1 => ?_) (fun c1 => ?_))))
  · first
  | (first | omega | contradiction)
  | refine S.sk (S.sk (S.sk (S.o q.pt (S.end (hK _ ?_)))))
    clear hK K
    refine Ev.ct ?_
    refine Ev.sr fun K hK => S.o q.as (S.o q.as (S.end (hK _ ?_)))
    clear hK K
    refine Ev.weaken (Wk.nsh findC 4 2) ?_
    refine Ev.ret ?_
    refine Ev.ret2 ?_
    refine ⟨?_, rfl⟩
    first
     | (rw [show cmpE a b = 1 from if_neg (fun h => absurd h.1 ‹_›), show cmpV a b = [] from if_neg (fun h => absurd h.1 ‹_›)]; done)
     | (rw [show cmpE a b = 1 from if_neg (fun h => absurd h.2 ‹_›), show cmpV a b = [] from if_neg (fun h => absurd h.2 ‹_›)]; done)
     | (rw [show cmpE a b = 0 from if_pos ⟨‹_›, ‹_›⟩, show cmpV a b = cmpP a b from if_pos ⟨‹_›, ‹_›⟩]; done)
  · first
  | (first | omega | contradiction)
  | refine S.o q.mv (S.c0 (hF := schedValid_fun _ (by omega) (by assumption)) (h := S.o q.not (S.o q.pf (S.end (hK _ ?_)))))
    clear hK K
    refine Ev.cn (fun c2 => ?_) (fun c2 => ?_)
    · first
    | (first | omega | contradiction)
    | refine Ev.sr fun K hK => S.o q.as (S.o q.as (S.end (hK _ ?_)))
      clear hK K
      refine Ev.weaken (Wk.nsh findC 4 2) ?_
      refine Ev.ret ?_
      refine Ev.ret2 ?_
      refine ⟨?_, rfl⟩
      first
       | (rw [show cmpE a b = 1 from if_neg (fun h => absurd h.1 ‹_›), show cmpV a b = [] from if_neg (fun h => absurd h.1 ‹_›)]; done)
       | (rw [show cmpE a b = 1 from if_neg (fun h => absurd h.2 ‹_›), show cmpV a b = [] from if_neg (fun h => absurd h.2 ‹_›)]; done)
       | (rw [show cmpE a b = 0 from if_pos ⟨‹_›, ‹_›⟩, show cmpV a b = cmpP a b from if_pos ⟨‹_›, ‹_›⟩]; done)
    · first
    | (first | omega | contradiction)
    | refine Ev.skip ?_
      show Ev _ _ _ _
      refine Ev.sr fun K hK => S.o q.mv (S.o q.mv (S.c0 (hF := compare_fun _ _ (by assumption) (by assumption)) (h := S.o q.as (S.o q.as (S.end (hK _ ?_))))))
      clear hK K
      refine Ev.ret ?_
      refine Ev.ret2 ?_
      refine ⟨?_, rfl⟩
      first
       | (rw [show cmpE a b = 1 from if_neg (fun h => absurd h.1 ‹_›), show cmpV a b = [] from if_neg (fun h => absurd h.1 ‹_›)]; done)
       | (rw [show cmpE a b = 1 from if_neg (fun h => absurd h.2 ‹_›), show cmpV a b = [] from if_neg (fun h => absurd h.2 ‹_›)]; done)
       | (rw [show cmpE a b = 0 from if_pos ⟨‹_›, ‹_›⟩, show cmpV a b = cmpP a b from if_pos ⟨‹_›, ‹_›⟩]; done)
end Go.Proofs.YtccddakkegelkaaGreatDoor
namespace Go.Proofs.YtccddakkegelkaaGreatDoor
open Go Go.AM
set_option linter.unusedSimpArgs false
set_option linter.unusedVariables false
set_option maxRecDepth 100000

def massK (ks : List Int) (ch : List Chg) (l : List Bar) : Int := l.foldl (fun a b => if ofK ch b.mark ∈ ks then a + barMass b else a) 0
theorem massK_snoc (ks : List Int) (ch : List Chg) (l : List Bar) (s : Bar) : massK ks ch (l ++ [s]) = if ofK ch s.mark ∈ ks then massK ks ch l + barMass s else massK ks ch l := by simp [massK, List.foldl_append]
theorem massK_bd (ks : List Int) (ch : List Chg) : ∀ l : List Bar, (∀ b ∈ l, okBar b) → 0 ≤ massK ks ch l ∧ massK ks ch l ≤ 10343154000 * l.length := by
  refine snoc_ind (fun _ => by simp [massK]) ?_
  intro l s ih h
  have h1 := ih fun b hb => h b (by simp [hb])
  obtain ⟨_, _, h3, h4⟩ := barMass_bd (h s (by simp))
  rw [massK_snoc, List.length_append, List.length_singleton]
  split <;> omega
theorem mass_kinds_fun (l : List Bar) (ch : List Chg) (ks : List Int) (hok : ∀ b ∈ l, okBar b) (hl : l.length ≤ 60) (hch : ch.length ≤ 140737488355328) (hks : ks.length ≤ 100) : Fun Tryz.prog 39 [.sh 5 (l.map Bar.c), .sh 2 (ch.map findC), .sh 1 (ks.map intC)] (Ret (.tup [.lit (.int .i64 (massK ks ch l)), .lit (.int .i64 0)]) []) := by
  refine Fun.of (nt := 39) (rs := [.tmp 6, .tmp 7]) Tryz.func39 rfl rfl rfl rfl rfl ?_
  refine Ev.sr fun K hK => S.o q.as (S.o q.as (S.end (hK _ ?_)))
  clear hK K
  refine Ev.sr fun K hK => S.o q.as (S.end (hK _ ?_))
  clear hK K
  refine Ev.seq ?_
  refine Ev.sr fun K hK => S.o q.mv (S.o (q.lens am_el22) (S.o q.mv (S.end (hK _ ?_))))
  clear hK K
  refine Ev.block ?_
  refine Ev.loopU (ι := {p : List (Bar) × List (Bar) // p.1 ++ p.2 = l ∧ True}) [] [1, 2, 13, 14] (fun ⟨(pre, suf), _⟩ => [(15, .lit (.int .i64 ((pre.length : Int)))), (8, .lit (.int .i64 (massK ks ch pre)))]) (fun ⟨(pre, suf), _⟩ => []) (fun ⟨(pre, suf), _⟩ => suf.length) ⟨([], l), rfl, trivial⟩ (.c (.c (.c (.c .n)))) keep_n (slots_c (he := (by first | rfl | (congr 2; simp; done))) (h := (slots_c (he := (by first | rfl | exact iE (by rw [massK_snoc, if_pos ‹_›, hV]) | exact iE (by rw [massK_snoc, if_neg ‹_›]))) (h := trivial)))) ?_
  rintro ⟨⟨pre, suf⟩, hp, hinv⟩ R0 hR0
  dsimp only [List.cons_append, List.nil_append, List.length_cons, List.length_nil]
  simp only at hp hinv
  have hpl : pre.length + suf.length = (l).length := by rw [← hp, List.length_append]
  rcases suf with _ | ⟨s, suf⟩
  · rw [List.append_nil] at hp; subst hp; simp only [List.length_nil] at hpl
    refine Ev.sr fun K hK => S.o q.lss (S.end (hK _ ?_))
    clear hK K
    refine Ev.ud (fun c1 => ?_) (fun c1 => ?_)
    · first
    | (first | omega | contradiction)
    | refine Ev.seq ?_
      refine Ev.block ?_
      refine Ev.sr fun K hK => S.o (q.ix am_el22 am_cl44 (hl := (by first | exact atig (by omega)))) (S.o (q.lsA [_, _, _, _, _] am_ag44 am_cl44) (S.nn (q.al am_ze44) (S.sv [_, _, _, _, _] true [] am_in44 am_cl44 (h := S.end (hK _ ?_)))))
      clear hK K
      refine Ev.seq ?_
      refine Ev.sr fun K hK => S.o q.mv (S.o q.mv (S.o (q.fa 0 am_fi44_0 am_cl9) (S.o (q.lv am_ag9) (S.c0 (hF := of_fun _ _ (by omega)) (h := S.c0 (hF := contains_fun _ _ (by omega)) (h := S.o q.not (S.end (hK _ ?_))))))))
      clear hK K
      refine Ev.cn (fun c2 => ?_) (fun c2 => ?_)
      · first
      | (first | omega | contradiction)
      | refine Ev.exit ?_
        show Ev _ _ _ _
        refine Ev.region_S fun K hK => S.o q.add (S.o q.mv (S.end (hK _ ?_)))
        clear hK K
        refine hR0 _ _ ?_
        refine roundU [] [1, 2, 13, 14] ⟨(pre ++ [s], suf), by rw [← hp]; simp, ?_⟩ ?_ keep_n (slots_c (he := (by first | rfl | (congr 2; simp; done))) (h := (slots_c (he := (by first | rfl | exact iE (by rw [massK_snoc, if_pos ‹_›, hV]) | exact iE (by rw [massK_snoc, if_neg ‹_›]))) (h := trivial)))) (.c (.c (.c (.c .n))))
        trivial
        all_goals (dsimp only; simp only [List.length_cons]; omega)
      · first
      | (first | omega | contradiction)
      | refine Ev.skip ?_
        show Ev _ _ _ _
        have hE : okE s = 0 := if_pos hsok
        have hV : okV s (barMass s) = barMass s := if_pos hsok
        refine Ev.sr fun K hK => S.o (q.lvA [_, _, _, _, _] am_ag44 am_cl44) (S.c0 (hF := barMass_fun _ (by assumption)) (h := S.o q.mv (S.o q.ex (S.o q.ex (S.o q.as (S.o q.as (S.end (hK _ ?_))))))))
        clear hK K
        refine Ev.seq ?_
        refine Ev.sr fun K hK => S.o q.mv (S.o q.neq (S.end (hK _ ?_)))
        clear hK K
        refine Ev.cn (fun c3 => ?_) (fun c3 => ?_)
        · first
        | (first | omega | contradiction)
        | refine Ev.sr fun K hK => S.o q.mv (S.o q.as (S.o q.as (S.end (hK _ ?_))))
          clear hK K
          refine Ev.ret ?_
          refine hR0 _ _ ?_
          refine Ev.ret2 ?_
          refine ⟨?_, rfl⟩
          first | rfl | (exfalso; omega)
        · first
        | (first | omega | contradiction)
        | refine Ev.skip ?_
          show Ev _ _ _ _
          refine Ev.region_S fun K hK => S.o q.mv (S.o q.mv (S.o q.add (S.o q.as (S.end (hK _ ?_)))))
          clear hK K
          show Ev _ _ _ _
          refine Ev.region_S fun K hK => S.o q.add (S.o q.mv (S.end (hK _ ?_)))
          clear hK K
          refine hR0 _ _ ?_
          refine roundU [] [1, 2, 13, 14] ⟨(pre ++ [s], suf), by rw [← hp]; simp, ?_⟩ ?_ keep_n (slots_c (he := (by first | rfl | (congr 2; simp; done))) (h := (slots_c (he := (by first | rfl | exact iE (by rw [massK_snoc, if_pos ‹_›, hV]) | exact iE (by rw [massK_snoc, if_neg ‹_›]))) (h := trivial)))) (.c (.c (.c (.c .n))))
          trivial
          all_goals (dsimp only; simp only [List.length_cons]; omega)
    · first
    | (first | omega | contradiction)
    | refine Ev.exit ?_
      refine hR0 _ _ ?_
      show Ev _ _ _ _
      refine Ev.sr fun K hK => S.o q.mv (S.o q.as (S.o q.as (S.end (hK _ ?_))))
      clear hK K
      refine Ev.ret ?_
      refine Ev.ret2 ?_
      refine ⟨?_, rfl⟩
      first | rfl | (exfalso; omega)
  · simp only [List.length_cons] at hpl
    have hidx : (l)[pre.length]? = some s := by rw [← hp]; simp
    have hsok : okBar s := hok s (by rw [← hp]; simp)
    have hsw : s.w := okBar_w hsok
    obtain ⟨hb1, hb2⟩ := massK_bd ks ch pre (fun b hb => hok b (by rw [← hp]; simp [hb]))
    obtain ⟨_, _, hb3, hb4⟩ := barMass_bd hsok
    refine Ev.sr fun K hK => S.o q.lss (S.end (hK _ ?_))
    clear hK K
    refine Ev.ud (fun c4 => ?_) (fun c4 => ?_)
    · first
    | (first | omega | contradiction)
    | refine Ev.seq ?_
      refine Ev.block ?_
      refine Ev.sr fun K hK => S.o (q.ix am_el22 am_cl44 (hl := (by first | exact ati hidx (by omega) | exact atig (by omega)))) (S.o (q.lsA [_, _, _, _, _] am_ag44 am_cl44) (S.nn (q.al am_ze44) (S.sv [_, _, _, _, _] true [] am_in44 am_cl44 (h := S.end (hK _ ?_)))))
      clear hK K
      refine Ev.seq ?_
      refine Ev.sr fun K hK => S.o q.mv (S.o q.mv (S.o (q.fa 0 am_fi44_0 am_cl9) (S.o (q.lv am_ag9) (S.c0 (hF := of_fun _ _ (by omega)) (h := S.c0 (hF := contains_fun _ _ (by omega)) (h := S.o q.not (S.end (hK _ ?_))))))))
      clear hK K
      refine Ev.cn (fun c5 => ?_) (fun c5 => ?_)
      · first
      | (first | omega | contradiction)
      | refine Ev.exit ?_
        show Ev _ _ _ _
        refine Ev.region_S fun K hK => S.o q.add (S.o q.mv (S.end (hK _ ?_)))
        clear hK K
        refine hR0 _ _ ?_
        refine roundU [] [1, 2, 13, 14] ⟨(pre ++ [s], suf), by rw [← hp]; simp, ?_⟩ ?_ keep_n (slots_c (he := (by first | rfl | (congr 2; simp; done))) (h := (slots_c (he := (by first | rfl | exact iE (by rw [massK_snoc, if_pos ‹_›, hV]) | exact iE (by rw [massK_snoc, if_neg ‹_›]))) (h := trivial)))) (.c (.c (.c (.c .n))))
        trivial
        all_goals (dsimp only; simp only [List.length_cons]; omega)
      · first
      | (first | omega | contradiction)
      | refine Ev.skip ?_
        show Ev _ _ _ _
        have hE : okE s = 0 := if_pos hsok
        have hV : okV s (barMass s) = barMass s := if_pos hsok
        refine Ev.sr fun K hK => S.o (q.lvA [_, _, _, _, _] am_ag44 am_cl44) (S.c0 (hF := barMass_fun _ (by assumption)) (h := S.o q.mv (S.o q.ex (S.o q.ex (S.o q.as (S.o q.as (S.end (hK _ ?_))))))))
        clear hK K
        refine Ev.seq ?_
        refine Ev.sr fun K hK => S.o q.mv (S.o q.neq (S.end (hK _ ?_)))
        clear hK K
        refine Ev.cn (fun c6 => ?_) (fun c6 => ?_)
        · first
        | (first | omega | contradiction)
        | refine Ev.sr fun K hK => S.o q.mv (S.o q.as (S.o q.as (S.end (hK _ ?_))))
          clear hK K
          refine Ev.ret ?_
          refine hR0 _ _ ?_
          refine Ev.ret2 ?_
          refine ⟨?_, rfl⟩
          first | rfl | (exfalso; omega)
        · first
        | (first | omega | contradiction)
        | refine Ev.skip ?_
          show Ev _ _ _ _
          refine Ev.region_S fun K hK => S.o q.mv (S.o q.mv (S.o q.add (S.o q.as (S.end (hK _ ?_)))))
          clear hK K
          show Ev _ _ _ _
          refine Ev.region_S fun K hK => S.o q.add (S.o q.mv (S.end (hK _ ?_)))
          clear hK K
          refine hR0 _ _ ?_
          refine roundU [] [1, 2, 13, 14] ⟨(pre ++ [s], suf), by rw [← hp]; simp, ?_⟩ ?_ keep_n (slots_c (he := (by first | rfl | (congr 2; simp; done))) (h := (slots_c (he := (by first | rfl | exact iE (by rw [massK_snoc, if_pos ‹_›, hV]) | exact iE (by rw [massK_snoc, if_neg ‹_›]))) (h := trivial)))) (.c (.c (.c (.c .n))))
          trivial
          all_goals (dsimp only; simp only [List.length_cons]; omega)
    · first
    | (first | omega | contradiction)
    | refine Ev.exit ?_
      refine hR0 _ _ ?_
      show Ev _ _ _ _
      refine Ev.sr fun K hK => S.o q.mv (S.o q.as (S.o q.as (S.end (hK _ ?_))))
      clear hK K
      refine Ev.ret ?_
      refine Ev.ret2 ?_
      refine ⟨?_, rfl⟩
      first | rfl | (exfalso; omega)

def comesP (a b : List Bar) : Int := massK [3, 2] (cmpP a b) b
def goesP (a b : List Bar) : Int := massK [2, 4] (cmpP a b) a
def stV (a b : List Bar) (v : Int) : Int := if okSched a ∧ okSched b then v else 0
theorem cmp_len (a b : List Bar) : (cmpP a b).length ≤ a.length + b.length := by
  have := filter_le (newP a) b
  simp only [cmpP, List.length_append, List.length_map]
  omega
theorem Steel_fun (a b : List Bar) (ha : a.length ≤ 140737488355328) (hb : b.length ≤ 140737488355328) (hwa : schedW a) (hwb : schedW b) : Fun Tryz.prog 19 [.sh 5 (a.map Bar.c), .sh 5 (b.map Bar.c)] (Ret (.tup [.lit (.int .i64 (stV a b (comesP a b))), .lit (.int .i64 (stV a b (goesP a b))), .lit (.int .i64 (cmpE a b))]) []) := by
  refine Fun.of (nt := 42) (rs := [.tmp 4, .tmp 5, .tmp 6]) Tryz.func19 rfl rfl rfl rfl rfl ?_
  refine Ev.sr fun K hK => S.o q.as (S.o q.as (S.o q.as (S.end (hK _ ?_))))
  clear hK K
  refine Ev.sr fun K hK => S.o q.mv (S.o q.mv (S.c0 (hF := Compare_fun _ _ (by omega) (by omega) (by assumption) (by assumption)) (h := S.o q.mv (S.o q.ex (S.o q.ex (S.o q.as (S.o q.as (S.end (hK _ ?_)))))))))
  clear hK K
  refine Ev.seq ?_
  refine Ev.sr fun K hK => S.o q.mv (S.o q.neq (S.end (hK _ ?_)))
  clear hK K
  refine Ev.cn (fun c1 => ?_) (fun c1 => ?_)
  · first
  | (first | omega | contradiction)
  | have hno : ¬ (okSched a ∧ okSched b) := fun h => by have h1 : cmpE a b = 0 := if_pos h; omega
    refine Ev.sr fun K hK => S.o q.mv (S.o q.as (S.o q.as (S.o q.as (S.end (hK _ ?_)))))
    clear hK K
    refine Ev.ret ?_
    refine Ev.ret3 ?_
    refine ⟨?_, rfl⟩
    first
     | (rw [show stV a b (comesP a b) = 0 from if_neg hno, show stV a b (goesP a b) = 0 from if_neg hno]; done)
     | (exfalso; omega)
     | (rw [show stV a b (comesP a b) = comesP a b from if_pos hyes, show stV a b (goesP a b) = goesP a b from if_pos hyes, show cmpE a b = 0 from if_pos hyes]; rfl)
  · first
  | (first | omega | contradiction)
  | refine Ev.skip ?_
    show Ev _ _ _ _
    have hyes : okSched a ∧ okSched b := by
      by_cases h : okSched a ∧ okSched b
      · exact h
      · have h1 : cmpE a b = 1 := if_neg h
        omega
    have ho1 := hyes.1.2.1
    have ho2 := hyes.2.2.1
    have hl1 := hyes.1.1
    have hl2 := hyes.2.1
    have hcl := cmp_len a b
    rw [show cmpV a b = cmpP a b from if_pos hyes]
    refine Ev.sr fun K hK => S.o q.mv (S.o q.mv (S.nn (q.bs [[_], [_]] true am_el42 am_ze3 am_cl3) (S.c0 (hF := mass_kinds_fun b (cmpP a b) [3, 2] ho2 (by omega) (by omega) (by decide)) (h := S.o q.mv (S.o q.ex (S.o q.ex (S.o q.as (S.o q.as (S.end (hK _ ?_))))))))))
    clear hK K
    refine Ev.seq ?_
    refine Ev.sr fun K hK => S.o q.mv (S.o q.neq (S.end (hK _ ?_)))
    clear hK K
    refine Ev.cn (fun c2 => ?_) (fun c2 => ?_)
    · first
    | (first | omega | contradiction)
    | refine Ev.sr fun K hK => S.o q.mv (S.o q.as (S.o q.as (S.o q.as (S.end (hK _ ?_)))))
      clear hK K
      refine Ev.ret ?_
      refine Ev.ret3 ?_
      refine ⟨?_, rfl⟩
      first
       | (rw [show stV a b (comesP a b) = 0 from if_neg hno, show stV a b (goesP a b) = 0 from if_neg hno]; done)
       | (exfalso; omega)
       | (rw [show stV a b (comesP a b) = comesP a b from if_pos hyes, show stV a b (goesP a b) = goesP a b from if_pos hyes, show cmpE a b = 0 from if_pos hyes]; rfl)
    · first
    | (first | omega | contradiction)
    | refine Ev.skip ?_
      show Ev _ _ _ _
      refine Ev.sr fun K hK => S.o q.mv (S.o q.mv (S.nn (q.bs [[_], [_]] true am_el42 am_ze3 am_cl3) (S.c0 (hF := mass_kinds_fun a (cmpP a b) [2, 4] ho1 (by omega) (by omega) (by decide)) (h := S.o q.mv (S.o q.ex (S.o q.ex (S.o q.as (S.o q.as (S.end (hK _ ?_))))))))))
      clear hK K
      refine Ev.seq ?_
      refine Ev.sr fun K hK => S.o q.mv (S.o q.neq (S.end (hK _ ?_)))
      clear hK K
      refine Ev.cn (fun c3 => ?_) (fun c3 => ?_)
      · first
      | (first | omega | contradiction)
      | refine Ev.sr fun K hK => S.o q.mv (S.o q.as (S.o q.as (S.o q.as (S.end (hK _ ?_)))))
        clear hK K
        refine Ev.ret ?_
        refine Ev.ret3 ?_
        refine ⟨?_, rfl⟩
        first
         | (rw [show stV a b (comesP a b) = 0 from if_neg hno, show stV a b (goesP a b) = 0 from if_neg hno]; done)
         | (exfalso; omega)
         | (rw [show stV a b (comesP a b) = comesP a b from if_pos hyes, show stV a b (goesP a b) = goesP a b from if_pos hyes, show cmpE a b = 0 from if_pos hyes]; rfl)
      · first
      | (first | omega | contradiction)
      | refine Ev.skip ?_
        show Ev _ _ _ _
        refine Ev.sr fun K hK => S.o q.mv (S.o q.mv (S.o q.as (S.o q.as (S.o q.as (S.end (hK _ ?_))))))
        clear hK K
        refine Ev.ret ?_
        refine Ev.ret3 ?_
        refine ⟨?_, rfl⟩
        first
         | (rw [show stV a b (comesP a b) = 0 from if_neg hno, show stV a b (goesP a b) = 0 from if_neg hno]; done)
         | (exfalso; omega)
         | (rw [show stV a b (comesP a b) = comesP a b from if_pos hyes, show stV a b (goesP a b) = goesP a b from if_pos hyes, show cmpE a b = 0 from if_pos hyes]; rfl)

def fitC (a b : List Bar) (c : Chg) : Prop := (c.1 = 1 ∨ c.1 = 4 → 0 ≤ markI a c.2) ∧ (c.1 = 2 → 0 ≤ markI a c.2 ∧ 0 ≤ markI b c.2) ∧ (c.1 = 3 → markI a c.2 < 0 ∧ 0 ≤ markI b c.2)
instance (a b c) : Decidable (fitC a b c) := by unfold fitC; infer_instance
def fitsP (a b : List Bar) (l : List Chg) : Prop := (∀ c ∈ l, fitC a b c) ∧ ∀ x ∈ a, ofK l x.mark ≠ 0
instance (a b l) : Decidable (fitsP a b l) := by unfold fitsP; infer_instance
theorem fits1_fun (l : List Chg) (hlen : l.length ≤ 140737488355328) (x : Bar) : Fun Tryz.prog 48 [.agg x.c, .sadr [.sh 2 (l.map findC)] 0] (Ret (.lit (.bool (decide (ofK l x.mark = 0)))) []) := by
  refine Fun.of (nt := 9) (rs := [.tmp 3]) Tryz.func48 rfl rfl rfl rfl rfl ?_
  refine Ev.sr fun K hK => S.nn (q.bx [_, _, _, _, _] true) (S.o q.as (S.end (hK _ ?_)))
  clear hK K
  refine Ev.sr fun K hK => S.o (q.ls am_ag25) (S.o (q.fa 0 am_fi44_0 am_cl9) (S.o (q.lv am_ag9) (S.c0 (hF := of_fun _ _ (by omega)) (h := S.o q.eql (S.o q.as (S.end (hK _ ?_)))))))
  clear hK K
  refine Ev.ret ?_
  refine Ev.ret1 ?_
  refine ⟨?_, rfl⟩
  rfl
theorem fits_end {a b : List Bar} {l : List Chg} (h : ∀ c ∈ l, fitC a b c) : AV.lit (.bool (!decide (∃ x ∈ a, decide (ofK l x.mark = 0) = true))) = .lit (.bool (decide (fitsP a b l))) := by
  congr 2
  rw [← decide_not, decide_eq_decide]
  constructor
  · intro h1
    refine ⟨h, fun x hx e => h1 ⟨x, hx, by simpa using e⟩⟩
  · rintro ⟨_, h2⟩ ⟨x, hx, e⟩
    exact h2 x hx (by simpa using e)
theorem fits_fun (a b : List Bar) (l : List Chg) (ha : a.length ≤ 140737488355328) (hb : b.length ≤ 140737488355328) (hl : l.length ≤ 140737488355328) : Fun Tryz.prog 27 [.sh 5 (a.map Bar.c), .sh 5 (b.map Bar.c), .sh 2 (l.map findC)] (Ret (.lit (.bool (decide (fitsP a b l)))) []) := by
  refine Fun.of (nt := 53) (rs := [.tmp 6]) Tryz.func27 rfl rfl rfl rfl rfl ?_
  refine Ev.sr fun K hK => S.nn (q.bx [_] true) (S.o q.as (S.end (hK _ ?_)))
  clear hK K
  refine Ev.seq ?_
  refine Ev.sr fun K hK => S.o (q.lv am_ag25) (S.o (q.lens am_el25) (S.o q.mv (S.end (hK _ ?_))))
  clear hK K
  refine Ev.block ?_
  refine Ev.loopU (ι := {q : List Chg × List Chg // q.1 ++ q.2 = l ∧ ∀ c ∈ q.1, fitC a b c}) [0] [0, 1, 5, 11, 12] (fun ⟨(pre, suf), _⟩ => [(13, .lit (.int .i64 ((pre.length : Int))))]) (fun ⟨(pre, suf), _⟩ => [(0, ⟨false, 25, 1, [[.sh 2 ((l).map findC)]], true⟩)]) (fun ⟨(pre, suf), _⟩ => suf.length) ⟨([], l), rfl, fun x hx => by simp at hx⟩ (.c (.c (.c (.c (.c .n))))) (keep_c (he := (by first | rfl | (simp; done))) (h := keep_n)) (slots_c (he := (by first | rfl | (simp; done) | (congr 2; omega))) (h := trivial)) ?_
  rintro ⟨⟨pre, suf⟩, hp, hinv⟩ R0 hR0
  dsimp only [List.cons_append, List.nil_append, List.length_cons, List.length_nil]
  simp only at hp hinv
  have hpl : pre.length + suf.length = (l).length := by rw [← hp, List.length_append]
  rcases suf with _ | ⟨s, suf⟩
  · rw [List.append_nil] at hp; subst pre; simp only [List.length_nil] at hpl
    refine Ev.sr fun K hK => S.o q.lss (S.end (hK _ ?_))
    clear hK K
    refine Ev.ud (fun c1 => ?_) (fun c1 => ?_)
    · first
    | (first | omega | contradiction)
    | refine Ev.seq ?_
      refine Ev.block ?_
      refine Ev.sr fun K hK => S.o (q.ix am_el25 am_cl34 (hl := (by first | exact atig (by omega)))) (S.o (q.lsA [_, _] am_ag34 am_cl34) (S.nn (q.al am_ze34) (S.sv [_, _] true [_] am_in34 am_cl34 (h := S.end (hK _ ?_)))))
      clear hK K
      refine Ev.sm (tbs [(0, 0), (0, 0), (2, 2), (3, 7), (0, 0), (0, 0), (6, 32), (7, 127), (8, 255), (9, 511)]) 8 fun K hK => M.o q.mv (M.o (q.fa 1 am_fi34_1 am_cl9) (M.o (q.lv am_ag9) (M.c0 (hF := find_fun _ _ (by omega)) (h := M.o q.mv (M.o (q.fa 1 am_fi34_1 am_cl9) (M.o (q.lv am_ag9) (M.c0 (hF := find_fun _ _ (by omega)) (h := M.end [_, _] (h := S.o q.as (S.o q.as (S.end (hK _ ?_))))))))))))
      clear hK K
      refine Ev.sr fun K hK => S.o (q.fa 0 am_fi34_0 am_cl3) (S.o (q.lv am_ag3) (S.end (hK _ ?_)))
      clear hK K
      refine Ev.block ?_
      refine Ev.seq ?_
      refine Ev.sr fun K hK => S.o q.eql (S.o q.as (S.end (hK _ ?_)))
      clear hK K
      refine Ev.cd (fun c2 => ?_) (fun c2 => ?_)
      · first
      | (first | omega | contradiction)
      | refine Ev.skip ?_
        show Ev _ _ _ _
        refine Ev.cd (fun _ => ?_) (fun c => absurd c2 c)
        refine Ev.sr fun K hK => S.o q.mv (S.o q.lss (S.end (hK _ ?_)))
        clear hK K
        refine Ev.cd (fun c3 => ?_) (fun c3 => ?_)
        · first
        | (first | omega | contradiction)
        | refine Ev.sr fun K hK => S.o q.as (S.end (hK _ ?_))
          clear hK K
          refine Ev.ret ?_
          refine hR0 _ _ ?_
          refine Ev.ret1 ?_
          refine ⟨?_, rfl⟩
          first | exact bF (fun h => by have h1 := h.1 s (by rw [← hp]; simp); unfold fitC at h1; omega) | exact fits_end hinv
        · first
        | (first | omega | contradiction)
        | refine Ev.skip ?_
          show Ev _ _ _ _
          refine Ev.region_S fun K hK => S.o q.add (S.o q.mv (S.end (hK _ ?_)))
          clear hK K
          refine hR0 _ _ ?_
          refine roundU [0] [0, 1, 5, 11, 12] ⟨(pre ++ [s], suf), by rw [← hp]; simp, ?_⟩ ?_ (keep_c (he := (by first | rfl | (simp; done))) (h := keep_n)) (slots_c (he := (by first | rfl | (simp; done) | (congr 2; omega))) (h := trivial)) (.c (.c (.c (.c (.c .n)))))
          intro x hx; simp only [List.mem_append, List.mem_singleton] at hx; rcases hx with hx | rfl
          · exact hinv x hx
          · unfold fitC; omega
          all_goals (dsimp only; simp only [List.length_cons]; omega)
      · first
      | (first | omega | contradiction)
      | refine Ev.region_S fun K hK => S.o q.eql (S.o q.as (S.end (hK _ ?_)))
        clear hK K
        show Ev _ _ _ _
        refine Ev.cd (fun c4 => ?_) (fun c4 => ?_)
        · first
        | (first | omega | contradiction)
        | refine Ev.sr fun K hK => S.o q.mv (S.o q.lss (S.end (hK _ ?_)))
          clear hK K
          refine Ev.cd (fun c5 => ?_) (fun c5 => ?_)
          · first
          | (first | omega | contradiction)
          | refine Ev.sr fun K hK => S.o q.as (S.end (hK _ ?_))
            clear hK K
            refine Ev.ret ?_
            refine hR0 _ _ ?_
            refine Ev.ret1 ?_
            refine ⟨?_, rfl⟩
            first | exact bF (fun h => by have h1 := h.1 s (by rw [← hp]; simp); unfold fitC at h1; omega) | exact fits_end hinv
          · first
          | (first | omega | contradiction)
          | refine Ev.skip ?_
            show Ev _ _ _ _
            refine Ev.region_S fun K hK => S.o q.add (S.o q.mv (S.end (hK _ ?_)))
            clear hK K
            refine hR0 _ _ ?_
            refine roundU [0] [0, 1, 5, 11, 12] ⟨(pre ++ [s], suf), by rw [← hp]; simp, ?_⟩ ?_ (keep_c (he := (by first | rfl | (simp; done))) (h := keep_n)) (slots_c (he := (by first | rfl | (simp; done) | (congr 2; omega))) (h := trivial)) (.c (.c (.c (.c (.c .n)))))
            intro x hx; simp only [List.mem_append, List.mem_singleton] at hx; rcases hx with hx | rfl
            · exact hinv x hx
            · unfold fitC; omega
            all_goals (dsimp only; simp only [List.length_cons]; omega)
        · first
        | (first | omega | contradiction)
        | refine Ev.sr fun K hK => S.o q.eql (S.o q.as (S.end (hK _ ?_)))
          clear hK K
          refine Ev.cd (fun c6 => ?_) (fun c6 => ?_)
          · first
          | (first | omega | contradiction)
          | refine Ev.sr fun K hK => S.o q.mv (S.o q.lss (S.bd q.mv (fun c7 => ?_) (fun c7 => ?_)))
            · first
            | (first | omega | contradiction)
            | refine S.sk (S.sk (S.o q.pt (S.end (hK _ ?_))))
              clear hK K
              refine Ev.ct ?_
              refine Ev.sr fun K hK => S.o q.as (S.end (hK _ ?_))
              clear hK K
              refine Ev.ret ?_
              refine hR0 _ _ ?_
              refine Ev.ret1 ?_
              refine ⟨?_, rfl⟩
              first | exact bF (fun h => by have h1 := h.1 s (by rw [← hp]; simp); unfold fitC at h1; omega) | exact fits_end hinv
            · first
            | (first | omega | contradiction)
            | refine S.o q.mv (S.o q.lss (S.o q.pf (S.end (hK _ ?_))))
              clear hK K
              refine Ev.cd (fun c8 => ?_) (fun c8 => ?_)
              · first
              | (first | omega | contradiction)
              | refine Ev.sr fun K hK => S.o q.as (S.end (hK _ ?_))
                clear hK K
                refine Ev.ret ?_
                refine hR0 _ _ ?_
                refine Ev.ret1 ?_
                refine ⟨?_, rfl⟩
                first | exact bF (fun h => by have h1 := h.1 s (by rw [← hp]; simp); unfold fitC at h1; omega) | exact fits_end hinv
              · first
              | (first | omega | contradiction)
              | refine Ev.skip ?_
                show Ev _ _ _ _
                refine Ev.region_S fun K hK => S.o q.add (S.o q.mv (S.end (hK _ ?_)))
                clear hK K
                refine hR0 _ _ ?_
                refine roundU [0] [0, 1, 5, 11, 12] ⟨(pre ++ [s], suf), by rw [← hp]; simp, ?_⟩ ?_ (keep_c (he := (by first | rfl | (simp; done))) (h := keep_n)) (slots_c (he := (by first | rfl | (simp; done) | (congr 2; omega))) (h := trivial)) (.c (.c (.c (.c (.c .n)))))
                intro x hx; simp only [List.mem_append, List.mem_singleton] at hx; rcases hx with hx | rfl
                · exact hinv x hx
                · unfold fitC; omega
                all_goals (dsimp only; simp only [List.length_cons]; omega)
          · first
          | (first | omega | contradiction)
          | refine Ev.sr fun K hK => S.o q.eql (S.o q.as (S.end (hK _ ?_)))
            clear hK K
            refine Ev.cd (fun c9 => ?_) (fun c9 => ?_)
            · first
            | (first | omega | contradiction)
            | refine Ev.sr fun K hK => S.o q.mv (S.o q.geq (S.bd q.mv (fun c10 => ?_) (fun c10 => ?_)))
              · first
              | (first | omega | contradiction)
              | refine S.sk (S.sk (S.o q.pt (S.end (hK _ ?_))))
                clear hK K
                refine Ev.ct ?_
                refine Ev.sr fun K hK => S.o q.as (S.end (hK _ ?_))
                clear hK K
                refine Ev.ret ?_
                refine hR0 _ _ ?_
                refine Ev.ret1 ?_
                refine ⟨?_, rfl⟩
                first | exact bF (fun h => by have h1 := h.1 s (by rw [← hp]; simp); unfold fitC at h1; omega) | exact fits_end hinv
              · first
              | (first | omega | contradiction)
              | refine S.o q.mv (S.o q.lss (S.o q.pf (S.end (hK _ ?_))))
                clear hK K
                refine Ev.cd (fun c11 => ?_) (fun c11 => ?_)
                · first
                | (first | omega | contradiction)
                | refine Ev.sr fun K hK => S.o q.as (S.end (hK _ ?_))
                  clear hK K
                  refine Ev.ret ?_
                  refine hR0 _ _ ?_
                  refine Ev.ret1 ?_
                  refine ⟨?_, rfl⟩
                  first | exact bF (fun h => by have h1 := h.1 s (by rw [← hp]; simp); unfold fitC at h1; omega) | exact fits_end hinv
                · first
                | (first | omega | contradiction)
                | refine Ev.skip ?_
                  show Ev _ _ _ _
                  refine Ev.region_S fun K hK => S.o q.add (S.o q.mv (S.end (hK _ ?_)))
                  clear hK K
                  refine hR0 _ _ ?_
                  refine roundU [0] [0, 1, 5, 11, 12] ⟨(pre ++ [s], suf), by rw [← hp]; simp, ?_⟩ ?_ (keep_c (he := (by first | rfl | (simp; done))) (h := keep_n)) (slots_c (he := (by first | rfl | (simp; done) | (congr 2; omega))) (h := trivial)) (.c (.c (.c (.c (.c .n)))))
                  intro x hx; simp only [List.mem_append, List.mem_singleton] at hx; rcases hx with hx | rfl
                  · exact hinv x hx
                  · unfold fitC; omega
                  all_goals (dsimp only; simp only [List.length_cons]; omega)
            · first
            | (first | omega | contradiction)
            | refine Ev.skip ?_
              show Ev _ _ _ _
              refine Ev.region_S fun K hK => S.o q.add (S.o q.mv (S.end (hK _ ?_)))
              clear hK K
              refine hR0 _ _ ?_
              refine roundU [0] [0, 1, 5, 11, 12] ⟨(pre ++ [s], suf), by rw [← hp]; simp, ?_⟩ ?_ (keep_c (he := (by first | rfl | (simp; done))) (h := keep_n)) (slots_c (he := (by first | rfl | (simp; done) | (congr 2; omega))) (h := trivial)) (.c (.c (.c (.c (.c .n)))))
              intro x hx; simp only [List.mem_append, List.mem_singleton] at hx; rcases hx with hx | rfl
              · exact hinv x hx
              · unfold fitC; omega
              all_goals (dsimp only; simp only [List.length_cons]; omega)
    · first
    | (first | omega | contradiction)
    | refine Ev.exit ?_
      refine hR0 _ _ ?_
      show Ev _ _ _ _
      refine Ev.sr fun K hK => S.o q.mv (S.o q.mf (S.c0 (hF := containsFuncBar1 _ _ (fun x : Bar => decide (ofK l x.mark = 0)) (fits1_fun l hl) a ha) (h := S.o q.not (S.o q.as (S.end (hK _ ?_))))))
      clear hK K
      refine Ev.ret ?_
      refine Ev.ret1 ?_
      refine ⟨?_, rfl⟩
      first | exact bF (fun h => by have h1 := h.1 s (by rw [← hp]; simp); unfold fitC at h1; omega) | exact fits_end hinv
  · simp only [List.length_cons] at hpl
    have hidx : (l)[pre.length]? = some s := by rw [← hp]; simp
    refine Ev.sr fun K hK => S.o q.lss (S.end (hK _ ?_))
    clear hK K
    refine Ev.ud (fun c12 => ?_) (fun c12 => ?_)
    · first
    | (first | omega | contradiction)
    | refine Ev.seq ?_
      refine Ev.block ?_
      refine Ev.sr fun K hK => S.o (q.ix am_el25 am_cl34 (hl := (by first | exact ati hidx (by omega) | exact atig (by omega)))) (S.o (q.lsA [_, _] am_ag34 am_cl34) (S.nn (q.al am_ze34) (S.sv [_, _] true [_] am_in34 am_cl34 (h := S.end (hK _ ?_)))))
      clear hK K
      refine Ev.sm (tbs [(0, 0), (0, 0), (2, 2), (3, 7), (0, 0), (0, 0), (6, 32), (7, 127), (8, 255), (9, 511)]) 8 fun K hK => M.o q.mv (M.o (q.fa 1 am_fi34_1 am_cl9) (M.o (q.lv am_ag9) (M.c0 (hF := find_fun _ _ (by omega)) (h := M.o q.mv (M.o (q.fa 1 am_fi34_1 am_cl9) (M.o (q.lv am_ag9) (M.c0 (hF := find_fun _ _ (by omega)) (h := M.end [_, _] (h := S.o q.as (S.o q.as (S.end (hK _ ?_))))))))))))
      clear hK K
      refine Ev.sr fun K hK => S.o (q.fa 0 am_fi34_0 am_cl3) (S.o (q.lv am_ag3) (S.end (hK _ ?_)))
      clear hK K
      refine Ev.block ?_
      refine Ev.seq ?_
      refine Ev.sr fun K hK => S.o q.eql (S.o q.as (S.end (hK _ ?_)))
      clear hK K
      refine Ev.cd (fun c13 => ?_) (fun c13 => ?_)
      · first
      | (first | omega | contradiction)
      | refine Ev.skip ?_
        show Ev _ _ _ _
        refine Ev.cd (fun _ => ?_) (fun c => absurd c13 c)
        refine Ev.sr fun K hK => S.o q.mv (S.o q.lss (S.end (hK _ ?_)))
        clear hK K
        refine Ev.cd (fun c14 => ?_) (fun c14 => ?_)
        · first
        | (first | omega | contradiction)
        | refine Ev.sr fun K hK => S.o q.as (S.end (hK _ ?_))
          clear hK K
          refine Ev.ret ?_
          refine hR0 _ _ ?_
          refine Ev.ret1 ?_
          refine ⟨?_, rfl⟩
          first | exact bF (fun h => by have h1 := h.1 s (by rw [← hp]; simp); unfold fitC at h1; omega) | exact fits_end hinv
        · first
        | (first | omega | contradiction)
        | refine Ev.skip ?_
          show Ev _ _ _ _
          refine Ev.region_S fun K hK => S.o q.add (S.o q.mv (S.end (hK _ ?_)))
          clear hK K
          refine hR0 _ _ ?_
          refine roundU [0] [0, 1, 5, 11, 12] ⟨(pre ++ [s], suf), by rw [← hp]; simp, ?_⟩ ?_ (keep_c (he := (by first | rfl | (simp; done))) (h := keep_n)) (slots_c (he := (by first | rfl | (simp; done) | (congr 2; omega))) (h := trivial)) (.c (.c (.c (.c (.c .n)))))
          intro x hx; simp only [List.mem_append, List.mem_singleton] at hx; rcases hx with hx | rfl
          · exact hinv x hx
          · unfold fitC; omega
          all_goals (dsimp only; simp only [List.length_cons]; omega)
      · first
      | (first | omega | contradiction)
      | refine Ev.region_S fun K hK => S.o q.eql (S.o q.as (S.end (hK _ ?_)))
        clear hK K
        show Ev _ _ _ _
        refine Ev.cd (fun c15 => ?_) (fun c15 => ?_)
        · first
        | (first | omega | contradiction)
        | refine Ev.sr fun K hK => S.o q.mv (S.o q.lss (S.end (hK _ ?_)))
          clear hK K
          refine Ev.cd (fun c16 => ?_) (fun c16 => ?_)
          · first
          | (first | omega | contradiction)
          | refine Ev.sr fun K hK => S.o q.as (S.end (hK _ ?_))
            clear hK K
            refine Ev.ret ?_
            refine hR0 _ _ ?_
            refine Ev.ret1 ?_
            refine ⟨?_, rfl⟩
            first | exact bF (fun h => by have h1 := h.1 s (by rw [← hp]; simp); unfold fitC at h1; omega) | exact fits_end hinv
          · first
          | (first | omega | contradiction)
          | refine Ev.skip ?_
            show Ev _ _ _ _
            refine Ev.region_S fun K hK => S.o q.add (S.o q.mv (S.end (hK _ ?_)))
            clear hK K
            refine hR0 _ _ ?_
            refine roundU [0] [0, 1, 5, 11, 12] ⟨(pre ++ [s], suf), by rw [← hp]; simp, ?_⟩ ?_ (keep_c (he := (by first | rfl | (simp; done))) (h := keep_n)) (slots_c (he := (by first | rfl | (simp; done) | (congr 2; omega))) (h := trivial)) (.c (.c (.c (.c (.c .n)))))
            intro x hx; simp only [List.mem_append, List.mem_singleton] at hx; rcases hx with hx | rfl
            · exact hinv x hx
            · unfold fitC; omega
            all_goals (dsimp only; simp only [List.length_cons]; omega)
        · first
        | (first | omega | contradiction)
        | refine Ev.sr fun K hK => S.o q.eql (S.o q.as (S.end (hK _ ?_)))
          clear hK K
          refine Ev.cd (fun c17 => ?_) (fun c17 => ?_)
          · first
          | (first | omega | contradiction)
          | refine Ev.sr fun K hK => S.o q.mv (S.o q.lss (S.bd q.mv (fun c18 => ?_) (fun c18 => ?_)))
            · first
            | (first | omega | contradiction)
            | refine S.sk (S.sk (S.o q.pt (S.end (hK _ ?_))))
              clear hK K
              refine Ev.ct ?_
              refine Ev.sr fun K hK => S.o q.as (S.end (hK _ ?_))
              clear hK K
              refine Ev.ret ?_
              refine hR0 _ _ ?_
              refine Ev.ret1 ?_
              refine ⟨?_, rfl⟩
              first | exact bF (fun h => by have h1 := h.1 s (by rw [← hp]; simp); unfold fitC at h1; omega) | exact fits_end hinv
            · first
            | (first | omega | contradiction)
            | refine S.o q.mv (S.o q.lss (S.o q.pf (S.end (hK _ ?_))))
              clear hK K
              refine Ev.cd (fun c19 => ?_) (fun c19 => ?_)
              · first
              | (first | omega | contradiction)
              | refine Ev.sr fun K hK => S.o q.as (S.end (hK _ ?_))
                clear hK K
                refine Ev.ret ?_
                refine hR0 _ _ ?_
                refine Ev.ret1 ?_
                refine ⟨?_, rfl⟩
                first | exact bF (fun h => by have h1 := h.1 s (by rw [← hp]; simp); unfold fitC at h1; omega) | exact fits_end hinv
              · first
              | (first | omega | contradiction)
              | refine Ev.skip ?_
                show Ev _ _ _ _
                refine Ev.region_S fun K hK => S.o q.add (S.o q.mv (S.end (hK _ ?_)))
                clear hK K
                refine hR0 _ _ ?_
                refine roundU [0] [0, 1, 5, 11, 12] ⟨(pre ++ [s], suf), by rw [← hp]; simp, ?_⟩ ?_ (keep_c (he := (by first | rfl | (simp; done))) (h := keep_n)) (slots_c (he := (by first | rfl | (simp; done) | (congr 2; omega))) (h := trivial)) (.c (.c (.c (.c (.c .n)))))
                intro x hx; simp only [List.mem_append, List.mem_singleton] at hx; rcases hx with hx | rfl
                · exact hinv x hx
                · unfold fitC; omega
                all_goals (dsimp only; simp only [List.length_cons]; omega)
          · first
          | (first | omega | contradiction)
          | refine Ev.sr fun K hK => S.o q.eql (S.o q.as (S.end (hK _ ?_)))
            clear hK K
            refine Ev.cd (fun c20 => ?_) (fun c20 => ?_)
            · first
            | (first | omega | contradiction)
            | refine Ev.sr fun K hK => S.o q.mv (S.o q.geq (S.bd q.mv (fun c21 => ?_) (fun c21 => ?_)))
              · first
              | (first | omega | contradiction)
              | refine S.sk (S.sk (S.o q.pt (S.end (hK _ ?_))))
                clear hK K
                refine Ev.ct ?_
                refine Ev.sr fun K hK => S.o q.as (S.end (hK _ ?_))
                clear hK K
                refine Ev.ret ?_
                refine hR0 _ _ ?_
                refine Ev.ret1 ?_
                refine ⟨?_, rfl⟩
                first | exact bF (fun h => by have h1 := h.1 s (by rw [← hp]; simp); unfold fitC at h1; omega) | exact fits_end hinv
              · first
              | (first | omega | contradiction)
              | refine S.o q.mv (S.o q.lss (S.o q.pf (S.end (hK _ ?_))))
                clear hK K
                refine Ev.cd (fun c22 => ?_) (fun c22 => ?_)
                · first
                | (first | omega | contradiction)
                | refine Ev.sr fun K hK => S.o q.as (S.end (hK _ ?_))
                  clear hK K
                  refine Ev.ret ?_
                  refine hR0 _ _ ?_
                  refine Ev.ret1 ?_
                  refine ⟨?_, rfl⟩
                  first | exact bF (fun h => by have h1 := h.1 s (by rw [← hp]; simp); unfold fitC at h1; omega) | exact fits_end hinv
                · first
                | (first | omega | contradiction)
                | refine Ev.skip ?_
                  show Ev _ _ _ _
                  refine Ev.region_S fun K hK => S.o q.add (S.o q.mv (S.end (hK _ ?_)))
                  clear hK K
                  refine hR0 _ _ ?_
                  refine roundU [0] [0, 1, 5, 11, 12] ⟨(pre ++ [s], suf), by rw [← hp]; simp, ?_⟩ ?_ (keep_c (he := (by first | rfl | (simp; done))) (h := keep_n)) (slots_c (he := (by first | rfl | (simp; done) | (congr 2; omega))) (h := trivial)) (.c (.c (.c (.c (.c .n)))))
                  intro x hx; simp only [List.mem_append, List.mem_singleton] at hx; rcases hx with hx | rfl
                  · exact hinv x hx
                  · unfold fitC; omega
                  all_goals (dsimp only; simp only [List.length_cons]; omega)
            · first
            | (first | omega | contradiction)
            | refine Ev.skip ?_
              show Ev _ _ _ _
              refine Ev.region_S fun K hK => S.o q.add (S.o q.mv (S.end (hK _ ?_)))
              clear hK K
              refine hR0 _ _ ?_
              refine roundU [0] [0, 1, 5, 11, 12] ⟨(pre ++ [s], suf), by rw [← hp]; simp, ?_⟩ ?_ (keep_c (he := (by first | rfl | (simp; done))) (h := keep_n)) (slots_c (he := (by first | rfl | (simp; done) | (congr 2; omega))) (h := trivial)) (.c (.c (.c (.c (.c .n)))))
              intro x hx; simp only [List.mem_append, List.mem_singleton] at hx; rcases hx with hx | rfl
              · exact hinv x hx
              · unfold fitC; omega
              all_goals (dsimp only; simp only [List.length_cons]; omega)
    · first
    | (first | omega | contradiction)
    | refine Ev.exit ?_
      refine hR0 _ _ ?_
      show Ev _ _ _ _
      refine Ev.sr fun K hK => S.o q.mv (S.o q.mf (S.c0 (hF := containsFuncBar1 _ _ (fun x : Bar => decide (ofK l x.mark = 0)) (fits1_fun l hl) a ha) (h := S.o q.not (S.o q.as (S.end (hK _ ?_))))))
      clear hK K
      refine Ev.ret ?_
      refine Ev.ret1 ?_
      refine ⟨?_, rfl⟩
      first | exact bF (fun h => by have h1 := h.1 s (by rw [← hp]; simp); unfold fitC at h1; omega) | exact fits_end hinv

theorem cloneInts_fun (l : List Int) (hlen : l.length ≤ 1000000) : Fun Tryz.prog 50 [.sh 1 (l.map intC)] (Ret (.als 0 0 l.length) [(0, ⟨true, 3, 1, l.map intC, true⟩)]) := by
  refine Fun.of (nt := 8) (rs := [.tmp 2]) Tryz.func50 rfl rfl rfl rfl rfl ?_
  refine Ev.sr fun K hK => S.o q.as (S.end (hK _ ?_))
  clear hK K
  refine Ev.seq ?_
  refine Ev.sr fun K hK => S.o q.mv (S.eqn am_el42 (fun c1 c2 => (S.end (hK _ ?_))))
  clear hK K
  refine Ev.c (fun c3 => ?_) (fun c3 => ?_)
  · first
  | (first | omega | contradiction)
  | refine Ev.sr fun K hK => S.o q.as (S.end (hK _ ?_))
    clear hK K
    refine Ev.weaken (Wk.nown intC 2 3 1) ?_
    refine Ev.ret ?_
    refine Ev.own1 ?_
    refine ⟨?_, ?_⟩
    all_goals first
     | rfl
     | (rw [List.map_eq_nil_iff.1 (c2 c3)]; done) | (rw [List.map_eq_nil_iff.1 (c2 c3)] <;> rfl)
     | (congr 1; simp; done)
     | (simp; done)
  · first
  | (first | omega | contradiction)
  | refine Ev.skip ?_
    show Ev _ _ _ _
    refine Ev.sr fun K hK => S.nn (v := .als 0 0 ([] : List (Int)).length) (o := ⟨true, 3, 1, ([] : List (Int)).map intC, true⟩) (q.bs [] true am_el42 am_ze3 am_cl3) (S.o q.mv (S.ap' [] am_el42 am_ze3 am_cl3 am_by3 (hh := head_own') (hr := rows_sh) (h := S.o q.as (S.end (hK _ ?_)))))
    clear hK K
    refine Ev.ret ?_
    refine Ev.own1 ?_
    refine ⟨?_, ?_⟩
    all_goals first
     | rfl
     | (rw [List.map_eq_nil_iff.1 (c2 c3)]; done) | (rw [List.map_eq_nil_iff.1 (c2 c3)] <;> rfl)
     | (congr 1; simp; done)
     | (simp; done)
theorem copied_fun (b : Bar) (h : b.dims.length ≤ 1000000) : Fun Tryz.prog 29 [.agg b.c] (Ret (.agg b.c) []) := by
  refine Fun.of (nt := 8) (rs := [.cell 2 44]) Tryz.func29 rfl rfl rfl rfl rfl ?_
  refine Ev.sr fun K hK => S.nn (q.bx [_, _, _, _, _] true) (S.nn (q.al am_ze44) (S.end (hK _ ?_)))
  clear hK K
  refine Ev.sr fun K hK => S.o (q.fa 4 am_fi44_4 am_cl42) (S.o (q.lv am_ag42) (S.c1 (hF := cloneInts_fun _ (by omega)) (h := SeqL.weaken (Wk.frz 5 [_, _]) (S.o (q.fa 4 am_fi44_4 am_cl42) (S.sv [_, _, _, _, _] true [_] am_in42 am_cl42 (h := S.end (hK _ ?_)))))))
  clear hK K
  refine Ev.sr fun K hK => S.o (q.lvA [_, _, _, _, _] am_ag44 am_cl44) (S.sv [_, _, _, _, _] true [_] am_in44 am_cl44 (h := S.end (hK _ ?_)))
  clear hK K
  refine Ev.ret ?_
  refine Ev.retv1 (res_c [_, _, _, _, _] am_ag44 am_cl44 res_n) ?_
  refine ⟨?_, rfl⟩
  rfl
end Go.Proofs.YtccddakkegelkaaGreatDoor
namespace Go.Proofs.YtccddakkegelkaaGreatDoor
open Go Go.AM
set_option linter.unusedSimpArgs false
set_option linter.unusedVariables false
set_option maxRecDepth 100000

def keepP (b : List Bar) (l : List Chg) (x : Bar) : List Bar := if ofK l x.mark = 1 then [x] else if ofK l x.mark = 2 then (barAt b x.mark).toList else []
def newB (b : List Bar) (c : Chg) : List Bar := if c.1 = 3 then (barAt b c.2).toList else []
def applyP (a b : List Bar) (l : List Chg) : List Bar := a.flatMap (keepP b l) ++ l.flatMap (newB b)
theorem keep_len (b : List Bar) (l : List Chg) (x : Bar) : (keepP b l x).length ≤ 1 := by
  unfold keepP
  split
  · simp
  · split
    · exact opt_len _
    · simp
theorem new_len (b : List Bar) (c : Chg) : (newB b c).length ≤ 1 := by
  unfold newB
  split
  · exact opt_len _
  · simp
theorem keep_1 {b : List Bar} {l : List Chg} {s : Bar} (h : ofK l s.mark = 1) : keepP b l s = [s] := if_pos h
theorem keep_2 {b : List Bar} {l : List Chg} {s y : Bar} (h : ofK l s.mark = 2) (hy : barAt b s.mark = some y) : keepP b l s = [y] := by rw [keepP, if_neg (by omega), if_pos h, hy]; rfl
theorem keep_0 {b : List Bar} {l : List Chg} {s : Bar} (h : ¬ ofK l s.mark = 1) (h2 : ¬ ofK l s.mark = 2) : keepP b l s = [] := by rw [keepP, if_neg h, if_neg h2]
theorem new_3 {b : List Bar} {c : Chg} {y : Bar} (h : c.1 = 3) (hy : barAt b c.2 = some y) : newB b c = [y] := by rw [newB, if_pos h, hy]; rfl
theorem new_0 {b : List Bar} {c : Chg} (h : ¬ c.1 = 3) : newB b c = [] := if_neg h
theorem ofK_mem : ∀ {l : List Chg} {mk : List UInt8}, ofK l mk ≠ 0 → (ofK l mk, mk) ∈ l
  | [], _, h => absurd rfl h
  | c :: l, mk, h => by
    rw [ofK] at h ⊢
    split
    · rename_i hc
      rw [← hc]
      simp
    · rename_i hc
      rw [if_neg hc] at h
      exact List.mem_cons_of_mem _ (ofK_mem h)
def okApply (a b : List Bar) (l : List Chg) : Prop := (okSched a ∧ okSched b) ∧ okChgs l
instance (a b l) : Decidable (okApply a b l) := by unfold okApply; infer_instance
def appV (a b : List Bar) (l : List Chg) : List Bar := if okApply a b l then if fitsP a b l then if (applyP a b l).length ≤ 60 then applyP a b l else [] else [] else []
def appE (a b : List Bar) (l : List Chg) : Int := if okApply a b l then if fitsP a b l then if (applyP a b l).length ≤ 60 then 0 else 4 else 9 else 1
theorem Apply_fun (a b : List Bar) (l : List Chg) (ha : a.length ≤ 140737488355328) (hb : b.length ≤ 140737488355328) (hl : l.length ≤ 140737488355328) (hwa : schedW a) (hwb : schedW b) (hwl : chgW l) :
    Fun Tryz.prog 8 [.sh 5 (a.map Bar.c), .sh 5 (b.map Bar.c), .sh 2 (l.map findC)] (Ret (.tup [.sh 5 ((appV a b l).map Bar.c), .lit (.int .i64 (appE a b l))]) []) := by
  refine Fun.of (nt := 89) (rs := [.tmp 6, .tmp 7]) Tryz.func8 rfl rfl rfl rfl rfl ?_
  refine Ev.sr fun K hK => S.o q.as (S.o q.as (S.end (hK _ ?_)))
  clear hK K
  refine Ev.seq ?_
  refine Ev.block ?_
  refine Ev.sr fun K hK => S.o q.mv (S.c0 (hF := schedValid_fun _ (by omega) (by assumption)) (h := S.o q.not (S.bn q.mv (fun c1 => ?_) (fun c1 => ?_))))
  · first
  | (first | omega | contradiction)
  | refine S.sk (S.sk (S.sk (S.o q.pt (S.o q.mv (S.sk (S.sk (S.sk (S.o q.pt (S.o q.as (S.end (hK _ ?_)))))))))))
    clear hK K
    refine Ev.ct ?_
    refine Ev.sr fun K hK => S.o q.as (S.o q.as (S.end (hK _ ?_)))
    clear hK K
    refine Ev.weaken (Wk.nsh Bar.c 6 5) ?_
    refine Ev.ret ?_
    refine Ev.ret2 ?_
    refine ⟨?_, rfl⟩
    first
     | (have hno : ¬ okApply a b l := fun h => absurd h.1.1 ‹_›
        rw [show appV a b l = [] from if_neg hno, show appE a b l = 1 from if_neg hno]; done)
     | (have hno : ¬ okApply a b l := fun h => absurd h.1.2 ‹_›
        rw [show appV a b l = [] from if_neg hno, show appE a b l = 1 from if_neg hno]; done)
     | (have hno : ¬ okApply a b l := fun h => absurd h.2 ‹_›
        rw [show appV a b l = [] from if_neg hno, show appE a b l = 1 from if_neg hno]; done)
     | (have hyes : okApply a b l := ⟨⟨‹_›, ‹_›⟩, ‹_›⟩
        rw [show appV a b l = [] by rw [appV, if_pos hyes, if_neg ‹¬ fitsP a b l›], show appE a b l = 9 by rw [appE, if_pos hyes, if_neg ‹¬ fitsP a b l›]]; done)
     | (have hlen : ¬ (applyP a b l).length ≤ 60 := by rw [hfin]; omega
        rw [show appV a b l = [] by rw [appV, if_pos hyes, if_pos hf, if_neg hlen], show appE a b l = 4 by rw [appE, if_pos hyes, if_pos hf, if_neg hlen]]; done)
     | (have hlen : (applyP a b l).length ≤ 60 := by rw [hfin]; omega
        rw [show appV a b l = applyP a b l by rw [appV, if_pos hyes, if_pos hf, if_pos hlen], show appE a b l = 0 by rw [appE, if_pos hyes, if_pos hf, if_pos hlen], hfin]; done)
  · first
  | (first | omega | contradiction)
  | refine S.o q.mv (S.c0 (hF := schedValid_fun _ (by omega) (by assumption)) (h := S.o q.not (S.o q.pf (S.bn q.mv (fun c2 => ?_) (fun c2 => ?_)))))
    · first
    | (first | omega | contradiction)
    | refine S.sk (S.sk (S.sk (S.o q.pt (S.o q.as (S.end (hK _ ?_))))))
      clear hK K
      refine Ev.ct ?_
      refine Ev.sr fun K hK => S.o q.as (S.o q.as (S.end (hK _ ?_)))
      clear hK K
      refine Ev.weaken (Wk.nsh Bar.c 6 5) ?_
      refine Ev.ret ?_
      refine Ev.ret2 ?_
      refine ⟨?_, rfl⟩
      first
       | (have hno : ¬ okApply a b l := fun h => absurd h.1.1 ‹_›
          rw [show appV a b l = [] from if_neg hno, show appE a b l = 1 from if_neg hno]; done)
       | (have hno : ¬ okApply a b l := fun h => absurd h.1.2 ‹_›
          rw [show appV a b l = [] from if_neg hno, show appE a b l = 1 from if_neg hno]; done)
       | (have hno : ¬ okApply a b l := fun h => absurd h.2 ‹_›
          rw [show appV a b l = [] from if_neg hno, show appE a b l = 1 from if_neg hno]; done)
       | (have hyes : okApply a b l := ⟨⟨‹_›, ‹_›⟩, ‹_›⟩
          rw [show appV a b l = [] by rw [appV, if_pos hyes, if_neg ‹¬ fitsP a b l›], show appE a b l = 9 by rw [appE, if_pos hyes, if_neg ‹¬ fitsP a b l›]]; done)
       | (have hlen : ¬ (applyP a b l).length ≤ 60 := by rw [hfin]; omega
          rw [show appV a b l = [] by rw [appV, if_pos hyes, if_pos hf, if_neg hlen], show appE a b l = 4 by rw [appE, if_pos hyes, if_pos hf, if_neg hlen]]; done)
       | (have hlen : (applyP a b l).length ≤ 60 := by rw [hfin]; omega
          rw [show appV a b l = applyP a b l by rw [appV, if_pos hyes, if_pos hf, if_pos hlen], show appE a b l = 0 by rw [appE, if_pos hyes, if_pos hf, if_pos hlen], hfin]; done)
    · first
    | (first | omega | contradiction)
    | refine S.o q.mv (S.c0 (hF := rvalid_chg _ (by omega) (by assumption)) (h := S.o q.not (S.o q.pf (S.o q.as (S.end (hK _ ?_))))))
      clear hK K
      refine Ev.cn (fun c3 => ?_) (fun c3 => ?_)
      · first
      | (first | omega | contradiction)
      | refine Ev.sr fun K hK => S.o q.as (S.o q.as (S.end (hK _ ?_)))
        clear hK K
        refine Ev.weaken (Wk.nsh Bar.c 6 5) ?_
        refine Ev.ret ?_
        refine Ev.ret2 ?_
        refine ⟨?_, rfl⟩
        first
         | (have hno : ¬ okApply a b l := fun h => absurd h.1.1 ‹_›
            rw [show appV a b l = [] from if_neg hno, show appE a b l = 1 from if_neg hno]; done)
         | (have hno : ¬ okApply a b l := fun h => absurd h.1.2 ‹_›
            rw [show appV a b l = [] from if_neg hno, show appE a b l = 1 from if_neg hno]; done)
         | (have hno : ¬ okApply a b l := fun h => absurd h.2 ‹_›
            rw [show appV a b l = [] from if_neg hno, show appE a b l = 1 from if_neg hno]; done)
         | (have hyes : okApply a b l := ⟨⟨‹_›, ‹_›⟩, ‹_›⟩
            rw [show appV a b l = [] by rw [appV, if_pos hyes, if_neg ‹¬ fitsP a b l›], show appE a b l = 9 by rw [appE, if_pos hyes, if_neg ‹¬ fitsP a b l›]]; done)
         | (have hlen : ¬ (applyP a b l).length ≤ 60 := by rw [hfin]; omega
            rw [show appV a b l = [] by rw [appV, if_pos hyes, if_pos hf, if_neg hlen], show appE a b l = 4 by rw [appE, if_pos hyes, if_pos hf, if_neg hlen]]; done)
         | (have hlen : (applyP a b l).length ≤ 60 := by rw [hfin]; omega
            rw [show appV a b l = applyP a b l by rw [appV, if_pos hyes, if_pos hf, if_pos hlen], show appE a b l = 0 by rw [appE, if_pos hyes, if_pos hf, if_pos hlen], hfin]; done)
      · first
      | (first | omega | contradiction)
      | refine Ev.sr fun K hK => S.o q.mv (S.o q.mv (S.o q.mv (S.c0 (hF := fits_fun _ _ _ (by omega) (by omega) (by omega)) (h := S.o q.not (S.o q.as (S.end (hK _ ?_)))))))
        clear hK K
        refine Ev.cn (fun c4 => ?_) (fun c4 => ?_)
        · first
        | (first | omega | contradiction)
        | refine Ev.sr fun K hK => S.o q.as (S.o q.as (S.end (hK _ ?_)))
          clear hK K
          refine Ev.weaken (Wk.nsh Bar.c 6 5) ?_
          refine Ev.ret ?_
          refine Ev.ret2 ?_
          refine ⟨?_, rfl⟩
          first
           | (have hno : ¬ okApply a b l := fun h => absurd h.1.1 ‹_›
              rw [show appV a b l = [] from if_neg hno, show appE a b l = 1 from if_neg hno]; done)
           | (have hno : ¬ okApply a b l := fun h => absurd h.1.2 ‹_›
              rw [show appV a b l = [] from if_neg hno, show appE a b l = 1 from if_neg hno]; done)
           | (have hno : ¬ okApply a b l := fun h => absurd h.2 ‹_›
              rw [show appV a b l = [] from if_neg hno, show appE a b l = 1 from if_neg hno]; done)
           | (have hyes : okApply a b l := ⟨⟨‹_›, ‹_›⟩, ‹_›⟩
              rw [show appV a b l = [] by rw [appV, if_pos hyes, if_neg ‹¬ fitsP a b l›], show appE a b l = 9 by rw [appE, if_pos hyes, if_neg ‹¬ fitsP a b l›]]; done)
           | (have hlen : ¬ (applyP a b l).length ≤ 60 := by rw [hfin]; omega
              rw [show appV a b l = [] by rw [appV, if_pos hyes, if_pos hf, if_neg hlen], show appE a b l = 4 by rw [appE, if_pos hyes, if_pos hf, if_neg hlen]]; done)
           | (have hlen : (applyP a b l).length ≤ 60 := by rw [hfin]; omega
              rw [show appV a b l = applyP a b l by rw [appV, if_pos hyes, if_pos hf, if_pos hlen], show appE a b l = 0 by rw [appE, if_pos hyes, if_pos hf, if_pos hlen], hfin]; done)
        · first
        | (first | omega | contradiction)
        | refine Ev.skip ?_
          show Ev _ _ _ _
          have hf : fitsP a b l := ‹_›
          have hyes : okApply a b l := ⟨⟨‹_›, ‹_›⟩, ‹_›⟩
          have hal := hyes.1.1.1
          have hbl := hyes.1.2.1
          have hll := hyes.2.1
          have hbd : ∀ y ∈ b, y.dims.length ≤ 1000000 := fun y hy => by have h1 := (hyes.1.2.2.1 y hy).2.2.2.2.2.1; have h2 : dimsN y.code ≤ 5 := (by unfold dimsN; repeat' split <;> omega); omega
          refine Ev.sr fun K hK => S.o q.as (S.end (hK _ ?_))
          clear hK K
          refine Ev.seq ?_
          refine Ev.sr fun K hK => S.o q.mv (S.o (q.lens am_el22) (S.o q.mv (S.end (hK _ ?_))))
          clear hK K
          refine Ev.block ?_
          refine Ev.weaken (Wk.nown Bar.c 8 44 5) ?_
          refine Ev.loopU (ι := {p : List (Bar) × List (Bar) // p.1 ++ p.2 = a ∧ True}) [0] [1, 2, 6, 7, 33, 34] (fun ⟨(pre, suf), _⟩ => [(35, .lit (.int .i64 ((pre.length : Int)))), (8, .als 0 0 (pre.flatMap (keepP b l)).length)]) (fun ⟨(pre, suf), _⟩ => [(0, ⟨true, 44, 5, (pre.flatMap (keepP b l)).map Bar.c, true⟩)]) (fun ⟨(pre, suf), _⟩ => suf.length) ⟨([], a), rfl, trivial⟩ (.c (.c (.c (.c (.c (.c .n)))))) (keep_c (he := (by first | rfl | (rw [flat_snoc, keep_1 ‹_›]) | (rw [flat_snoc, keep_2 ‹_› hy]) | (rw [flat_snoc, keep_0 ‹_› ‹_›, List.append_nil]))) (h := keep_n)) (slots_c (he := (by first | rfl | (congr 2; simp; done))) (h := (slots_c (he := (by first | rfl | (congr 1; rw [flat_snoc, keep_1 ‹_›]) | (congr 1; rw [flat_snoc, keep_2 ‹_› hy]) | (rw [flat_snoc, keep_0 ‹_› ‹_›, List.append_nil]))) (h := trivial)))) ?_
          rintro ⟨⟨pre, suf⟩, hp, hinv⟩ R1 hR1
          dsimp only [List.cons_append, List.nil_append, List.length_cons, List.length_nil]
          simp only at hp hinv
          have hpl : pre.length + suf.length = (a).length := by rw [← hp, List.length_append]
          rcases suf with _ | ⟨s, suf⟩
          · rw [List.append_nil] at hp; subst pre; simp only [List.length_nil] at hpl
            have hkl := flat_len (keepP b l) (keep_len b l) a
            refine Ev.sr fun K hK => S.o q.lss (S.end (hK _ ?_))
            clear hK K
            refine Ev.ud (fun c5 => ?_) (fun c5 => ?_)
            · first
            | (first | omega | contradiction)
            | refine Ev.seq ?_
              refine Ev.block ?_
              refine Ev.sr fun K hK => S.o (q.ix am_el22 am_cl44 (hl := (by first | exact ati hyi (by omega) | exact atig (by omega)))) (S.o (q.lsA [_, _, _, _, _] am_ag44 am_cl44) (S.nn (q.al am_ze44) (S.sv [_, _, _, _, _] true [_] am_in44 am_cl44 (h := S.end (hK _ ?_)))))
              clear hK K
              refine Ev.sr fun K hK => S.o q.mv (S.o (q.fa 0 am_fi44_0 am_cl9) (S.o (q.lv am_ag9) (S.c0 (hF := of_fun _ _ (by omega)) (h := S.end (hK _ ?_)))))
              clear hK K
              refine Ev.block ?_
              refine Ev.sr fun K hK => S.o q.eql (S.o q.as (S.end (hK _ ?_)))
              clear hK K
              refine Ev.cd (fun c6 => ?_) (fun c6 => ?_)
              · first
              | (first | omega | contradiction)
              | refine Ev.region_S fun K hK => S.o q.mv (S.o (q.lvA [_, _, _, _, _] am_ag44 am_cl44) (S.c0 (hF := copied_fun _ (by omega)) (h := S.nn (q.bs [[_, _, _, _, _]] true am_el22 am_ze44 am_cl44) (S.ap' [_, _] am_el22 am_ze44 am_cl44 am_by44 (hh := head_own') (hr := (rows_lit [(⟨_, _, _, _, _⟩ : Bar)])) (h := S.o q.as (S.end (hK _ ?_)))))))
                clear hK K
                show Ev _ _ _ _
                refine Ev.region_S fun K hK => S.o q.add (S.o q.mv (S.end (hK _ ?_)))
                clear hK K
                refine hR1 _ _ ?_
                refine roundU [3] [1, 2, 6, 7, 33, 34] ⟨(pre ++ [s], suf), by rw [← hp]; simp, ?_⟩ ?_ (keep_c (he := (by first | rfl | (rw [flat_snoc, keep_1 ‹_›]) | (rw [flat_snoc, keep_2 ‹_› hy]) | (rw [flat_snoc, keep_0 ‹_› ‹_›, List.append_nil]))) (h := keep_n)) (slots_c (he := (by first | rfl | (congr 2; simp; done))) (h := (slots_c (he := (by first | rfl | (congr 1; rw [flat_snoc, keep_1 ‹_›]) | (congr 1; rw [flat_snoc, keep_2 ‹_› hy]) | (rw [flat_snoc, keep_0 ‹_› ‹_›, List.append_nil]))) (h := trivial)))) (.c (.c (.c (.c (.c (.c .n))))))
                trivial
                all_goals (dsimp only; simp only [List.length_cons]; omega)
              · first
              | (first | omega | contradiction)
              | refine Ev.sr fun K hK => S.o q.eql (S.o q.as (S.end (hK _ ?_)))
                clear hK K
                refine Ev.cd (fun c7 => ?_) (fun c7 => ?_)
                · first
                | (first | omega | contradiction)
                | have hfit : 0 ≤ markI a s.mark ∧ 0 ≤ markI b s.mark := (hf.1 _ (ofK_mem (mk := s.mark) (by omega))).2.1 (by assumption)
                  obtain ⟨y, hy, hyi, hym, hyk⟩ := barAt_some hfit.2
                  have hyd := hbd y hym
                  refine Ev.region_S fun K hK => S.o q.mv (S.o q.mv (S.o q.mv (S.o (q.fa 0 am_fi44_0 am_cl9) (S.o (q.lv am_ag9) (S.c0 (hF := find_fun _ _ (by omega)) (h := S.o (q.ix am_el22 am_cl44 (hl := (by first | exact ati hyi (by omega) | exact atig (by omega)))) (S.o (q.lsA [_, _, _, _, _] am_ag44 am_cl44) (S.c0 (hF := copied_fun _ (by omega)) (h := S.nn (q.bs [[_, _, _, _, _]] true am_el22 am_ze44 am_cl44) (S.ap' [_, _] am_el22 am_ze44 am_cl44 am_by44 (hh := head_own') (hr := (rows_lit [(⟨_, _, _, _, _⟩ : Bar)])) (h := S.o q.as (S.end (hK _ ?_)))))))))))))
                  clear hK K
                  show Ev _ _ _ _
                  refine Ev.region_S fun K hK => S.o q.add (S.o q.mv (S.end (hK _ ?_)))
                  clear hK K
                  refine hR1 _ _ ?_
                  refine roundU [3] [1, 2, 6, 7, 33, 34] ⟨(pre ++ [s], suf), by rw [← hp]; simp, ?_⟩ ?_ (keep_c (he := (by first | rfl | (rw [flat_snoc, keep_1 ‹_›]) | (rw [flat_snoc, keep_2 ‹_› hy]) | (rw [flat_snoc, keep_0 ‹_› ‹_›, List.append_nil]))) (h := keep_n)) (slots_c (he := (by first | rfl | (congr 2; simp; done))) (h := (slots_c (he := (by first | rfl | (congr 1; rw [flat_snoc, keep_1 ‹_›]) | (congr 1; rw [flat_snoc, keep_2 ‹_› hy]) | (rw [flat_snoc, keep_0 ‹_› ‹_›, List.append_nil]))) (h := trivial)))) (.c (.c (.c (.c (.c (.c .n))))))
                  trivial
                  all_goals (dsimp only; simp only [List.length_cons]; omega)
                · first
                | (first | omega | contradiction)
                | refine Ev.skip ?_
                  show Ev _ _ _ _
                  refine Ev.region_S fun K hK => S.o q.add (S.o q.mv (S.end (hK _ ?_)))
                  clear hK K
                  refine hR1 _ _ ?_
                  refine roundU [0] [1, 2, 6, 7, 33, 34] ⟨(pre ++ [s], suf), by rw [← hp]; simp, ?_⟩ ?_ (keep_c (he := (by first | rfl | (rw [flat_snoc, keep_1 ‹_›]) | (rw [flat_snoc, keep_2 ‹_› hy]) | (rw [flat_snoc, keep_0 ‹_› ‹_›, List.append_nil]))) (h := keep_n)) (slots_c (he := (by first | rfl | (congr 2; simp; done))) (h := (slots_c (he := (by first | rfl | (congr 1; rw [flat_snoc, keep_1 ‹_›]) | (congr 1; rw [flat_snoc, keep_2 ‹_› hy]) | (rw [flat_snoc, keep_0 ‹_› ‹_›, List.append_nil]))) (h := trivial)))) (.c (.c (.c (.c (.c (.c .n))))))
                  trivial
                  all_goals (dsimp only; simp only [List.length_cons]; omega)
            · first
            | (first | omega | contradiction)
            | refine Ev.exit ?_
              refine hR1 _ _ ?_
              show Ev _ _ _ _
              refine Ev.seq ?_
              refine Ev.sr fun K hK => S.o q.mv (S.o (q.lens am_el25) (S.o q.mv (S.end (hK _ ?_))))
              clear hK K
              refine Ev.block ?_
              refine Ev.loopU (ι := {q : List Chg × List Chg // q.1 ++ q.2 = l}) [0] [1, 2, 6, 7, 33, 34, 35, 36, 64, 65] (fun ⟨(pre2, suf2), _⟩ => [(66, .lit (.int .i64 ((pre2.length : Int)))), (8, .als 0 0 (a.flatMap (keepP b l) ++ pre2.flatMap (newB b)).length)]) (fun ⟨(pre2, suf2), _⟩ => [(0, ⟨true, 44, 5, (a.flatMap (keepP b l) ++ pre2.flatMap (newB b)).map Bar.c, true⟩)]) (fun ⟨(pre2, suf2), _⟩ => suf2.length) ⟨([], l), rfl⟩ (.c (.c (.c (.c (.c (.c (.c (.c (.c (.c .n)))))))))) (keep_c (he := (by first | rfl | (simp; done) | (rw [flat_snoc, new_3 ‹_› hy, List.append_assoc]) | (rw [flat_snoc, new_0 ‹_›, List.append_nil]))) (h := keep_n)) (slots_c (he := (by first | rfl | (congr 2; simp; done))) (h := (slots_c (he := (by first | rfl | (congr 1; simp; done) | (congr 1; rw [flat_snoc, new_3 ‹_› hy, List.append_assoc]) | (rw [flat_snoc, new_0 ‹_›, List.append_nil]))) (h := trivial)))) ?_
              rintro ⟨⟨pre2, suf2⟩, hp2⟩ R4 hR4
              dsimp only [List.cons_append, List.nil_append, List.length_cons, List.length_nil]
              simp only at hp2
              have hpl2 : pre2.length + suf2.length = l.length := by rw [← hp2, List.length_append]
              have hnl := flat_len (newB b) (new_len b) pre2
              rcases suf2 with _ | ⟨s, suf2⟩
              · rw [List.append_nil] at hp2; simp only [List.length_nil] at hpl2
                have hfin : applyP a b l = a.flatMap (keepP b l) ++ pre2.flatMap (newB b) := by rw [hp2]; rfl
                refine Ev.sr fun K hK => S.o q.lss (S.end (hK _ ?_))
                clear hK K
                refine Ev.ud (fun c8 => ?_) (fun c8 => ?_)
                · first
                | (first | omega | contradiction)
                | refine Ev.seq ?_
                  refine Ev.block ?_
                  refine Ev.sr fun K hK => S.o (q.ix am_el25 am_cl34 (hl := (by first | exact ati hyi (by omega) | exact atig (by omega)))) (S.o (q.lsA [_, _] am_ag34 am_cl34) (S.nn (q.al am_ze34) (S.sv [_, _] true [_] am_in34 am_cl34 (h := S.end (hK _ ?_)))))
                  clear hK K
                  refine Ev.sr fun K hK => S.o (q.fa 0 am_fi34_0 am_cl3) (S.o (q.lv am_ag3) (S.o q.eql (S.end (hK _ ?_))))
                  clear hK K
                  refine Ev.cd (fun c9 => ?_) (fun c9 => ?_)
                  · first
                  | (first | omega | contradiction)
                  | have hfit : markI a s.2 < 0 ∧ 0 ≤ markI b s.2 := (hf.1 s (by rw [← hp2]; simp)).2.2 (by assumption)
                    obtain ⟨y, hy, hyi, hym, hyk⟩ := barAt_some hfit.2
                    have hyd := hbd y hym
                    refine Ev.region_S fun K hK => S.o q.mv (S.o q.mv (S.o q.mv (S.o (q.fa 1 am_fi34_1 am_cl9) (S.o (q.lv am_ag9) (S.c0 (hF := find_fun _ _ (by omega)) (h := S.o (q.ix am_el22 am_cl44 (hl := (by first | exact ati hyi (by omega) | exact atig (by omega)))) (S.o (q.lsA [_, _, _, _, _] am_ag44 am_cl44) (S.c0 (hF := copied_fun _ (by omega)) (h := S.nn (q.bs [[_, _, _, _, _]] true am_el22 am_ze44 am_cl44) (S.ap' [_, _] am_el22 am_ze44 am_cl44 am_by44 (hh := head_own') (hr := (rows_lit [(⟨_, _, _, _, _⟩ : Bar)])) (h := S.o q.as (S.end (hK _ ?_)))))))))))))
                    clear hK K
                    show Ev _ _ _ _
                    refine Ev.region_S fun K hK => S.o q.add (S.o q.mv (S.end (hK _ ?_)))
                    clear hK K
                    refine hR4 _ _ ?_
                    refine roundU [3] [1, 2, 6, 7, 33, 34, 35, 36, 64, 65] ⟨(pre2 ++ [s], suf2), by rw [← hp2]; simp⟩ ?_ (keep_c (he := (by first | rfl | (simp; done) | (rw [flat_snoc, new_3 ‹_› hy, List.append_assoc]) | (rw [flat_snoc, new_0 ‹_›, List.append_nil]))) (h := keep_n)) (slots_c (he := (by first | rfl | (congr 2; simp; done))) (h := (slots_c (he := (by first | rfl | (congr 1; simp; done) | (congr 1; rw [flat_snoc, new_3 ‹_› hy, List.append_assoc]) | (rw [flat_snoc, new_0 ‹_›, List.append_nil]))) (h := trivial)))) (.c (.c (.c (.c (.c (.c (.c (.c (.c (.c .n))))))))))
                    skip
                    all_goals (dsimp only; simp only [List.length_cons]; omega)
                  · first
                  | (first | omega | contradiction)
                  | refine Ev.skip ?_
                    show Ev _ _ _ _
                    refine Ev.region_S fun K hK => S.o q.add (S.o q.mv (S.end (hK _ ?_)))
                    clear hK K
                    refine hR4 _ _ ?_
                    refine roundU [0] [1, 2, 6, 7, 33, 34, 35, 36, 64, 65] ⟨(pre2 ++ [s], suf2), by rw [← hp2]; simp⟩ ?_ (keep_c (he := (by first | rfl | (simp; done) | (rw [flat_snoc, new_3 ‹_› hy, List.append_assoc]) | (rw [flat_snoc, new_0 ‹_›, List.append_nil]))) (h := keep_n)) (slots_c (he := (by first | rfl | (congr 2; simp; done))) (h := (slots_c (he := (by first | rfl | (congr 1; simp; done) | (congr 1; rw [flat_snoc, new_3 ‹_› hy, List.append_assoc]) | (rw [flat_snoc, new_0 ‹_›, List.append_nil]))) (h := trivial)))) (.c (.c (.c (.c (.c (.c (.c (.c (.c (.c .n))))))))))
                    skip
                    all_goals (dsimp only; simp only [List.length_cons]; omega)
                · first
                | (first | omega | contradiction)
                | refine Ev.exit ?_
                  refine hR4 _ _ ?_
                  show Ev _ _ _ _
                  refine Ev.seq ?_
                  refine Ev.sr fun K hK => S.o q.mv (S.o (q.lena am_el22) (S.o q.gtr (S.end (hK _ ?_))))
                  clear hK K
                  refine Ev.cd (fun c10 => ?_) (fun c10 => ?_)
                  · first
                  | (first | omega | contradiction)
                  | refine Ev.sr fun K hK => S.o q.as (S.o q.as (S.end (hK _ ?_)))
                    clear hK K
                    refine Ev.weaken (Wk.nsh Bar.c 6 5) ?_
                    refine Ev.ret ?_
                    refine Ev.ret2 ?_
                    refine ⟨?_, rfl⟩
                    first
                     | (have hno : ¬ okApply a b l := fun h => absurd h.1.1 ‹_›
                        rw [show appV a b l = [] from if_neg hno, show appE a b l = 1 from if_neg hno]; done)
                     | (have hno : ¬ okApply a b l := fun h => absurd h.1.2 ‹_›
                        rw [show appV a b l = [] from if_neg hno, show appE a b l = 1 from if_neg hno]; done)
                     | (have hno : ¬ okApply a b l := fun h => absurd h.2 ‹_›
                        rw [show appV a b l = [] from if_neg hno, show appE a b l = 1 from if_neg hno]; done)
                     | (have hyes : okApply a b l := ⟨⟨‹_›, ‹_›⟩, ‹_›⟩
                        rw [show appV a b l = [] by rw [appV, if_pos hyes, if_neg ‹¬ fitsP a b l›], show appE a b l = 9 by rw [appE, if_pos hyes, if_neg ‹¬ fitsP a b l›]]; done)
                     | (have hlen : ¬ (applyP a b l).length ≤ 60 := by rw [hfin]; omega
                        rw [show appV a b l = [] by rw [appV, if_pos hyes, if_pos hf, if_neg hlen], show appE a b l = 4 by rw [appE, if_pos hyes, if_pos hf, if_neg hlen]]; done)
                     | (have hlen : (applyP a b l).length ≤ 60 := by rw [hfin]; omega
                        rw [show appV a b l = applyP a b l by rw [appV, if_pos hyes, if_pos hf, if_pos hlen], show appE a b l = 0 by rw [appE, if_pos hyes, if_pos hf, if_pos hlen], hfin]; done)
                  · first
                  | (first | omega | contradiction)
                  | refine Ev.skip ?_
                    show Ev _ _ _ _
                    refine Ev.sr fun K hK => S.o q.mv (S.o q.as (S.o q.as (S.end (hK _ ?_))))
                    clear hK K
                    refine Ev.weaken (Wk.frz 6 []) ?_
                    refine Ev.ret ?_
                    refine Ev.ret2 ?_
                    refine ⟨?_, rfl⟩
                    first
                     | (have hno : ¬ okApply a b l := fun h => absurd h.1.1 ‹_›
                        rw [show appV a b l = [] from if_neg hno, show appE a b l = 1 from if_neg hno]; done)
                     | (have hno : ¬ okApply a b l := fun h => absurd h.1.2 ‹_›
                        rw [show appV a b l = [] from if_neg hno, show appE a b l = 1 from if_neg hno]; done)
                     | (have hno : ¬ okApply a b l := fun h => absurd h.2 ‹_›
                        rw [show appV a b l = [] from if_neg hno, show appE a b l = 1 from if_neg hno]; done)
                     | (have hyes : okApply a b l := ⟨⟨‹_›, ‹_›⟩, ‹_›⟩
                        rw [show appV a b l = [] by rw [appV, if_pos hyes, if_neg ‹¬ fitsP a b l›], show appE a b l = 9 by rw [appE, if_pos hyes, if_neg ‹¬ fitsP a b l›]]; done)
                     | (have hlen : ¬ (applyP a b l).length ≤ 60 := by rw [hfin]; omega
                        rw [show appV a b l = [] by rw [appV, if_pos hyes, if_pos hf, if_neg hlen], show appE a b l = 4 by rw [appE, if_pos hyes, if_pos hf, if_neg hlen]]; done)
                     | (have hlen : (applyP a b l).length ≤ 60 := by rw [hfin]; omega
                        rw [show appV a b l = applyP a b l by rw [appV, if_pos hyes, if_pos hf, if_pos hlen], show appE a b l = 0 by rw [appE, if_pos hyes, if_pos hf, if_pos hlen], hfin]; done)
              · simp only [List.length_cons] at hpl2
                have hidx2 : l[pre2.length]? = some s := by rw [← hp2]; simp
                refine Ev.sr fun K hK => S.o q.lss (S.end (hK _ ?_))
                clear hK K
                refine Ev.ud (fun c11 => ?_) (fun c11 => ?_)
                · first
                | (first | omega | contradiction)
                | refine Ev.seq ?_
                  refine Ev.block ?_
                  refine Ev.sr fun K hK => S.o (q.ix am_el25 am_cl34 (hl := (by first | exact ati hyi (by omega) | exact ati hidx2 (by omega) | exact atig (by omega)))) (S.o (q.lsA [_, _] am_ag34 am_cl34) (S.nn (q.al am_ze34) (S.sv [_, _] true [_] am_in34 am_cl34 (h := S.end (hK _ ?_)))))
                  clear hK K
                  refine Ev.sr fun K hK => S.o (q.fa 0 am_fi34_0 am_cl3) (S.o (q.lv am_ag3) (S.o q.eql (S.end (hK _ ?_))))
                  clear hK K
                  refine Ev.cd (fun c12 => ?_) (fun c12 => ?_)
                  · first
                  | (first | omega | contradiction)
                  | have hfit : markI a s.2 < 0 ∧ 0 ≤ markI b s.2 := (hf.1 s (by rw [← hp2]; simp)).2.2 (by assumption)
                    obtain ⟨y, hy, hyi, hym, hyk⟩ := barAt_some hfit.2
                    have hyd := hbd y hym
                    refine Ev.region_S fun K hK => S.o q.mv (S.o q.mv (S.o q.mv (S.o (q.fa 1 am_fi34_1 am_cl9) (S.o (q.lv am_ag9) (S.c0 (hF := find_fun _ _ (by omega)) (h := S.o (q.ix am_el22 am_cl44 (hl := (by first | exact ati hyi (by omega) | exact ati hidx2 (by omega) | exact atig (by omega)))) (S.o (q.lsA [_, _, _, _, _] am_ag44 am_cl44) (S.c0 (hF := copied_fun _ (by omega)) (h := S.nn (q.bs [[_, _, _, _, _]] true am_el22 am_ze44 am_cl44) (S.ap' [_, _] am_el22 am_ze44 am_cl44 am_by44 (hh := head_own') (hr := (rows_lit [(⟨_, _, _, _, _⟩ : Bar)])) (h := S.o q.as (S.end (hK _ ?_)))))))))))))
                    clear hK K
                    show Ev _ _ _ _
                    refine Ev.region_S fun K hK => S.o q.add (S.o q.mv (S.end (hK _ ?_)))
                    clear hK K
                    refine hR4 _ _ ?_
                    refine roundU [3] [1, 2, 6, 7, 33, 34, 35, 36, 64, 65] ⟨(pre2 ++ [s], suf2), by rw [← hp2]; simp⟩ ?_ (keep_c (he := (by first | rfl | (simp; done) | (rw [flat_snoc, new_3 ‹_› hy, List.append_assoc]) | (rw [flat_snoc, new_0 ‹_›, List.append_nil]))) (h := keep_n)) (slots_c (he := (by first | rfl | (congr 2; simp; done))) (h := (slots_c (he := (by first | rfl | (congr 1; simp; done) | (congr 1; rw [flat_snoc, new_3 ‹_› hy, List.append_assoc]) | (rw [flat_snoc, new_0 ‹_›, List.append_nil]))) (h := trivial)))) (.c (.c (.c (.c (.c (.c (.c (.c (.c (.c .n))))))))))
                    skip
                    all_goals (dsimp only; simp only [List.length_cons]; omega)
                  · first
                  | (first | omega | contradiction)
                  | refine Ev.skip ?_
                    show Ev _ _ _ _
                    refine Ev.region_S fun K hK => S.o q.add (S.o q.mv (S.end (hK _ ?_)))
                    clear hK K
                    refine hR4 _ _ ?_
                    refine roundU [0] [1, 2, 6, 7, 33, 34, 35, 36, 64, 65] ⟨(pre2 ++ [s], suf2), by rw [← hp2]; simp⟩ ?_ (keep_c (he := (by first | rfl | (simp; done) | (rw [flat_snoc, new_3 ‹_› hy, List.append_assoc]) | (rw [flat_snoc, new_0 ‹_›, List.append_nil]))) (h := keep_n)) (slots_c (he := (by first | rfl | (congr 2; simp; done))) (h := (slots_c (he := (by first | rfl | (congr 1; simp; done) | (congr 1; rw [flat_snoc, new_3 ‹_› hy, List.append_assoc]) | (rw [flat_snoc, new_0 ‹_›, List.append_nil]))) (h := trivial)))) (.c (.c (.c (.c (.c (.c (.c (.c (.c (.c .n))))))))))
                    skip
                    all_goals (dsimp only; simp only [List.length_cons]; omega)
                · first
                | (first | omega | contradiction)
                | refine Ev.exit ?_
                  refine hR4 _ _ ?_
                  show Ev _ _ _ _
                  refine Ev.seq ?_
                  refine Ev.sr fun K hK => S.o q.mv (S.o (q.lena am_el22) (S.o q.gtr (S.end (hK _ ?_))))
                  clear hK K
                  refine Ev.cd (fun c13 => ?_) (fun c13 => ?_)
                  · first
                  | (first | omega | contradiction)
                  | refine Ev.sr fun K hK => S.o q.as (S.o q.as (S.end (hK _ ?_)))
                    clear hK K
                    refine Ev.weaken (Wk.nsh Bar.c 6 5) ?_
                    refine Ev.ret ?_
                    refine Ev.ret2 ?_
                    refine ⟨?_, rfl⟩
                    first
                     | (have hno : ¬ okApply a b l := fun h => absurd h.1.1 ‹_›
                        rw [show appV a b l = [] from if_neg hno, show appE a b l = 1 from if_neg hno]; done)
                     | (have hno : ¬ okApply a b l := fun h => absurd h.1.2 ‹_›
                        rw [show appV a b l = [] from if_neg hno, show appE a b l = 1 from if_neg hno]; done)
                     | (have hno : ¬ okApply a b l := fun h => absurd h.2 ‹_›
                        rw [show appV a b l = [] from if_neg hno, show appE a b l = 1 from if_neg hno]; done)
                     | (have hyes : okApply a b l := ⟨⟨‹_›, ‹_›⟩, ‹_›⟩
                        rw [show appV a b l = [] by rw [appV, if_pos hyes, if_neg ‹¬ fitsP a b l›], show appE a b l = 9 by rw [appE, if_pos hyes, if_neg ‹¬ fitsP a b l›]]; done)
                     | (have hlen : ¬ (applyP a b l).length ≤ 60 := by rw [hfin]; omega
                        rw [show appV a b l = [] by rw [appV, if_pos hyes, if_pos hf, if_neg hlen], show appE a b l = 4 by rw [appE, if_pos hyes, if_pos hf, if_neg hlen]]; done)
                     | (have hlen : (applyP a b l).length ≤ 60 := by rw [hfin]; omega
                        rw [show appV a b l = applyP a b l by rw [appV, if_pos hyes, if_pos hf, if_pos hlen], show appE a b l = 0 by rw [appE, if_pos hyes, if_pos hf, if_pos hlen], hfin]; done)
                  · first
                  | (first | omega | contradiction)
                  | refine Ev.skip ?_
                    show Ev _ _ _ _
                    refine Ev.sr fun K hK => S.o q.mv (S.o q.as (S.o q.as (S.end (hK _ ?_))))
                    clear hK K
                    refine Ev.weaken (Wk.frz 6 []) ?_
                    refine Ev.ret ?_
                    refine Ev.ret2 ?_
                    refine ⟨?_, rfl⟩
                    first
                     | (have hno : ¬ okApply a b l := fun h => absurd h.1.1 ‹_›
                        rw [show appV a b l = [] from if_neg hno, show appE a b l = 1 from if_neg hno]; done)
                     | (have hno : ¬ okApply a b l := fun h => absurd h.1.2 ‹_›
                        rw [show appV a b l = [] from if_neg hno, show appE a b l = 1 from if_neg hno]; done)
                     | (have hno : ¬ okApply a b l := fun h => absurd h.2 ‹_›
                        rw [show appV a b l = [] from if_neg hno, show appE a b l = 1 from if_neg hno]; done)
                     | (have hyes : okApply a b l := ⟨⟨‹_›, ‹_›⟩, ‹_›⟩
                        rw [show appV a b l = [] by rw [appV, if_pos hyes, if_neg ‹¬ fitsP a b l›], show appE a b l = 9 by rw [appE, if_pos hyes, if_neg ‹¬ fitsP a b l›]]; done)
                     | (have hlen : ¬ (applyP a b l).length ≤ 60 := by rw [hfin]; omega
                        rw [show appV a b l = [] by rw [appV, if_pos hyes, if_pos hf, if_neg hlen], show appE a b l = 4 by rw [appE, if_pos hyes, if_pos hf, if_neg hlen]]; done)
                     | (have hlen : (applyP a b l).length ≤ 60 := by rw [hfin]; omega
                        rw [show appV a b l = applyP a b l by rw [appV, if_pos hyes, if_pos hf, if_pos hlen], show appE a b l = 0 by rw [appE, if_pos hyes, if_pos hf, if_pos hlen], hfin]; done)
          · simp only [List.length_cons] at hpl
            have hidx : (a)[pre.length]? = some s := by rw [← hp]; simp
            have hkl := flat_len (keepP b l) (keep_len b l) pre
            have hsd : s.dims.length ≤ 1000000 := (by have h1 := (hyes.1.1.2.1 s (by rw [← hp]; simp)).2.2.2.2.2.1; have h2 : dimsN s.code ≤ 5 := (by unfold dimsN; repeat' split <;> omega); omega)
            refine Ev.sr fun K hK => S.o q.lss (S.end (hK _ ?_))
            clear hK K
            refine Ev.ud (fun c14 => ?_) (fun c14 => ?_)
            · first
            | (first | omega | contradiction)
            | refine Ev.seq ?_
              refine Ev.block ?_
              refine Ev.sr fun K hK => S.o (q.ix am_el22 am_cl44 (hl := (by first | exact ati hyi (by omega) | exact ati hidx (by omega) | exact atig (by omega)))) (S.o (q.lsA [_, _, _, _, _] am_ag44 am_cl44) (S.nn (q.al am_ze44) (S.sv [_, _, _, _, _] true [_] am_in44 am_cl44 (h := S.end (hK _ ?_)))))
              clear hK K
              refine Ev.sr fun K hK => S.o q.mv (S.o (q.fa 0 am_fi44_0 am_cl9) (S.o (q.lv am_ag9) (S.c0 (hF := of_fun _ _ (by omega)) (h := S.end (hK _ ?_)))))
              clear hK K
              refine Ev.block ?_
              refine Ev.sr fun K hK => S.o q.eql (S.o q.as (S.end (hK _ ?_)))
              clear hK K
              refine Ev.cd (fun c15 => ?_) (fun c15 => ?_)
              · first
              | (first | omega | contradiction)
              | refine Ev.region_S fun K hK => S.o q.mv (S.o (q.lvA [_, _, _, _, _] am_ag44 am_cl44) (S.c0 (hF := copied_fun _ (by omega)) (h := S.nn (q.bs [[_, _, _, _, _]] true am_el22 am_ze44 am_cl44) (S.ap' [_, _] am_el22 am_ze44 am_cl44 am_by44 (hh := head_own') (hr := (rows_lit [(⟨_, _, _, _, _⟩ : Bar)])) (h := S.o q.as (S.end (hK _ ?_)))))))
                clear hK K
                show Ev _ _ _ _
                refine Ev.region_S fun K hK => S.o q.add (S.o q.mv (S.end (hK _ ?_)))
                clear hK K
                refine hR1 _ _ ?_
                refine roundU [3] [1, 2, 6, 7, 33, 34] ⟨(pre ++ [s], suf), by rw [← hp]; simp, ?_⟩ ?_ (keep_c (he := (by first | rfl | (rw [flat_snoc, keep_1 ‹_›]) | (rw [flat_snoc, keep_2 ‹_› hy]) | (rw [flat_snoc, keep_0 ‹_› ‹_›, List.append_nil]))) (h := keep_n)) (slots_c (he := (by first | rfl | (congr 2; simp; done))) (h := (slots_c (he := (by first | rfl | (congr 1; rw [flat_snoc, keep_1 ‹_›]) | (congr 1; rw [flat_snoc, keep_2 ‹_› hy]) | (rw [flat_snoc, keep_0 ‹_› ‹_›, List.append_nil]))) (h := trivial)))) (.c (.c (.c (.c (.c (.c .n))))))
                trivial
                all_goals (dsimp only; simp only [List.length_cons]; omega)
              · first
              | (first | omega | contradiction)
              | refine Ev.sr fun K hK => S.o q.eql (S.o q.as (S.end (hK _ ?_)))
                clear hK K
                refine Ev.cd (fun c16 => ?_) (fun c16 => ?_)
                · first
                | (first | omega | contradiction)
                | have hfit : 0 ≤ markI a s.mark ∧ 0 ≤ markI b s.mark := (hf.1 _ (ofK_mem (mk := s.mark) (by omega))).2.1 (by assumption)
                  obtain ⟨y, hy, hyi, hym, hyk⟩ := barAt_some hfit.2
                  have hyd := hbd y hym
                  refine Ev.region_S fun K hK => S.o q.mv (S.o q.mv (S.o q.mv (S.o (q.fa 0 am_fi44_0 am_cl9) (S.o (q.lv am_ag9) (S.c0 (hF := find_fun _ _ (by omega)) (h := S.o (q.ix am_el22 am_cl44 (hl := (by first | exact ati hyi (by omega) | exact ati hidx (by omega) | exact atig (by omega)))) (S.o (q.lsA [_, _, _, _, _] am_ag44 am_cl44) (S.c0 (hF := copied_fun _ (by omega)) (h := S.nn (q.bs [[_, _, _, _, _]] true am_el22 am_ze44 am_cl44) (S.ap' [_, _] am_el22 am_ze44 am_cl44 am_by44 (hh := head_own') (hr := (rows_lit [(⟨_, _, _, _, _⟩ : Bar)])) (h := S.o q.as (S.end (hK _ ?_)))))))))))))
                  clear hK K
                  show Ev _ _ _ _
                  refine Ev.region_S fun K hK => S.o q.add (S.o q.mv (S.end (hK _ ?_)))
                  clear hK K
                  refine hR1 _ _ ?_
                  refine roundU [3] [1, 2, 6, 7, 33, 34] ⟨(pre ++ [s], suf), by rw [← hp]; simp, ?_⟩ ?_ (keep_c (he := (by first | rfl | (rw [flat_snoc, keep_1 ‹_›]) | (rw [flat_snoc, keep_2 ‹_› hy]) | (rw [flat_snoc, keep_0 ‹_› ‹_›, List.append_nil]))) (h := keep_n)) (slots_c (he := (by first | rfl | (congr 2; simp; done))) (h := (slots_c (he := (by first | rfl | (congr 1; rw [flat_snoc, keep_1 ‹_›]) | (congr 1; rw [flat_snoc, keep_2 ‹_› hy]) | (rw [flat_snoc, keep_0 ‹_› ‹_›, List.append_nil]))) (h := trivial)))) (.c (.c (.c (.c (.c (.c .n))))))
                  trivial
                  all_goals (dsimp only; simp only [List.length_cons]; omega)
                · first
                | (first | omega | contradiction)
                | refine Ev.skip ?_
                  show Ev _ _ _ _
                  refine Ev.region_S fun K hK => S.o q.add (S.o q.mv (S.end (hK _ ?_)))
                  clear hK K
                  refine hR1 _ _ ?_
                  refine roundU [0] [1, 2, 6, 7, 33, 34] ⟨(pre ++ [s], suf), by rw [← hp]; simp, ?_⟩ ?_ (keep_c (he := (by first | rfl | (rw [flat_snoc, keep_1 ‹_›]) | (rw [flat_snoc, keep_2 ‹_› hy]) | (rw [flat_snoc, keep_0 ‹_› ‹_›, List.append_nil]))) (h := keep_n)) (slots_c (he := (by first | rfl | (congr 2; simp; done))) (h := (slots_c (he := (by first | rfl | (congr 1; rw [flat_snoc, keep_1 ‹_›]) | (congr 1; rw [flat_snoc, keep_2 ‹_› hy]) | (rw [flat_snoc, keep_0 ‹_› ‹_›, List.append_nil]))) (h := trivial)))) (.c (.c (.c (.c (.c (.c .n))))))
                  trivial
                  all_goals (dsimp only; simp only [List.length_cons]; omega)
            · first
            | (first | omega | contradiction)
            | refine Ev.exit ?_
              refine hR1 _ _ ?_
              show Ev _ _ _ _
              refine Ev.seq ?_
              refine Ev.sr fun K hK => S.o q.mv (S.o (q.lens am_el25) (S.o q.mv (S.end (hK _ ?_))))
              clear hK K
              refine Ev.block ?_
              refine Ev.loopU (ι := {q : List Chg × List Chg // q.1 ++ q.2 = l}) [0] [1, 2, 6, 7, 33, 34, 35, 36, 64, 65] (fun ⟨(pre2, suf2), _⟩ => [(66, .lit (.int .i64 ((pre2.length : Int)))), (8, .als 0 0 (a.flatMap (keepP b l) ++ pre2.flatMap (newB b)).length)]) (fun ⟨(pre2, suf2), _⟩ => [(0, ⟨true, 44, 5, (a.flatMap (keepP b l) ++ pre2.flatMap (newB b)).map Bar.c, true⟩)]) (fun ⟨(pre2, suf2), _⟩ => suf2.length) ⟨([], l), rfl⟩ (.c (.c (.c (.c (.c (.c (.c (.c (.c (.c .n)))))))))) (keep_c (he := (by first | rfl | (simp; done) | (rw [flat_snoc, new_3 ‹_› hy, List.append_assoc]) | (rw [flat_snoc, new_0 ‹_›, List.append_nil]))) (h := keep_n)) (slots_c (he := (by first | rfl | (congr 2; simp; done))) (h := (slots_c (he := (by first | rfl | (congr 1; simp; done) | (congr 1; rw [flat_snoc, new_3 ‹_› hy, List.append_assoc]) | (rw [flat_snoc, new_0 ‹_›, List.append_nil]))) (h := trivial)))) ?_
              rintro ⟨⟨pre2, suf2⟩, hp2⟩ R4 hR4
              dsimp only [List.cons_append, List.nil_append, List.length_cons, List.length_nil]
              simp only at hp2
              have hpl2 : pre2.length + suf2.length = l.length := by rw [← hp2, List.length_append]
              have hnl := flat_len (newB b) (new_len b) pre2
              rcases suf2 with _ | ⟨s, suf2⟩
              · rw [List.append_nil] at hp2; simp only [List.length_nil] at hpl2
                have hfin : applyP a b l = a.flatMap (keepP b l) ++ pre2.flatMap (newB b) := by rw [hp2]; rfl
                refine Ev.sr fun K hK => S.o q.lss (S.end (hK _ ?_))
                clear hK K
                refine Ev.ud (fun c17 => ?_) (fun c17 => ?_)
                · first
                | (first | omega | contradiction)
                | refine Ev.seq ?_
                  refine Ev.block ?_
                  refine Ev.sr fun K hK => S.o (q.ix am_el25 am_cl34 (hl := (by first | exact ati hyi (by omega) | exact ati hidx (by omega) | exact atig (by omega)))) (S.o (q.lsA [_, _] am_ag34 am_cl34) (S.nn (q.al am_ze34) (S.sv [_, _] true [_] am_in34 am_cl34 (h := S.end (hK _ ?_)))))
                  clear hK K
                  refine Ev.sr fun K hK => S.o (q.fa 0 am_fi34_0 am_cl3) (S.o (q.lv am_ag3) (S.o q.eql (S.end (hK _ ?_))))
                  clear hK K
                  refine Ev.cd (fun c18 => ?_) (fun c18 => ?_)
                  · first
                  | (first | omega | contradiction)
                  | have hfit : markI a s.2 < 0 ∧ 0 ≤ markI b s.2 := (hf.1 s (by rw [← hp2]; simp)).2.2 (by assumption)
                    obtain ⟨y, hy, hyi, hym, hyk⟩ := barAt_some hfit.2
                    have hyd := hbd y hym
                    refine Ev.region_S fun K hK => S.o q.mv (S.o q.mv (S.o q.mv (S.o (q.fa 1 am_fi34_1 am_cl9) (S.o (q.lv am_ag9) (S.c0 (hF := find_fun _ _ (by omega)) (h := S.o (q.ix am_el22 am_cl44 (hl := (by first | exact ati hyi (by omega) | exact ati hidx (by omega) | exact atig (by omega)))) (S.o (q.lsA [_, _, _, _, _] am_ag44 am_cl44) (S.c0 (hF := copied_fun _ (by omega)) (h := S.nn (q.bs [[_, _, _, _, _]] true am_el22 am_ze44 am_cl44) (S.ap' [_, _] am_el22 am_ze44 am_cl44 am_by44 (hh := head_own') (hr := (rows_lit [(⟨_, _, _, _, _⟩ : Bar)])) (h := S.o q.as (S.end (hK _ ?_)))))))))))))
                    clear hK K
                    show Ev _ _ _ _
                    refine Ev.region_S fun K hK => S.o q.add (S.o q.mv (S.end (hK _ ?_)))
                    clear hK K
                    refine hR4 _ _ ?_
                    refine roundU [3] [1, 2, 6, 7, 33, 34, 35, 36, 64, 65] ⟨(pre2 ++ [s], suf2), by rw [← hp2]; simp⟩ ?_ (keep_c (he := (by first | rfl | (simp; done) | (rw [flat_snoc, new_3 ‹_› hy, List.append_assoc]) | (rw [flat_snoc, new_0 ‹_›, List.append_nil]))) (h := keep_n)) (slots_c (he := (by first | rfl | (congr 2; simp; done))) (h := (slots_c (he := (by first | rfl | (congr 1; simp; done) | (congr 1; rw [flat_snoc, new_3 ‹_› hy, List.append_assoc]) | (rw [flat_snoc, new_0 ‹_›, List.append_nil]))) (h := trivial)))) (.c (.c (.c (.c (.c (.c (.c (.c (.c (.c .n))))))))))
                    skip
                    all_goals (dsimp only; simp only [List.length_cons]; omega)
                  · first
                  | (first | omega | contradiction)
                  | refine Ev.skip ?_
                    show Ev _ _ _ _
                    refine Ev.region_S fun K hK => S.o q.add (S.o q.mv (S.end (hK _ ?_)))
                    clear hK K
                    refine hR4 _ _ ?_
                    refine roundU [0] [1, 2, 6, 7, 33, 34, 35, 36, 64, 65] ⟨(pre2 ++ [s], suf2), by rw [← hp2]; simp⟩ ?_ (keep_c (he := (by first | rfl | (simp; done) | (rw [flat_snoc, new_3 ‹_› hy, List.append_assoc]) | (rw [flat_snoc, new_0 ‹_›, List.append_nil]))) (h := keep_n)) (slots_c (he := (by first | rfl | (congr 2; simp; done))) (h := (slots_c (he := (by first | rfl | (congr 1; simp; done) | (congr 1; rw [flat_snoc, new_3 ‹_› hy, List.append_assoc]) | (rw [flat_snoc, new_0 ‹_›, List.append_nil]))) (h := trivial)))) (.c (.c (.c (.c (.c (.c (.c (.c (.c (.c .n))))))))))
                    skip
                    all_goals (dsimp only; simp only [List.length_cons]; omega)
                · first
                | (first | omega | contradiction)
                | refine Ev.exit ?_
                  refine hR4 _ _ ?_
                  show Ev _ _ _ _
                  refine Ev.seq ?_
                  refine Ev.sr fun K hK => S.o q.mv (S.o (q.lena am_el22) (S.o q.gtr (S.end (hK _ ?_))))
                  clear hK K
                  refine Ev.cd (fun c19 => ?_) (fun c19 => ?_)
                  · first
                  | (first | omega | contradiction)
                  | refine Ev.sr fun K hK => S.o q.as (S.o q.as (S.end (hK _ ?_)))
                    clear hK K
                    refine Ev.weaken (Wk.nsh Bar.c 6 5) ?_
                    refine Ev.ret ?_
                    refine Ev.ret2 ?_
                    refine ⟨?_, rfl⟩
                    first
                     | (have hno : ¬ okApply a b l := fun h => absurd h.1.1 ‹_›
                        rw [show appV a b l = [] from if_neg hno, show appE a b l = 1 from if_neg hno]; done)
                     | (have hno : ¬ okApply a b l := fun h => absurd h.1.2 ‹_›
                        rw [show appV a b l = [] from if_neg hno, show appE a b l = 1 from if_neg hno]; done)
                     | (have hno : ¬ okApply a b l := fun h => absurd h.2 ‹_›
                        rw [show appV a b l = [] from if_neg hno, show appE a b l = 1 from if_neg hno]; done)
                     | (have hyes : okApply a b l := ⟨⟨‹_›, ‹_›⟩, ‹_›⟩
                        rw [show appV a b l = [] by rw [appV, if_pos hyes, if_neg ‹¬ fitsP a b l›], show appE a b l = 9 by rw [appE, if_pos hyes, if_neg ‹¬ fitsP a b l›]]; done)
                     | (have hlen : ¬ (applyP a b l).length ≤ 60 := by rw [hfin]; omega
                        rw [show appV a b l = [] by rw [appV, if_pos hyes, if_pos hf, if_neg hlen], show appE a b l = 4 by rw [appE, if_pos hyes, if_pos hf, if_neg hlen]]; done)
                     | (have hlen : (applyP a b l).length ≤ 60 := by rw [hfin]; omega
                        rw [show appV a b l = applyP a b l by rw [appV, if_pos hyes, if_pos hf, if_pos hlen], show appE a b l = 0 by rw [appE, if_pos hyes, if_pos hf, if_pos hlen], hfin]; done)
                  · first
                  | (first | omega | contradiction)
                  | refine Ev.skip ?_
                    show Ev _ _ _ _
                    refine Ev.sr fun K hK => S.o q.mv (S.o q.as (S.o q.as (S.end (hK _ ?_))))
                    clear hK K
                    refine Ev.weaken (Wk.frz 6 []) ?_
                    refine Ev.ret ?_
                    refine Ev.ret2 ?_
                    refine ⟨?_, rfl⟩
                    first
                     | (have hno : ¬ okApply a b l := fun h => absurd h.1.1 ‹_›
                        rw [show appV a b l = [] from if_neg hno, show appE a b l = 1 from if_neg hno]; done)
                     | (have hno : ¬ okApply a b l := fun h => absurd h.1.2 ‹_›
                        rw [show appV a b l = [] from if_neg hno, show appE a b l = 1 from if_neg hno]; done)
                     | (have hno : ¬ okApply a b l := fun h => absurd h.2 ‹_›
                        rw [show appV a b l = [] from if_neg hno, show appE a b l = 1 from if_neg hno]; done)
                     | (have hyes : okApply a b l := ⟨⟨‹_›, ‹_›⟩, ‹_›⟩
                        rw [show appV a b l = [] by rw [appV, if_pos hyes, if_neg ‹¬ fitsP a b l›], show appE a b l = 9 by rw [appE, if_pos hyes, if_neg ‹¬ fitsP a b l›]]; done)
                     | (have hlen : ¬ (applyP a b l).length ≤ 60 := by rw [hfin]; omega
                        rw [show appV a b l = [] by rw [appV, if_pos hyes, if_pos hf, if_neg hlen], show appE a b l = 4 by rw [appE, if_pos hyes, if_pos hf, if_neg hlen]]; done)
                     | (have hlen : (applyP a b l).length ≤ 60 := by rw [hfin]; omega
                        rw [show appV a b l = applyP a b l by rw [appV, if_pos hyes, if_pos hf, if_pos hlen], show appE a b l = 0 by rw [appE, if_pos hyes, if_pos hf, if_pos hlen], hfin]; done)
              · simp only [List.length_cons] at hpl2
                have hidx2 : l[pre2.length]? = some s := by rw [← hp2]; simp
                refine Ev.sr fun K hK => S.o q.lss (S.end (hK _ ?_))
                clear hK K
                refine Ev.ud (fun c20 => ?_) (fun c20 => ?_)
                · first
                | (first | omega | contradiction)
                | refine Ev.seq ?_
                  refine Ev.block ?_
                  refine Ev.sr fun K hK => S.o (q.ix am_el25 am_cl34 (hl := (by first | exact ati hyi (by omega) | exact ati hidx (by omega) | exact ati hidx2 (by omega) | exact atig (by omega)))) (S.o (q.lsA [_, _] am_ag34 am_cl34) (S.nn (q.al am_ze34) (S.sv [_, _] true [_] am_in34 am_cl34 (h := S.end (hK _ ?_)))))
                  clear hK K
                  refine Ev.sr fun K hK => S.o (q.fa 0 am_fi34_0 am_cl3) (S.o (q.lv am_ag3) (S.o q.eql (S.end (hK _ ?_))))
                  clear hK K
                  refine Ev.cd (fun c21 => ?_) (fun c21 => ?_)
                  · first
                  | (first | omega | contradiction)
                  | have hfit : markI a s.2 < 0 ∧ 0 ≤ markI b s.2 := (hf.1 s (by rw [← hp2]; simp)).2.2 (by assumption)
                    obtain ⟨y, hy, hyi, hym, hyk⟩ := barAt_some hfit.2
                    have hyd := hbd y hym
                    refine Ev.region_S fun K hK => S.o q.mv (S.o q.mv (S.o q.mv (S.o (q.fa 1 am_fi34_1 am_cl9) (S.o (q.lv am_ag9) (S.c0 (hF := find_fun _ _ (by omega)) (h := S.o (q.ix am_el22 am_cl44 (hl := (by first | exact ati hyi (by omega) | exact ati hidx (by omega) | exact ati hidx2 (by omega) | exact atig (by omega)))) (S.o (q.lsA [_, _, _, _, _] am_ag44 am_cl44) (S.c0 (hF := copied_fun _ (by omega)) (h := S.nn (q.bs [[_, _, _, _, _]] true am_el22 am_ze44 am_cl44) (S.ap' [_, _] am_el22 am_ze44 am_cl44 am_by44 (hh := head_own') (hr := (rows_lit [(⟨_, _, _, _, _⟩ : Bar)])) (h := S.o q.as (S.end (hK _ ?_)))))))))))))
                    clear hK K
                    show Ev _ _ _ _
                    refine Ev.region_S fun K hK => S.o q.add (S.o q.mv (S.end (hK _ ?_)))
                    clear hK K
                    refine hR4 _ _ ?_
                    refine roundU [3] [1, 2, 6, 7, 33, 34, 35, 36, 64, 65] ⟨(pre2 ++ [s], suf2), by rw [← hp2]; simp⟩ ?_ (keep_c (he := (by first | rfl | (simp; done) | (rw [flat_snoc, new_3 ‹_› hy, List.append_assoc]) | (rw [flat_snoc, new_0 ‹_›, List.append_nil]))) (h := keep_n)) (slots_c (he := (by first | rfl | (congr 2; simp; done))) (h := (slots_c (he := (by first | rfl | (congr 1; simp; done) | (congr 1; rw [flat_snoc, new_3 ‹_› hy, List.append_assoc]) | (rw [flat_snoc, new_0 ‹_›, List.append_nil]))) (h := trivial)))) (.c (.c (.c (.c (.c (.c (.c (.c (.c (.c .n))))))))))
                    skip
                    all_goals (dsimp only; simp only [List.length_cons]; omega)
                  · first
                  | (first | omega | contradiction)
                  | refine Ev.skip ?_
                    show Ev _ _ _ _
                    refine Ev.region_S fun K hK => S.o q.add (S.o q.mv (S.end (hK _ ?_)))
                    clear hK K
                    refine hR4 _ _ ?_
                    refine roundU [0] [1, 2, 6, 7, 33, 34, 35, 36, 64, 65] ⟨(pre2 ++ [s], suf2), by rw [← hp2]; simp⟩ ?_ (keep_c (he := (by first | rfl | (simp; done) | (rw [flat_snoc, new_3 ‹_› hy, List.append_assoc]) | (rw [flat_snoc, new_0 ‹_›, List.append_nil]))) (h := keep_n)) (slots_c (he := (by first | rfl | (congr 2; simp; done))) (h := (slots_c (he := (by first | rfl | (congr 1; simp; done) | (congr 1; rw [flat_snoc, new_3 ‹_› hy, List.append_assoc]) | (rw [flat_snoc, new_0 ‹_›, List.append_nil]))) (h := trivial)))) (.c (.c (.c (.c (.c (.c (.c (.c (.c (.c .n))))))))))
                    skip
                    all_goals (dsimp only; simp only [List.length_cons]; omega)
                · first
                | (first | omega | contradiction)
                | refine Ev.exit ?_
                  refine hR4 _ _ ?_
                  show Ev _ _ _ _
                  refine Ev.seq ?_
                  refine Ev.sr fun K hK => S.o q.mv (S.o (q.lena am_el22) (S.o q.gtr (S.end (hK _ ?_))))
                  clear hK K
                  refine Ev.cd (fun c22 => ?_) (fun c22 => ?_)
                  · first
                  | (first | omega | contradiction)
                  | refine Ev.sr fun K hK => S.o q.as (S.o q.as (S.end (hK _ ?_)))
                    clear hK K
                    refine Ev.weaken (Wk.nsh Bar.c 6 5) ?_
                    refine Ev.ret ?_
                    refine Ev.ret2 ?_
                    refine ⟨?_, rfl⟩
                    first
                     | (have hno : ¬ okApply a b l := fun h => absurd h.1.1 ‹_›
                        rw [show appV a b l = [] from if_neg hno, show appE a b l = 1 from if_neg hno]; done)
                     | (have hno : ¬ okApply a b l := fun h => absurd h.1.2 ‹_›
                        rw [show appV a b l = [] from if_neg hno, show appE a b l = 1 from if_neg hno]; done)
                     | (have hno : ¬ okApply a b l := fun h => absurd h.2 ‹_›
                        rw [show appV a b l = [] from if_neg hno, show appE a b l = 1 from if_neg hno]; done)
                     | (have hyes : okApply a b l := ⟨⟨‹_›, ‹_›⟩, ‹_›⟩
                        rw [show appV a b l = [] by rw [appV, if_pos hyes, if_neg ‹¬ fitsP a b l›], show appE a b l = 9 by rw [appE, if_pos hyes, if_neg ‹¬ fitsP a b l›]]; done)
                     | (have hlen : ¬ (applyP a b l).length ≤ 60 := by rw [hfin]; omega
                        rw [show appV a b l = [] by rw [appV, if_pos hyes, if_pos hf, if_neg hlen], show appE a b l = 4 by rw [appE, if_pos hyes, if_pos hf, if_neg hlen]]; done)
                     | (have hlen : (applyP a b l).length ≤ 60 := by rw [hfin]; omega
                        rw [show appV a b l = applyP a b l by rw [appV, if_pos hyes, if_pos hf, if_pos hlen], show appE a b l = 0 by rw [appE, if_pos hyes, if_pos hf, if_pos hlen], hfin]; done)
                  · first
                  | (first | omega | contradiction)
                  | refine Ev.skip ?_
                    show Ev _ _ _ _
                    refine Ev.sr fun K hK => S.o q.mv (S.o q.as (S.o q.as (S.end (hK _ ?_))))
                    clear hK K
                    refine Ev.weaken (Wk.frz 6 []) ?_
                    refine Ev.ret ?_
                    refine Ev.ret2 ?_
                    refine ⟨?_, rfl⟩
                    first
                     | (have hno : ¬ okApply a b l := fun h => absurd h.1.1 ‹_›
                        rw [show appV a b l = [] from if_neg hno, show appE a b l = 1 from if_neg hno]; done)
                     | (have hno : ¬ okApply a b l := fun h => absurd h.1.2 ‹_›
                        rw [show appV a b l = [] from if_neg hno, show appE a b l = 1 from if_neg hno]; done)
                     | (have hno : ¬ okApply a b l := fun h => absurd h.2 ‹_›
                        rw [show appV a b l = [] from if_neg hno, show appE a b l = 1 from if_neg hno]; done)
                     | (have hyes : okApply a b l := ⟨⟨‹_›, ‹_›⟩, ‹_›⟩
                        rw [show appV a b l = [] by rw [appV, if_pos hyes, if_neg ‹¬ fitsP a b l›], show appE a b l = 9 by rw [appE, if_pos hyes, if_neg ‹¬ fitsP a b l›]]; done)
                     | (have hlen : ¬ (applyP a b l).length ≤ 60 := by rw [hfin]; omega
                        rw [show appV a b l = [] by rw [appV, if_pos hyes, if_pos hf, if_neg hlen], show appE a b l = 4 by rw [appE, if_pos hyes, if_pos hf, if_neg hlen]]; done)
                     | (have hlen : (applyP a b l).length ≤ 60 := by rw [hfin]; omega
                        rw [show appV a b l = applyP a b l by rw [appV, if_pos hyes, if_pos hf, if_pos hlen], show appE a b l = 0 by rw [appE, if_pos hyes, if_pos hf, if_pos hlen], hfin]; done)
end Go.Proofs.YtccddakkegelkaaGreatDoor
