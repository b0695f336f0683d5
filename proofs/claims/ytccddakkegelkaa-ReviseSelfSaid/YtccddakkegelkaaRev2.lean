/-
  Layer 41: comparing schedules.
  Conditions: none.
-/
import Derived.Test.YtccddakkegelkaaRev1
namespace Go.Proofs.Ytccddakkegelkaa
open Go Go.AM
set_option linter.unusedSimpArgs false
set_option linter.unusedVariables false
set_option maxRecDepth 100000

theorem eqInts_fun (a b : List Int) (ha : a.length ≤ 140737488355328) (hb : b.length ≤ 140737488355328) : Fun Try.prog 24 [.sh 1 (a.map intC), .sh 1 (b.map intC)] (Ret (.lit (.bool (decide (a = b)))) []) := by
  refine Fun.of (nt := 26) (rs := [.tmp 4]) Try.func24 rfl rfl rfl rfl rfl ?_
  refine Ev.sr fun K hK => S.o q.as (S.end (hK _ ?_))
  clear hK K
  refine Ev.seq ?_
  refine Ev.sr fun K hK => S.o q.mv (S.o (q.lens am_el41) (S.o q.mv (S.o (q.lens am_el41) (S.o q.neq (S.end (hK _ ?_))))))
  clear hK K
  refine Ev.cn (fun c1 => ?_) (fun c1 => ?_)
  · first
  | (first | omega | contradiction)
  | refine Ev.sr fun K hK => S.o q.as (S.end (hK _ ?_))
    clear hK K
    refine Ev.ret ?_
    refine Ev.ret1 ?_
    refine ⟨?_, rfl⟩
    first
     | exact bF (fun h => by subst h; omega)
     | exact bF (fun h => by subst h; rw [hidx] at hidx2; simp only [Option.some.injEq] at hidx2; omega)
     | exact bT (hinv.symm.trans (List.take_of_length_le (by omega)))
  · first
  | (first | omega | contradiction)
  | refine Ev.skip ?_
    show Ev _ _ _ _
    refine Ev.seq ?_
    refine Ev.sr fun K hK => S.o q.mv (S.o (q.lens am_el41) (S.o q.mv (S.end (hK _ ?_))))
    clear hK K
    refine Ev.block ?_
    refine Ev.loopU (ι := {q : List Int × List Int // q.1 ++ q.2 = a ∧ b.take q.1.length = q.1}) [] [0, 1, 12] (fun ⟨(pre, suf), _⟩ => [(13, .lit (.int .i64 ((pre.length : Int))))]) (fun ⟨(pre, suf), _⟩ => []) (fun ⟨(pre, suf), _⟩ => suf.length) ⟨([], a), rfl, rfl⟩ (.c (.c (.c .n))) keep_n (slots_c (he := (by first | rfl | (simp; done) | (congr 2; omega))) (h := trivial)) ?_
    rintro ⟨⟨pre, suf⟩, hp, hinv⟩ R0 hR0
    dsimp only [List.cons_append, List.nil_append, List.length_cons, List.length_nil]
    simp only at hp hinv
    have hpl : pre.length + suf.length = (a).length := by rw [← hp, List.length_append]
    rcases suf with _ | ⟨s, suf⟩
    · rw [List.append_nil] at hp; subst hp; simp only [List.length_nil] at hpl
      refine Ev.sr fun K hK => S.o q.lss (S.end (hK _ ?_))
      clear hK K
      refine Ev.ud (fun c2 => ?_) (fun c2 => ?_)
      · first
      | (first | omega | contradiction)
      | refine Ev.seq ?_
        refine Ev.block ?_
        refine Ev.sr fun K hK => S.o q.mv (S.o q.as (S.end (hK _ ?_)))
        clear hK K
        refine Ev.sm (tbs [(0, 0), (0, 0), (2, 3), (3, 7), (0, 0), (0, 0), (6, 48), (7, 112), (8, 255)]) 9 fun K hK => M.o q.mv (M.o q.mv (M.o (q.ix am_el41 am_cl3 (hl := (by first | exact atig (by omega)))) (M.o (q.ls am_ag3) (M.o q.mv (M.o q.mv (M.o (q.ix am_el41 am_cl3 (hl := (by first | exact atig (by omega)))) (M.o (q.ls am_ag3) (M.o q.neq (M.end [] (h := S.end (hK _ ?_)))))))))))
        clear hK K
        refine Ev.cn (fun c3 => ?_) (fun c3 => ?_)
        · first
        | (first | omega | contradiction)
        | refine Ev.sr fun K hK => S.o q.as (S.end (hK _ ?_))
          clear hK K
          refine Ev.ret ?_
          refine hR0 _ _ ?_
          refine Ev.ret1 ?_
          refine ⟨?_, rfl⟩
          first
           | exact bF (fun h => by subst h; omega)
           | exact bF (fun h => by subst h; rw [hidx] at hidx2; simp only [Option.some.injEq] at hidx2; omega)
           | exact bT (hinv.symm.trans (List.take_of_length_le (by omega)))
        · first
        | (first | omega | contradiction)
        | refine Ev.skip ?_
          show Ev _ _ _ _
          refine Ev.region_S fun K hK => S.o q.add (S.o q.mv (S.end (hK _ ?_)))
          clear hK K
          refine hR0 _ _ ?_
          refine roundU [] [0, 1, 12] ⟨(pre ++ [s], suf), by rw [← hp]; simp, ?_⟩ ?_ keep_n (slots_c (he := (by first | rfl | (simp; done) | (congr 2; omega))) (h := trivial)) (.c (.c (.c .n)))
          simp only [List.length_append, List.length_cons, List.length_nil, Nat.zero_add]
          rw [List.take_add_one, hinv, hidx2]
          simp only [Option.toList_some, List.append_cancel_left_eq, List.cons.injEq, and_true]
          omega
          all_goals (dsimp only; simp only [List.length_cons]; omega)
      · first
      | (first | omega | contradiction)
      | refine Ev.exit ?_
        refine hR0 _ _ ?_
        show Ev _ _ _ _
        refine Ev.sr fun K hK => S.o q.as (S.end (hK _ ?_))
        clear hK K
        refine Ev.ret ?_
        refine Ev.ret1 ?_
        refine ⟨?_, rfl⟩
        first
         | exact bF (fun h => by subst h; omega)
         | exact bF (fun h => by subst h; rw [hidx] at hidx2; simp only [Option.some.injEq] at hidx2; omega)
         | exact bT (hinv.symm.trans (List.take_of_length_le (by omega)))
    · simp only [List.length_cons] at hpl
      have hidx : (a)[pre.length]? = some s := by rw [← hp]; simp
      obtain ⟨s2, hidx2⟩ : ∃ s2, b[pre.length]? = some s2 := ⟨_, List.getElem?_eq_getElem (by omega)⟩
      refine Ev.sr fun K hK => S.o q.lss (S.end (hK _ ?_))
      clear hK K
      refine Ev.ud (fun c4 => ?_) (fun c4 => ?_)
      · first
      | (first | omega | contradiction)
      | refine Ev.seq ?_
        refine Ev.block ?_
        refine Ev.sr fun K hK => S.o q.mv (S.o q.as (S.end (hK _ ?_)))
        clear hK K
        refine Ev.sm (tbs [(0, 0), (0, 0), (2, 3), (3, 7), (0, 0), (0, 0), (6, 48), (7, 112), (8, 255)]) 9 fun K hK => M.o q.mv (M.o q.mv (M.o (q.ix am_el41 am_cl3 (hl := (by first | exact ati hidx (by omega) | exact ati hidx2 (by omega) | exact atig (by omega)))) (M.o (q.ls am_ag3) (M.o q.mv (M.o q.mv (M.o (q.ix am_el41 am_cl3 (hl := (by first | exact ati hidx (by omega) | exact ati hidx2 (by omega) | exact atig (by omega)))) (M.o (q.ls am_ag3) (M.o q.neq (M.end [] (h := S.end (hK _ ?_)))))))))))
        clear hK K
        refine Ev.cn (fun c5 => ?_) (fun c5 => ?_)
        · first
        | (first | omega | contradiction)
        | refine Ev.sr fun K hK => S.o q.as (S.end (hK _ ?_))
          clear hK K
          refine Ev.ret ?_
          refine hR0 _ _ ?_
          refine Ev.ret1 ?_
          refine ⟨?_, rfl⟩
          first
           | exact bF (fun h => by subst h; omega)
           | exact bF (fun h => by subst h; rw [hidx] at hidx2; simp only [Option.some.injEq] at hidx2; omega)
           | exact bT (hinv.symm.trans (List.take_of_length_le (by omega)))
        · first
        | (first | omega | contradiction)
        | refine Ev.skip ?_
          show Ev _ _ _ _
          refine Ev.region_S fun K hK => S.o q.add (S.o q.mv (S.end (hK _ ?_)))
          clear hK K
          refine hR0 _ _ ?_
          refine roundU [] [0, 1, 12] ⟨(pre ++ [s], suf), by rw [← hp]; simp, ?_⟩ ?_ keep_n (slots_c (he := (by first | rfl | (simp; done) | (congr 2; omega))) (h := trivial)) (.c (.c (.c .n)))
          simp only [List.length_append, List.length_cons, List.length_nil, Nat.zero_add]
          rw [List.take_add_one, hinv, hidx2]
          simp only [Option.toList_some, List.append_cancel_left_eq, List.cons.injEq, and_true]
          omega
          all_goals (dsimp only; simp only [List.length_cons]; omega)
      · first
      | (first | omega | contradiction)
      | refine Ev.exit ?_
        refine hR0 _ _ ?_
        show Ev _ _ _ _
        refine Ev.sr fun K hK => S.o q.as (S.end (hK _ ?_))
        clear hK K
        refine Ev.ret ?_
        refine Ev.ret1 ?_
        refine ⟨?_, rfl⟩
        first
         | exact bF (fun h => by subst h; omega)
         | exact bF (fun h => by subst h; rw [hidx] at hidx2; simp only [Option.some.injEq] at hidx2; omega)
         | exact bT (hinv.symm.trans (List.take_of_length_le (by omega)))

theorem idxP_find {T : Type} (p : T → Bool) : ∀ (l : List T) (k : Int), 0 ≤ k → (idxP p l k < 0 → l.find? p = none) ∧ (0 ≤ idxP p l k → ∃ x, l.find? p = some x ∧ l[(idxP p l k - k).toNat]? = some x)
  | [], k, hk => by simp [idxP]
  | x :: l, k, hk => by
    rw [idxP]
    split
    · rename_i hx
      exact ⟨fun h => by omega, fun _ => ⟨x, by simp [hx], by simp⟩⟩
    · rename_i hx
      obtain ⟨h1, h2⟩ := idxP_find p l (k + 1) (by omega)
      have hx' : p x = false := by simpa using hx
      refine ⟨fun h => by simp [hx', h1 h], fun h => ?_⟩
      obtain ⟨y, h3, h4⟩ := h2 h
      have := (idxP_get p l (k + 1) (by omega) h).1
      refine ⟨y, by simp [hx', h3], ?_⟩
      rw [show (idxP p l (k + 1) - k).toNat = (idxP p l (k + 1) - (k + 1)).toNat + 1 by omega]
      simpa using h4
def barAt (l : List Bar) (mk : List UInt8) : Option Bar := l.find? fun b => decide (b.mark = mk)
theorem barAt_none {l : List Bar} {mk : List UInt8} (h : markI l mk < 0) : barAt l mk = none := (idxP_find _ l 0 (Int.le_refl _)).1 h
theorem barAt_some {l : List Bar} {mk : List UInt8} (h : 0 ≤ markI l mk) : ∃ y, barAt l mk = some y ∧ l[(markI l mk).toNat]? = some y ∧ y ∈ l ∧ y.mark = mk := by
  obtain ⟨y, h1, h2⟩ := (idxP_find (fun b : Bar => decide (b.mark = mk)) l 0 (Int.le_refl _)).2 h
  rw [Int.sub_zero] at h2
  exact ⟨y, h1, h2, List.mem_of_getElem? h2, by simpa using List.find?_some h1⟩
def sameD (x y : Bar) : Prop := x.size = y.size ∧ x.code = y.code ∧ x.dims = y.dims
instance (x y) : Decidable (sameD x y) := by unfold sameD; infer_instance
def sameV (x y : Bar) : Prop := okBar x ∧ okBar y ∧ sameD x y
instance (x y) : Decidable (sameV x y) := by unfold sameV; infer_instance
def sameE (x y : Bar) : Int := if okBar x ∧ okBar y then 0 else 1
theorem okBar_w {b : Bar} (h : okBar b) : b.w := by
  have h1 := isName_len h.1
  have h2 := h.2.2.2.2.2.1
  have h3 : dimsN b.code ≤ 5 := by unfold dimsN; repeat' split <;> omega
  exact ⟨by omega, by omega⟩
theorem same_fun (x y : Bar) (hx : x.w) (hy : y.w) : Fun Try.prog 65 [.agg x.c, .agg y.c] (Ret (.tup [.lit (.bool (decide (sameV x y))), .lit (.int .i64 (sameE x y))]) []) := by
  obtain ⟨hx1, hx2⟩ := hx
  obtain ⟨hy1, hy2⟩ := hy
  have hx : x.w := ⟨hx1, hx2⟩
  have hy : y.w := ⟨hy1, hy2⟩
  refine Fun.of (nt := 33) (rs := [.tmp 4, .tmp 5]) Try.func65 rfl rfl rfl rfl rfl ?_
  refine Ev.sr fun K hK => S.nn (q.bx [_, _, _, _, _] true) (S.nn (q.bx [_, _, _, _, _] true) (S.o q.as (S.o q.as (S.end (hK _ ?_)))))
  clear hK K
  refine Ev.seq ?_
  refine Ev.sr fun K hK => S.o (q.lvA [_, _, _, _, _] am_ag43 am_cl43) (S.c0 (hF := valid_fun _ (by assumption)) (h := S.o q.not (S.bn q.mv (fun c1 => ?_) (fun c1 => ?_))))
  · first
  | (first | omega | contradiction)
  | refine S.sk (S.sk (S.sk (S.o q.pt (S.end (hK _ ?_)))))
    clear hK K
    refine Ev.ct ?_
    refine Ev.sr fun K hK => S.o q.as (S.o q.as (S.end (hK _ ?_)))
    clear hK K
    refine Ev.ret ?_
    refine Ev.ret2 ?_
    refine ⟨?_, rfl⟩
    first
     | (rw [show sameE x y = 1 from if_neg (fun h => absurd h.1 ‹_›), decide_eq_false (fun h : sameV x y => absurd h.1 ‹_›)]; done) | (rw [show sameE x y = 1 from if_neg (fun h => absurd h.2 ‹_›), decide_eq_false (fun h : sameV x y => absurd h.2.1 ‹_›)]; done)
     | (rw [show sameE x y = 0 from if_pos ⟨‹_›, ‹_›⟩]; congr 4; first | (rw [decide_eq_decide]; exact ⟨fun h => ⟨‹_›, ‹_›, by omega, by omega, h⟩, fun h => h.2.2.2.2⟩) | exact (decide_eq_false (fun h : sameV x y => by have h1 := h.2.2.1; have h2 := h.2.2.2.1; omega)).symm)
  · first
  | (first | omega | contradiction)
  | refine S.o (q.lvA [_, _, _, _, _] am_ag43 am_cl43) (S.c0 (hF := valid_fun _ (by assumption)) (h := S.o q.not (S.o q.pf (S.end (hK _ ?_)))))
    clear hK K
    refine Ev.cn (fun c2 => ?_) (fun c2 => ?_)
    · first
    | (first | omega | contradiction)
    | refine Ev.sr fun K hK => S.o q.as (S.o q.as (S.end (hK _ ?_)))
      clear hK K
      refine Ev.ret ?_
      refine Ev.ret2 ?_
      refine ⟨?_, rfl⟩
      first
       | (rw [show sameE x y = 1 from if_neg (fun h => absurd h.1 ‹_›), decide_eq_false (fun h : sameV x y => absurd h.1 ‹_›)]; done) | (rw [show sameE x y = 1 from if_neg (fun h => absurd h.2 ‹_›), decide_eq_false (fun h : sameV x y => absurd h.2.1 ‹_›)]; done)
       | (rw [show sameE x y = 0 from if_pos ⟨‹_›, ‹_›⟩]; congr 4; first | (rw [decide_eq_decide]; exact ⟨fun h => ⟨‹_›, ‹_›, by omega, by omega, h⟩, fun h => h.2.2.2.2⟩) | exact (decide_eq_false (fun h : sameV x y => by have h1 := h.2.2.1; have h2 := h.2.2.2.1; omega)).symm)
    · first
    | (first | omega | contradiction)
    | refine Ev.skip ?_
      show Ev _ _ _ _
      refine Ev.sr fun K hK => S.o (q.fa 1 am_fi43_1 am_cl3) (S.o (q.lv am_ag3) (S.o (q.fa 1 am_fi43_1 am_cl3) (S.o (q.lv am_ag3) (S.o q.eql (S.bd q.mv (fun c3 => ?_) (fun c3 => ?_))))))
      · first
      | (first | omega | contradiction)
      | refine S.o (q.fa 3 am_fi43_3 am_cl3) (S.o (q.lv am_ag3) (S.o (q.fa 3 am_fi43_3 am_cl3) (S.o (q.lv am_ag3) (S.o q.eql (S.o q.pt (S.bd q.mv (fun c4 => ?_) (fun c4 => ?_)))))))
        · first
        | (first | omega | contradiction)
        | refine S.o (q.fa 4 am_fi43_4 am_cl41) (S.o (q.lv am_ag41) (S.o (q.fa 4 am_fi43_4 am_cl41) (S.o (q.lv am_ag41) (S.c0 (hF := eqInts_fun _ _ (by omega) (by omega)) (h := S.o q.pt (S.o q.as (S.o q.as (S.end (hK _ ?_)))))))))
          clear hK K
          refine Ev.ret ?_
          refine Ev.ret2 ?_
          refine ⟨?_, rfl⟩
          first
           | (rw [show sameE x y = 1 from if_neg (fun h => absurd h.1 ‹_›), decide_eq_false (fun h : sameV x y => absurd h.1 ‹_›)]; done) | (rw [show sameE x y = 1 from if_neg (fun h => absurd h.2 ‹_›), decide_eq_false (fun h : sameV x y => absurd h.2.1 ‹_›)]; done)
           | (rw [show sameE x y = 0 from if_pos ⟨‹_›, ‹_›⟩]; congr 4; first | (rw [decide_eq_decide]; exact ⟨fun h => ⟨‹_›, ‹_›, by omega, by omega, h⟩, fun h => h.2.2.2.2⟩) | exact (decide_eq_false (fun h : sameV x y => by have h1 := h.2.2.1; have h2 := h.2.2.2.1; omega)).symm)
        · first
        | (first | omega | contradiction)
        | refine S.sk (S.sk (S.sk (S.sk (S.sk (S.o q.pf (S.o q.as (S.o q.as (S.end (hK _ ?_)))))))))
          clear hK K
          refine Ev.ret ?_
          refine Ev.ret2 ?_
          refine ⟨?_, rfl⟩
          first
           | (rw [show sameE x y = 1 from if_neg (fun h => absurd h.1 ‹_›), decide_eq_false (fun h : sameV x y => absurd h.1 ‹_›)]; done) | (rw [show sameE x y = 1 from if_neg (fun h => absurd h.2 ‹_›), decide_eq_false (fun h : sameV x y => absurd h.2.1 ‹_›)]; done)
           | (rw [show sameE x y = 0 from if_pos ⟨‹_›, ‹_›⟩]; congr 4; first | (rw [decide_eq_decide]; exact ⟨fun h => ⟨‹_›, ‹_›, by omega, by omega, h⟩, fun h => h.2.2.2.2⟩) | exact (decide_eq_false (fun h : sameV x y => by have h1 := h.2.2.1; have h2 := h.2.2.2.1; omega)).symm)
      · first
      | (first | omega | contradiction)
      | refine S.sk (S.sk (S.sk (S.sk (S.sk (S.o q.pf (S.o q.mv (S.sk (S.sk (S.sk (S.sk (S.sk (S.o q.pf (S.o q.as (S.o q.as (S.end (hK _ ?_))))))))))))))))
        clear hK K
        refine Ev.ret ?_
        refine Ev.ret2 ?_
        refine ⟨?_, rfl⟩
        first
         | (rw [show sameE x y = 1 from if_neg (fun h => absurd h.1 ‹_›), decide_eq_false (fun h : sameV x y => absurd h.1 ‹_›)]; done) | (rw [show sameE x y = 1 from if_neg (fun h => absurd h.2 ‹_›), decide_eq_false (fun h : sameV x y => absurd h.2.1 ‹_›)]; done)
         | (rw [show sameE x y = 0 from if_pos ⟨‹_›, ‹_›⟩]; congr 4; first | (rw [decide_eq_decide]; exact ⟨fun h => ⟨‹_›, ‹_›, by omega, by omega, h⟩, fun h => h.2.2.2.2⟩) | exact (decide_eq_false (fun h : sameV x y => by have h1 := h.2.2.1; have h2 := h.2.2.2.1; omega)).symm)

def kindOf (b : List Bar) (x : Bar) : Int := match barAt b x.mark with
  | none => 4
  | some y => if sameD x y ∧ x.count = y.count then 1 else 2
theorem kind_4 {b : List Bar} {s : Bar} (h : markI b s.mark < 0) : kindOf b s = 4 := by rw [kindOf, barAt_none h]
theorem kind_1 {b : List Bar} {s y : Bar} (hy : barAt b s.mark = some y) (h1 : sameV s y) (h2 : s.count = y.count) : kindOf b s = 1 := by rw [kindOf, hy]; exact if_pos ⟨h1.2.2, h2⟩
theorem kind_2 {b : List Bar} {s y : Bar} (hy : barAt b s.mark = some y) (hs : okBar s) (hok : okBar y) (h1 : ¬ sameV s y) : kindOf b s = 2 := by rw [kindOf, hy]; exact if_neg fun h => h1 ⟨hs, hok, h.1⟩
theorem kind_2c {b : List Bar} {s y : Bar} (hy : barAt b s.mark = some y) (h1 : ¬ s.count = y.count) : kindOf b s = 2 := by rw [kindOf, hy]; exact if_neg fun h => h1 h.2
def cK (b : List Bar) (x : Bar) : Chg := (kindOf b x, x.mark)
def newP (a : List Bar) (x : Bar) : Bool := decide (markI a x.mark < 0)
def addK (x : Bar) : Chg := (3, x.mark)
def cmpP (a b : List Bar) : List Chg := a.map (cK b) ++ (b.filter (newP a)).map addK
theorem cmp_snoc {b pre : List Bar} {s : Bar} {k : Int} (h : kindOf b s = k) : (pre.map (cK b) ++ [(k, s.mark)]).map findC = ((pre ++ [s]).map (cK b)).map findC := by
  subst h
  simp [cK]
theorem add_snoc {a pre : List Bar} {s : Bar} {l : List Chg} (h : markI a s.mark < 0) : ((l ++ (pre.filter (newP a)).map addK) ++ [(3, s.mark)]).map findC = (l ++ ((pre ++ [s]).filter (newP a)).map addK).map findC := by
  rw [List.filter_append, show [s].filter (newP a) = [s] by simp [newP, h]]
  simp [addK]
theorem add_skip {a pre : List Bar} {s : Bar} {l : List Chg} (h : ¬ markI a s.mark < 0) : (l ++ (pre.filter (newP a)).map addK).map findC = (l ++ ((pre ++ [s]).filter (newP a)).map addK).map findC := by
  rw [List.filter_append, show [s].filter (newP a) = [] by simp [newP, h], List.append_nil]
theorem add_skip_n {a pre : List Bar} {s : Bar} (h : ¬ markI a s.mark < 0) : (pre ++ [s]).filter (newP a) = pre.filter (newP a) := by
  rw [List.filter_append, show [s].filter (newP a) = [] by simp [newP, h], List.append_nil]
theorem add_snoc_n {a pre : List Bar} {s : Bar} (h : markI a s.mark < 0) : (pre ++ [s]).filter (newP a) = pre.filter (newP a) ++ [s] := by
  rw [List.filter_append, show [s].filter (newP a) = [s] by simp [newP, h]]
theorem filter_le {T : Type} (p : T → Bool) (l : List T) : (l.filter p).length ≤ l.length := List.length_filter_le p l
theorem compare_fun (a b : List Bar) (ha : okSched a) (hb : okSched b) : Fun Try.prog 36 [.sh 5 (a.map Bar.c), .sh 5 (b.map Bar.c)] (Ret (.sh 2 ((cmpP a b).map findC)) []) := by
  have hal := ha.1
  have hbl := hb.1
  refine Fun.of (nt := 77) (rs := [.tmp 4]) Try.func36 rfl rfl rfl rfl rfl ?_
  refine Ev.sr fun K hK => S.o q.as (S.end (hK _ ?_))
  clear hK K
  refine Ev.sr fun K hK => S.o q.as (S.end (hK _ ?_))
  clear hK K
  refine Ev.seq ?_
  refine Ev.sr fun K hK => S.o q.mv (S.o (q.lens am_el22) (S.o q.mv (S.end (hK _ ?_))))
  clear hK K
  refine Ev.block ?_
  refine Ev.weaken (Wk.nown findC 5 36 2) ?_
  refine Ev.loopU (ι := {p : List (Bar) × List (Bar) // p.1 ++ p.2 = a ∧ True}) [0] [0, 1, 4, 14, 15] (fun ⟨(pre, suf), _⟩ => [(16, .lit (.int .i64 ((pre.length : Int)))), (5, .als 0 0 (pre.map (cK b)).length)]) (fun ⟨(pre, suf), _⟩ => [(0, ⟨true, 36, 2, (pre.map (cK b)).map findC, true⟩)]) (fun ⟨(pre, suf), _⟩ => suf.length) ⟨([], a), rfl, trivial⟩ (.c (.c (.c (.c (.c .n))))) (keep_c (he := (by first | rfl | exact cmp_snoc (kind_4 (by omega)) | exact cmp_snoc (kind_1 hy ‹_› (by omega)) | exact cmp_snoc (kind_2 hy hsok hyok ‹_›) | exact cmp_snoc (kind_2c hy (by omega)))) (h := keep_n)) (slots_c (he := (by first | rfl | (congr 2; simp; done))) (h := (slots_c (he := (by first | rfl | (congr 1; simp; done))) (h := trivial)))) ?_
  rintro ⟨⟨pre, suf⟩, hp, hinv⟩ R0 hR0
  dsimp only [List.cons_append, List.nil_append, List.length_cons, List.length_nil]
  simp only at hp hinv
  have hpl : pre.length + suf.length = (a).length := by rw [← hp, List.length_append]
  rcases suf with _ | ⟨s, suf⟩
  · rw [List.append_nil] at hp; subst pre; simp only [List.length_nil] at hpl
    refine Ev.sr fun K hK => S.o q.lss (S.end (hK _ ?_))
    clear hK K
    refine Ev.ud (fun c1 => ?_) (fun c1 => ?_)
    · first
    | (first | omega | contradiction)
    | refine Ev.seq ?_
      refine Ev.block ?_
      refine Ev.sr fun K hK => S.o (q.ix am_el22 am_cl43 (hl := (by first | exact ati hyi (by omega) | exact atig (by omega)))) (S.o (q.lsA [_, _, _, _, _] am_ag43 am_cl43) (S.nn (q.al am_ze43) (S.sv [_, _, _, _, _] true [_] am_in43 am_cl43 (h := S.end (hK _ ?_)))))
      clear hK K
      refine Ev.sr fun K hK => S.o q.as (S.end (hK _ ?_))
      clear hK K
      refine Ev.seq ?_
      refine Ev.sr fun K hK => S.o q.mv (S.o (q.fa 0 am_fi43_0 am_cl9) (S.o (q.lv am_ag9) (S.c0 (hF := find_fun _ _ (by omega)) (h := S.o q.as (S.end (hK _ ?_))))))
      clear hK K
      refine Ev.sr fun K hK => S.o q.mv (S.o q.geq (S.end (hK _ ?_)))
      clear hK K
      refine Ev.cd (fun c2 => ?_) (fun c2 => ?_)
      · first
      | (first | omega | contradiction)
      | obtain ⟨y, hy, hyi, hym, hyk⟩ := barAt_some ‹0 ≤ markI b s.mark›
        have hyok : okBar y := hb.2.1 y hym
        have hyw : y.w := okBar_w hyok
        have hE : sameE s y = 0 := if_pos ⟨hsok, hyok⟩
        refine Ev.sr fun K hK => S.o q.as (S.end (hK _ ?_))
        clear hK K
        refine Ev.sm (tbs [(0, 0), (0, 0), (0, 0), (3, 6), (4, 14), (5, 31), (6, 63), (7, 127), (7, 127), (8, 255), (10, 1023)]) 10 fun K hK => M.o (q.lvA [_, _, _, _, _] am_ag43 am_cl43) (M.o q.mv (M.o q.mv (M.o (q.ix am_el22 am_cl43 (hl := (by first | exact ati hyi (by omega) | exact atig (by omega)))) (M.o (q.lsA [_, _, _, _, _] am_ag43 am_cl43) (M.c0 (hF := same_fun _ _ (by assumption) (by assumption)) (h := M.o q.mv (M.o q.ex (M.o q.ex (M.o q.as (M.end [_, _] (h := S.o q.as (S.end (hK _ ?_)))))))))))))
        clear hK K
        refine Ev.sm (tbs [(0, 0), (1, 1), (2, 3), (3, 7), (4, 15), (5, 31), (6, 63), (7, 127), (6, 63), (6, 63), (10, 831), (11, 1855), (12, 3903), (13, 8191), (14, 16383)]) 15 fun K hK => M.o q.mv (M.o q.eql (M.bd q.mv (fun c3 => ?_) (fun c3 => ?_)))
        · first
        | (first | omega | contradiction)
        | refine M.o q.mv (M.o q.pt (M.bd q.mv (fun c4 => ?_) (fun c4 => ?_)))
          · first
          | (first | omega | contradiction)
          | refine M.o (q.fa 2 am_fi43_2 am_cl3) (M.o (q.lv am_ag3) (M.o q.mv (M.o q.mv (M.o (q.ix am_el22 am_cl43 (hl := (by first | exact ati hyi (by omega) | exact atig (by omega)))) (M.o (q.fs 2 am_fi43_2 am_cl3) (M.o (q.ls am_ag3) (M.o q.eql (M.o q.pt (M.end [_, _] (h := S.end (hK _ ?_)))))))))))
            clear hK K
            refine Ev.cd (fun c5 => ?_) (fun c5 => ?_)
            · first
            | (first | omega | contradiction)
            | refine Ev.region_S fun K hK => S.o q.as (S.end (hK _ ?_))
              clear hK K
              show Ev _ _ _ _
              refine Ev.region_S fun K hK => S.o q.mv (S.o q.mv (S.o (q.fa 0 am_fi43_0 am_cl9) (S.o (q.lv am_ag9) (S.o (q.bd [_, _] am_ze36 am_pl36) (S.nn (q.bs [[_, _]] true am_el25 am_ze36 am_cl36) (S.ap' [_, _] am_el25 am_ze36 am_cl36 am_by36 (hh := head_own') (hr := (rows_lit [(⟨_, _⟩ : Int × List UInt8)])) (h := S.o q.as (S.end (hK _ ?_)))))))))
              clear hK K
              show Ev _ _ _ _
              refine Ev.region_S fun K hK => S.o q.add (S.o q.mv (S.end (hK _ ?_)))
              clear hK K
              refine hR0 _ _ ?_
              refine roundU [103] [0, 1, 4, 14, 15] ⟨(pre ++ [s], suf), by rw [← hp]; simp, ?_⟩ ?_ (keep_c (he := (by first | rfl | exact cmp_snoc (kind_4 (by omega)) | exact cmp_snoc (kind_1 hy ‹_› (by omega)) | exact cmp_snoc (kind_2 hy hsok hyok ‹_›) | exact cmp_snoc (kind_2c hy (by omega)))) (h := keep_n)) (slots_c (he := (by first | rfl | (congr 2; simp; done))) (h := (slots_c (he := (by first | rfl | (congr 1; simp; done))) (h := trivial)))) (.c (.c (.c (.c (.c .n)))))
              trivial
              all_goals (dsimp only; simp only [List.length_cons]; omega)
            · first
            | (first | omega | contradiction)
            | refine Ev.skip ?_
              show Ev _ _ _ _
              refine Ev.region_S fun K hK => S.o q.mv (S.o q.mv (S.o (q.fa 0 am_fi43_0 am_cl9) (S.o (q.lv am_ag9) (S.o (q.bd [_, _] am_ze36 am_pl36) (S.nn (q.bs [[_, _]] true am_el25 am_ze36 am_cl36) (S.ap' [_, _] am_el25 am_ze36 am_cl36 am_by36 (hh := head_own') (hr := (rows_lit [(⟨_, _⟩ : Int × List UInt8)])) (h := S.o q.as (S.end (hK _ ?_)))))))))
              clear hK K
              show Ev _ _ _ _
              refine Ev.region_S fun K hK => S.o q.add (S.o q.mv (S.end (hK _ ?_)))
              clear hK K
              refine hR0 _ _ ?_
              refine roundU [103] [0, 1, 4, 14, 15] ⟨(pre ++ [s], suf), by rw [← hp]; simp, ?_⟩ ?_ (keep_c (he := (by first | rfl | exact cmp_snoc (kind_4 (by omega)) | exact cmp_snoc (kind_1 hy ‹_› (by omega)) | exact cmp_snoc (kind_2 hy hsok hyok ‹_›) | exact cmp_snoc (kind_2c hy (by omega)))) (h := keep_n)) (slots_c (he := (by first | rfl | (congr 2; simp; done))) (h := (slots_c (he := (by first | rfl | (congr 1; simp; done))) (h := trivial)))) (.c (.c (.c (.c (.c .n)))))
              trivial
              all_goals (dsimp only; simp only [List.length_cons]; omega)
          · first
          | (first | omega | contradiction)
          | refine M.sk (M.sk (M.sk (M.sk (M.sk (M.sk (M.sk (M.sk (M.o q.pf (M.end [_, _] (h := S.end (hK _ ?_)))))))))))
            clear hK K
            refine Ev.cf ?_
            refine Ev.skip ?_
            show Ev _ _ _ _
            refine Ev.region_S fun K hK => S.o q.mv (S.o q.mv (S.o (q.fa 0 am_fi43_0 am_cl9) (S.o (q.lv am_ag9) (S.o (q.bd [_, _] am_ze36 am_pl36) (S.nn (q.bs [[_, _]] true am_el25 am_ze36 am_cl36) (S.ap' [_, _] am_el25 am_ze36 am_cl36 am_by36 (hh := head_own') (hr := (rows_lit [(⟨_, _⟩ : Int × List UInt8)])) (h := S.o q.as (S.end (hK _ ?_)))))))))
            clear hK K
            show Ev _ _ _ _
            refine Ev.region_S fun K hK => S.o q.add (S.o q.mv (S.end (hK _ ?_)))
            clear hK K
            refine hR0 _ _ ?_
            refine roundU [103] [0, 1, 4, 14, 15] ⟨(pre ++ [s], suf), by rw [← hp]; simp, ?_⟩ ?_ (keep_c (he := (by first | rfl | exact cmp_snoc (kind_4 (by omega)) | exact cmp_snoc (kind_1 hy ‹_› (by omega)) | exact cmp_snoc (kind_2 hy hsok hyok ‹_›) | exact cmp_snoc (kind_2c hy (by omega)))) (h := keep_n)) (slots_c (he := (by first | rfl | (congr 2; simp; done))) (h := (slots_c (he := (by first | rfl | (congr 1; simp; done))) (h := trivial)))) (.c (.c (.c (.c (.c .n)))))
            trivial
            all_goals (dsimp only; simp only [List.length_cons]; omega)
        · first
        | (first | omega | contradiction)
        | refine M.sk (M.o q.pf (M.o q.mv (M.sk (M.sk (M.sk (M.sk (M.sk (M.sk (M.sk (M.sk (M.o q.pf (M.end [_, _] (h := S.end (hK _ ?_))))))))))))))
          clear hK K
          refine Ev.cf ?_
          refine Ev.skip ?_
          show Ev _ _ _ _
          refine Ev.region_S fun K hK => S.o q.mv (S.o q.mv (S.o (q.fa 0 am_fi43_0 am_cl9) (S.o (q.lv am_ag9) (S.o (q.bd [_, _] am_ze36 am_pl36) (S.nn (q.bs [[_, _]] true am_el25 am_ze36 am_cl36) (S.ap' [_, _] am_el25 am_ze36 am_cl36 am_by36 (hh := head_own') (hr := (rows_lit [(⟨_, _⟩ : Int × List UInt8)])) (h := S.o q.as (S.end (hK _ ?_)))))))))
          clear hK K
          show Ev _ _ _ _
          refine Ev.region_S fun K hK => S.o q.add (S.o q.mv (S.end (hK _ ?_)))
          clear hK K
          refine hR0 _ _ ?_
          refine roundU [103] [0, 1, 4, 14, 15] ⟨(pre ++ [s], suf), by rw [← hp]; simp, ?_⟩ ?_ (keep_c (he := (by first | rfl | exact cmp_snoc (kind_4 (by omega)) | exact cmp_snoc (kind_1 hy ‹_› (by omega)) | exact cmp_snoc (kind_2 hy hsok hyok ‹_›) | exact cmp_snoc (kind_2c hy (by omega)))) (h := keep_n)) (slots_c (he := (by first | rfl | (congr 2; simp; done))) (h := (slots_c (he := (by first | rfl | (congr 1; simp; done))) (h := trivial)))) (.c (.c (.c (.c (.c .n)))))
          trivial
          all_goals (dsimp only; simp only [List.length_cons]; omega)
      · first
      | (first | omega | contradiction)
      | refine Ev.skip ?_
        show Ev _ _ _ _
        refine Ev.region_S fun K hK => S.o q.mv (S.o q.mv (S.o (q.fa 0 am_fi43_0 am_cl9) (S.o (q.lv am_ag9) (S.o (q.bd [_, _] am_ze36 am_pl36) (S.nn (q.bs [[_, _]] true am_el25 am_ze36 am_cl36) (S.ap' [_, _] am_el25 am_ze36 am_cl36 am_by36 (hh := head_own') (hr := (rows_lit [(⟨_, _⟩ : Int × List UInt8)])) (h := S.o q.as (S.end (hK _ ?_)))))))))
        clear hK K
        show Ev _ _ _ _
        refine Ev.region_S fun K hK => S.o q.add (S.o q.mv (S.end (hK _ ?_)))
        clear hK K
        refine hR0 _ _ ?_
        refine roundU [3] [0, 1, 4, 14, 15] ⟨(pre ++ [s], suf), by rw [← hp]; simp, ?_⟩ ?_ (keep_c (he := (by first | rfl | exact cmp_snoc (kind_4 (by omega)) | exact cmp_snoc (kind_1 hy ‹_› (by omega)) | exact cmp_snoc (kind_2 hy hsok hyok ‹_›) | exact cmp_snoc (kind_2c hy (by omega)))) (h := keep_n)) (slots_c (he := (by first | rfl | (congr 2; simp; done))) (h := (slots_c (he := (by first | rfl | (congr 1; simp; done))) (h := trivial)))) (.c (.c (.c (.c (.c .n)))))
        trivial
        all_goals (dsimp only; simp only [List.length_cons]; omega)
    · first
    | (first | omega | contradiction)
    | refine Ev.exit ?_
      refine hR0 _ _ ?_
      show Ev _ _ _ _
      refine Ev.seq ?_
      refine Ev.sr fun K hK => S.o q.mv (S.o (q.lens am_el22) (S.o q.mv (S.end (hK _ ?_))))
      clear hK K
      refine Ev.block ?_
      refine Ev.loopU (ι := {q : List Bar × List Bar // q.1 ++ q.2 = b}) [0] [0, 1, 4, 14, 15, 16, 17, 58, 59] (fun ⟨(pre2, suf2), _⟩ => [(60, .lit (.int .i64 ((pre2.length : Int)))), (5, .als 0 0 (a.map (cK b) ++ (pre2.filter (newP a)).map addK).length)]) (fun ⟨(pre2, suf2), _⟩ => [(0, ⟨true, 36, 2, (a.map (cK b) ++ (pre2.filter (newP a)).map addK).map findC, true⟩)]) (fun ⟨(pre2, suf2), _⟩ => suf2.length) ⟨([], b), rfl⟩ (.c (.c (.c (.c (.c (.c (.c (.c (.c .n))))))))) (keep_c (he := (by first | rfl | (simp; done) | exact add_snoc (by omega) | exact add_skip (by omega))) (h := keep_n)) (slots_c (he := (by first | rfl | (congr 2; simp; done))) (h := (slots_c (he := (by first | rfl | (congr 1; rw [List.filter_nil]; simp; done) | (congr 1; rw [add_snoc_n (by omega)]; simp; done) | (rw [add_skip_n (by omega)]))) (h := trivial)))) ?_
      rintro ⟨⟨pre2, suf2⟩, hp2⟩ R2 hR2
      dsimp only [List.cons_append, List.nil_append, List.length_cons, List.length_nil]
      simp only at hp2
      have hpl2 : pre2.length + suf2.length = b.length := by rw [← hp2, List.length_append]
      have hfl := filter_le (newP a) pre2
      rcases suf2 with _ | ⟨s, suf2⟩
      · rw [List.append_nil] at hp2; subst hp2; simp only [List.length_nil] at hpl2
        refine Ev.sr fun K hK => S.o q.lss (S.end (hK _ ?_))
        clear hK K
        refine Ev.ud (fun c6 => ?_) (fun c6 => ?_)
        · first
        | (first | omega | contradiction)
        | refine Ev.seq ?_
          refine Ev.block ?_
          refine Ev.sr fun K hK => S.o (q.ix am_el22 am_cl43 (hl := (by first | exact ati hyi (by omega) | exact atig (by omega)))) (S.o (q.lsA [_, _, _, _, _] am_ag43 am_cl43) (S.nn (q.al am_ze43) (S.sv [_, _, _, _, _] true [_] am_in43 am_cl43 (h := S.end (hK _ ?_)))))
          clear hK K
          refine Ev.sr fun K hK => S.o q.mv (S.o (q.fa 0 am_fi43_0 am_cl9) (S.o (q.lv am_ag9) (S.c0 (hF := find_fun _ _ (by omega)) (h := S.o q.lss (S.end (hK _ ?_))))))
          clear hK K
          refine Ev.cd (fun c7 => ?_) (fun c7 => ?_)
          · first
          | (first | omega | contradiction)
          | refine Ev.region_S fun K hK => S.o q.mv (S.o (q.fa 0 am_fi43_0 am_cl9) (S.o (q.lv am_ag9) (S.o (q.bd [_, _] am_ze36 am_pl36) (S.nn (q.bs [[_, _]] true am_el25 am_ze36 am_cl36) (S.ap' [_, _] am_el25 am_ze36 am_cl36 am_by36 (hh := head_own') (hr := (rows_lit [(⟨_, _⟩ : Int × List UInt8)])) (h := S.o q.as (S.end (hK _ ?_))))))))
            clear hK K
            show Ev _ _ _ _
            refine Ev.region_S fun K hK => S.o q.add (S.o q.mv (S.end (hK _ ?_)))
            clear hK K
            refine hR2 _ _ ?_
            refine roundU [3] [0, 1, 4, 14, 15, 16, 17, 58, 59] ⟨(pre2 ++ [s], suf2), by rw [← hp2]; simp⟩ ?_ (keep_c (he := (by first | rfl | (simp; done) | exact add_snoc (by omega) | exact add_skip (by omega))) (h := keep_n)) (slots_c (he := (by first | rfl | (congr 2; simp; done))) (h := (slots_c (he := (by first | rfl | (congr 1; rw [List.filter_nil]; simp; done) | (congr 1; rw [add_snoc_n (by omega)]; simp; done) | (rw [add_skip_n (by omega)]))) (h := trivial)))) (.c (.c (.c (.c (.c (.c (.c (.c (.c .n)))))))))
            skip
            all_goals (dsimp only; simp only [List.length_cons]; omega)
          · first
          | (first | omega | contradiction)
          | refine Ev.skip ?_
            show Ev _ _ _ _
            refine Ev.region_S fun K hK => S.o q.add (S.o q.mv (S.end (hK _ ?_)))
            clear hK K
            refine hR2 _ _ ?_
            refine roundU [0] [0, 1, 4, 14, 15, 16, 17, 58, 59] ⟨(pre2 ++ [s], suf2), by rw [← hp2]; simp⟩ ?_ (keep_c (he := (by first | rfl | (simp; done) | exact add_snoc (by omega) | exact add_skip (by omega))) (h := keep_n)) (slots_c (he := (by first | rfl | (congr 2; simp; done))) (h := (slots_c (he := (by first | rfl | (congr 1; rw [List.filter_nil]; simp; done) | (congr 1; rw [add_snoc_n (by omega)]; simp; done) | (rw [add_skip_n (by omega)]))) (h := trivial)))) (.c (.c (.c (.c (.c (.c (.c (.c (.c .n)))))))))
            skip
            all_goals (dsimp only; simp only [List.length_cons]; omega)
        · first
        | (first | omega | contradiction)
        | refine Ev.exit ?_
          refine hR2 _ _ ?_
          show Ev _ _ _ _
          refine Ev.sr fun K hK => S.o q.mv (S.o q.as (S.end (hK _ ?_)))
          clear hK K
          refine Ev.weaken (Wk.frz 4 []) ?_
          refine Ev.ret ?_
          refine Ev.ret1 ?_
          refine ⟨?_, rfl⟩
          rfl
      · simp only [List.length_cons] at hpl2
        have hidx2 : b[pre2.length]? = some s := by rw [← hp2]; simp
        refine Ev.sr fun K hK => S.o q.lss (S.end (hK _ ?_))
        clear hK K
        refine Ev.ud (fun c8 => ?_) (fun c8 => ?_)
        · first
        | (first | omega | contradiction)
        | refine Ev.seq ?_
          refine Ev.block ?_
          refine Ev.sr fun K hK => S.o (q.ix am_el22 am_cl43 (hl := (by first | exact ati hyi (by omega) | exact ati hidx2 (by omega) | exact atig (by omega)))) (S.o (q.lsA [_, _, _, _, _] am_ag43 am_cl43) (S.nn (q.al am_ze43) (S.sv [_, _, _, _, _] true [_] am_in43 am_cl43 (h := S.end (hK _ ?_)))))
          clear hK K
          refine Ev.sr fun K hK => S.o q.mv (S.o (q.fa 0 am_fi43_0 am_cl9) (S.o (q.lv am_ag9) (S.c0 (hF := find_fun _ _ (by omega)) (h := S.o q.lss (S.end (hK _ ?_))))))
          clear hK K
          refine Ev.cd (fun c9 => ?_) (fun c9 => ?_)
          · first
          | (first | omega | contradiction)
          | refine Ev.region_S fun K hK => S.o q.mv (S.o (q.fa 0 am_fi43_0 am_cl9) (S.o (q.lv am_ag9) (S.o (q.bd [_, _] am_ze36 am_pl36) (S.nn (q.bs [[_, _]] true am_el25 am_ze36 am_cl36) (S.ap' [_, _] am_el25 am_ze36 am_cl36 am_by36 (hh := head_own') (hr := (rows_lit [(⟨_, _⟩ : Int × List UInt8)])) (h := S.o q.as (S.end (hK _ ?_))))))))
            clear hK K
            show Ev _ _ _ _
            refine Ev.region_S fun K hK => S.o q.add (S.o q.mv (S.end (hK _ ?_)))
            clear hK K
            refine hR2 _ _ ?_
            refine roundU [3] [0, 1, 4, 14, 15, 16, 17, 58, 59] ⟨(pre2 ++ [s], suf2), by rw [← hp2]; simp⟩ ?_ (keep_c (he := (by first | rfl | (simp; done) | exact add_snoc (by omega) | exact add_skip (by omega))) (h := keep_n)) (slots_c (he := (by first | rfl | (congr 2; simp; done))) (h := (slots_c (he := (by first | rfl | (congr 1; rw [List.filter_nil]; simp; done) | (congr 1; rw [add_snoc_n (by omega)]; simp; done) | (rw [add_skip_n (by omega)]))) (h := trivial)))) (.c (.c (.c (.c (.c (.c (.c (.c (.c .n)))))))))
            skip
            all_goals (dsimp only; simp only [List.length_cons]; omega)
          · first
          | (first | omega | contradiction)
          | refine Ev.skip ?_
            show Ev _ _ _ _
            refine Ev.region_S fun K hK => S.o q.add (S.o q.mv (S.end (hK _ ?_)))
            clear hK K
            refine hR2 _ _ ?_
            refine roundU [0] [0, 1, 4, 14, 15, 16, 17, 58, 59] ⟨(pre2 ++ [s], suf2), by rw [← hp2]; simp⟩ ?_ (keep_c (he := (by first | rfl | (simp; done) | exact add_snoc (by omega) | exact add_skip (by omega))) (h := keep_n)) (slots_c (he := (by first | rfl | (congr 2; simp; done))) (h := (slots_c (he := (by first | rfl | (congr 1; rw [List.filter_nil]; simp; done) | (congr 1; rw [add_snoc_n (by omega)]; simp; done) | (rw [add_skip_n (by omega)]))) (h := trivial)))) (.c (.c (.c (.c (.c (.c (.c (.c (.c .n)))))))))
            skip
            all_goals (dsimp only; simp only [List.length_cons]; omega)
        · first
        | (first | omega | contradiction)
        | refine Ev.exit ?_
          refine hR2 _ _ ?_
          show Ev _ _ _ _
          refine Ev.sr fun K hK => S.o q.mv (S.o q.as (S.end (hK _ ?_)))
          clear hK K
          refine Ev.weaken (Wk.frz 4 []) ?_
          refine Ev.ret ?_
          refine Ev.ret1 ?_
          refine ⟨?_, rfl⟩
          rfl
  · simp only [List.length_cons] at hpl
    have hidx : (a)[pre.length]? = some s := by rw [← hp]; simp
    have hsok : okBar s := ha.2.1 s (by rw [← hp]; simp)
    have hsw : s.w := okBar_w hsok
    refine Ev.sr fun K hK => S.o q.lss (S.end (hK _ ?_))
    clear hK K
    refine Ev.ud (fun c10 => ?_) (fun c10 => ?_)
    · first
    | (first | omega | contradiction)
    | refine Ev.seq ?_
      refine Ev.block ?_
      refine Ev.sr fun K hK => S.o (q.ix am_el22 am_cl43 (hl := (by first | exact ati hyi (by omega) | exact ati hidx (by omega) | exact atig (by omega)))) (S.o (q.lsA [_, _, _, _, _] am_ag43 am_cl43) (S.nn (q.al am_ze43) (S.sv [_, _, _, _, _] true [_] am_in43 am_cl43 (h := S.end (hK _ ?_)))))
      clear hK K
      refine Ev.sr fun K hK => S.o q.as (S.end (hK _ ?_))
      clear hK K
      refine Ev.seq ?_
      refine Ev.sr fun K hK => S.o q.mv (S.o (q.fa 0 am_fi43_0 am_cl9) (S.o (q.lv am_ag9) (S.c0 (hF := find_fun _ _ (by omega)) (h := S.o q.as (S.end (hK _ ?_))))))
      clear hK K
      refine Ev.sr fun K hK => S.o q.mv (S.o q.geq (S.end (hK _ ?_)))
      clear hK K
      refine Ev.cd (fun c11 => ?_) (fun c11 => ?_)
      · first
      | (first | omega | contradiction)
      | obtain ⟨y, hy, hyi, hym, hyk⟩ := barAt_some ‹0 ≤ markI b s.mark›
        have hyok : okBar y := hb.2.1 y hym
        have hyw : y.w := okBar_w hyok
        have hE : sameE s y = 0 := if_pos ⟨hsok, hyok⟩
        refine Ev.sr fun K hK => S.o q.as (S.end (hK _ ?_))
        clear hK K
        refine Ev.sm (tbs [(0, 0), (0, 0), (0, 0), (3, 6), (4, 14), (5, 31), (6, 63), (7, 127), (7, 127), (8, 255), (10, 1023)]) 10 fun K hK => M.o (q.lvA [_, _, _, _, _] am_ag43 am_cl43) (M.o q.mv (M.o q.mv (M.o (q.ix am_el22 am_cl43 (hl := (by first | exact ati hyi (by omega) | exact ati hidx (by omega) | exact atig (by omega)))) (M.o (q.lsA [_, _, _, _, _] am_ag43 am_cl43) (M.c0 (hF := same_fun _ _ (by assumption) (by assumption)) (h := M.o q.mv (M.o q.ex (M.o q.ex (M.o q.as (M.end [_, _] (h := S.o q.as (S.end (hK _ ?_)))))))))))))
        clear hK K
        refine Ev.sm (tbs [(0, 0), (1, 1), (2, 3), (3, 7), (4, 15), (5, 31), (6, 63), (7, 127), (6, 63), (6, 63), (10, 831), (11, 1855), (12, 3903), (13, 8191), (14, 16383)]) 15 fun K hK => M.o q.mv (M.o q.eql (M.bd q.mv (fun c12 => ?_) (fun c12 => ?_)))
        · first
        | (first | omega | contradiction)
        | refine M.o q.mv (M.o q.pt (M.bd q.mv (fun c13 => ?_) (fun c13 => ?_)))
          · first
          | (first | omega | contradiction)
          | refine M.o (q.fa 2 am_fi43_2 am_cl3) (M.o (q.lv am_ag3) (M.o q.mv (M.o q.mv (M.o (q.ix am_el22 am_cl43 (hl := (by first | exact ati hyi (by omega) | exact ati hidx (by omega) | exact atig (by omega)))) (M.o (q.fs 2 am_fi43_2 am_cl3) (M.o (q.ls am_ag3) (M.o q.eql (M.o q.pt (M.end [_, _] (h := S.end (hK _ ?_)))))))))))
            clear hK K
            refine Ev.cd (fun c14 => ?_) (fun c14 => ?_)
            · first
            | (first | omega | contradiction)
            | refine Ev.region_S fun K hK => S.o q.as (S.end (hK _ ?_))
              clear hK K
              show Ev _ _ _ _
              refine Ev.region_S fun K hK => S.o q.mv (S.o q.mv (S.o (q.fa 0 am_fi43_0 am_cl9) (S.o (q.lv am_ag9) (S.o (q.bd [_, _] am_ze36 am_pl36) (S.nn (q.bs [[_, _]] true am_el25 am_ze36 am_cl36) (S.ap' [_, _] am_el25 am_ze36 am_cl36 am_by36 (hh := head_own') (hr := (rows_lit [(⟨_, _⟩ : Int × List UInt8)])) (h := S.o q.as (S.end (hK _ ?_)))))))))
              clear hK K
              show Ev _ _ _ _
              refine Ev.region_S fun K hK => S.o q.add (S.o q.mv (S.end (hK _ ?_)))
              clear hK K
              refine hR0 _ _ ?_
              refine roundU [103] [0, 1, 4, 14, 15] ⟨(pre ++ [s], suf), by rw [← hp]; simp, ?_⟩ ?_ (keep_c (he := (by first | rfl | exact cmp_snoc (kind_4 (by omega)) | exact cmp_snoc (kind_1 hy ‹_› (by omega)) | exact cmp_snoc (kind_2 hy hsok hyok ‹_›) | exact cmp_snoc (kind_2c hy (by omega)))) (h := keep_n)) (slots_c (he := (by first | rfl | (congr 2; simp; done))) (h := (slots_c (he := (by first | rfl | (congr 1; simp; done))) (h := trivial)))) (.c (.c (.c (.c (.c .n)))))
              trivial
              all_goals (dsimp only; simp only [List.length_cons]; omega)
            · first
            | (first | omega | contradiction)
            | refine Ev.skip ?_
              show Ev _ _ _ _
              refine Ev.region_S fun K hK => S.o q.mv (S.o q.mv (S.o (q.fa 0 am_fi43_0 am_cl9) (S.o (q.lv am_ag9) (S.o (q.bd [_, _] am_ze36 am_pl36) (S.nn (q.bs [[_, _]] true am_el25 am_ze36 am_cl36) (S.ap' [_, _] am_el25 am_ze36 am_cl36 am_by36 (hh := head_own') (hr := (rows_lit [(⟨_, _⟩ : Int × List UInt8)])) (h := S.o q.as (S.end (hK _ ?_)))))))))
              clear hK K
              show Ev _ _ _ _
              refine Ev.region_S fun K hK => S.o q.add (S.o q.mv (S.end (hK _ ?_)))
              clear hK K
              refine hR0 _ _ ?_
              refine roundU [103] [0, 1, 4, 14, 15] ⟨(pre ++ [s], suf), by rw [← hp]; simp, ?_⟩ ?_ (keep_c (he := (by first | rfl | exact cmp_snoc (kind_4 (by omega)) | exact cmp_snoc (kind_1 hy ‹_› (by omega)) | exact cmp_snoc (kind_2 hy hsok hyok ‹_›) | exact cmp_snoc (kind_2c hy (by omega)))) (h := keep_n)) (slots_c (he := (by first | rfl | (congr 2; simp; done))) (h := (slots_c (he := (by first | rfl | (congr 1; simp; done))) (h := trivial)))) (.c (.c (.c (.c (.c .n)))))
              trivial
              all_goals (dsimp only; simp only [List.length_cons]; omega)
          · first
          | (first | omega | contradiction)
          | refine M.sk (M.sk (M.sk (M.sk (M.sk (M.sk (M.sk (M.sk (M.o q.pf (M.end [_, _] (h := S.end (hK _ ?_)))))))))))
            clear hK K
            refine Ev.cf ?_
            refine Ev.skip ?_
            show Ev _ _ _ _
            refine Ev.region_S fun K hK => S.o q.mv (S.o q.mv (S.o (q.fa 0 am_fi43_0 am_cl9) (S.o (q.lv am_ag9) (S.o (q.bd [_, _] am_ze36 am_pl36) (S.nn (q.bs [[_, _]] true am_el25 am_ze36 am_cl36) (S.ap' [_, _] am_el25 am_ze36 am_cl36 am_by36 (hh := head_own') (hr := (rows_lit [(⟨_, _⟩ : Int × List UInt8)])) (h := S.o q.as (S.end (hK _ ?_)))))))))
            clear hK K
            show Ev _ _ _ _
            refine Ev.region_S fun K hK => S.o q.add (S.o q.mv (S.end (hK _ ?_)))
            clear hK K
            refine hR0 _ _ ?_
            refine roundU [103] [0, 1, 4, 14, 15] ⟨(pre ++ [s], suf), by rw [← hp]; simp, ?_⟩ ?_ (keep_c (he := (by first | rfl | exact cmp_snoc (kind_4 (by omega)) | exact cmp_snoc (kind_1 hy ‹_› (by omega)) | exact cmp_snoc (kind_2 hy hsok hyok ‹_›) | exact cmp_snoc (kind_2c hy (by omega)))) (h := keep_n)) (slots_c (he := (by first | rfl | (congr 2; simp; done))) (h := (slots_c (he := (by first | rfl | (congr 1; simp; done))) (h := trivial)))) (.c (.c (.c (.c (.c .n)))))
            trivial
            all_goals (dsimp only; simp only [List.length_cons]; omega)
        · first
        | (first | omega | contradiction)
        | refine M.sk (M.o q.pf (M.o q.mv (M.sk (M.sk (M.sk (M.sk (M.sk (M.sk (M.sk (M.sk (M.o q.pf (M.end [_, _] (h := S.end (hK _ ?_))))))))))))))
          clear hK K
          refine Ev.cf ?_
          refine Ev.skip ?_
          show Ev _ _ _ _
          refine Ev.region_S fun K hK => S.o q.mv (S.o q.mv (S.o (q.fa 0 am_fi43_0 am_cl9) (S.o (q.lv am_ag9) (S.o (q.bd [_, _] am_ze36 am_pl36) (S.nn (q.bs [[_, _]] true am_el25 am_ze36 am_cl36) (S.ap' [_, _] am_el25 am_ze36 am_cl36 am_by36 (hh := head_own') (hr := (rows_lit [(⟨_, _⟩ : Int × List UInt8)])) (h := S.o q.as (S.end (hK _ ?_)))))))))
          clear hK K
          show Ev _ _ _ _
          refine Ev.region_S fun K hK => S.o q.add (S.o q.mv (S.end (hK _ ?_)))
          clear hK K
          refine hR0 _ _ ?_
          refine roundU [103] [0, 1, 4, 14, 15] ⟨(pre ++ [s], suf), by rw [← hp]; simp, ?_⟩ ?_ (keep_c (he := (by first | rfl | exact cmp_snoc (kind_4 (by omega)) | exact cmp_snoc (kind_1 hy ‹_› (by omega)) | exact cmp_snoc (kind_2 hy hsok hyok ‹_›) | exact cmp_snoc (kind_2c hy (by omega)))) (h := keep_n)) (slots_c (he := (by first | rfl | (congr 2; simp; done))) (h := (slots_c (he := (by first | rfl | (congr 1; simp; done))) (h := trivial)))) (.c (.c (.c (.c (.c .n)))))
          trivial
          all_goals (dsimp only; simp only [List.length_cons]; omega)
      · first
      | (first | omega | contradiction)
      | refine Ev.skip ?_
        show Ev _ _ _ _
        refine Ev.region_S fun K hK => S.o q.mv (S.o q.mv (S.o (q.fa 0 am_fi43_0 am_cl9) (S.o (q.lv am_ag9) (S.o (q.bd [_, _] am_ze36 am_pl36) (S.nn (q.bs [[_, _]] true am_el25 am_ze36 am_cl36) (S.ap' [_, _] am_el25 am_ze36 am_cl36 am_by36 (hh := head_own') (hr := (rows_lit [(⟨_, _⟩ : Int × List UInt8)])) (h := S.o q.as (S.end (hK _ ?_)))))))))
        clear hK K
        show Ev _ _ _ _
        refine Ev.region_S fun K hK => S.o q.add (S.o q.mv (S.end (hK _ ?_)))
        clear hK K
        refine hR0 _ _ ?_
        refine roundU [3] [0, 1, 4, 14, 15] ⟨(pre ++ [s], suf), by rw [← hp]; simp, ?_⟩ ?_ (keep_c (he := (by first | rfl | exact cmp_snoc (kind_4 (by omega)) | exact cmp_snoc (kind_1 hy ‹_› (by omega)) | exact cmp_snoc (kind_2 hy hsok hyok ‹_›) | exact cmp_snoc (kind_2c hy (by omega)))) (h := keep_n)) (slots_c (he := (by first | rfl | (congr 2; simp; done))) (h := (slots_c (he := (by first | rfl | (congr 1; simp; done))) (h := trivial)))) (.c (.c (.c (.c (.c .n)))))
        trivial
        all_goals (dsimp only; simp only [List.length_cons]; omega)
    · first
    | (first | omega | contradiction)
    | refine Ev.exit ?_
      refine hR0 _ _ ?_
      show Ev _ _ _ _
      refine Ev.seq ?_
      refine Ev.sr fun K hK => S.o q.mv (S.o (q.lens am_el22) (S.o q.mv (S.end (hK _ ?_))))
      clear hK K
      refine Ev.block ?_
      refine Ev.loopU (ι := {q : List Bar × List Bar // q.1 ++ q.2 = b}) [0] [0, 1, 4, 14, 15, 16, 17, 58, 59] (fun ⟨(pre2, suf2), _⟩ => [(60, .lit (.int .i64 ((pre2.length : Int)))), (5, .als 0 0 (a.map (cK b) ++ (pre2.filter (newP a)).map addK).length)]) (fun ⟨(pre2, suf2), _⟩ => [(0, ⟨true, 36, 2, (a.map (cK b) ++ (pre2.filter (newP a)).map addK).map findC, true⟩)]) (fun ⟨(pre2, suf2), _⟩ => suf2.length) ⟨([], b), rfl⟩ (.c (.c (.c (.c (.c (.c (.c (.c (.c .n))))))))) (keep_c (he := (by first | rfl | (simp; done) | exact add_snoc (by omega) | exact add_skip (by omega))) (h := keep_n)) (slots_c (he := (by first | rfl | (congr 2; simp; done))) (h := (slots_c (he := (by first | rfl | (congr 1; rw [List.filter_nil]; simp; done) | (congr 1; rw [add_snoc_n (by omega)]; simp; done) | (rw [add_skip_n (by omega)]))) (h := trivial)))) ?_
      rintro ⟨⟨pre2, suf2⟩, hp2⟩ R2 hR2
      dsimp only [List.cons_append, List.nil_append, List.length_cons, List.length_nil]
      simp only at hp2
      have hpl2 : pre2.length + suf2.length = b.length := by rw [← hp2, List.length_append]
      have hfl := filter_le (newP a) pre2
      rcases suf2 with _ | ⟨s, suf2⟩
      · rw [List.append_nil] at hp2; subst hp2; simp only [List.length_nil] at hpl2
        refine Ev.sr fun K hK => S.o q.lss (S.end (hK _ ?_))
        clear hK K
        refine Ev.ud (fun c15 => ?_) (fun c15 => ?_)
        · first
        | (first | omega | contradiction)
        | refine Ev.seq ?_
          refine Ev.block ?_
          refine Ev.sr fun K hK => S.o (q.ix am_el22 am_cl43 (hl := (by first | exact ati hyi (by omega) | exact ati hidx (by omega) | exact atig (by omega)))) (S.o (q.lsA [_, _, _, _, _] am_ag43 am_cl43) (S.nn (q.al am_ze43) (S.sv [_, _, _, _, _] true [_] am_in43 am_cl43 (h := S.end (hK _ ?_)))))
          clear hK K
          refine Ev.sr fun K hK => S.o q.mv (S.o (q.fa 0 am_fi43_0 am_cl9) (S.o (q.lv am_ag9) (S.c0 (hF := find_fun _ _ (by omega)) (h := S.o q.lss (S.end (hK _ ?_))))))
          clear hK K
          refine Ev.cd (fun c16 => ?_) (fun c16 => ?_)
          · first
          | (first | omega | contradiction)
          | refine Ev.region_S fun K hK => S.o q.mv (S.o (q.fa 0 am_fi43_0 am_cl9) (S.o (q.lv am_ag9) (S.o (q.bd [_, _] am_ze36 am_pl36) (S.nn (q.bs [[_, _]] true am_el25 am_ze36 am_cl36) (S.ap' [_, _] am_el25 am_ze36 am_cl36 am_by36 (hh := head_own') (hr := (rows_lit [(⟨_, _⟩ : Int × List UInt8)])) (h := S.o q.as (S.end (hK _ ?_))))))))
            clear hK K
            show Ev _ _ _ _
            refine Ev.region_S fun K hK => S.o q.add (S.o q.mv (S.end (hK _ ?_)))
            clear hK K
            refine hR2 _ _ ?_
            refine roundU [3] [0, 1, 4, 14, 15, 16, 17, 58, 59] ⟨(pre2 ++ [s], suf2), by rw [← hp2]; simp⟩ ?_ (keep_c (he := (by first | rfl | (simp; done) | exact add_snoc (by omega) | exact add_skip (by omega))) (h := keep_n)) (slots_c (he := (by first | rfl | (congr 2; simp; done))) (h := (slots_c (he := (by first | rfl | (congr 1; rw [List.filter_nil]; simp; done) | (congr 1; rw [add_snoc_n (by omega)]; simp; done) | (rw [add_skip_n (by omega)]))) (h := trivial)))) (.c (.c (.c (.c (.c (.c (.c (.c (.c .n)))))))))
            skip
            all_goals (dsimp only; simp only [List.length_cons]; omega)
          · first
          | (first | omega | contradiction)
          | refine Ev.skip ?_
            show Ev _ _ _ _
            refine Ev.region_S fun K hK => S.o q.add (S.o q.mv (S.end (hK _ ?_)))
            clear hK K
            refine hR2 _ _ ?_
            refine roundU [0] [0, 1, 4, 14, 15, 16, 17, 58, 59] ⟨(pre2 ++ [s], suf2), by rw [← hp2]; simp⟩ ?_ (keep_c (he := (by first | rfl | (simp; done) | exact add_snoc (by omega) | exact add_skip (by omega))) (h := keep_n)) (slots_c (he := (by first | rfl | (congr 2; simp; done))) (h := (slots_c (he := (by first | rfl | (congr 1; rw [List.filter_nil]; simp; done) | (congr 1; rw [add_snoc_n (by omega)]; simp; done) | (rw [add_skip_n (by omega)]))) (h := trivial)))) (.c (.c (.c (.c (.c (.c (.c (.c (.c .n)))))))))
            skip
            all_goals (dsimp only; simp only [List.length_cons]; omega)
        · first
        | (first | omega | contradiction)
        | refine Ev.exit ?_
          refine hR2 _ _ ?_
          show Ev _ _ _ _
          refine Ev.sr fun K hK => S.o q.mv (S.o q.as (S.end (hK _ ?_)))
          clear hK K
          refine Ev.weaken (Wk.frz 4 []) ?_
          refine Ev.ret ?_
          refine Ev.ret1 ?_
          refine ⟨?_, rfl⟩
          rfl
      · simp only [List.length_cons] at hpl2
        have hidx2 : b[pre2.length]? = some s := by rw [← hp2]; simp
        refine Ev.sr fun K hK => S.o q.lss (S.end (hK _ ?_))
        clear hK K
        refine Ev.ud (fun c17 => ?_) (fun c17 => ?_)
        · first
        | (first | omega | contradiction)
        | refine Ev.seq ?_
          refine Ev.block ?_
          refine Ev.sr fun K hK => S.o (q.ix am_el22 am_cl43 (hl := (by first | exact ati hyi (by omega) | exact ati hidx (by omega) | exact ati hidx2 (by omega) | exact atig (by omega)))) (S.o (q.lsA [_, _, _, _, _] am_ag43 am_cl43) (S.nn (q.al am_ze43) (S.sv [_, _, _, _, _] true [_] am_in43 am_cl43 (h := S.end (hK _ ?_)))))
          clear hK K
          refine Ev.sr fun K hK => S.o q.mv (S.o (q.fa 0 am_fi43_0 am_cl9) (S.o (q.lv am_ag9) (S.c0 (hF := find_fun _ _ (by omega)) (h := S.o q.lss (S.end (hK _ ?_))))))
          clear hK K
          refine Ev.cd (fun c18 => ?_) (fun c18 => ?_)
          · first
          | (first | omega | contradiction)
          | refine Ev.region_S fun K hK => S.o q.mv (S.o (q.fa 0 am_fi43_0 am_cl9) (S.o (q.lv am_ag9) (S.o (q.bd [_, _] am_ze36 am_pl36) (S.nn (q.bs [[_, _]] true am_el25 am_ze36 am_cl36) (S.ap' [_, _] am_el25 am_ze36 am_cl36 am_by36 (hh := head_own') (hr := (rows_lit [(⟨_, _⟩ : Int × List UInt8)])) (h := S.o q.as (S.end (hK _ ?_))))))))
            clear hK K
            show Ev _ _ _ _
            refine Ev.region_S fun K hK => S.o q.add (S.o q.mv (S.end (hK _ ?_)))
            clear hK K
            refine hR2 _ _ ?_
            refine roundU [3] [0, 1, 4, 14, 15, 16, 17, 58, 59] ⟨(pre2 ++ [s], suf2), by rw [← hp2]; simp⟩ ?_ (keep_c (he := (by first | rfl | (simp; done) | exact add_snoc (by omega) | exact add_skip (by omega))) (h := keep_n)) (slots_c (he := (by first | rfl | (congr 2; simp; done))) (h := (slots_c (he := (by first | rfl | (congr 1; rw [List.filter_nil]; simp; done) | (congr 1; rw [add_snoc_n (by omega)]; simp; done) | (rw [add_skip_n (by omega)]))) (h := trivial)))) (.c (.c (.c (.c (.c (.c (.c (.c (.c .n)))))))))
            skip
            all_goals (dsimp only; simp only [List.length_cons]; omega)
          · first
          | (first | omega | contradiction)
          | refine Ev.skip ?_
            show Ev _ _ _ _
            refine Ev.region_S fun K hK => S.o q.add (S.o q.mv (S.end (hK _ ?_)))
            clear hK K
            refine hR2 _ _ ?_
            refine roundU [0] [0, 1, 4, 14, 15, 16, 17, 58, 59] ⟨(pre2 ++ [s], suf2), by rw [← hp2]; simp⟩ ?_ (keep_c (he := (by first | rfl | (simp; done) | exact add_snoc (by omega) | exact add_skip (by omega))) (h := keep_n)) (slots_c (he := (by first | rfl | (congr 2; simp; done))) (h := (slots_c (he := (by first | rfl | (congr 1; rw [List.filter_nil]; simp; done) | (congr 1; rw [add_snoc_n (by omega)]; simp; done) | (rw [add_skip_n (by omega)]))) (h := trivial)))) (.c (.c (.c (.c (.c (.c (.c (.c (.c .n)))))))))
            skip
            all_goals (dsimp only; simp only [List.length_cons]; omega)
        · first
        | (first | omega | contradiction)
        | refine Ev.exit ?_
          refine hR2 _ _ ?_
          show Ev _ _ _ _
          refine Ev.sr fun K hK => S.o q.mv (S.o q.as (S.end (hK _ ?_)))
          clear hK K
          refine Ev.weaken (Wk.frz 4 []) ?_
          refine Ev.ret ?_
          refine Ev.ret1 ?_
          refine ⟨?_, rfl⟩
          rfl

def cmpE (a b : List Bar) : Int := if okSched a ∧ okSched b then 0 else 1
def cmpV (a b : List Bar) : List Chg := if okSched a ∧ okSched b then cmpP a b else []
theorem Compare_fun (a b : List Bar) (ha : a.length ≤ 140737488355328) (hb : b.length ≤ 140737488355328) (hwa : schedW a) (hwb : schedW b) : Fun Try.prog 10 [.sh 5 (a.map Bar.c), .sh 5 (b.map Bar.c)] (Ret (.tup [.sh 2 ((cmpV a b).map findC), .lit (.int .i64 (cmpE a b))]) []) := by
  refine Fun.of (nt := 17) (rs := [.tmp 4, .tmp 5]) Try.func10 rfl rfl rfl rfl rfl ?_
  refine Ev.sr fun K hK => S.o q.as (S.o q.as (S.end (hK _ ?_)))
  clear hK K
  refine Ev.seq ?_
  refine Ev.sr fun K hK => S.o q.mv (S.c0 (hF := schedValid_fun _ (by omega) (by assumption)) (h := S.o q.not (S.bn q.mv (fun c1 => ?_) (fun c1 => ?_))))
  · first
  | (first | omega | contradiction)
  | refine S.sk (S.sk (S.sk (S.o q.pt (S.end (hK _ ?_)))))
    clear hK K
    refine Ev.ct ?_
    refine Ev.sr fun K hK => S.o q.as (S.o q.as (S.end (hK _ ?_)))
    clear hK K
    refine Ev.weaken (Wk.nsh findC 4 2) ?_
    refine Ev.ret ?_
    refine Ev.ret2 ?_
    refine ⟨?_, rfl⟩
    first
     | (rw [show cmpE a b = 1 from if_neg (fun h => absurd h.1 ‹_›), show cmpV a b = [] from if_neg (fun h => absurd h.1 ‹_›)]; done)
     | (rw [show cmpE a b = 1 from if_neg (fun h => absurd h.2 ‹_›), show cmpV a b = [] from if_neg (fun h => absurd h.2 ‹_›)]; done)
     | (rw [show cmpE a b = 0 from if_pos ⟨‹_›, ‹_›⟩, show cmpV a b = cmpP a b from if_pos ⟨‹_›, ‹_›⟩]; done)
  · first
  | (first | omega | contradiction)
  | refine S.o q.mv (S.c0 (hF := schedValid_fun _ (by omega) (by assumption)) (h := S.o q.not (S.o q.pf (S.end (hK _ ?_)))))
    clear hK K
    refine Ev.cn (fun c2 => ?_) (fun c2 => ?_)
    · first
    | (first | omega | contradiction)
    | refine Ev.sr fun K hK => S.o q.as (S.o q.as (S.end (hK _ ?_)))
      clear hK K
      refine Ev.weaken (Wk.nsh findC 4 2) ?_
      refine Ev.ret ?_
      refine Ev.ret2 ?_
      refine ⟨?_, rfl⟩
      first
       | (rw [show cmpE a b = 1 from if_neg (fun h => absurd h.1 ‹_›), show cmpV a b = [] from if_neg (fun h => absurd h.1 ‹_›)]; done)
       | (rw [show cmpE a b = 1 from if_neg (fun h => absurd h.2 ‹_›), show cmpV a b = [] from if_neg (fun h => absurd h.2 ‹_›)]; done)
       | (rw [show cmpE a b = 0 from if_pos ⟨‹_›, ‹_›⟩, show cmpV a b = cmpP a b from if_pos ⟨‹_›, ‹_›⟩]; done)
    · first
    | (first | omega | contradiction)
    | refine Ev.skip ?_
      show Ev _ _ _ _
      refine Ev.sr fun K hK => S.o q.mv (S.o q.mv (S.c0 (hF := compare_fun _ _ (by assumption) (by assumption)) (h := S.o q.as (S.o q.as (S.end (hK _ ?_))))))
      clear hK K
      refine Ev.ret ?_
      refine Ev.ret2 ?_
      refine ⟨?_, rfl⟩
      first
       | (rw [show cmpE a b = 1 from if_neg (fun h => absurd h.1 ‹_›), show cmpV a b = [] from if_neg (fun h => absurd h.1 ‹_›)]; done)
       | (rw [show cmpE a b = 1 from if_neg (fun h => absurd h.2 ‹_›), show cmpV a b = [] from if_neg (fun h => absurd h.2 ‹_›)]; done)
       | (rw [show cmpE a b = 0 from if_pos ⟨‹_›, ‹_›⟩, show cmpV a b = cmpP a b from if_pos ⟨‹_›, ‹_›⟩]; done)
end Go.Proofs.Ytccddakkegelkaa
