/-
  ref28.Bound, the example, curtail.joined.
  Conditions: none.
-/
import Derived.Test.YtigjoaejncfmdaaB4
import Derived.Test.YtigjoaejncfmdaaAmAuto
namespace Go.Proofs.Ytigjoaejncfmdaa
open Go Go.AM
set_option linter.unusedSimpArgs false
set_option linter.unusedVariables false
set_option maxRecDepth 100000
def demoL : List (Int × Int) := [(100, 15000), (300, 0)]
theorem example_fun : Fun Try.prog 35 [] (Ret (.sh 2 (demoL.map stepC)) []) := by
  refine Fun.of (nt := 4) (rs := [.tmp 0]) Try.func35 rfl rfl rfl rfl rfl ?_
  refine Ev.sr fun K hK => S.o q.as (S.end (hK _ ?_))
  clear hK K
  refine Ev.sr fun K hK => S.o (q.bd [_, _] am_ze57 am_pl57) (S.o (q.bd [_, _] am_ze57 am_pl57) (S.nn (q.bs [[_, _], [_, _]] true am_el22 am_ze57 am_cl57) (S.o q.as (S.end (hK _ ?_)))))
  clear hK K
  refine Ev.weaken (Wk.frzl (f := stepC) [(⟨_, _⟩ : Int × Int), (⟨_, _⟩ : Int × Int)] 0 []) ?_
  refine Ev.ret ?_
  refine Ev.ret1 ?_
  refine ⟨?_, rfl⟩
  rfl

/-- Joined in place: what is done, and what is left over of the array. -/
def joinSt (q : List (Int × Int) × List (Int × Int)) (s : Int × Int) : List (Int × Int) × List (Int × Int) :=
  match q.1.getLast? with
  | some o => if s.1 ≤ o.2 then (q.1.set (q.1.length - 1) (o.1, max o.2 s.2), q.2 ++ [s]) else (q.1 ++ [s], (q.2 ++ [s]).tail)
  | none => (q.1 ++ [s], (q.2 ++ [s]).tail)
def joinF (l : List (Int × Int)) : List (Int × Int) × List (Int × Int) := l.foldl joinSt ([], [])
def joinL (l : List (Int × Int)) : List (Int × Int) := (joinF l).1
def jRow (pre suf : List (Int × Int)) : List (Int × Int) := (joinF pre).1 ++ ((joinF pre).2 ++ suf)
theorem joinF_snoc (l : List (Int × Int)) (s : Int × Int) : joinF (l ++ [s]) = joinSt (joinF l) s := by simp [joinF]
theorem joinSt_len (q : List (Int × Int) × List (Int × Int)) (s : Int × Int) : (joinSt q s).1.length + (joinSt q s).2.length = q.1.length + q.2.length + 1 := by
  unfold joinSt
  split
  · split <;> simp <;> omega
  · simp; omega
theorem joinG_len : ∀ (l : List (Int × Int)) (q : List (Int × Int) × List (Int × Int)), (l.foldl joinSt q).1.length + (l.foldl joinSt q).2.length = q.1.length + q.2.length + l.length
  | [], q => by simp
  | s :: l, q => by rw [List.foldl_cons, joinG_len l, joinSt_len, List.length_cons]; omega
theorem joinF_len (l : List (Int × Int)) : (joinF l).1.length + (joinF l).2.length = l.length := by
  have := joinG_len l ([], [])
  simpa [joinF] using this
theorem jRow_len (pre suf : List (Int × Int)) : (jRow pre suf).length = pre.length + suf.length := by
  have := joinF_len pre
  simp [jRow]; omega
theorem jRow_get (pre suf : List (Int × Int)) (s : Int × Int) : (jRow pre (s :: suf))[pre.length]? = some s := by
  have := joinF_len pre
  rw [jRow, List.getElem?_append_right (by omega), List.getElem?_append_right (by omega), show pre.length - (joinF pre).1.length - (joinF pre).2.length = 0 by omega]
  rfl
theorem jRow_last (pre suf : List (Int × Int)) (h : 0 < (joinF pre).1.length) : (jRow pre suf)[(joinF pre).1.length - 1]? = some ((joinF pre).1.getLast (List.ne_nil_of_length_pos h)) := pre_last rfl h
theorem set_app {T : Type} {a b : List T} {k : Nat} {x : T} (h : k < a.length) : (a ++ b).set k x = a.set k x ++ b := by rw [List.set_append, if_pos h]
theorem jRow_join (pre suf : List (Int × Int)) (s : Int × Int) (h : 0 < (joinF pre).1.length) (hs : s.1 ≤ ((joinF pre).1.getLast (List.ne_nil_of_length_pos h)).2) :
    (jRow pre (s :: suf)).set ((joinF pre).1.length - 1) (((joinF pre).1.getLast (List.ne_nil_of_length_pos h)).1, max ((joinF pre).1.getLast (List.ne_nil_of_length_pos h)).2 s.2) = jRow (pre ++ [s]) suf ∧ (joinF (pre ++ [s])).1.length = (joinF pre).1.length := by
  have e : joinF (pre ++ [s]) = ((joinF pre).1.set ((joinF pre).1.length - 1) (((joinF pre).1.getLast (List.ne_nil_of_length_pos h)).1, max ((joinF pre).1.getLast (List.ne_nil_of_length_pos h)).2 s.2), (joinF pre).2 ++ [s]) := by
    rw [joinF_snoc, joinSt, last_get h]
    simp only [hs, if_true]
  refine ⟨?_, by rw [e]; simp⟩
  rw [jRow, jRow, e, set_app (by omega)]
  simp
theorem jRow_put (pre suf : List (Int × Int)) (s : Int × Int) (h : ∀ h : 0 < (joinF pre).1.length, ¬ s.1 ≤ ((joinF pre).1.getLast (List.ne_nil_of_length_pos h)).2) :
    (jRow pre (s :: suf)).set (joinF pre).1.length s = jRow (pre ++ [s]) suf ∧ (joinF (pre ++ [s])).1.length = (joinF pre).1.length + 1 := by
  have e : joinF (pre ++ [s]) = ((joinF pre).1 ++ [s], ((joinF pre).2 ++ [s]).tail) := by
    rw [joinF_snoc, joinSt]
    split
    · rename_i o ho
      have hp : 0 < (joinF pre).1.length := by
        rcases Nat.eq_zero_or_pos (joinF pre).1.length with h0 | h0
        · rw [List.eq_nil_of_length_eq_zero h0] at ho; cases ho
        · exact h0
      have := h hp
      rw [last_get hp] at ho
      simp only [Option.some.injEq] at ho
      rw [ho] at this
      rw [if_neg this]
    · rfl
  refine ⟨?_, by rw [e]; simp⟩
  rw [jRow, jRow, e, List.set_append_right _ _ (Nat.le_refl _), Nat.sub_self]
  rcases (joinF pre).2 with _ | ⟨x, t⟩ <;> simp
theorem joined_fun (l : List (Int × Int)) (hlen : l.length ≤ 140737488355328) : FunR Try.prog 41 [.als 0 0 l.length] [(0, ⟨true, 36, 2, l.map stepC, true⟩)] 1
    (Ret (.als 0 0 (joinL l).length) [(0, ⟨true, 36, 2, (joinL l ++ (joinF l).2).map stepC, true⟩)]) := by
  refine FunR.of (nt := 49) (rs := [.tmp 2]) Try.func41 rfl rfl rfl rfl rfl ?_
  refine Ev.sr fun K hK => S.o q.as (S.end (hK _ ?_))
  clear hK K
  refine Ev.sr fun K hK => S.o q.as (S.end (hK _ ?_))
  clear hK K
  refine Ev.seq ?_
  refine Ev.sr fun K hK => S.o q.mv (S.o (q.lena am_el25) (S.o q.mv (S.end (hK _ ?_))))
  clear hK K
  refine Ev.block ?_
  refine Ev.loopU (ι := {q : List (Int × Int) × List (Int × Int) // q.1 ++ q.2 = l}) [0] [0, 2, 6, 7] (fun ⟨(pre, suf), _⟩ => [(8, .lit (.int .i64 ((pre.length : Int)))), (3, .lit (.int .i64 (((joinF pre).1.length : Int))))]) (fun ⟨(pre, suf), _⟩ => [(0, ⟨true, 36, 2, (jRow pre suf).map stepC, true⟩)]) (fun ⟨(pre, suf), _⟩ => suf.length) ⟨([], l), rfl⟩ (.c (.c (.c (.c .n)))) (keep_c (he := (by first | rfl | (rw [show (((joinF pre).1.length : Int) - 1).toNat = (joinF pre).1.length - 1 by omega]; exact congrArg _ hj1) | (rw [show (((joinF pre).1.length : Int)).toNat = (joinF pre).1.length by omega]; exact congrArg _ hj1))) (h := keep_n)) (slots_c (he := (by first | rfl | (congr 2; simp; done))) (h := (slots_c (he := (by first | rfl | (congr 2; omega))) (h := trivial)))) ?_
  rintro ⟨⟨pre, suf⟩, hp⟩ R0 hR0
  dsimp only [List.cons_append, List.nil_append, List.length_cons, List.length_nil]
  simp only at hp
  have hjl := joinF_len pre
  have hpl : pre.length + suf.length = l.length := by rw [← hp, List.length_append]
  rcases suf with _ | ⟨s, suf⟩
  · simp only [List.length_nil] at hpl
    refine Ev.sr fun K hK => S.o q.lss (S.end (hK _ ?_))
    clear hK K
    refine Ev.ud (fun c1 => ?_) (fun c1 => ?_)
    · first
    | (first | omega | contradiction)
    | refine Ev.seq ?_
      refine Ev.block ?_
      refine Ev.sr fun K hK => S.o (q.ia am_el25 am_cl36) (S.o (q.lxA [_, _] am_ag36 am_cl36 (hl := (by first | exact at_g (by omega)))) (S.nn (q.al am_ze36) (S.sv [_, _] true [_] am_in36 am_cl36 (h := S.end (hK _ ?_)))))
      clear hK K
      refine Ev.seq ?_
      refine Ev.sm (tbs [(0, 0), (1, 1), (2, 3), (3, 7), (4, 15), (3, 7), (3, 7), (7, 71), (8, 231), (9, 487), (10, 999), (11, 2047), (12, 4095)]) 13 fun K hK => M.o q.mv (M.o q.gtr (M.bd q.mv (fun c2 => ?_) (fun c2 => ?_)))
      · first
      | (first | omega | contradiction)
      | refine M.o (q.fa 0 am_fi36_0 am_cl3) (M.o (q.lv am_ag3) (M.o q.mv (M.o q.mv (M.o q.sub (M.o (q.ia am_el25 am_cl36) (M.o (q.fa 1 am_fi36_1 am_cl3) (M.o (q.lx am_ag3 (hl := (by first | exact at_g (by omega)))) (M.o q.leq (M.o q.pt (M.end [_, _] (h := S.end (hK _ ?_))))))))))))
        clear hK K
        refine Ev.cd (fun c3 => ?_) (fun c3 => ?_)
        · first
        | (first | omega | contradiction)
        | obtain ⟨hj1, hj2⟩ := hjoi (by omega) ‹_›
          refine Ev.sm (tbs [(0, 0), (0, 0), (2, 2), (0, 0), (0, 0), (5, 16), (6, 56), (7, 120), (8, 248), (0, 0), (10, 512), (11, 2040), (12, 4095), (13, 8191), (14, 16383)]) 14 fun K hK => M.o q.mv (M.o q.mv (M.o q.sub (M.o q.mv (M.o q.mv (M.o q.sub (M.o (q.ia am_el25 am_cl36) (M.o (q.fa 1 am_fi36_1 am_cl3) (M.o (q.lx am_ag3 (hl := (by first | exact at_g (by omega)))) (M.o (q.fa 1 am_fi36_1 am_cl3) (M.o (q.lv am_ag3) (M.o q.max (M.o (q.ia am_el25 am_cl36) (M.o (q.fa 1 am_fi36_1 am_cl3) (M.end [_, _] (h := S.sx (⟨_, _⟩ : Int × Int) [_] am_in3 am_cl3 (hl := (by first | exact at_g (by omega))) (h := S.end (hK _ ?_)))))))))))))))))
          clear hK K
          refine Ev.exit ?_
          show Ev _ _ _ _
          refine Ev.region_S fun K hK => S.o q.add (S.o q.mv (S.end (hK _ ?_)))
          clear hK K
          refine hR0 _ _ ?_
          refine roundU [0] [0, 2, 6, 7] ⟨(pre ++ [s], suf), by rw [← hp]; simp⟩ ?_ (keep_c (he := (by first | rfl | (rw [show (((joinF pre).1.length : Int) - 1).toNat = (joinF pre).1.length - 1 by omega]; exact congrArg _ hj1) | (rw [show (((joinF pre).1.length : Int)).toNat = (joinF pre).1.length by omega]; exact congrArg _ hj1))) (h := keep_n)) (slots_c (he := (by first | rfl | (congr 2; simp; done))) (h := (slots_c (he := (by first | rfl | (congr 2; omega))) (h := trivial)))) (.c (.c (.c (.c .n))))
          skip
          all_goals (dsimp only; simp only [List.length_cons]; omega)
        · first
        | (first | omega | contradiction)
        | refine Ev.skip ?_
          show Ev _ _ _ _
          obtain ⟨hj1, hj2⟩ := hput (fun h => by first | omega | assumption)
          refine Ev.sr fun K hK => S.o q.mv (S.o q.mv (S.o (q.lvA [_, _] am_ag36 am_cl36) (S.o (q.ia am_el25 am_cl36) (S.sx (⟨_, _⟩ : Int × Int) [_] am_in36 am_cl36 (hl := (by first | exact at_g (by omega))) (h := S.end (hK _ ?_))))))
          clear hK K
          refine Ev.region_S fun K hK => S.o q.mv (S.o q.add (S.o q.as (S.end (hK _ ?_))))
          clear hK K
          show Ev _ _ _ _
          refine Ev.region_S fun K hK => S.o q.add (S.o q.mv (S.end (hK _ ?_)))
          clear hK K
          refine hR0 _ _ ?_
          refine roundU [0] [0, 2, 6, 7] ⟨(pre ++ [s], suf), by rw [← hp]; simp⟩ ?_ (keep_c (he := (by first | rfl | (rw [show (((joinF pre).1.length : Int) - 1).toNat = (joinF pre).1.length - 1 by omega]; exact congrArg _ hj1) | (rw [show (((joinF pre).1.length : Int)).toNat = (joinF pre).1.length by omega]; exact congrArg _ hj1))) (h := keep_n)) (slots_c (he := (by first | rfl | (congr 2; simp; done))) (h := (slots_c (he := (by first | rfl | (congr 2; omega))) (h := trivial)))) (.c (.c (.c (.c .n))))
          skip
          all_goals (dsimp only; simp only [List.length_cons]; omega)
      · first
      | (first | omega | contradiction)
      | refine M.sk (M.sk (M.sk (M.sk (M.sk (M.sk (M.sk (M.sk (M.sk (M.o q.pf (M.end [_, _] (h := S.end (hK _ ?_))))))))))))
        clear hK K
        refine Ev.cf ?_
        refine Ev.skip ?_
        show Ev _ _ _ _
        obtain ⟨hj1, hj2⟩ := hput (fun h => by first | omega | assumption)
        refine Ev.sr fun K hK => S.o q.mv (S.o q.mv (S.o (q.lvA [_, _] am_ag36 am_cl36) (S.o (q.ia am_el25 am_cl36) (S.sx (⟨_, _⟩ : Int × Int) [_] am_in36 am_cl36 (hl := (by first | exact at_g (by omega))) (h := S.end (hK _ ?_))))))
        clear hK K
        refine Ev.region_S fun K hK => S.o q.mv (S.o q.add (S.o q.as (S.end (hK _ ?_))))
        clear hK K
        show Ev _ _ _ _
        refine Ev.region_S fun K hK => S.o q.add (S.o q.mv (S.end (hK _ ?_)))
        clear hK K
        refine hR0 _ _ ?_
        refine roundU [0] [0, 2, 6, 7] ⟨(pre ++ [s], suf), by rw [← hp]; simp⟩ ?_ (keep_c (he := (by first | rfl | (rw [show (((joinF pre).1.length : Int) - 1).toNat = (joinF pre).1.length - 1 by omega]; exact congrArg _ hj1) | (rw [show (((joinF pre).1.length : Int)).toNat = (joinF pre).1.length by omega]; exact congrArg _ hj1))) (h := keep_n)) (slots_c (he := (by first | rfl | (congr 2; simp; done))) (h := (slots_c (he := (by first | rfl | (congr 2; omega))) (h := trivial)))) (.c (.c (.c (.c .n))))
        skip
        all_goals (dsimp only; simp only [List.length_cons]; omega)
    · first
    | (first | omega | contradiction)
    | refine Ev.exit ?_
      refine hR0 _ _ ?_
      show Ev _ _ _ _
      refine Ev.sr fun K hK => S.o q.mv (S.o q.mv (S.o (q.sl am_el25 am_cl36) (S.o q.as (S.end (hK _ ?_)))))
      clear hK K
      refine Ev.ret ?_
      refine Ev.rr1 [0] (keepR_c (h := keepR_n)) leads1 ?_
      refine ⟨?_, ?_⟩
      · simp only [joinL, ← hp, List.append_nil, Nat.zero_add, Int.toNat_zero, Nat.sub_zero, Int.toNat_natCast]
      · simp only [joinL, ← hp, jRow, List.append_nil]
  · simp only [List.length_cons] at hpl
    have hidx := jRow_get pre suf s
    have hjr : (jRow pre (s :: suf)).length = pre.length + (suf.length + 1) := jRow_len _ _
    have hlst := jRow_last pre (s :: suf)
    have hput := jRow_put pre suf s
    have hjoi := jRow_join pre suf s
    refine Ev.sr fun K hK => S.o q.lss (S.end (hK _ ?_))
    clear hK K
    refine Ev.ud (fun c4 => ?_) (fun c4 => ?_)
    · first
    | (first | omega | contradiction)
    | refine Ev.seq ?_
      refine Ev.block ?_
      refine Ev.sr fun K hK => S.o (q.ia am_el25 am_cl36) (S.o (q.lxA [_, _] am_ag36 am_cl36 (hl := (by first | exact at_ hidx (by omega) | exact at_ (hlst (by omega)) (by omega) | exact at_g (by omega)))) (S.nn (q.al am_ze36) (S.sv [_, _] true [_] am_in36 am_cl36 (h := S.end (hK _ ?_)))))
      clear hK K
      refine Ev.seq ?_
      refine Ev.sm (tbs [(0, 0), (1, 1), (2, 3), (3, 7), (4, 15), (3, 7), (3, 7), (7, 71), (8, 231), (9, 487), (10, 999), (11, 2047), (12, 4095)]) 13 fun K hK => M.o q.mv (M.o q.gtr (M.bd q.mv (fun c5 => ?_) (fun c5 => ?_)))
      · first
      | (first | omega | contradiction)
      | refine M.o (q.fa 0 am_fi36_0 am_cl3) (M.o (q.lv am_ag3) (M.o q.mv (M.o q.mv (M.o q.sub (M.o (q.ia am_el25 am_cl36) (M.o (q.fa 1 am_fi36_1 am_cl3) (M.o (q.lx am_ag3 (hl := (by first | exact at_ hidx (by omega) | exact at_ (hlst (by omega)) (by omega) | exact at_g (by omega)))) (M.o q.leq (M.o q.pt (M.end [_, _] (h := S.end (hK _ ?_))))))))))))
        clear hK K
        refine Ev.cd (fun c6 => ?_) (fun c6 => ?_)
        · first
        | (first | omega | contradiction)
        | obtain ⟨hj1, hj2⟩ := hjoi (by omega) ‹_›
          refine Ev.sm (tbs [(0, 0), (0, 0), (2, 2), (0, 0), (0, 0), (5, 16), (6, 56), (7, 120), (8, 248), (0, 0), (10, 512), (11, 2040), (12, 4095), (13, 8191), (14, 16383)]) 14 fun K hK => M.o q.mv (M.o q.mv (M.o q.sub (M.o q.mv (M.o q.mv (M.o q.sub (M.o (q.ia am_el25 am_cl36) (M.o (q.fa 1 am_fi36_1 am_cl3) (M.o (q.lx am_ag3 (hl := (by first | exact at_ hidx (by omega) | exact at_ (hlst (by omega)) (by omega) | exact at_g (by omega)))) (M.o (q.fa 1 am_fi36_1 am_cl3) (M.o (q.lv am_ag3) (M.o q.max (M.o (q.ia am_el25 am_cl36) (M.o (q.fa 1 am_fi36_1 am_cl3) (M.end [_, _] (h := S.sx (⟨_, _⟩ : Int × Int) [_] am_in3 am_cl3 (hl := (by first | exact at_ hidx (by omega) | exact at_ (hlst (by omega)) (by omega) | exact at_g (by omega))) (h := S.end (hK _ ?_)))))))))))))))))
          clear hK K
          refine Ev.exit ?_
          show Ev _ _ _ _
          refine Ev.region_S fun K hK => S.o q.add (S.o q.mv (S.end (hK _ ?_)))
          clear hK K
          refine hR0 _ _ ?_
          refine roundU [0] [0, 2, 6, 7] ⟨(pre ++ [s], suf), by rw [← hp]; simp⟩ ?_ (keep_c (he := (by first | rfl | (rw [show (((joinF pre).1.length : Int) - 1).toNat = (joinF pre).1.length - 1 by omega]; exact congrArg _ hj1) | (rw [show (((joinF pre).1.length : Int)).toNat = (joinF pre).1.length by omega]; exact congrArg _ hj1))) (h := keep_n)) (slots_c (he := (by first | rfl | (congr 2; simp; done))) (h := (slots_c (he := (by first | rfl | (congr 2; omega))) (h := trivial)))) (.c (.c (.c (.c .n))))
          skip
          all_goals (dsimp only; simp only [List.length_cons]; omega)
        · first
        | (first | omega | contradiction)
        | refine Ev.skip ?_
          show Ev _ _ _ _
          obtain ⟨hj1, hj2⟩ := hput (fun h => by first | omega | assumption)
          refine Ev.sr fun K hK => S.o q.mv (S.o q.mv (S.o (q.lvA [_, _] am_ag36 am_cl36) (S.o (q.ia am_el25 am_cl36) (S.sx (⟨_, _⟩ : Int × Int) [_] am_in36 am_cl36 (hl := (by first | exact at_ hidx (by omega) | exact at_ (hlst (by omega)) (by omega) | exact at_g (by omega))) (h := S.end (hK _ ?_))))))
          clear hK K
          refine Ev.region_S fun K hK => S.o q.mv (S.o q.add (S.o q.as (S.end (hK _ ?_))))
          clear hK K
          show Ev _ _ _ _
          refine Ev.region_S fun K hK => S.o q.add (S.o q.mv (S.end (hK _ ?_)))
          clear hK K
          refine hR0 _ _ ?_
          refine roundU [0] [0, 2, 6, 7] ⟨(pre ++ [s], suf), by rw [← hp]; simp⟩ ?_ (keep_c (he := (by first | rfl | (rw [show (((joinF pre).1.length : Int) - 1).toNat = (joinF pre).1.length - 1 by omega]; exact congrArg _ hj1) | (rw [show (((joinF pre).1.length : Int)).toNat = (joinF pre).1.length by omega]; exact congrArg _ hj1))) (h := keep_n)) (slots_c (he := (by first | rfl | (congr 2; simp; done))) (h := (slots_c (he := (by first | rfl | (congr 2; omega))) (h := trivial)))) (.c (.c (.c (.c .n))))
          skip
          all_goals (dsimp only; simp only [List.length_cons]; omega)
      · first
      | (first | omega | contradiction)
      | refine M.sk (M.sk (M.sk (M.sk (M.sk (M.sk (M.sk (M.sk (M.sk (M.o q.pf (M.end [_, _] (h := S.end (hK _ ?_))))))))))))
        clear hK K
        refine Ev.cf ?_
        refine Ev.skip ?_
        show Ev _ _ _ _
        obtain ⟨hj1, hj2⟩ := hput (fun h => by first | omega | assumption)
        refine Ev.sr fun K hK => S.o q.mv (S.o q.mv (S.o (q.lvA [_, _] am_ag36 am_cl36) (S.o (q.ia am_el25 am_cl36) (S.sx (⟨_, _⟩ : Int × Int) [_] am_in36 am_cl36 (hl := (by first | exact at_ hidx (by omega) | exact at_ (hlst (by omega)) (by omega) | exact at_g (by omega))) (h := S.end (hK _ ?_))))))
        clear hK K
        refine Ev.region_S fun K hK => S.o q.mv (S.o q.add (S.o q.as (S.end (hK _ ?_))))
        clear hK K
        show Ev _ _ _ _
        refine Ev.region_S fun K hK => S.o q.add (S.o q.mv (S.end (hK _ ?_)))
        clear hK K
        refine hR0 _ _ ?_
        refine roundU [0] [0, 2, 6, 7] ⟨(pre ++ [s], suf), by rw [← hp]; simp⟩ ?_ (keep_c (he := (by first | rfl | (rw [show (((joinF pre).1.length : Int) - 1).toNat = (joinF pre).1.length - 1 by omega]; exact congrArg _ hj1) | (rw [show (((joinF pre).1.length : Int)).toNat = (joinF pre).1.length by omega]; exact congrArg _ hj1))) (h := keep_n)) (slots_c (he := (by first | rfl | (congr 2; simp; done))) (h := (slots_c (he := (by first | rfl | (congr 2; omega))) (h := trivial)))) (.c (.c (.c (.c .n))))
        skip
        all_goals (dsimp only; simp only [List.length_cons]; omega)
    · first
    | (first | omega | contradiction)
    | refine Ev.exit ?_
      refine hR0 _ _ ?_
      show Ev _ _ _ _
      refine Ev.sr fun K hK => S.o q.mv (S.o q.mv (S.o (q.sl am_el25 am_cl36) (S.o q.as (S.end (hK _ ?_)))))
      clear hK K
      refine Ev.ret ?_
      refine Ev.rr1 [0] (keepR_c (h := keepR_n)) leads1 ?_
      refine ⟨?_, ?_⟩
      · simp only [joinL, ← hp, List.append_nil, Nat.zero_add, Int.toNat_zero, Nat.sub_zero, Int.toNat_natCast]
      · simp only [joinL, ← hp, jRow, List.append_nil]
end Go.Proofs.Ytigjoaejncfmdaa
