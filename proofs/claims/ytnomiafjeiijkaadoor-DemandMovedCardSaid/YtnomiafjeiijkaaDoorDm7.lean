/-
  Chapter 23: Same, walked.
  Conditions: none.
-/
import Derived.Test.YtnomiafjeiijkaaDoorDm3
namespace Go.Proofs.YtnomiafjeiijkaaDoor
open Go Go.AM
set_option linter.unusedSimpArgs false
set_option linter.unusedVariables false
set_option maxRecDepth 100000
set_option maxHeartbeats 1000000

instance : DecidableEq Bx := fun a b => decidable_of_iff (a.lx = b.lx ∧ a.ly = b.ly ∧ a.lz = b.lz ∧ a.hx = b.hx ∧ a.hy = b.hy ∧ a.hz = b.hz) (by cases a; cases b; simp)
instance : DecidableEq Dem := fun a b => decidable_of_iff (a.name = b.name ∧ a.zone = b.zone ∧ a.steps = b.steps) (by cases a; cases b; simp)
theorem dem_ext {a b : Dem} (h1 : a.name = b.name) (h2 : a.zone = b.zone) (h3 : a.steps = b.steps) : a = b := by cases a; cases b; simp_all
theorem zone_eq {a b : Bx} (h : (!((decide (a.lx = b.lx) && (decide (a.ly = b.ly) && (decide (a.lz = b.lz) && true))) && (decide (a.hx = b.hx) && (decide (a.hy = b.hy) && (decide (a.hz = b.hz) && true))))) = false) : a = b := by
  cases a; cases b
  simp only [Bool.and_true, Bool.not_eq_false', Bool.and_eq_true, decide_eq_true_eq] at h
  simp [h]
theorem pair_eq {a b c d : Int} (h : (!(decide (a = c) && (decide (b = d) && true))) = false) : (a, b) = (c, d) := by
  simp only [Bool.and_true, Bool.not_eq_false', Bool.and_eq_true, decide_eq_true_eq] at h
  simp [h]
theorem take_eqs {T : Type} {a b : List T} (h : b.take a.length = a) (hl : a.length = b.length) : a = b := by rw [← h, hl, List.take_length]
theorem take_step {T : Type} {b pre : List T} {x : T} (h : b.take pre.length = pre) (hx : b[pre.length]? = some x) : b.take (pre ++ [x]).length = pre ++ [x] := by
  rw [List.length_append, List.length_singleton, List.take_add_one, h, hx]
  rfl
theorem at_eq {T : Type} {a b : List T} {i : Nat} {x y : T} (h : a = b) (hx : a[i]? = some x) (hy : b[i]? = some y) : x = y := by subst h; rw [hx] at hy; exact Option.some.inj hy
theorem rSame_fun (a b : List Dem) (ha : a.length ≤ 140737488355328) (hb : b.length ≤ 140737488355328) (hwa : demW a) (hwb : demW b) : Fun Tryd.prog 16 [.sh 8 (a.map Dem.c), .sh 8 (b.map Dem.c)] (Ret (.lit (.bool (decide (a = b)))) []) := by
  refine Fun.of (nt := 84) (rs := [.tmp 4]) Tryd.func16 rfl rfl rfl rfl rfl ?_
  refine Ev.sr fun K hK => S.o q.as (S.end (hK _ ?_))
  clear hK K
  refine Ev.seq ?_
  refine Ev.sr fun K hK => S.o q.mv (S.o (q.lens am_el41) (S.o q.mv (S.o (q.lens am_el41) (S.o q.neq (S.end (hK _ ?_))))))
  clear hK K
  refine Ev.cn (fun c1 => ?_) (fun c1 => ?_)
  · first
  | (first | omega | contradiction)
  | refine Ev.sr fun K hK => S.o q.as (S.end (hK _ ?_))
    clear hK K
    refine Ev.ret ?_
    refine Ev.ret1 ?_
    refine ⟨?_, rfl⟩
    first
     | exact bT (take_eqs hinv (by omega))
     | exact bF (fun h => by have := congrArg List.length h; omega)
     | exact bF (fun h => by have h1 := hsx h; subst h1; first | contradiction | omega | simp_all)
     | exact bF (fun h => by have h1 := hqr h; simp only [Prod.mk.injEq] at h1; obtain ⟨rfl, rfl⟩ := h1; simp_all)
  · first
  | (first | omega | contradiction)
  | refine Ev.skip ?_
    show Ev _ _ _ _
    refine Ev.seq ?_
    refine Ev.sr fun K hK => S.o q.as (S.end (hK _ ?_))
    clear hK K
    refine Ev.block ?_
    refine Ev.loopU (ι := {q : List Dem × List Dem // q.1 ++ q.2 = a ∧ b.take q.1.length = q.1}) [] [0, 1] (fun ⟨(pre, suf), _⟩ => [(5, .lit (.int .i64 ((pre.length : Int))))]) (fun ⟨(pre, suf), _⟩ => []) (fun ⟨(pre, suf), _⟩ => suf.length) ⟨([], a), rfl, rfl⟩ (.c (.c .n)) keep_n (slots_c (he := (by first | rfl | (simp; done) | (congr 2; omega))) (h := trivial)) ?_
    rintro ⟨⟨pre, suf⟩, hp, hinv⟩ R0 hR0
    dsimp only [List.cons_append, List.nil_append, List.length_cons, List.length_nil]
    simp only at hp hinv
    have hpl : pre.length + suf.length = (a).length := by rw [← hp, List.length_append]
    rcases suf with _ | ⟨s, suf⟩
    · rw [List.append_nil] at hp; simp only [List.length_nil] at hpl
      subst hp
      refine Ev.seq ?_
      refine Ev.sr fun K hK => S.o q.mv (S.o q.mv (S.o (q.lens am_el41) (S.o q.lss (S.end (hK _ ?_)))))
      clear hK K
      refine Ev.cd (fun c2 => ?_) (fun c2 => ?_)
      · first | omega | contradiction
      · first
      | (first | omega | contradiction)
      | refine Ev.exit ?_
        refine hR0 _ _ ?_
        show Ev _ _ _ _
        refine Ev.sr fun K hK => S.o q.as (S.end (hK _ ?_))
        clear hK K
        refine Ev.ret ?_
        refine Ev.ret1 ?_
        refine ⟨?_, rfl⟩
        first
         | exact bT (take_eqs hinv (by omega))
         | exact bF (fun h => by have := congrArg List.length h; omega)
         | exact bF (fun h => by have h1 := hsx h; subst h1; first | contradiction | omega | simp_all)
         | exact bF (fun h => by have h1 := hqr h; simp only [Prod.mk.injEq] at h1; obtain ⟨rfl, rfl⟩ := h1; simp_all)
    · simp only [List.length_cons] at hpl
      have hidx : a[pre.length]? = some s := by rw [← hp]; simp
      obtain ⟨x, hidx2⟩ : ∃ x, b[pre.length]? = some x := ⟨_, List.getElem?_eq_getElem (by omega)⟩
      have hsx := fun h : a = b => at_eq h hidx hidx2
      have hsw := (hwa s (by rw [← hp]; simp)).2
      have hxw := (hwb x (List.mem_of_getElem? hidx2)).2
      refine Ev.seq ?_
      refine Ev.sr fun K hK => S.o q.mv (S.o q.mv (S.o (q.lens am_el41) (S.o q.lss (S.end (hK _ ?_)))))
      clear hK K
      refine Ev.cd (fun c3 => ?_) (fun c3 => ?_)
      · first
      | (first | omega | contradiction)
      | refine Ev.skip ?_
        show Ev _ _ _ _
        refine Ev.seq ?_
        refine Ev.block ?_
        refine Ev.seq ?_
        refine Ev.sm (tbs [(0, 0), (0, 0), (2, 3), (3, 7), (4, 15), (0, 0), (0, 0), (7, 96), (8, 224), (9, 480), (10, 1023), (11, 2047), (12, 4095), (12, 4095), (14, 16383), (15, 32767), (16, 65535), (12, 4095), (12, 4095), (19, 397311), (20, 921599), (21, 1970175), (22, 4194303), (23, 8388607), (24, 16777215), (25, 33554431), (25, 33554431), (27, 134217727), (28, 268435455), (29, 536870911), (30, 1073741823), (25, 33554431), (25, 33554431), (33, 6476005375), (34, 15065939967), (35, 32245809151), (36, 66605547519), (37, 137438953471), (38, 274877906943)]) 39 fun K hK => M.o q.mv (M.o q.mv (M.o (q.ix am_el41 am_cl28 (hl := (by first | exact ati hidx (by omega) | exact ati hidx2 (by omega) | exact atig (by omega)))) (M.o (q.fs 0 am_fi28_0 am_cl9) (M.o (q.ls am_ag9) (M.o q.mv (M.o q.mv (M.o (q.ix am_el41 am_cl28 (hl := (by first | exact ati hidx (by omega) | exact ati hidx2 (by omega) | exact atig (by omega)))) (M.o (q.fs 0 am_fi28_0 am_cl9) (M.o (q.ls am_ag9) (M.o q.snes (M.bn q.mv (fun c4 => ?_) (fun c4 => ?_))))))))))))
        · first
        | (first | omega | contradiction)
        | refine M.sk (M.sk (M.sk (M.sk (M.sk (M.sk (M.sk (M.sk (M.sk (M.sk (M.sk (M.o q.pt (M.o q.mv (M.sk (M.sk (M.sk (M.sk (M.sk (M.sk (M.sk (M.sk (M.sk (M.sk (M.sk (M.sk (M.sk (M.o q.pt (M.end [] (h := S.end (hK _ ?_)))))))))))))))))))))))))))))
          clear hK K
          refine Ev.ct ?_
          refine Ev.sr fun K hK => S.o q.as (S.end (hK _ ?_))
          clear hK K
          refine Ev.ret ?_
          refine hR0 _ _ ?_
          refine Ev.ret1 ?_
          refine ⟨?_, rfl⟩
          first
           | exact bT (take_eqs hinv (by omega))
           | exact bF (fun h => by have := congrArg List.length h; omega)
           | exact bF (fun h => by have h1 := hsx h; subst h1; first | contradiction | omega | simp_all)
           | exact bF (fun h => by have h1 := hqr h; simp only [Prod.mk.injEq] at h1; obtain ⟨rfl, rfl⟩ := h1; simp_all)
        · first
        | (first | omega | contradiction)
        | refine M.o q.mv (M.o q.mv (M.o (q.ix am_el41 am_cl28 (hl := (by first | exact ati hidx (by omega) | exact ati hidx2 (by omega) | exact atig (by omega)))) (M.o (q.fs 1 am_fi28_1 am_cl25) (M.o (q.lsA [_, _, _, _, _, _] am_ag25 am_cl25) (M.o q.mv (M.o q.mv (M.o (q.ix am_el41 am_cl28 (hl := (by first | exact ati hidx (by omega) | exact ati hidx2 (by omega) | exact atig (by omega)))) (M.o (q.fs 1 am_fi28_1 am_cl25) (M.o (q.lsA [_, _, _, _, _, _] am_ag25 am_cl25) (M.o (q.s2neq am_eq25 am_eq23 am_ag23 am_cl23 (am_sq23 _ _ _ _ _ _) (am_sq23 _ _ _ _ _ _)) (M.o q.pf (M.bb q.mv (fun c5 => ?_) (fun c5 => ?_)))))))))))))
          · first
          | (first | omega | contradiction)
          | refine M.sk (M.sk (M.sk (M.sk (M.sk (M.sk (M.sk (M.sk (M.sk (M.sk (M.sk (M.sk (M.sk (M.o q.pt (M.end [] (h := S.end (hK _ ?_))))))))))))))))
            clear hK K
            refine Ev.ct ?_
            refine Ev.sr fun K hK => S.o q.as (S.end (hK _ ?_))
            clear hK K
            refine Ev.ret ?_
            refine hR0 _ _ ?_
            refine Ev.ret1 ?_
            refine ⟨?_, rfl⟩
            first
             | exact bT (take_eqs hinv (by omega))
             | exact bF (fun h => by have := congrArg List.length h; omega)
             | exact bF (fun h => by have h1 := hsx h; subst h1; first | contradiction | omega | simp_all)
             | exact bF (fun h => by have h1 := hqr h; simp only [Prod.mk.injEq] at h1; obtain ⟨rfl, rfl⟩ := h1; simp_all)
          · first
          | (first | omega | contradiction)
          | refine M.o q.mv (M.o q.mv (M.o (q.ix am_el41 am_cl28 (hl := (by first | exact ati hidx (by omega) | exact ati hidx2 (by omega) | exact atig (by omega)))) (M.o (q.fs 7 am_fi28_2 am_cl26) (M.o (q.ls am_ag26) (M.o (q.lens am_el26) (M.o q.mv (M.o q.mv (M.o (q.ix am_el41 am_cl28 (hl := (by first | exact ati hidx (by omega) | exact ati hidx2 (by omega) | exact atig (by omega)))) (M.o (q.fs 7 am_fi28_2 am_cl26) (M.o (q.ls am_ag26) (M.o (q.lens am_el26) (M.o q.neq (M.o q.pf (M.end [] (h := S.end (hK _ ?_))))))))))))))))
            clear hK K
            refine Ev.cn (fun c6 => ?_) (fun c6 => ?_)
            · first
            | (first | omega | contradiction)
            | refine Ev.sr fun K hK => S.o q.as (S.end (hK _ ?_))
              clear hK K
              refine Ev.ret ?_
              refine hR0 _ _ ?_
              refine Ev.ret1 ?_
              refine ⟨?_, rfl⟩
              first
               | exact bT (take_eqs hinv (by omega))
               | exact bF (fun h => by have := congrArg List.length h; omega)
               | exact bF (fun h => by have h1 := hsx h; subst h1; first | contradiction | omega | simp_all)
               | exact bF (fun h => by have h1 := hqr h; simp only [Prod.mk.injEq] at h1; obtain ⟨rfl, rfl⟩ := h1; simp_all)
            · first
            | (first | omega | contradiction)
            | refine Ev.skip ?_
              show Ev _ _ _ _
              refine Ev.sr fun K hK => S.o q.as (S.end (hK _ ?_))
              clear hK K
              refine Ev.block ?_
              refine Ev.loopU (ι := {p : List (Int × Int) × List (Int × Int) // p.1 ++ p.2 = s.steps ∧ x.steps.take p.1.length = p.1}) [] [0, 1, 5, 12, 13, 14, 15, 18, 19, 20, 21, 22, 23, 24, 25, 26, 27, 28, 29, 30, 31, 32, 33, 34, 35, 36, 37, 38, 39, 40, 41, 42, 43, 44, 45, 46, 47, 48, 49, 50, 51, 52, 53, 54, 55, 56] (fun ⟨(pre2, suf2), _⟩ => [(6, .lit (.int .i64 ((pre2.length : Int))))]) (fun ⟨(pre2, suf2), _⟩ => []) (fun ⟨(pre2, suf2), _⟩ => suf2.length) ⟨([], s.steps), rfl, rfl⟩ (.c (.c (.c (.c (.c (.c (.c (.c (.c (.c (.c (.c (.c (.c (.c (.c (.c (.c (.c (.c (.c (.c (.c (.c (.c (.c (.c (.c (.c (.c (.c (.c (.c (.c (.c (.c (.c (.c (.c (.c (.c (.c (.c (.c (.c (.c .n)))))))))))))))))))))))))))))))))))))))))))))) keep_n (slots_c (he := (by first | rfl | (congr 2; simp; done))) (h := trivial)) ?_
              rintro ⟨⟨pre2, suf2⟩, hp2, hinv2⟩ R2 hR2
              dsimp only [List.cons_append, List.nil_append, List.length_cons, List.length_nil]
              simp only at hp2 hinv2
              have hpl2 : pre2.length + suf2.length = s.steps.length := by rw [← hp2, List.length_append]
              rcases suf2 with _ | ⟨q, suf2⟩
              · rw [List.append_nil] at hp2; simp only [List.length_nil] at hpl2
                subst hp2
                have hss : s.steps = x.steps := take_eqs hinv2 (by omega)
                refine Ev.seq ?_
                refine Ev.sr fun K hK => S.o q.mv (S.o q.mv (S.o q.mv (S.o (q.ix am_el41 am_cl28 (hl := (by first | exact ati hidx (by omega) | exact ati hidx2 (by omega) | exact atig (by omega)))) (S.o (q.fs 7 am_fi28_2 am_cl26) (S.o (q.ls am_ag26) (S.o (q.lens am_el26) (S.o q.lss (S.end (hK _ ?_)))))))))
                clear hK K
                refine Ev.cd (fun c7 => ?_) (fun c7 => ?_)
                · first | omega | contradiction
                · first
                | (first | omega | contradiction)
                | refine Ev.exit ?_
                  refine hR2 _ _ ?_
                  show Ev _ _ _ _
                  refine Ev.region_S fun K hK => S.o q.mv (S.o q.add (S.o q.as (S.end (hK _ ?_))))
                  clear hK K
                  refine hR0 _ _ ?_
                  refine roundU [] [0, 1] ⟨(pre ++ [s], suf), by rw [← hp]; simp, ?_⟩ ?_ keep_n (slots_c (he := (by first | rfl | (simp; done) | (congr 2; omega))) (h := trivial)) (.c (.c .n))
                  have e := dem_ext (a := s) (b := x) ‹_› (zone_eq ‹_›) hss
                  rw [e]
                  exact take_step hinv hidx2
                  all_goals (dsimp only; simp only [List.length_cons]; omega)
              · simp only [List.length_cons] at hpl2
                have hidq : s.steps[pre2.length]? = some q := by rw [← hp2]; simp
                obtain ⟨r, hidr⟩ : ∃ r, x.steps[pre2.length]? = some r := ⟨_, List.getElem?_eq_getElem (by omega)⟩
                have hqr := fun h : a = b => at_eq (congrArg Dem.steps (hsx h)) hidq hidr
                obtain ⟨qx, qy⟩ := q
                obtain ⟨rx, ry⟩ := r
                refine Ev.seq ?_
                refine Ev.sr fun K hK => S.o q.mv (S.o q.mv (S.o q.mv (S.o (q.ix am_el41 am_cl28 (hl := (by first | exact ati hidx (by omega) | exact ati hidx2 (by omega) | exact ati hidx (by omega) | exact ati hidx2 (by omega) | exact ati hidq (by omega) | exact ati hidr (by omega) | exact atig (by omega)))) (S.o (q.fs 7 am_fi28_2 am_cl26) (S.o (q.ls am_ag26) (S.o (q.lens am_el26) (S.o q.lss (S.end (hK _ ?_)))))))))
                clear hK K
                refine Ev.cd (fun c8 => ?_) (fun c8 => ?_)
                · first
                | (first | omega | contradiction)
                | refine Ev.skip ?_
                  show Ev _ _ _ _
                  refine Ev.seq ?_
                  refine Ev.block ?_
                  refine Ev.sm (tbs [(0, 0), (0, 0), (2, 3), (3, 7), (4, 15), (0, 0), (6, 63), (7, 127), (0, 0), (0, 0), (10, 768), (11, 1792), (12, 3840), (0, 0), (14, 16128), (15, 32512), (16, 65535)]) 17 fun K hK => M.o q.mv (M.o q.mv (M.o (q.ix am_el41 am_cl28 (hl := (by first | exact ati hidx (by omega) | exact ati hidx2 (by omega) | exact ati hidx (by omega) | exact ati hidx2 (by omega) | exact ati hidq (by omega) | exact ati hidr (by omega) | exact atig (by omega)))) (M.o (q.fs 7 am_fi28_2 am_cl26) (M.o (q.ls am_ag26) (M.o q.mv (M.o (q.ix am_el26 am_cl70 (hl := (by first | exact ati hidx (by omega) | exact ati hidx2 (by omega) | exact ati hidx (by omega) | exact ati hidx2 (by omega) | exact ati hidq (by omega) | exact ati hidr (by omega) | exact atig (by omega)))) (M.o (q.lsA [_, _] am_ag70 am_cl70) (M.o q.mv (M.o q.mv (M.o (q.ix am_el41 am_cl28 (hl := (by first | exact ati hidx (by omega) | exact ati hidx2 (by omega) | exact ati hidx (by omega) | exact ati hidx2 (by omega) | exact ati hidq (by omega) | exact ati hidr (by omega) | exact atig (by omega)))) (M.o (q.fs 7 am_fi28_2 am_cl26) (M.o (q.ls am_ag26) (M.o q.mv (M.o (q.ix am_el26 am_cl70 (hl := (by first | exact ati hidx (by omega) | exact ati hidx2 (by omega) | exact ati hidx (by omega) | exact ati hidx2 (by omega) | exact ati hidq (by omega) | exact ati hidr (by omega) | exact atig (by omega)))) (M.o (q.lsA [_, _] am_ag70 am_cl70) (M.o (q.sneq am_eq70 (am_sq70 _ _ _ _)) (M.end [] (h := S.end (hK _ ?_)))))))))))))))))))
                  clear hK K
                  refine Ev.c (fun c9 => ?_) (fun c9 => ?_)
                  · first
                  | (first | omega | contradiction)
                  | refine Ev.sr fun K hK => S.o q.as (S.end (hK _ ?_))
                    clear hK K
                    refine Ev.ret ?_
                    refine hR2 _ _ ?_
                    refine hR0 _ _ ?_
                    refine Ev.ret1 ?_
                    refine ⟨?_, rfl⟩
                    first
                     | exact bT (take_eqs hinv (by omega))
                     | exact bF (fun h => by have := congrArg List.length h; omega)
                     | exact bF (fun h => by have h1 := hsx h; subst h1; first | contradiction | omega | simp_all)
                     | exact bF (fun h => by have h1 := hqr h; simp only [Prod.mk.injEq] at h1; obtain ⟨rfl, rfl⟩ := h1; simp_all)
                  · first
                  | (first | omega | contradiction)
                  | refine Ev.skip ?_
                    show Ev _ _ _ _
                    refine Ev.region_S fun K hK => S.o q.mv (S.o q.add (S.o q.as (S.end (hK _ ?_))))
                    clear hK K
                    refine hR2 _ _ ?_
                    refine roundU [] [0, 1, 5, 12, 13, 14, 15, 18, 19, 20, 21, 22, 23, 24, 25, 26, 27, 28, 29, 30, 31, 32, 33, 34, 35, 36, 37, 38, 39, 40, 41, 42, 43, 44, 45, 46, 47, 48, 49, 50, 51, 52, 53, 54, 55, 56] ⟨(pre2 ++ [(qx, qy)], suf2), by rw [← hp2]; simp, ?_⟩ ?_ keep_n (slots_c (he := (by first | rfl | (congr 2; simp; done))) (h := trivial)) (.c (.c (.c (.c (.c (.c (.c (.c (.c (.c (.c (.c (.c (.c (.c (.c (.c (.c (.c (.c (.c (.c (.c (.c (.c (.c (.c (.c (.c (.c (.c (.c (.c (.c (.c (.c (.c (.c (.c (.c (.c (.c (.c (.c (.c (.c .n))))))))))))))))))))))))))))))))))))))))))))))
                    have e : ((qx, qy) : Int × Int) = (rx, ry) := pair_eq ‹_›
                    rw [e]
                    exact take_step hinv2 hidr
                    all_goals (dsimp only; simp only [List.length_cons]; omega)
                · first | omega | contradiction
      · first | omega | contradiction
end Go.Proofs.YtnomiafjeiijkaaDoor
