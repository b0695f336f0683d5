/-
  What fits.
  Conditions: none.
-/
import Derived.Test.YtckahagagfmpbaaSo3
namespace Go.Proofs.Ytckahagagfmpbaa
open Go Go.AM
set_option linter.unusedSimpArgs false
set_option linter.unusedVariables false
set_option maxRecDepth 100000
set_option maxHeartbeats 1000000

/-- The greatest length of stock. -/
def lonS (l : List (Int × Int)) : Int := l.foldl (fun m s => if s.2 = 0 then m else max m s.1) 0
theorem lonS_snoc (l : List (Int × Int)) (s : Int × Int) : lonS (l ++ [s]) = if s.2 = 0 then lonS l else max (lonS l) s.1 := by simp [lonS, List.foldl_append]
theorem lonS_spec : ∀ l : List (Int × Int), 0 ≤ lonS l ∧ (∀ s ∈ l, s.2 ≠ 0 → s.1 ≤ lonS l) ∧ (lonS l ≠ 0 → ∃ s ∈ l, s.2 ≠ 0 ∧ s.1 = lonS l) := by
  refine snoc_ind ⟨Int.le_refl _, fun s hs => (by cases hs), fun h => absurd rfl h⟩ ?_
  intro l s ⟨i0, i1, i2⟩
  rw [lonS_snoc]
  by_cases h : s.2 = 0
  · rw [if_pos h]
    refine ⟨i0, fun x hx hx2 => ?_, fun h0 => ?_⟩
    · rcases List.mem_append.1 hx with hx | hx
      · exact i1 x hx hx2
      · rw [List.mem_singleton] at hx; subst hx; exact absurd h hx2
    · obtain ⟨x, hx, e⟩ := i2 h0
      exact ⟨x, by simp [hx], e⟩
  · rw [if_neg h]
    refine ⟨by omega, fun x hx hx2 => ?_, fun h0 => ?_⟩
    · rcases List.mem_append.1 hx with hx | hx
      · have := i1 x hx hx2; omega
      · rw [List.mem_singleton] at hx; subst hx; omega
    · by_cases hm : s.1 ≤ lonS l
      · obtain ⟨x, hx, e1, e2⟩ := i2 (by omega)
        exact ⟨x, by simp [hx], e1, by omega⟩
      · exact ⟨s, by simp, h, by omega⟩
def fitP (s l : List (Int × Int)) : Prop := ∀ p ∈ l, p.1 ≤ lonS s
instance (s l) : Decidable (fitP s l) := by unfold fitP; infer_instance
def fitV (s l : List (Int × Int)) : Prop := okStock s ∧ okOrd l ∧ fitP s l
instance (s l) : Decidable (fitV s l) := by unfold fitV; infer_instance
def fitE (s l : List (Int × Int)) : Int := if okStock s ∧ okOrd l then 0 else 1
theorem fits1_fun (k : Int) (s : Int × Int) : Fun Try.prog 41 [.agg (pairC s), .sadr [.lit (.int .i64 k)] 0] (Ret (.lit (.bool (decide (k < s.1)))) []) := by
  obtain ⟨sx, sy⟩ := s
  refine Fun.of (nt := 8) (rs := [.tmp 3]) Try.func41 rfl rfl rfl rfl rfl ?_
  refine Ev.sr fun K hK => S.nn (q.bx [_, _] true) (S.o q.as (S.end (hK _ ?_)))
  clear hK K
  refine Ev.sr fun K hK => S.o (q.fa 0 am_fi40_0 am_cl3) (S.o (q.lv am_ag3) (S.o (q.ls am_ag3) (S.o q.gtr (S.o q.as (S.end (hK _ ?_))))))
  clear hK K
  refine Ev.ret ?_
  refine Ev.ret1 ?_
  refine ⟨?_, rfl⟩
  rfl

theorem fitE1 {s l : List (Int × Int)} (hs : okStock s) (hl : okOrd l) : AV.tup [AV.lit (.bool (!decide (∃ x ∈ l, decide (lonS s < x.1) = true))), .lit (.int .i64 0)] = .tup [.lit (.bool (decide (fitV s l))), .lit (.int .i64 (fitE s l))] := by
  rw [show fitE s l = 0 from if_pos ⟨hs, hl⟩]
  by_cases h2 : ∃ x ∈ l, decide (lonS s < x.1) = true
  · rw [decide_eq_true h2, decide_eq_false]
    · rfl
    · rintro ⟨_, _, h3⟩
      obtain ⟨x, hx, e⟩ := h2
      have := of_decide_eq_true e
      have := h3 x hx
      omega
  · rw [decide_eq_false h2, decide_eq_true]
    · rfl
    · exact ⟨hs, hl, fun p hp => Classical.byContradiction fun hn => h2 ⟨p, hp, decide_eq_true (by omega)⟩⟩
theorem fitN {s l : List (Int × Int)} (h : ¬ (okStock s ∧ okOrd l)) : AV.tup [AV.lit (.bool false), .lit (.int .i64 1)] = .tup [.lit (.bool (decide (fitV s l))), .lit (.int .i64 (fitE s l))] := by
  rw [show fitE s l = 1 from if_neg h, decide_eq_false fun hv => h ⟨hv.1, hv.2.1⟩]
theorem stFits_fun (s l : List (Int × Int)) (hs : s.length ≤ 140737488355328) (hl : l.length ≤ 140737488355328) : Fun Try.prog 11 [.sh 2 (s.map pairC), .sh 2 (l.map pairC)] (Ret (.tup [.lit (.bool (decide (fitV s l))), .lit (.int .i64 (fitE s l))]) []) := by
  refine Fun.of (nt := 35) (rs := [.tmp 4, .tmp 5]) Try.func11 rfl rfl rfl rfl rfl ?_
  refine Ev.sr fun K hK => S.o q.as (S.o q.as (S.end (hK _ ?_)))
  clear hK K
  refine Ev.seq ?_
  refine Ev.sr fun K hK => S.o q.mv (S.c0 (hF := stValid_fun _ (by omega)) (h := S.o q.not (S.bn q.mv (fun c1 => ?_) (fun c1 => ?_))))
  · first
  | (first | omega | contradiction)
  | refine S.sk (S.sk (S.sk (S.o q.pt (S.end (hK _ ?_)))))
    clear hK K
    refine Ev.ct ?_
    refine Ev.sr fun K hK => S.o q.as (S.o q.as (S.end (hK _ ?_)))
    clear hK K
    refine Ev.ret ?_
    refine Ev.ret2 ?_
    refine ⟨?_, rfl⟩
    first
     | exact fitN (fun h => absurd h.1 ‹_›)
     | exact fitN (fun h => absurd h.2 ‹_›)
     | (rw [hp]; exact fitE1 hos hol)
  · first
  | (first | omega | contradiction)
  | refine S.o q.mv (S.c0 (hF := order_fun _ (by omega)) (h := S.o q.not (S.o q.pf (S.end (hK _ ?_)))))
    clear hK K
    refine Ev.cn (fun c2 => ?_) (fun c2 => ?_)
    · first
    | (first | omega | contradiction)
    | refine Ev.sr fun K hK => S.o q.as (S.o q.as (S.end (hK _ ?_)))
      clear hK K
      refine Ev.ret ?_
      refine Ev.ret2 ?_
      refine ⟨?_, rfl⟩
      first
       | exact fitN (fun h => absurd h.1 ‹_›)
       | exact fitN (fun h => absurd h.2 ‹_›)
       | (rw [hp]; exact fitE1 hos hol)
    · first
    | (first | omega | contradiction)
    | refine Ev.skip ?_
      show Ev _ _ _ _
      have hos : okStock s := ‹_›
      have hol : okOrd l := ‹_›
      have hsl := hos.1
      have hll := hol.1
      refine Ev.sr fun K hK => S.nn (q.al am_ze3) (S.sv [_] true [] am_in3 am_cl3 (h := S.end (hK _ ?_)))
      clear hK K
      refine Ev.seq ?_
      refine Ev.sr fun K hK => S.o q.mv (S.o (q.lens am_el22) (S.o q.mv (S.end (hK _ ?_))))
      clear hK K
      refine Ev.block ?_
      refine Ev.loopU (ι := {p : List (Int × Int) × List (Int × Int) // p.1 ++ p.2 = s ∧ True}) [0] [1, 4, 5, 6, 17, 18] (fun ⟨(pre, suf), _⟩ => [(19, .lit (.int .i64 ((pre.length : Int))))]) (fun ⟨(pre, suf), _⟩ => [(0, ⟨false, 3, 1, [[.lit (.int .i64 (lonS pre))]], true⟩)]) (fun ⟨(pre, suf), _⟩ => suf.length) ⟨([], s), rfl, trivial⟩ (.c (.c (.c (.c (.c (.c .n)))))) (keep_c (he := (by first | rfl | (rw [lonS_snoc, if_neg ‹_›]; done) | (rw [lonS_snoc, if_pos (by omega)]; done))) (h := keep_n)) (slots_c (he := (by first | rfl | (congr 2; simp; done))) (h := trivial)) ?_
      rintro ⟨⟨pre, suf⟩, hp, hinv⟩ R0 hR0
      dsimp only [List.cons_append, List.nil_append, List.length_cons, List.length_nil]
      simp only at hp hinv
      have hpl : pre.length + suf.length = (s).length := by rw [← hp, List.length_append]
      rcases suf with _ | ⟨t, suf⟩
      · rw [List.append_nil] at hp; simp only [List.length_nil] at hpl
        refine Ev.sr fun K hK => S.o q.lss (S.end (hK _ ?_))
        clear hK K
        refine Ev.ud (fun c3 => ?_) (fun c3 => ?_)
        · first
        | (first | omega | contradiction)
        | refine Ev.seq ?_
          refine Ev.block ?_
          refine Ev.sr fun K hK => S.o (q.ix am_el22 am_cl37 (hl := (by first | exact atig (by omega)))) (S.o (q.lsA [_, _] am_ag37 am_cl37) (S.nn (q.al am_ze37) (S.sv [_, _] true [_] am_in37 am_cl37 (h := S.end (hK _ ?_)))))
          clear hK K
          refine Ev.sr fun K hK => S.o (q.fa 1 am_fi37_1 am_cl3) (S.o (q.lv am_ag3) (S.o q.neq (S.end (hK _ ?_))))
          clear hK K
          refine Ev.cn (fun c4 => ?_) (fun c4 => ?_)
          · first
          | (first | omega | contradiction)
          | refine Ev.region_S fun K hK => S.o (q.lv am_ag3) (S.o (q.fa 0 am_fi37_0 am_cl3) (S.o (q.lv am_ag3) (S.o q.max (S.sv [_] true [_] am_in3 am_cl3 (h := S.end (hK _ ?_))))))
            clear hK K
            show Ev _ _ _ _
            refine Ev.region_S fun K hK => S.o q.add (S.o q.mv (S.end (hK _ ?_)))
            clear hK K
            refine hR0 _ _ ?_
            refine roundU [0] [1, 4, 5, 6, 17, 18] ⟨(pre ++ [(sx, sy)], suf), by rw [← hp]; simp, ?_⟩ ?_ (keep_c (he := (by first | rfl | (rw [lonS_snoc, if_neg ‹_›]; done) | (rw [lonS_snoc, if_pos (by omega)]; done))) (h := keep_n)) (slots_c (he := (by first | rfl | (congr 2; simp; done))) (h := trivial)) (.c (.c (.c (.c (.c (.c .n))))))
            trivial
            all_goals (dsimp only; simp only [List.length_cons]; omega)
          · first
          | (first | omega | contradiction)
          | refine Ev.skip ?_
            show Ev _ _ _ _
            refine Ev.region_S fun K hK => S.o q.add (S.o q.mv (S.end (hK _ ?_)))
            clear hK K
            refine hR0 _ _ ?_
            refine roundU [0] [1, 4, 5, 6, 17, 18] ⟨(pre ++ [(sx, sy)], suf), by rw [← hp]; simp, ?_⟩ ?_ (keep_c (he := (by first | rfl | (rw [lonS_snoc, if_neg ‹_›]; done) | (rw [lonS_snoc, if_pos (by omega)]; done))) (h := keep_n)) (slots_c (he := (by first | rfl | (congr 2; simp; done))) (h := trivial)) (.c (.c (.c (.c (.c (.c .n))))))
            trivial
            all_goals (dsimp only; simp only [List.length_cons]; omega)
        · first
        | (first | omega | contradiction)
        | refine Ev.exit ?_
          refine hR0 _ _ ?_
          show Ev _ _ _ _
          refine Ev.sr fun K hK => S.o q.mv (S.o q.mf (S.c0 (hF := containsFuncPc1 _ [.lit (.int .i64 (lonS pre))] (fun x => decide (lonS pre < x.1)) (fun x => fits1_fun (lonS pre) x) l (by omega)) (h := S.o q.not (S.o q.as (S.o q.as (S.end (hK _ ?_)))))))
          clear hK K
          refine Ev.ret ?_
          refine Ev.ret2 ?_
          refine ⟨?_, rfl⟩
          first
           | exact fitN (fun h => absurd h.1 ‹_›)
           | exact fitN (fun h => absurd h.2 ‹_›)
           | (rw [hp]; exact fitE1 hos hol)
      · simp only [List.length_cons] at hpl
        have hidx : s[pre.length]? = some t := by rw [← hp]; simp
        obtain ⟨sx, sy⟩ := t
        have hl0 := (lonS_spec pre).1
        refine Ev.sr fun K hK => S.o q.lss (S.end (hK _ ?_))
        clear hK K
        refine Ev.ud (fun c5 => ?_) (fun c5 => ?_)
        · first
        | (first | omega | contradiction)
        | refine Ev.seq ?_
          refine Ev.block ?_
          refine Ev.sr fun K hK => S.o (q.ix am_el22 am_cl37 (hl := (by first | exact ati hidx (by omega) | exact atig (by omega)))) (S.o (q.lsA [_, _] am_ag37 am_cl37) (S.nn (q.al am_ze37) (S.sv [_, _] true [_] am_in37 am_cl37 (h := S.end (hK _ ?_)))))
          clear hK K
          refine Ev.sr fun K hK => S.o (q.fa 1 am_fi37_1 am_cl3) (S.o (q.lv am_ag3) (S.o q.neq (S.end (hK _ ?_))))
          clear hK K
          refine Ev.cn (fun c6 => ?_) (fun c6 => ?_)
          · first
          | (first | omega | contradiction)
          | refine Ev.region_S fun K hK => S.o (q.lv am_ag3) (S.o (q.fa 0 am_fi37_0 am_cl3) (S.o (q.lv am_ag3) (S.o q.max (S.sv [_] true [_] am_in3 am_cl3 (h := S.end (hK _ ?_))))))
            clear hK K
            show Ev _ _ _ _
            refine Ev.region_S fun K hK => S.o q.add (S.o q.mv (S.end (hK _ ?_)))
            clear hK K
            refine hR0 _ _ ?_
            refine roundU [0] [1, 4, 5, 6, 17, 18] ⟨(pre ++ [(sx, sy)], suf), by rw [← hp]; simp, ?_⟩ ?_ (keep_c (he := (by first | rfl | (rw [lonS_snoc, if_neg ‹_›]; done) | (rw [lonS_snoc, if_pos (by omega)]; done))) (h := keep_n)) (slots_c (he := (by first | rfl | (congr 2; simp; done))) (h := trivial)) (.c (.c (.c (.c (.c (.c .n))))))
            trivial
            all_goals (dsimp only; simp only [List.length_cons]; omega)
          · first
          | (first | omega | contradiction)
          | refine Ev.skip ?_
            show Ev _ _ _ _
            refine Ev.region_S fun K hK => S.o q.add (S.o q.mv (S.end (hK _ ?_)))
            clear hK K
            refine hR0 _ _ ?_
            refine roundU [0] [1, 4, 5, 6, 17, 18] ⟨(pre ++ [(sx, sy)], suf), by rw [← hp]; simp, ?_⟩ ?_ (keep_c (he := (by first | rfl | (rw [lonS_snoc, if_neg ‹_›]; done) | (rw [lonS_snoc, if_pos (by omega)]; done))) (h := keep_n)) (slots_c (he := (by first | rfl | (congr 2; simp; done))) (h := trivial)) (.c (.c (.c (.c (.c (.c .n))))))
            trivial
            all_goals (dsimp only; simp only [List.length_cons]; omega)
        · first
        | (first | omega | contradiction)
        | refine Ev.exit ?_
          refine hR0 _ _ ?_
          show Ev _ _ _ _
          refine Ev.sr fun K hK => S.o q.mv (S.o q.mf (S.c0 (hF := containsFuncPc1 _ [.lit (.int .i64 (lonS pre))] (fun x => decide (lonS pre < x.1)) (fun x => fits1_fun (lonS pre) x) l (by omega)) (h := S.o q.not (S.o q.as (S.o q.as (S.end (hK _ ?_)))))))
          clear hK K
          refine Ev.ret ?_
          refine Ev.ret2 ?_
          refine ⟨?_, rfl⟩
          first
           | exact fitN (fun h => absurd h.1 ‹_›)
           | exact fitN (fun h => absurd h.2 ‹_›)
           | (rw [hp]; exact fitE1 hos hol)
theorem rFits_fun (s l : List (Int × Int)) (hs : s.length ≤ 140737488355328) (hl : l.length ≤ 140737488355328) : Fun Try.prog 18 [.sh 2 (s.map pairC), .sh 2 (l.map pairC)] (Ret (.lit (.bool (decide (fitP s l)))) []) := by
  refine Fun.of (nt := 40) (rs := [.tmp 4]) Try.func18 rfl rfl rfl rfl rfl ?_
  refine Ev.sr fun K hK => S.o q.as (S.end (hK _ ?_))
  clear hK K
  refine Ev.sr fun K hK => S.o q.as (S.end (hK _ ?_))
  clear hK K
  refine Ev.seq ?_
  refine Ev.sr fun K hK => S.o q.as (S.end (hK _ ?_))
  clear hK K
  refine Ev.block ?_
  refine Ev.loopU (ι := {p : List (Int × Int) × List (Int × Int) // p.1 ++ p.2 = s ∧ True}) [] [0, 1, 4] (fun ⟨(pre, suf), _⟩ => [(6, .lit (.int .i64 ((pre.length : Int)))), (5, .lit (.int .i64 (lonS pre)))]) (fun ⟨(pre, suf), _⟩ => []) (fun ⟨(pre, suf), _⟩ => suf.length) ⟨([], s), rfl, trivial⟩ (.c (.c (.c .n))) keep_n (slots_c (he := (by first | rfl | (congr 2; simp; done))) (h := (slots_c (he := (by first | rfl | exact iE (by rw [lonS_snoc, if_neg ‹_›]) | exact iE (by rw [lonS_snoc, if_pos (by omega)]) | (rw [lonS_snoc, if_neg ‹_›]; done) | (rw [lonS_snoc, if_pos (by omega)]; done))) (h := trivial)))) ?_
  rintro ⟨⟨pre, suf⟩, hp, hinv⟩ R0 hR0
  dsimp only [List.cons_append, List.nil_append, List.length_cons, List.length_nil]
  simp only at hp hinv
  have hpl : pre.length + suf.length = (s).length := by rw [← hp, List.length_append]
  rcases suf with _ | ⟨t, suf⟩
  · rw [List.append_nil] at hp; simp only [List.length_nil] at hpl
    refine Ev.seq ?_
    refine Ev.sr fun K hK => S.o q.mv (S.o q.mv (S.o (q.lens am_el22) (S.o q.lss (S.end (hK _ ?_)))))
    clear hK K
    refine Ev.cd (fun c1 => ?_) (fun c1 => ?_)
    · first
    | (first | omega | contradiction)
    | refine Ev.skip ?_
      show Ev _ _ _ _
      refine Ev.seq ?_
      refine Ev.block ?_
      refine Ev.sr fun K hK => S.o q.mv (S.o q.mv (S.o (q.ix am_el22 am_cl37 (hl := (by first | exact atig (by omega)))) (S.o (q.fs 1 am_fi37_1 am_cl3) (S.o (q.ls am_ag3) (S.o q.neq (S.end (hK _ ?_)))))))
      clear hK K
      refine Ev.cn (fun c2 => ?_) (fun c2 => ?_)
      · first
      | (first | omega | contradiction)
      | refine Ev.region_S fun K hK => S.o q.mv (S.o q.mv (S.o q.mv (S.o (q.ix am_el22 am_cl37 (hl := (by first | exact atig (by omega)))) (S.o (q.fs 0 am_fi37_0 am_cl3) (S.o (q.ls am_ag3) (S.o q.max (S.o q.as (S.end (hK _ ?_)))))))))
        clear hK K
        show Ev _ _ _ _
        refine Ev.region_S fun K hK => S.o q.mv (S.o q.add (S.o q.as (S.end (hK _ ?_))))
        clear hK K
        refine hR0 _ _ ?_
        refine roundU [] [0, 1, 4] ⟨(pre ++ [(sx, sy)], suf), by rw [← hp]; simp, ?_⟩ ?_ keep_n (slots_c (he := (by first | rfl | (congr 2; simp; done))) (h := (slots_c (he := (by first | rfl | exact iE (by rw [lonS_snoc, if_neg ‹_›]) | exact iE (by rw [lonS_snoc, if_pos (by omega)]) | (rw [lonS_snoc, if_neg ‹_›]; done) | (rw [lonS_snoc, if_pos (by omega)]; done))) (h := trivial)))) (.c (.c (.c .n)))
        trivial
        all_goals (dsimp only; simp only [List.length_cons]; omega)
      · first
      | (first | omega | contradiction)
      | refine Ev.skip ?_
        show Ev _ _ _ _
        refine Ev.region_S fun K hK => S.o q.mv (S.o q.add (S.o q.as (S.end (hK _ ?_))))
        clear hK K
        refine hR0 _ _ ?_
        refine roundU [] [0, 1, 4] ⟨(pre ++ [(sx, sy)], suf), by rw [← hp]; simp, ?_⟩ ?_ keep_n (slots_c (he := (by first | rfl | (congr 2; simp; done))) (h := (slots_c (he := (by first | rfl | exact iE (by rw [lonS_snoc, if_neg ‹_›]) | exact iE (by rw [lonS_snoc, if_pos (by omega)]) | (rw [lonS_snoc, if_neg ‹_›]; done) | (rw [lonS_snoc, if_pos (by omega)]; done))) (h := trivial)))) (.c (.c (.c .n)))
        trivial
        all_goals (dsimp only; simp only [List.length_cons]; omega)
    · first
    | (first | omega | contradiction)
    | refine Ev.exit ?_
      refine hR0 _ _ ?_
      show Ev _ _ _ _
      refine Ev.seq ?_
      refine Ev.sr fun K hK => S.o q.as (S.end (hK _ ?_))
      clear hK K
      refine Ev.block ?_
      refine Ev.loopU (ι := {q : List (Int × Int) × List (Int × Int) // q.1 ++ q.2 = l ∧ ∀ b ∈ q.1, b.1 ≤ lonS s}) [] [0, 1, 5, 6, 8, 9, 10, 11] (fun ⟨(pre2, suf2), _⟩ => [(7, .lit (.int .i64 ((pre2.length : Int))))]) (fun ⟨(pre2, suf2), _⟩ => []) (fun ⟨(pre2, suf2), _⟩ => suf2.length) ⟨([], l), rfl, fun x hx => by simp at hx⟩ (.c (.c (.c (.c (.c (.c (.c (.c .n)))))))) keep_n (slots_c (he := (by first | rfl | (congr 2; simp; done))) (h := trivial)) ?_
      rintro ⟨⟨pre2, suf2⟩, hp2, hinv2⟩ R2 hR2
      dsimp only [List.cons_append, List.nil_append, List.length_cons, List.length_nil]
      simp only at hp2 hinv2
      have hpl2 : pre2.length + suf2.length = l.length := by rw [← hp2, List.length_append]
      rcases suf2 with _ | ⟨t2, suf2⟩
      · rw [List.append_nil] at hp2; simp only [List.length_nil] at hpl2
        refine Ev.seq ?_
        refine Ev.sr fun K hK => S.o q.mv (S.o q.mv (S.o (q.lens am_el23) (S.o q.lss (S.end (hK _ ?_)))))
        clear hK K
        refine Ev.cd (fun c3 => ?_) (fun c3 => ?_)
        · first
        | (first | omega | contradiction)
        | refine Ev.skip ?_
          show Ev _ _ _ _
          refine Ev.seq ?_
          refine Ev.block ?_
          refine Ev.sr fun K hK => S.o q.mv (S.o q.mv (S.o (q.ix am_el23 am_cl40 (hl := (by first | exact atig (by omega)))) (S.o (q.fs 0 am_fi40_0 am_cl3) (S.o (q.ls am_ag3) (S.o q.mv (S.o q.gtr (S.end (hK _ ?_))))))))
          clear hK K
          refine Ev.cd (fun c4 => ?_) (fun c4 => ?_)
          · first
          | (first | omega | contradiction)
          | refine Ev.sr fun K hK => S.o q.as (S.end (hK _ ?_))
            clear hK K
            refine Ev.ret ?_
            refine hR2 _ _ ?_
            refine Ev.ret1 ?_
            refine ⟨?_, rfl⟩
            first
             | exact bF (fun h => by have := h (tx, ty) (by rw [← hp2]; simp); rw [← hp] at this; simp only at this; omega)
             | exact bT (by rw [← hp2]; exact hinv2)
          · first
          | (first | omega | contradiction)
          | refine Ev.skip ?_
            show Ev _ _ _ _
            refine Ev.region_S fun K hK => S.o q.mv (S.o q.add (S.o q.as (S.end (hK _ ?_))))
            clear hK K
            refine hR2 _ _ ?_
            refine roundU [] [0, 1, 5, 6, 8, 9, 10, 11] ⟨(pre2 ++ [(tx, ty)], suf2), by rw [← hp2]; simp, ?_⟩ ?_ keep_n (slots_c (he := (by first | rfl | (congr 2; simp; done))) (h := trivial)) (.c (.c (.c (.c (.c (.c (.c (.c .n))))))))
            intro x hx; simp only [List.mem_append, List.mem_singleton] at hx; rcases hx with hx | rfl
            · exact hinv2 x hx
            · rw [← hp]; simp only; omega
            all_goals (dsimp only; simp only [List.length_cons]; omega)
        · first
        | (first | omega | contradiction)
        | refine Ev.exit ?_
          refine hR2 _ _ ?_
          show Ev _ _ _ _
          refine Ev.sr fun K hK => S.o q.as (S.end (hK _ ?_))
          clear hK K
          refine Ev.ret ?_
          refine Ev.ret1 ?_
          refine ⟨?_, rfl⟩
          first
           | exact bF (fun h => by have := h (tx, ty) (by rw [← hp2]; simp); rw [← hp] at this; simp only at this; omega)
           | exact bT (by rw [← hp2]; exact hinv2)
      · simp only [List.length_cons] at hpl2
        have hidx2 : l[pre2.length]? = some t2 := by rw [← hp2]; simp
        obtain ⟨tx, ty⟩ := t2
        refine Ev.seq ?_
        refine Ev.sr fun K hK => S.o q.mv (S.o q.mv (S.o (q.lens am_el23) (S.o q.lss (S.end (hK _ ?_)))))
        clear hK K
        refine Ev.cd (fun c5 => ?_) (fun c5 => ?_)
        · first
        | (first | omega | contradiction)
        | refine Ev.skip ?_
          show Ev _ _ _ _
          refine Ev.seq ?_
          refine Ev.block ?_
          refine Ev.sr fun K hK => S.o q.mv (S.o q.mv (S.o (q.ix am_el23 am_cl40 (hl := (by first | exact ati hidx2 (by omega) | exact atig (by omega)))) (S.o (q.fs 0 am_fi40_0 am_cl3) (S.o (q.ls am_ag3) (S.o q.mv (S.o q.gtr (S.end (hK _ ?_))))))))
          clear hK K
          refine Ev.cd (fun c6 => ?_) (fun c6 => ?_)
          · first
          | (first | omega | contradiction)
          | refine Ev.sr fun K hK => S.o q.as (S.end (hK _ ?_))
            clear hK K
            refine Ev.ret ?_
            refine hR2 _ _ ?_
            refine Ev.ret1 ?_
            refine ⟨?_, rfl⟩
            first
             | exact bF (fun h => by have := h (tx, ty) (by rw [← hp2]; simp); rw [← hp] at this; simp only at this; omega)
             | exact bT (by rw [← hp2]; exact hinv2)
          · first
          | (first | omega | contradiction)
          | refine Ev.skip ?_
            show Ev _ _ _ _
            refine Ev.region_S fun K hK => S.o q.mv (S.o q.add (S.o q.as (S.end (hK _ ?_))))
            clear hK K
            refine hR2 _ _ ?_
            refine roundU [] [0, 1, 5, 6, 8, 9, 10, 11] ⟨(pre2 ++ [(tx, ty)], suf2), by rw [← hp2]; simp, ?_⟩ ?_ keep_n (slots_c (he := (by first | rfl | (congr 2; simp; done))) (h := trivial)) (.c (.c (.c (.c (.c (.c (.c (.c .n))))))))
            intro x hx; simp only [List.mem_append, List.mem_singleton] at hx; rcases hx with hx | rfl
            · exact hinv2 x hx
            · rw [← hp]; simp only; omega
            all_goals (dsimp only; simp only [List.length_cons]; omega)
        · first
        | (first | omega | contradiction)
        | refine Ev.exit ?_
          refine hR2 _ _ ?_
          show Ev _ _ _ _
          refine Ev.sr fun K hK => S.o q.as (S.end (hK _ ?_))
          clear hK K
          refine Ev.ret ?_
          refine Ev.ret1 ?_
          refine ⟨?_, rfl⟩
          first
           | exact bF (fun h => by have := h (tx, ty) (by rw [← hp2]; simp); rw [← hp] at this; simp only at this; omega)
           | exact bT (by rw [← hp2]; exact hinv2)
  · simp only [List.length_cons] at hpl
    have hidx : s[pre.length]? = some t := by rw [← hp]; simp
    obtain ⟨sx, sy⟩ := t
    have hl0 := (lonS_spec pre).1
    refine Ev.seq ?_
    refine Ev.sr fun K hK => S.o q.mv (S.o q.mv (S.o (q.lens am_el22) (S.o q.lss (S.end (hK _ ?_)))))
    clear hK K
    refine Ev.cd (fun c7 => ?_) (fun c7 => ?_)
    · first
    | (first | omega | contradiction)
    | refine Ev.skip ?_
      show Ev _ _ _ _
      refine Ev.seq ?_
      refine Ev.block ?_
      refine Ev.sr fun K hK => S.o q.mv (S.o q.mv (S.o (q.ix am_el22 am_cl37 (hl := (by first | exact ati hidx (by omega) | exact atig (by omega)))) (S.o (q.fs 1 am_fi37_1 am_cl3) (S.o (q.ls am_ag3) (S.o q.neq (S.end (hK _ ?_)))))))
      clear hK K
      refine Ev.cn (fun c8 => ?_) (fun c8 => ?_)
      · first
      | (first | omega | contradiction)
      | refine Ev.region_S fun K hK => S.o q.mv (S.o q.mv (S.o q.mv (S.o (q.ix am_el22 am_cl37 (hl := (by first | exact ati hidx (by omega) | exact atig (by omega)))) (S.o (q.fs 0 am_fi37_0 am_cl3) (S.o (q.ls am_ag3) (S.o q.max (S.o q.as (S.end (hK _ ?_)))))))))
        clear hK K
        show Ev _ _ _ _
        refine Ev.region_S fun K hK => S.o q.mv (S.o q.add (S.o q.as (S.end (hK _ ?_))))
        clear hK K
        refine hR0 _ _ ?_
        refine roundU [] [0, 1, 4] ⟨(pre ++ [(sx, sy)], suf), by rw [← hp]; simp, ?_⟩ ?_ keep_n (slots_c (he := (by first | rfl | (congr 2; simp; done))) (h := (slots_c (he := (by first | rfl | exact iE (by rw [lonS_snoc, if_neg ‹_›]) | exact iE (by rw [lonS_snoc, if_pos (by omega)]) | (rw [lonS_snoc, if_neg ‹_›]; done) | (rw [lonS_snoc, if_pos (by omega)]; done))) (h := trivial)))) (.c (.c (.c .n)))
        trivial
        all_goals (dsimp only; simp only [List.length_cons]; omega)
      · first
      | (first | omega | contradiction)
      | refine Ev.skip ?_
        show Ev _ _ _ _
        refine Ev.region_S fun K hK => S.o q.mv (S.o q.add (S.o q.as (S.end (hK _ ?_))))
        clear hK K
        refine hR0 _ _ ?_
        refine roundU [] [0, 1, 4] ⟨(pre ++ [(sx, sy)], suf), by rw [← hp]; simp, ?_⟩ ?_ keep_n (slots_c (he := (by first | rfl | (congr 2; simp; done))) (h := (slots_c (he := (by first | rfl | exact iE (by rw [lonS_snoc, if_neg ‹_›]) | exact iE (by rw [lonS_snoc, if_pos (by omega)]) | (rw [lonS_snoc, if_neg ‹_›]; done) | (rw [lonS_snoc, if_pos (by omega)]; done))) (h := trivial)))) (.c (.c (.c .n)))
        trivial
        all_goals (dsimp only; simp only [List.length_cons]; omega)
    · first
    | (first | omega | contradiction)
    | refine Ev.exit ?_
      refine hR0 _ _ ?_
      show Ev _ _ _ _
      refine Ev.seq ?_
      refine Ev.sr fun K hK => S.o q.as (S.end (hK _ ?_))
      clear hK K
      refine Ev.block ?_
      refine Ev.loopU (ι := {q : List (Int × Int) × List (Int × Int) // q.1 ++ q.2 = l ∧ ∀ b ∈ q.1, b.1 ≤ lonS s}) [] [0, 1, 5, 6, 8, 9, 10, 11] (fun ⟨(pre2, suf2), _⟩ => [(7, .lit (.int .i64 ((pre2.length : Int))))]) (fun ⟨(pre2, suf2), _⟩ => []) (fun ⟨(pre2, suf2), _⟩ => suf2.length) ⟨([], l), rfl, fun x hx => by simp at hx⟩ (.c (.c (.c (.c (.c (.c (.c (.c .n)))))))) keep_n (slots_c (he := (by first | rfl | (congr 2; simp; done))) (h := trivial)) ?_
      rintro ⟨⟨pre2, suf2⟩, hp2, hinv2⟩ R2 hR2
      dsimp only [List.cons_append, List.nil_append, List.length_cons, List.length_nil]
      simp only at hp2 hinv2
      have hpl2 : pre2.length + suf2.length = l.length := by rw [← hp2, List.length_append]
      rcases suf2 with _ | ⟨t2, suf2⟩
      · rw [List.append_nil] at hp2; simp only [List.length_nil] at hpl2
        refine Ev.seq ?_
        refine Ev.sr fun K hK => S.o q.mv (S.o q.mv (S.o (q.lens am_el23) (S.o q.lss (S.end (hK _ ?_)))))
        clear hK K
        refine Ev.cd (fun c9 => ?_) (fun c9 => ?_)
        · first
        | (first | omega | contradiction)
        | refine Ev.skip ?_
          show Ev _ _ _ _
          refine Ev.seq ?_
          refine Ev.block ?_
          refine Ev.sr fun K hK => S.o q.mv (S.o q.mv (S.o (q.ix am_el23 am_cl40 (hl := (by first | exact ati hidx (by omega) | exact atig (by omega)))) (S.o (q.fs 0 am_fi40_0 am_cl3) (S.o (q.ls am_ag3) (S.o q.mv (S.o q.gtr (S.end (hK _ ?_))))))))
          clear hK K
          refine Ev.cd (fun c10 => ?_) (fun c10 => ?_)
          · first
          | (first | omega | contradiction)
          | refine Ev.sr fun K hK => S.o q.as (S.end (hK _ ?_))
            clear hK K
            refine Ev.ret ?_
            refine hR2 _ _ ?_
            refine Ev.ret1 ?_
            refine ⟨?_, rfl⟩
            first
             | exact bF (fun h => by have := h (tx, ty) (by rw [← hp2]; simp); rw [← hp] at this; simp only at this; omega)
             | exact bT (by rw [← hp2]; exact hinv2)
          · first
          | (first | omega | contradiction)
          | refine Ev.skip ?_
            show Ev _ _ _ _
            refine Ev.region_S fun K hK => S.o q.mv (S.o q.add (S.o q.as (S.end (hK _ ?_))))
            clear hK K
            refine hR2 _ _ ?_
            refine roundU [] [0, 1, 5, 6, 8, 9, 10, 11] ⟨(pre2 ++ [(tx, ty)], suf2), by rw [← hp2]; simp, ?_⟩ ?_ keep_n (slots_c (he := (by first | rfl | (congr 2; simp; done))) (h := trivial)) (.c (.c (.c (.c (.c (.c (.c (.c .n))))))))
            intro x hx; simp only [List.mem_append, List.mem_singleton] at hx; rcases hx with hx | rfl
            · exact hinv2 x hx
            · rw [← hp]; simp only; omega
            all_goals (dsimp only; simp only [List.length_cons]; omega)
        · first
        | (first | omega | contradiction)
        | refine Ev.exit ?_
          refine hR2 _ _ ?_
          show Ev _ _ _ _
          refine Ev.sr fun K hK => S.o q.as (S.end (hK _ ?_))
          clear hK K
          refine Ev.ret ?_
          refine Ev.ret1 ?_
          refine ⟨?_, rfl⟩
          first
           | exact bF (fun h => by have := h (tx, ty) (by rw [← hp2]; simp); rw [← hp] at this; simp only at this; omega)
           | exact bT (by rw [← hp2]; exact hinv2)
      · simp only [List.length_cons] at hpl2
        have hidx2 : l[pre2.length]? = some t2 := by rw [← hp2]; simp
        obtain ⟨tx, ty⟩ := t2
        refine Ev.seq ?_
        refine Ev.sr fun K hK => S.o q.mv (S.o q.mv (S.o (q.lens am_el23) (S.o q.lss (S.end (hK _ ?_)))))
        clear hK K
        refine Ev.cd (fun c11 => ?_) (fun c11 => ?_)
        · first
        | (first | omega | contradiction)
        | refine Ev.skip ?_
          show Ev _ _ _ _
          refine Ev.seq ?_
          refine Ev.block ?_
          refine Ev.sr fun K hK => S.o q.mv (S.o q.mv (S.o (q.ix am_el23 am_cl40 (hl := (by first | exact ati hidx (by omega) | exact ati hidx2 (by omega) | exact atig (by omega)))) (S.o (q.fs 0 am_fi40_0 am_cl3) (S.o (q.ls am_ag3) (S.o q.mv (S.o q.gtr (S.end (hK _ ?_))))))))
          clear hK K
          refine Ev.cd (fun c12 => ?_) (fun c12 => ?_)
          · first
          | (first | omega | contradiction)
          | refine Ev.sr fun K hK => S.o q.as (S.end (hK _ ?_))
            clear hK K
            refine Ev.ret ?_
            refine hR2 _ _ ?_
            refine Ev.ret1 ?_
            refine ⟨?_, rfl⟩
            first
             | exact bF (fun h => by have := h (tx, ty) (by rw [← hp2]; simp); rw [← hp] at this; simp only at this; omega)
             | exact bT (by rw [← hp2]; exact hinv2)
          · first
          | (first | omega | contradiction)
          | refine Ev.skip ?_
            show Ev _ _ _ _
            refine Ev.region_S fun K hK => S.o q.mv (S.o q.add (S.o q.as (S.end (hK _ ?_))))
            clear hK K
            refine hR2 _ _ ?_
            refine roundU [] [0, 1, 5, 6, 8, 9, 10, 11] ⟨(pre2 ++ [(tx, ty)], suf2), by rw [← hp2]; simp, ?_⟩ ?_ keep_n (slots_c (he := (by first | rfl | (congr 2; simp; done))) (h := trivial)) (.c (.c (.c (.c (.c (.c (.c (.c .n))))))))
            intro x hx; simp only [List.mem_append, List.mem_singleton] at hx; rcases hx with hx | rfl
            · exact hinv2 x hx
            · rw [← hp]; simp only; omega
            all_goals (dsimp only; simp only [List.length_cons]; omega)
        · first
        | (first | omega | contradiction)
        | refine Ev.exit ?_
          refine hR2 _ _ ?_
          show Ev _ _ _ _
          refine Ev.sr fun K hK => S.o q.as (S.end (hK _ ?_))
          clear hK K
          refine Ev.ret ?_
          refine Ev.ret1 ?_
          refine ⟨?_, rfl⟩
          first
           | exact bF (fun h => by have := h (tx, ty) (by rw [← hp2]; simp); rw [← hp] at this; simp only at this; omega)
           | exact bT (by rw [← hp2]; exact hinv2)
end Go.Proofs.Ytckahagagfmpbaa
