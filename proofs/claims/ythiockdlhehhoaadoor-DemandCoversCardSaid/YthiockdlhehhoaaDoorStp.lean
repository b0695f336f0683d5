/-
  Layer 10: steps.
  Conditions: none.
-/
import Derived.Test.YthiockdlhehhoaaDoorBase
namespace Go.Proofs.YthiockdlhehhoaaDoor
open Go Go.AM
set_option linter.unusedSimpArgs false
set_option linter.unusedVariables false
set_option maxRecDepth 100000
set_option maxHeartbeats 1000000

def Place (n : Int) : Prop := -1048576 ≤ n ∧ n ≤ 1048576
instance (n) : Decidable (Place n) := by unfold Place; infer_instance
def okStp (s : Int × Int) : Prop := Place s.1 ∧ 0 ≤ s.2 ∧ s.2 ≤ 1099511627776
instance (s) : Decidable (okStp s) := by unfold okStp; infer_instance
/-- Valid steps. -/
def okSteps (l : List (Int × Int)) : Prop := l.length ≤ 200 ∧ (∀ s ∈ l, okStp s) ∧ l.Pairwise fun a b => a.1 < b.1
instance (l) : Decidable (okSteps l) := by unfold okSteps; infer_instance
theorem asc_snoc {pre : List (Int × Int)} {s : Int × Int} (h : pre.Pairwise fun a b => a.1 < b.1) (hl : ∀ h : 0 < pre.length, (pre.getLast (List.ne_nil_of_length_pos h)).1 < s.1) : (pre ++ [s]).Pairwise fun a b => a.1 < b.1 := by
  refine List.pairwise_append.2 ⟨h, by simp, fun a ha b hb => ?_⟩
  simp only [List.mem_singleton] at hb
  subst hb
  have hpos : 0 < pre.length := List.length_pos_of_mem ha
  have h2 := hl hpos
  have hne := List.ne_nil_of_length_pos hpos
  rw [← List.dropLast_concat_getLast hne] at h ha
  rw [List.pairwise_append] at h
  rcases List.mem_append.1 ha with ha | ha
  · have := h.2.2 a ha _ (List.mem_singleton_self _)
    omega
  · simp only [List.mem_singleton] at ha
    rw [ha]; exact h2
theorem steps_snoc {pre : List (Int × Int)} {s : Int × Int} (h : (∀ x ∈ pre, okStp x) ∧ pre.Pairwise fun a b => a.1 < b.1) (hs : okStp s) (hl : ∀ h : 0 < pre.length, (pre.getLast (List.ne_nil_of_length_pos h)).1 < s.1) : (∀ x ∈ pre ++ [s], okStp x) ∧ (pre ++ [s]).Pairwise fun a b => a.1 < b.1 := by
  refine ⟨fun x hx => ?_, asc_snoc h.2 hl⟩
  simp only [List.mem_append, List.mem_singleton] at hx
  rcases hx with hx | rfl
  · exact h.1 x hx
  · exact hs
theorem steps_cut {pre suf l : List (Int × Int)} {s : Int × Int} (hp : pre ++ s :: suf = l) (h : okSteps l) : okStp s ∧ ∀ h : 0 < pre.length, (pre.getLast (List.ne_nil_of_length_pos h)).1 < s.1 := by
  obtain ⟨h1, h2, h3⟩ := h
  refine ⟨h2 s (by rw [← hp]; simp), fun hpos => ?_⟩
  rw [← hp, List.pairwise_append] at h3
  exact h3.2.2 _ (List.getLast_mem _) s (by simp)

theorem place_fun (n : Int) : Fun Tryd.prog 35 [.lit (.int .i64 n)] (Ret (.lit (.bool (decide (Place n)))) []) := by
  refine Fun.of (nt := 9) (rs := [.tmp 2]) Tryd.func35 rfl rfl rfl rfl rfl ?_
  refine Ev.sr fun K hK => S.o q.as (S.end (hK _ ?_))
  clear hK K
  refine Ev.sr fun K hK => S.o q.mv (S.o q.geq (S.bd q.mv (fun c1 => ?_) (fun c1 => ?_)))
  · first
  | (first | omega | contradiction)
  | refine S.o q.mv (S.o q.leq (S.o q.pt (S.o q.as (S.end (hK _ ?_)))))
    clear hK K
    refine Ev.ret ?_
    refine Ev.ret1 ?_
    refine ⟨?_, rfl⟩
    first | exact bT (by unfold Place; omega) | exact bF (by unfold Place; omega) | exact dI (by unfold Place; omega)
  · first
  | (first | omega | contradiction)
  | refine S.sk (S.sk (S.o q.pf (S.o q.as (S.end (hK _ ?_)))))
    clear hK K
    refine Ev.ret ?_
    refine Ev.ret1 ?_
    refine ⟨?_, rfl⟩
    first | exact bT (by unfold Place; omega) | exact bF (by unfold Place; omega) | exact dI (by unfold Place; omega)
theorem rbetween_fun (x lo hi : Int) : Fun Tryd.prog 44 [.lit (.int .i64 x), .lit (.int .i64 lo), .lit (.int .i64 hi)] (Ret (.lit (.bool (decide (lo ≤ x ∧ x ≤ hi)))) []) := by
  refine Fun.of (nt := 15) (rs := [.tmp 6]) Tryd.func44 rfl rfl rfl rfl rfl ?_
  refine Ev.sr fun K hK => S.o q.as (S.end (hK _ ?_))
  clear hK K
  refine Ev.sr fun K hK => S.o q.mv (S.o q.mv (S.o q.geq (S.bd q.mv (fun c1 => ?_) (fun c1 => ?_))))
  · first
  | (first | omega | contradiction)
  | refine S.o q.mv (S.o q.mv (S.o q.leq (S.o q.pt (S.o q.as (S.end (hK _ ?_))))))
    clear hK K
    refine Ev.ret ?_
    refine Ev.ret1 ?_
    refine ⟨?_, rfl⟩
    first | exact bT (by omega) | exact bF (by omega) | exact dI (by omega)
  · first
  | (first | omega | contradiction)
  | refine S.sk (S.sk (S.sk (S.o q.pf (S.o q.as (S.end (hK _ ?_))))))
    clear hK K
    refine Ev.ret ?_
    refine Ev.ret1 ?_
    refine ⟨?_, rfl⟩
    first | exact bT (by omega) | exact bF (by omega) | exact dI (by omega)
theorem rplace_fun (n : Int) : Fun Tryd.prog 43 [.lit (.int .i64 n)] (Ret (.lit (.bool (decide (Place n)))) []) := by
  refine Fun.of (nt := 5) (rs := [.tmp 2]) Tryd.func43 rfl rfl rfl rfl rfl ?_
  refine Ev.sr fun K hK => S.o q.as (S.end (hK _ ?_))
  clear hK K
  refine Ev.sr fun K hK => S.o q.mv (S.c0 (hF := rbetween_fun _ _ _) (h := S.o q.as (S.end (hK _ ?_))))
  clear hK K
  refine Ev.ret ?_
  refine Ev.ret1 ?_
  refine ⟨?_, rfl⟩
  first | rfl | exact dI (by unfold Place; omega)
theorem stepsValid_fun (l : List (Int × Int)) (hlen : l.length ≤ 140737488355328) : Fun Tryd.prog 31 [.sh 2 (l.map pairC)] (Ret (.lit (.bool (decide (okSteps l)))) []) := by
  refine Fun.of (nt := 45) (rs := [.tmp 2]) Tryd.func31 rfl rfl rfl rfl rfl ?_
  refine Ev.sr fun K hK => S.o q.as (S.end (hK _ ?_))
  clear hK K
  refine Ev.seq ?_
  refine Ev.sr fun K hK => S.o q.mv (S.o (q.lens am_el31) (S.o q.gtr (S.end (hK _ ?_))))
  clear hK K
  refine Ev.cd (fun c1 => ?_) (fun c1 => ?_)
  · first
  | (first | omega | contradiction)
  | refine Ev.sr fun K hK => S.o q.as (S.end (hK _ ?_))
    clear hK K
    refine Ev.ret ?_
    refine Ev.ret1 ?_
    refine ⟨?_, rfl⟩
    first
     | exact bF (fun h => by have h1 := h.1; omega)
     | exact bF (fun h => absurd (steps_cut hp h).1.1 ‹_›)
     | exact bF (fun h => by have h1 := (steps_cut hp h).1.2; simp only at h1; omega)
     | exact bF (fun h => by have h1 := (steps_cut hp h).2 (by omega); simp only at h1; omega)
     | exact bT ⟨by omega, by rw [← hp]; exact hinv⟩
  · first
  | (first | omega | contradiction)
  | refine Ev.skip ?_
    show Ev _ _ _ _
    refine Ev.seq ?_
    refine Ev.sr fun K hK => S.o q.mv (S.o (q.lens am_el31) (S.o q.mv (S.end (hK _ ?_))))
    clear hK K
    refine Ev.block ?_
    refine Ev.loopU (ι := {q : List (Int × Int) × List (Int × Int) // q.1 ++ q.2 = l ∧ (∀ x ∈ q.1, okStp x) ∧ q.1.Pairwise fun a b => a.1 < b.1}) [] [0, 8, 9] (fun ⟨(pre, suf), _⟩ => [(10, .lit (.int .i64 ((pre.length : Int))))]) (fun ⟨(pre, suf), _⟩ => []) (fun ⟨(pre, suf), _⟩ => suf.length) ⟨([], l), rfl, fun x hx => by simp at hx, .nil⟩ (.c (.c (.c .n))) keep_n (slots_c (he := (by first | rfl | (simp; done) | (congr 2; omega))) (h := trivial)) ?_
    rintro ⟨⟨pre, suf⟩, hp, hinv⟩ R0 hR0
    dsimp only [List.cons_append, List.nil_append, List.length_cons, List.length_nil]
    simp only at hp hinv
    have hpl : pre.length + suf.length = (l).length := by rw [← hp, List.length_append]
    rcases suf with _ | ⟨s, suf⟩
    · rw [List.append_nil] at hp; simp only [List.length_nil] at hpl
      refine Ev.sr fun K hK => S.o q.lss (S.end (hK _ ?_))
      clear hK K
      refine Ev.ud (fun c2 => ?_) (fun c2 => ?_)
      · first
      | (first | omega | contradiction)
      | refine Ev.seq ?_
        refine Ev.block ?_
        refine Ev.sr fun K hK => S.o q.mv (S.o (q.ix am_el31 am_cl40 (hl := (by first | exact atig (by omega)))) (S.o (q.lsA [_, _] am_ag40 am_cl40) (S.nn (q.al am_ze40) (S.o q.as (S.sv [_, _] true [] am_in40 am_cl40 (h := S.end (hK _ ?_)))))))
        clear hK K
        refine Ev.sm (tbs [(0, 0), (1, 1), (2, 3), (3, 7), (4, 15), (5, 31), (6, 63), (7, 127), (8, 255), (9, 511), (10, 1023), (11, 2047), (12, 4095), (13, 8191), (14, 16383), (15, 32767), (16, 65535), (17, 131071), (18, 262143), (19, 524287), (18, 262143), (18, 262143), (22, 2359295), (23, 7602175), (24, 15990783), (25, 32767999), (26, 67108863), (27, 134217727), (28, 268435455)]) 29 fun K hK => M.o (q.fa 0 am_fi40_0 am_cl3) (M.o (q.lv am_ag3) (M.c0 (hF := place_fun _) (h := M.o q.not (M.bn q.mv (fun c3 => ?_) (fun c3 => ?_)))))
        · first
        | (first | omega | contradiction)
        | refine M.sk (M.sk (M.sk (M.o q.pt (M.o q.mv (M.sk (M.sk (M.sk (M.o q.pt (M.o q.mv (M.sk (M.sk (M.sk (M.sk (M.sk (M.sk (M.sk (M.sk (M.sk (M.sk (M.sk (M.sk (M.sk (M.o q.pt (M.end [_] (h := S.end (hK _ ?_))))))))))))))))))))))))))
          clear hK K
          refine Ev.ct ?_
          refine Ev.sr fun K hK => S.o q.as (S.end (hK _ ?_))
          clear hK K
          refine Ev.ret ?_
          refine hR0 _ _ ?_
          refine Ev.ret1 ?_
          refine ⟨?_, rfl⟩
          first
           | exact bF (fun h => by have h1 := h.1; omega)
           | exact bF (fun h => absurd (steps_cut hp h).1.1 ‹_›)
           | exact bF (fun h => by have h1 := (steps_cut hp h).1.2; simp only at h1; omega)
           | exact bF (fun h => by have h1 := (steps_cut hp h).2 (by omega); simp only at h1; omega)
           | exact bT ⟨by omega, by rw [← hp]; exact hinv⟩
        · first
        | (first | omega | contradiction)
        | refine M.o (q.fa 1 am_fi40_1 am_cl3) (M.o (q.lv am_ag3) (M.o q.lss (M.o q.pf (M.bd q.mv (fun c4 => ?_) (fun c4 => ?_)))))
          · first
          | (first | omega | contradiction)
          | refine M.sk (M.sk (M.sk (M.o q.pt (M.o q.mv (M.sk (M.sk (M.sk (M.sk (M.sk (M.sk (M.sk (M.sk (M.sk (M.sk (M.sk (M.sk (M.sk (M.o q.pt (M.end [_] (h := S.end (hK _ ?_)))))))))))))))))))))
            clear hK K
            refine Ev.ct ?_
            refine Ev.sr fun K hK => S.o q.as (S.end (hK _ ?_))
            clear hK K
            refine Ev.ret ?_
            refine hR0 _ _ ?_
            refine Ev.ret1 ?_
            refine ⟨?_, rfl⟩
            first
             | exact bF (fun h => by have h1 := h.1; omega)
             | exact bF (fun h => absurd (steps_cut hp h).1.1 ‹_›)
             | exact bF (fun h => by have h1 := (steps_cut hp h).1.2; simp only at h1; omega)
             | exact bF (fun h => by have h1 := (steps_cut hp h).2 (by omega); simp only at h1; omega)
             | exact bT ⟨by omega, by rw [← hp]; exact hinv⟩
          · first
          | (first | omega | contradiction)
          | refine M.o (q.fa 1 am_fi40_1 am_cl3) (M.o (q.lv am_ag3) (M.o q.gtr (M.o q.pf (M.bd q.mv (fun c5 => ?_) (fun c5 => ?_)))))
            · first
            | (first | omega | contradiction)
            | refine M.sk (M.sk (M.sk (M.sk (M.sk (M.sk (M.sk (M.sk (M.sk (M.sk (M.sk (M.sk (M.sk (M.o q.pt (M.end [_] (h := S.end (hK _ ?_))))))))))))))))
              clear hK K
              refine Ev.ct ?_
              refine Ev.sr fun K hK => S.o q.as (S.end (hK _ ?_))
              clear hK K
              refine Ev.ret ?_
              refine hR0 _ _ ?_
              refine Ev.ret1 ?_
              refine ⟨?_, rfl⟩
              first
               | exact bF (fun h => by have h1 := h.1; omega)
               | exact bF (fun h => absurd (steps_cut hp h).1.1 ‹_›)
               | exact bF (fun h => by have h1 := (steps_cut hp h).1.2; simp only at h1; omega)
               | exact bF (fun h => by have h1 := (steps_cut hp h).2 (by omega); simp only at h1; omega)
               | exact bT ⟨by omega, by rw [← hp]; exact hinv⟩
            · first
            | (first | omega | contradiction)
            | refine M.o q.mv (M.o q.gtr (M.bd q.mv (fun c6 => ?_) (fun c6 => ?_)))
              · first
              | (first | omega | contradiction)
              | refine M.o (q.fa 0 am_fi40_0 am_cl3) (M.o (q.lv am_ag3) (M.o q.mv (M.o q.mv (M.o q.sub (M.o (q.ix am_el31 am_cl40 (hl := (by first | exact atig (by omega)))) (M.o (q.fs 0 am_fi40_0 am_cl3) (M.o (q.ls am_ag3) (M.o q.leq (M.o q.pt (M.o q.pf (M.end [_] (h := S.end (hK _ ?_)))))))))))))
                clear hK K
                refine Ev.cd (fun c7 => ?_) (fun c7 => ?_)
                · first
                | (first | omega | contradiction)
                | refine Ev.sr fun K hK => S.o q.as (S.end (hK _ ?_))
                  clear hK K
                  refine Ev.ret ?_
                  refine hR0 _ _ ?_
                  refine Ev.ret1 ?_
                  refine ⟨?_, rfl⟩
                  first
                   | exact bF (fun h => by have h1 := h.1; omega)
                   | exact bF (fun h => absurd (steps_cut hp h).1.1 ‹_›)
                   | exact bF (fun h => by have h1 := (steps_cut hp h).1.2; simp only at h1; omega)
                   | exact bF (fun h => by have h1 := (steps_cut hp h).2 (by omega); simp only at h1; omega)
                   | exact bT ⟨by omega, by rw [← hp]; exact hinv⟩
                · first
                | (first | omega | contradiction)
                | refine Ev.skip ?_
                  show Ev _ _ _ _
                  refine Ev.region_S fun K hK => S.o q.add (S.o q.mv (S.end (hK _ ?_)))
                  clear hK K
                  refine hR0 _ _ ?_
                  refine roundU [] [0, 8, 9] ⟨(pre ++ [(sx, sy)], suf), by rw [← hp]; simp, ?_⟩ ?_ keep_n (slots_c (he := (by first | rfl | (simp; done) | (congr 2; omega))) (h := trivial)) (.c (.c (.c .n)))
                  refine steps_snoc hinv ?_ ?_
                  · refine ⟨?_, by dsimp only; omega, by dsimp only; omega⟩
                    first | assumption | (unfold Place; dsimp only; omega)
                  · intro h
                    dsimp only
                    omega
                  all_goals (dsimp only; simp only [List.length_cons]; omega)
              · first
              | (first | omega | contradiction)
              | refine M.sk (M.sk (M.sk (M.sk (M.sk (M.sk (M.sk (M.sk (M.sk (M.o q.pf (M.o q.pf (M.end [_] (h := S.end (hK _ ?_)))))))))))))
                clear hK K
                refine Ev.cf ?_
                refine Ev.skip ?_
                show Ev _ _ _ _
                refine Ev.region_S fun K hK => S.o q.add (S.o q.mv (S.end (hK _ ?_)))
                clear hK K
                refine hR0 _ _ ?_
                refine roundU [] [0, 8, 9] ⟨(pre ++ [(sx, sy)], suf), by rw [← hp]; simp, ?_⟩ ?_ keep_n (slots_c (he := (by first | rfl | (simp; done) | (congr 2; omega))) (h := trivial)) (.c (.c (.c .n)))
                refine steps_snoc hinv ?_ ?_
                · refine ⟨?_, by dsimp only; omega, by dsimp only; omega⟩
                  first | assumption | (unfold Place; dsimp only; omega)
                · intro h
                  dsimp only
                  omega
                all_goals (dsimp only; simp only [List.length_cons]; omega)
      · first
      | (first | omega | contradiction)
      | refine Ev.exit ?_
        refine hR0 _ _ ?_
        show Ev _ _ _ _
        refine Ev.sr fun K hK => S.o q.as (S.end (hK _ ?_))
        clear hK K
        refine Ev.ret ?_
        refine Ev.ret1 ?_
        refine ⟨?_, rfl⟩
        first
         | exact bF (fun h => by have h1 := h.1; omega)
         | exact bF (fun h => absurd (steps_cut hp h).1.1 ‹_›)
         | exact bF (fun h => by have h1 := (steps_cut hp h).1.2; simp only at h1; omega)
         | exact bF (fun h => by have h1 := (steps_cut hp h).2 (by omega); simp only at h1; omega)
         | exact bT ⟨by omega, by rw [← hp]; exact hinv⟩
    · simp only [List.length_cons] at hpl
      have hidx : l[pre.length]? = some s := by rw [← hp]; simp
      obtain ⟨sx, sy⟩ := s
      have hprev := fun h => pre_last (pre := pre) hp h
      refine Ev.sr fun K hK => S.o q.lss (S.end (hK _ ?_))
      clear hK K
      refine Ev.ud (fun c8 => ?_) (fun c8 => ?_)
      · first
      | (first | omega | contradiction)
      | refine Ev.seq ?_
        refine Ev.block ?_
        refine Ev.sr fun K hK => S.o q.mv (S.o (q.ix am_el31 am_cl40 (hl := (by first | exact ati hidx (by omega) | exact ati (hprev (by omega)) (by omega) | exact atig (by omega)))) (S.o (q.lsA [_, _] am_ag40 am_cl40) (S.nn (q.al am_ze40) (S.o q.as (S.sv [_, _] true [] am_in40 am_cl40 (h := S.end (hK _ ?_)))))))
        clear hK K
        refine Ev.sm (tbs [(0, 0), (1, 1), (2, 3), (3, 7), (4, 15), (5, 31), (6, 63), (7, 127), (8, 255), (9, 511), (10, 1023), (11, 2047), (12, 4095), (13, 8191), (14, 16383), (15, 32767), (16, 65535), (17, 131071), (18, 262143), (19, 524287), (18, 262143), (18, 262143), (22, 2359295), (23, 7602175), (24, 15990783), (25, 32767999), (26, 67108863), (27, 134217727), (28, 268435455)]) 29 fun K hK => M.o (q.fa 0 am_fi40_0 am_cl3) (M.o (q.lv am_ag3) (M.c0 (hF := place_fun _) (h := M.o q.not (M.bn q.mv (fun c9 => ?_) (fun c9 => ?_)))))
        · first
        | (first | omega | contradiction)
        | refine M.sk (M.sk (M.sk (M.o q.pt (M.o q.mv (M.sk (M.sk (M.sk (M.o q.pt (M.o q.mv (M.sk (M.sk (M.sk (M.sk (M.sk (M.sk (M.sk (M.sk (M.sk (M.sk (M.sk (M.sk (M.sk (M.o q.pt (M.end [_] (h := S.end (hK _ ?_))))))))))))))))))))))))))
          clear hK K
          refine Ev.ct ?_
          refine Ev.sr fun K hK => S.o q.as (S.end (hK _ ?_))
          clear hK K
          refine Ev.ret ?_
          refine hR0 _ _ ?_
          refine Ev.ret1 ?_
          refine ⟨?_, rfl⟩
          first
           | exact bF (fun h => by have h1 := h.1; omega)
           | exact bF (fun h => absurd (steps_cut hp h).1.1 ‹_›)
           | exact bF (fun h => by have h1 := (steps_cut hp h).1.2; simp only at h1; omega)
           | exact bF (fun h => by have h1 := (steps_cut hp h).2 (by omega); simp only at h1; omega)
           | exact bT ⟨by omega, by rw [← hp]; exact hinv⟩
        · first
        | (first | omega | contradiction)
        | refine M.o (q.fa 1 am_fi40_1 am_cl3) (M.o (q.lv am_ag3) (M.o q.lss (M.o q.pf (M.bd q.mv (fun c10 => ?_) (fun c10 => ?_)))))
          · first
          | (first | omega | contradiction)
          | refine M.sk (M.sk (M.sk (M.o q.pt (M.o q.mv (M.sk (M.sk (M.sk (M.sk (M.sk (M.sk (M.sk (M.sk (M.sk (M.sk (M.sk (M.sk (M.sk (M.o q.pt (M.end [_] (h := S.end (hK _ ?_)))))))))))))))))))))
            clear hK K
            refine Ev.ct ?_
            refine Ev.sr fun K hK => S.o q.as (S.end (hK _ ?_))
            clear hK K
            refine Ev.ret ?_
            refine hR0 _ _ ?_
            refine Ev.ret1 ?_
            refine ⟨?_, rfl⟩
            first
             | exact bF (fun h => by have h1 := h.1; omega)
             | exact bF (fun h => absurd (steps_cut hp h).1.1 ‹_›)
             | exact bF (fun h => by have h1 := (steps_cut hp h).1.2; simp only at h1; omega)
             | exact bF (fun h => by have h1 := (steps_cut hp h).2 (by omega); simp only at h1; omega)
             | exact bT ⟨by omega, by rw [← hp]; exact hinv⟩
          · first
          | (first | omega | contradiction)
          | refine M.o (q.fa 1 am_fi40_1 am_cl3) (M.o (q.lv am_ag3) (M.o q.gtr (M.o q.pf (M.bd q.mv (fun c11 => ?_) (fun c11 => ?_)))))
            · first
            | (first | omega | contradiction)
            | refine M.sk (M.sk (M.sk (M.sk (M.sk (M.sk (M.sk (M.sk (M.sk (M.sk (M.sk (M.sk (M.sk (M.o q.pt (M.end [_] (h := S.end (hK _ ?_))))))))))))))))
              clear hK K
              refine Ev.ct ?_
              refine Ev.sr fun K hK => S.o q.as (S.end (hK _ ?_))
              clear hK K
              refine Ev.ret ?_
              refine hR0 _ _ ?_
              refine Ev.ret1 ?_
              refine ⟨?_, rfl⟩
              first
               | exact bF (fun h => by have h1 := h.1; omega)
               | exact bF (fun h => absurd (steps_cut hp h).1.1 ‹_›)
               | exact bF (fun h => by have h1 := (steps_cut hp h).1.2; simp only at h1; omega)
               | exact bF (fun h => by have h1 := (steps_cut hp h).2 (by omega); simp only at h1; omega)
               | exact bT ⟨by omega, by rw [← hp]; exact hinv⟩
            · first
            | (first | omega | contradiction)
            | refine M.o q.mv (M.o q.gtr (M.bd q.mv (fun c12 => ?_) (fun c12 => ?_)))
              · first
              | (first | omega | contradiction)
              | refine M.o (q.fa 0 am_fi40_0 am_cl3) (M.o (q.lv am_ag3) (M.o q.mv (M.o q.mv (M.o q.sub (M.o (q.ix am_el31 am_cl40 (hl := (by first | exact ati hidx (by omega) | exact ati (hprev (by omega)) (by omega) | exact atig (by omega)))) (M.o (q.fs 0 am_fi40_0 am_cl3) (M.o (q.ls am_ag3) (M.o q.leq (M.o q.pt (M.o q.pf (M.end [_] (h := S.end (hK _ ?_)))))))))))))
                clear hK K
                refine Ev.cd (fun c13 => ?_) (fun c13 => ?_)
                · first
                | (first | omega | contradiction)
                | refine Ev.sr fun K hK => S.o q.as (S.end (hK _ ?_))
                  clear hK K
                  refine Ev.ret ?_
                  refine hR0 _ _ ?_
                  refine Ev.ret1 ?_
                  refine ⟨?_, rfl⟩
                  first
                   | exact bF (fun h => by have h1 := h.1; omega)
                   | exact bF (fun h => absurd (steps_cut hp h).1.1 ‹_›)
                   | exact bF (fun h => by have h1 := (steps_cut hp h).1.2; simp only at h1; omega)
                   | exact bF (fun h => by have h1 := (steps_cut hp h).2 (by omega); simp only at h1; omega)
                   | exact bT ⟨by omega, by rw [← hp]; exact hinv⟩
                · first
                | (first | omega | contradiction)
                | refine Ev.skip ?_
                  show Ev _ _ _ _
                  refine Ev.region_S fun K hK => S.o q.add (S.o q.mv (S.end (hK _ ?_)))
                  clear hK K
                  refine hR0 _ _ ?_
                  refine roundU [] [0, 8, 9] ⟨(pre ++ [(sx, sy)], suf), by rw [← hp]; simp, ?_⟩ ?_ keep_n (slots_c (he := (by first | rfl | (simp; done) | (congr 2; omega))) (h := trivial)) (.c (.c (.c .n)))
                  refine steps_snoc hinv ?_ ?_
                  · refine ⟨?_, by dsimp only; omega, by dsimp only; omega⟩
                    first | assumption | (unfold Place; dsimp only; omega)
                  · intro h
                    dsimp only
                    omega
                  all_goals (dsimp only; simp only [List.length_cons]; omega)
              · first
              | (first | omega | contradiction)
              | refine M.sk (M.sk (M.sk (M.sk (M.sk (M.sk (M.sk (M.sk (M.sk (M.o q.pf (M.o q.pf (M.end [_] (h := S.end (hK _ ?_)))))))))))))
                clear hK K
                refine Ev.cf ?_
                refine Ev.skip ?_
                show Ev _ _ _ _
                refine Ev.region_S fun K hK => S.o q.add (S.o q.mv (S.end (hK _ ?_)))
                clear hK K
                refine hR0 _ _ ?_
                refine roundU [] [0, 8, 9] ⟨(pre ++ [(sx, sy)], suf), by rw [← hp]; simp, ?_⟩ ?_ keep_n (slots_c (he := (by first | rfl | (simp; done) | (congr 2; omega))) (h := trivial)) (.c (.c (.c .n)))
                refine steps_snoc hinv ?_ ?_
                · refine ⟨?_, by dsimp only; omega, by dsimp only; omega⟩
                  first | assumption | (unfold Place; dsimp only; omega)
                · intro h
                  dsimp only
                  omega
                all_goals (dsimp only; simp only [List.length_cons]; omega)
      · first
      | (first | omega | contradiction)
      | refine Ev.exit ?_
        refine hR0 _ _ ?_
        show Ev _ _ _ _
        refine Ev.sr fun K hK => S.o q.as (S.end (hK _ ?_))
        clear hK K
        refine Ev.ret ?_
        refine Ev.ret1 ?_
        refine ⟨?_, rfl⟩
        first
         | exact bF (fun h => by have h1 := h.1; omega)
         | exact bF (fun h => absurd (steps_cut hp h).1.1 ‹_›)
         | exact bF (fun h => by have h1 := (steps_cut hp h).1.2; simp only at h1; omega)
         | exact bF (fun h => by have h1 := (steps_cut hp h).2 (by omega); simp only at h1; omega)
         | exact bT ⟨by omega, by rw [← hp]; exact hinv⟩
theorem rstepsValid_fun (l : List (Int × Int)) (hlen : l.length ≤ 140737488355328) : Fun Tryd.prog 23 [.sh 2 (l.map pairC)] (Ret (.lit (.bool (decide (okSteps l)))) []) := by
  refine Fun.of (nt := 47) (rs := [.tmp 2]) Tryd.func23 rfl rfl rfl rfl rfl ?_
  refine Ev.sr fun K hK => S.o q.as (S.end (hK _ ?_))
  clear hK K
  refine Ev.seq ?_
  refine Ev.sr fun K hK => S.o q.mv (S.o (q.lens am_el31) (S.o q.gtr (S.end (hK _ ?_))))
  clear hK K
  refine Ev.cd (fun c1 => ?_) (fun c1 => ?_)
  · first
  | (first | omega | contradiction)
  | refine Ev.sr fun K hK => S.o q.as (S.end (hK _ ?_))
    clear hK K
    refine Ev.ret ?_
    refine Ev.ret1 ?_
    refine ⟨?_, rfl⟩
    first
     | exact bF (fun h => by have h1 := h.1; omega)
     | exact bF (fun h => absurd (steps_cut hp h).1.1 ‹_›)
     | exact bF (fun h => by have h1 := (steps_cut hp h).1.2; simp only at h1; omega)
     | exact bF (fun h => by have h1 := (steps_cut hp h).2 (by omega); simp only at h1; omega)
     | exact bT ⟨by omega, by rw [← hp]; exact hinv⟩
  · first
  | (first | omega | contradiction)
  | refine Ev.skip ?_
    show Ev _ _ _ _
    refine Ev.seq ?_
    refine Ev.sr fun K hK => S.o q.as (S.end (hK _ ?_))
    clear hK K
    refine Ev.block ?_
    refine Ev.loopU (ι := {q : List (Int × Int) × List (Int × Int) // q.1 ++ q.2 = l ∧ (∀ x ∈ q.1, okStp x) ∧ q.1.Pairwise fun a b => a.1 < b.1}) [] [0] (fun ⟨(pre, suf), _⟩ => [(3, .lit (.int .i64 ((pre.length : Int))))]) (fun ⟨(pre, suf), _⟩ => []) (fun ⟨(pre, suf), _⟩ => suf.length) ⟨([], l), rfl, fun x hx => by simp at hx, .nil⟩ (.c .n) keep_n (slots_c (he := (by first | rfl | (simp; done) | (congr 2; omega))) (h := trivial)) ?_
    rintro ⟨⟨pre, suf⟩, hp, hinv⟩ R0 hR0
    dsimp only [List.cons_append, List.nil_append, List.length_cons, List.length_nil]
    simp only at hp hinv
    have hpl : pre.length + suf.length = (l).length := by rw [← hp, List.length_append]
    rcases suf with _ | ⟨s, suf⟩
    · rw [List.append_nil] at hp; simp only [List.length_nil] at hpl
      refine Ev.seq ?_
      refine Ev.sr fun K hK => S.o q.mv (S.o q.mv (S.o (q.lens am_el31) (S.o q.lss (S.end (hK _ ?_)))))
      clear hK K
      refine Ev.cd (fun c2 => ?_) (fun c2 => ?_)
      · first
      | (first | omega | contradiction)
      | refine Ev.skip ?_
        show Ev _ _ _ _
        refine Ev.seq ?_
        refine Ev.block ?_
        refine Ev.sm (tbs [(0, 0), (0, 0), (2, 3), (3, 7), (4, 15), (5, 31), (6, 63), (7, 127), (8, 255), (8, 255), (10, 1023), (11, 2047), (12, 4095), (13, 8191), (14, 16383), (15, 32767), (16, 65535), (17, 131071), (18, 262143), (19, 524287), (20, 1048575), (20, 1048575), (22, 4194303), (23, 8388607), (24, 16777215), (20, 1048575), (20, 1048575), (27, 68157439), (28, 235929599), (29, 504365055), (30, 1041235967), (31, 2147483647), (32, 4294967295), (33, 8589934591)]) 34 fun K hK => M.o q.mv (M.o q.mv (M.o (q.ix am_el31 am_cl40 (hl := (by first | exact atig (by omega)))) (M.o (q.fs 0 am_fi40_0 am_cl3) (M.o (q.ls am_ag3) (M.c0 (hF := rplace_fun _) (h := M.o q.not (M.bn q.mv (fun c3 => ?_) (fun c3 => ?_))))))))
        · first
        | (first | omega | contradiction)
        | refine M.sk (M.sk (M.sk (M.sk (M.sk (M.sk (M.sk (M.o q.pt (M.o q.mv (M.sk (M.sk (M.sk (M.sk (M.sk (M.sk (M.sk (M.sk (M.sk (M.sk (M.sk (M.sk (M.sk (M.sk (M.sk (M.sk (M.o q.pt (M.end [] (h := S.end (hK _ ?_))))))))))))))))))))))))))))
          clear hK K
          refine Ev.ct ?_
          refine Ev.sr fun K hK => S.o q.as (S.end (hK _ ?_))
          clear hK K
          refine Ev.ret ?_
          refine hR0 _ _ ?_
          refine Ev.ret1 ?_
          refine ⟨?_, rfl⟩
          first
           | exact bF (fun h => by have h1 := h.1; omega)
           | exact bF (fun h => absurd (steps_cut hp h).1.1 ‹_›)
           | exact bF (fun h => by have h1 := (steps_cut hp h).1.2; simp only at h1; omega)
           | exact bF (fun h => by have h1 := (steps_cut hp h).2 (by omega); simp only at h1; omega)
           | exact bT ⟨by omega, by rw [← hp]; exact hinv⟩
        · first
        | (first | omega | contradiction)
        | refine M.o q.mv (M.o q.mv (M.o (q.ix am_el31 am_cl40 (hl := (by first | exact atig (by omega)))) (M.o (q.fs 1 am_fi40_1 am_cl3) (M.o (q.ls am_ag3) (M.c0 (hF := rbetween_fun _ _ _) (h := M.o q.not (M.o q.pf (M.bn q.mv (fun c4 => ?_) (fun c4 => ?_)))))))))
          · first
          | (first | omega | contradiction)
          | refine M.sk (M.sk (M.sk (M.sk (M.sk (M.sk (M.sk (M.sk (M.sk (M.sk (M.sk (M.sk (M.sk (M.sk (M.sk (M.sk (M.o q.pt (M.end [] (h := S.end (hK _ ?_)))))))))))))))))))
            clear hK K
            refine Ev.ct ?_
            refine Ev.sr fun K hK => S.o q.as (S.end (hK _ ?_))
            clear hK K
            refine Ev.ret ?_
            refine hR0 _ _ ?_
            refine Ev.ret1 ?_
            refine ⟨?_, rfl⟩
            first
             | exact bF (fun h => by have h1 := h.1; omega)
             | exact bF (fun h => absurd (steps_cut hp h).1.1 ‹_›)
             | exact bF (fun h => by have h1 := (steps_cut hp h).1.2; simp only at h1; omega)
             | exact bF (fun h => by have h1 := (steps_cut hp h).2 (by omega); simp only at h1; omega)
             | exact bT ⟨by omega, by rw [← hp]; exact hinv⟩
          · first
          | (first | omega | contradiction)
          | refine M.o q.mv (M.o q.gtr (M.bd q.mv (fun c5 => ?_) (fun c5 => ?_)))
            · first
            | (first | omega | contradiction)
            | refine M.o q.mv (M.o q.mv (M.o (q.ix am_el31 am_cl40 (hl := (by first | exact atig (by omega)))) (M.o (q.fs 0 am_fi40_0 am_cl3) (M.o (q.ls am_ag3) (M.o q.mv (M.o q.mv (M.o q.sub (M.o (q.ix am_el31 am_cl40 (hl := (by first | exact atig (by omega)))) (M.o (q.fs 0 am_fi40_0 am_cl3) (M.o (q.ls am_ag3) (M.o q.leq (M.o q.pt (M.o q.pf (M.end [] (h := S.end (hK _ ?_))))))))))))))))
              clear hK K
              refine Ev.cd (fun c6 => ?_) (fun c6 => ?_)
              · first
              | (first | omega | contradiction)
              | refine Ev.sr fun K hK => S.o q.as (S.end (hK _ ?_))
                clear hK K
                refine Ev.ret ?_
                refine hR0 _ _ ?_
                refine Ev.ret1 ?_
                refine ⟨?_, rfl⟩
                first
                 | exact bF (fun h => by have h1 := h.1; omega)
                 | exact bF (fun h => absurd (steps_cut hp h).1.1 ‹_›)
                 | exact bF (fun h => by have h1 := (steps_cut hp h).1.2; simp only at h1; omega)
                 | exact bF (fun h => by have h1 := (steps_cut hp h).2 (by omega); simp only at h1; omega)
                 | exact bT ⟨by omega, by rw [← hp]; exact hinv⟩
              · first
              | (first | omega | contradiction)
              | refine Ev.skip ?_
                show Ev _ _ _ _
                refine Ev.region_S fun K hK => S.o q.mv (S.o q.add (S.o q.as (S.end (hK _ ?_))))
                clear hK K
                refine hR0 _ _ ?_
                refine roundU [] [0] ⟨(pre ++ [(sx, sy)], suf), by rw [← hp]; simp, ?_⟩ ?_ keep_n (slots_c (he := (by first | rfl | (simp; done) | (congr 2; omega))) (h := trivial)) (.c .n)
                refine steps_snoc hinv ?_ ?_
                · refine ⟨?_, by dsimp only; omega, by dsimp only; omega⟩
                  first | assumption | (unfold Place; dsimp only; omega)
                · intro h
                  dsimp only
                  omega
                all_goals (dsimp only; simp only [List.length_cons]; omega)
            · first
            | (first | omega | contradiction)
            | refine M.sk (M.sk (M.sk (M.sk (M.sk (M.sk (M.sk (M.sk (M.sk (M.sk (M.sk (M.sk (M.o q.pf (M.o q.pf (M.end [] (h := S.end (hK _ ?_))))))))))))))))
              clear hK K
              refine Ev.cf ?_
              refine Ev.skip ?_
              show Ev _ _ _ _
              refine Ev.region_S fun K hK => S.o q.mv (S.o q.add (S.o q.as (S.end (hK _ ?_))))
              clear hK K
              refine hR0 _ _ ?_
              refine roundU [] [0] ⟨(pre ++ [(sx, sy)], suf), by rw [← hp]; simp, ?_⟩ ?_ keep_n (slots_c (he := (by first | rfl | (simp; done) | (congr 2; omega))) (h := trivial)) (.c .n)
              refine steps_snoc hinv ?_ ?_
              · refine ⟨?_, by dsimp only; omega, by dsimp only; omega⟩
                first | assumption | (unfold Place; dsimp only; omega)
              · intro h
                dsimp only
                omega
              all_goals (dsimp only; simp only [List.length_cons]; omega)
      · first
      | (first | omega | contradiction)
      | refine Ev.exit ?_
        refine hR0 _ _ ?_
        show Ev _ _ _ _
        refine Ev.sr fun K hK => S.o q.as (S.end (hK _ ?_))
        clear hK K
        refine Ev.ret ?_
        refine Ev.ret1 ?_
        refine ⟨?_, rfl⟩
        first
         | exact bF (fun h => by have h1 := h.1; omega)
         | exact bF (fun h => absurd (steps_cut hp h).1.1 ‹_›)
         | exact bF (fun h => by have h1 := (steps_cut hp h).1.2; simp only at h1; omega)
         | exact bF (fun h => by have h1 := (steps_cut hp h).2 (by omega); simp only at h1; omega)
         | exact bT ⟨by omega, by rw [← hp]; exact hinv⟩
    · simp only [List.length_cons] at hpl
      have hidx : l[pre.length]? = some s := by rw [← hp]; simp
      obtain ⟨sx, sy⟩ := s
      have hprev := fun h => pre_last (pre := pre) hp h
      refine Ev.seq ?_
      refine Ev.sr fun K hK => S.o q.mv (S.o q.mv (S.o (q.lens am_el31) (S.o q.lss (S.end (hK _ ?_)))))
      clear hK K
      refine Ev.cd (fun c7 => ?_) (fun c7 => ?_)
      · first
      | (first | omega | contradiction)
      | refine Ev.skip ?_
        show Ev _ _ _ _
        refine Ev.seq ?_
        refine Ev.block ?_
        refine Ev.sm (tbs [(0, 0), (0, 0), (2, 3), (3, 7), (4, 15), (5, 31), (6, 63), (7, 127), (8, 255), (8, 255), (10, 1023), (11, 2047), (12, 4095), (13, 8191), (14, 16383), (15, 32767), (16, 65535), (17, 131071), (18, 262143), (19, 524287), (20, 1048575), (20, 1048575), (22, 4194303), (23, 8388607), (24, 16777215), (20, 1048575), (20, 1048575), (27, 68157439), (28, 235929599), (29, 504365055), (30, 1041235967), (31, 2147483647), (32, 4294967295), (33, 8589934591)]) 34 fun K hK => M.o q.mv (M.o q.mv (M.o (q.ix am_el31 am_cl40 (hl := (by first | exact ati hidx (by omega) | exact ati (hprev (by omega)) (by omega) | exact atig (by omega)))) (M.o (q.fs 0 am_fi40_0 am_cl3) (M.o (q.ls am_ag3) (M.c0 (hF := rplace_fun _) (h := M.o q.not (M.bn q.mv (fun c8 => ?_) (fun c8 => ?_))))))))
        · first
        | (first | omega | contradiction)
        | refine M.sk (M.sk (M.sk (M.sk (M.sk (M.sk (M.sk (M.o q.pt (M.o q.mv (M.sk (M.sk (M.sk (M.sk (M.sk (M.sk (M.sk (M.sk (M.sk (M.sk (M.sk (M.sk (M.sk (M.sk (M.sk (M.sk (M.o q.pt (M.end [] (h := S.end (hK _ ?_))))))))))))))))))))))))))))
          clear hK K
          refine Ev.ct ?_
          refine Ev.sr fun K hK => S.o q.as (S.end (hK _ ?_))
          clear hK K
          refine Ev.ret ?_
          refine hR0 _ _ ?_
          refine Ev.ret1 ?_
          refine ⟨?_, rfl⟩
          first
           | exact bF (fun h => by have h1 := h.1; omega)
           | exact bF (fun h => absurd (steps_cut hp h).1.1 ‹_›)
           | exact bF (fun h => by have h1 := (steps_cut hp h).1.2; simp only at h1; omega)
           | exact bF (fun h => by have h1 := (steps_cut hp h).2 (by omega); simp only at h1; omega)
           | exact bT ⟨by omega, by rw [← hp]; exact hinv⟩
        · first
        | (first | omega | contradiction)
        | refine M.o q.mv (M.o q.mv (M.o (q.ix am_el31 am_cl40 (hl := (by first | exact ati hidx (by omega) | exact ati (hprev (by omega)) (by omega) | exact atig (by omega)))) (M.o (q.fs 1 am_fi40_1 am_cl3) (M.o (q.ls am_ag3) (M.c0 (hF := rbetween_fun _ _ _) (h := M.o q.not (M.o q.pf (M.bn q.mv (fun c9 => ?_) (fun c9 => ?_)))))))))
          · first
          | (first | omega | contradiction)
          | refine M.sk (M.sk (M.sk (M.sk (M.sk (M.sk (M.sk (M.sk (M.sk (M.sk (M.sk (M.sk (M.sk (M.sk (M.sk (M.sk (M.o q.pt (M.end [] (h := S.end (hK _ ?_)))))))))))))))))))
            clear hK K
            refine Ev.ct ?_
            refine Ev.sr fun K hK => S.o q.as (S.end (hK _ ?_))
            clear hK K
            refine Ev.ret ?_
            refine hR0 _ _ ?_
            refine Ev.ret1 ?_
            refine ⟨?_, rfl⟩
            first
             | exact bF (fun h => by have h1 := h.1; omega)
             | exact bF (fun h => absurd (steps_cut hp h).1.1 ‹_›)
             | exact bF (fun h => by have h1 := (steps_cut hp h).1.2; simp only at h1; omega)
             | exact bF (fun h => by have h1 := (steps_cut hp h).2 (by omega); simp only at h1; omega)
             | exact bT ⟨by omega, by rw [← hp]; exact hinv⟩
          · first
          | (first | omega | contradiction)
          | refine M.o q.mv (M.o q.gtr (M.bd q.mv (fun c10 => ?_) (fun c10 => ?_)))
            · first
            | (first | omega | contradiction)
            | refine M.o q.mv (M.o q.mv (M.o (q.ix am_el31 am_cl40 (hl := (by first | exact ati hidx (by omega) | exact ati (hprev (by omega)) (by omega) | exact atig (by omega)))) (M.o (q.fs 0 am_fi40_0 am_cl3) (M.o (q.ls am_ag3) (M.o q.mv (M.o q.mv (M.o q.sub (M.o (q.ix am_el31 am_cl40 (hl := (by first | exact ati hidx (by omega) | exact ati (hprev (by omega)) (by omega) | exact atig (by omega)))) (M.o (q.fs 0 am_fi40_0 am_cl3) (M.o (q.ls am_ag3) (M.o q.leq (M.o q.pt (M.o q.pf (M.end [] (h := S.end (hK _ ?_))))))))))))))))
              clear hK K
              refine Ev.cd (fun c11 => ?_) (fun c11 => ?_)
              · first
              | (first | omega | contradiction)
              | refine Ev.sr fun K hK => S.o q.as (S.end (hK _ ?_))
                clear hK K
                refine Ev.ret ?_
                refine hR0 _ _ ?_
                refine Ev.ret1 ?_
                refine ⟨?_, rfl⟩
                first
                 | exact bF (fun h => by have h1 := h.1; omega)
                 | exact bF (fun h => absurd (steps_cut hp h).1.1 ‹_›)
                 | exact bF (fun h => by have h1 := (steps_cut hp h).1.2; simp only at h1; omega)
                 | exact bF (fun h => by have h1 := (steps_cut hp h).2 (by omega); simp only at h1; omega)
                 | exact bT ⟨by omega, by rw [← hp]; exact hinv⟩
              · first
              | (first | omega | contradiction)
              | refine Ev.skip ?_
                show Ev _ _ _ _
                refine Ev.region_S fun K hK => S.o q.mv (S.o q.add (S.o q.as (S.end (hK _ ?_))))
                clear hK K
                refine hR0 _ _ ?_
                refine roundU [] [0] ⟨(pre ++ [(sx, sy)], suf), by rw [← hp]; simp, ?_⟩ ?_ keep_n (slots_c (he := (by first | rfl | (simp; done) | (congr 2; omega))) (h := trivial)) (.c .n)
                refine steps_snoc hinv ?_ ?_
                · refine ⟨?_, by dsimp only; omega, by dsimp only; omega⟩
                  first | assumption | (unfold Place; dsimp only; omega)
                · intro h
                  dsimp only
                  omega
                all_goals (dsimp only; simp only [List.length_cons]; omega)
            · first
            | (first | omega | contradiction)
            | refine M.sk (M.sk (M.sk (M.sk (M.sk (M.sk (M.sk (M.sk (M.sk (M.sk (M.sk (M.sk (M.o q.pf (M.o q.pf (M.end [] (h := S.end (hK _ ?_))))))))))))))))
              clear hK K
              refine Ev.cf ?_
              refine Ev.skip ?_
              show Ev _ _ _ _
              refine Ev.region_S fun K hK => S.o q.mv (S.o q.add (S.o q.as (S.end (hK _ ?_))))
              clear hK K
              refine hR0 _ _ ?_
              refine roundU [] [0] ⟨(pre ++ [(sx, sy)], suf), by rw [← hp]; simp, ?_⟩ ?_ keep_n (slots_c (he := (by first | rfl | (simp; done) | (congr 2; omega))) (h := trivial)) (.c .n)
              refine steps_snoc hinv ?_ ?_
              · refine ⟨?_, by dsimp only; omega, by dsimp only; omega⟩
                first | assumption | (unfold Place; dsimp only; omega)
              · intro h
                dsimp only
                omega
              all_goals (dsimp only; simp only [List.length_cons]; omega)
      · first
      | (first | omega | contradiction)
      | refine Ev.exit ?_
        refine hR0 _ _ ?_
        show Ev _ _ _ _
        refine Ev.sr fun K hK => S.o q.as (S.end (hK _ ?_))
        clear hK K
        refine Ev.ret ?_
        refine Ev.ret1 ?_
        refine ⟨?_, rfl⟩
        first
         | exact bF (fun h => by have h1 := h.1; omega)
         | exact bF (fun h => absurd (steps_cut hp h).1.1 ‹_›)
         | exact bF (fun h => by have h1 := (steps_cut hp h).1.2; simp only at h1; omega)
         | exact bF (fun h => by have h1 := (steps_cut hp h).2 (by omega); simp only at h1; omega)
         | exact bT ⟨by omega, by rw [← hp]; exact hinv⟩
theorem search2_fun (g : FuncId) (c0 c1 : List AV) (n k : Nat) (hk : k ≤ n) (hn : n ≤ 140737488355328) (hg : ∀ i : Nat, i < n → Fun Tryd.prog g [.lit (.int .i64 (i : Int)), .sadr c0 0, .sadr c1 0] (Ret (.lit (.bool (decide (k ≤ i)))) [])) :
    Fun Tryd.prog 50 [.lit (.int .i64 (n : Int)), .fn (.func g) [] [.sadr c0 0, .sadr c1 0]] (Ret (.lit (.int .i64 (k : Int))) []) := by
  refine Fun.of (nt := 26) (rs := [.tmp 4]) Tryd.func50 rfl rfl rfl rfl rfl ?_
  refine Ev.sr fun K hK => S.o q.as (S.end (hK _ ?_))
  clear hK K
  refine Ev.sr fun K hK => S.o q.mv (S.o q.as (S.o q.as (S.end (hK _ ?_))))
  clear hK K
  refine Ev.seq ?_
  refine Ev.block ?_
  refine Ev.loopU (ι := {q : Nat × Nat // q.1 ≤ k ∧ k ≤ q.2 ∧ q.2 ≤ n}) [] [1, 4] (fun ⟨(i, j), _⟩ => [(5, .lit (.int .i64 ((i : Int)))), (6, .lit (.int .i64 ((j : Int))))]) (fun ⟨(i, j), _⟩ => []) (fun ⟨(i, j), _⟩ => j - i) ⟨(0, n), by omega, by omega, by omega⟩ (.c (.c .n)) keep_n (slots_c (he := (by first | rfl | (simp; done) | (congr 2; omega))) (h := (slots_c (he := (by first | rfl | (simp; done) | (congr 2; omega))) (h := trivial)))) ?_
  rintro ⟨⟨i, j⟩, hi, hj, hn2⟩ R0 hR0
  dsimp only [List.cons_append, List.nil_append, List.length_cons, List.length_nil]
  simp only at hi hj hn2
  refine Ev.seq ?_
  refine Ev.sr fun K hK => S.o q.mv (S.o q.mv (S.o q.lss (S.end (hK _ ?_))))
  clear hK K
  refine Ev.cd (fun c1 => ?_) (fun c1 => ?_)
  · first
  | (first | omega | contradiction)
  | refine Ev.skip ?_
    show Ev _ _ _ _
    refine Ev.block ?_
    refine Ev.sr fun K hK => S.o q.mv (S.o q.mv (S.o q.add (S.o (q.cvu am_un82 am_us3) (S.o q.shr1 (S.o (q.cvi am_un3 am_us82) (S.o q.as (S.end (hK _ ?_))))))))
    clear hK K
    refine Ev.sr fun K hK => S.o q.mv (S.o q.mv (S.c0 (hF := by have := hg ((i + j) / 2) (by omega); rwa [show (((i + j) / 2 : Nat) : Int) = ((i : Int) + j) / 2 by omega] at this) (h := S.o q.not (S.end (hK _ ?_)))))
    clear hK K
    refine Ev.cn (fun c2 => ?_) (fun c2 => ?_)
    · first
    | (first | omega | contradiction)
    | refine Ev.region_S fun K hK => S.o q.mv (S.o q.add (S.o q.as (S.end (hK _ ?_))))
      clear hK K
      refine hR0 _ _ ?_
      refine roundU [] [1, 4] ⟨((i + j) / 2 + 1, j), by dsimp only; omega⟩ ?_ keep_n (slots_c (he := (by first | rfl | (simp; done) | (congr 2; omega))) (h := (slots_c (he := (by first | rfl | (simp; done) | (congr 2; omega))) (h := trivial)))) (.c (.c .n))
      skip
      all_goals (dsimp only; omega)
    · first
    | (first | omega | contradiction)
    | refine Ev.region_S fun K hK => S.o q.mv (S.o q.as (S.end (hK _ ?_)))
      clear hK K
      refine hR0 _ _ ?_
      refine roundU [] [1, 4] ⟨(i, (i + j) / 2), by dsimp only; omega⟩ ?_ keep_n (slots_c (he := (by first | rfl | (simp; done) | (congr 2; omega))) (h := (slots_c (he := (by first | rfl | (simp; done) | (congr 2; omega))) (h := trivial)))) (.c (.c .n))
      skip
      all_goals (dsimp only; omega)
  · first
  | (first | omega | contradiction)
  | refine Ev.exit ?_
    refine hR0 _ _ ?_
    show Ev _ _ _ _
    refine Ev.sr fun K hK => S.o q.mv (S.o q.as (S.end (hK _ ?_)))
    clear hK K
    refine Ev.ret ?_
    refine Ev.ret1 ?_
    refine ⟨?_, rfl⟩
    congr 2; omega

/-- The value of the last step at or before a place, or one that was there before. -/
def atF (v : Int) : List (Int × Int) → Int → Int
  | [], _ => v
  | s :: l, y => atF (if s.1 ≤ y then s.2 else v) l y
/-- How many steps are at or before a place. -/
def atK : List (Int × Int) → Int → Nat
  | [], _ => 0
  | s :: l, y => if s.1 ≤ y then atK l y + 1 else 0
theorem atF_snoc (s : Int × Int) (y : Int) : ∀ (l : List (Int × Int)) (v : Int), atF v (l ++ [s]) y = if s.1 ≤ y then s.2 else atF v l y
  | [], v => rfl
  | x :: l, v => by rw [List.cons_append, atF, atF_snoc s y l, atF]
theorem atK_le : ∀ (l : List (Int × Int)) (y : Int), atK l y ≤ l.length
  | [], _ => Nat.le_refl _
  | s :: l, y => by
    rw [atK]
    split
    · have := atK_le l y; simp only [List.length_cons]; omega
    · simp
theorem atK_iff {y : Int} : ∀ {l : List (Int × Int)} {i : Nat} {s : Int × Int}, (l.Pairwise fun a b => a.1 < b.1) → l[i]? = some s → (atK l y ≤ i ↔ y < s.1)
  | [], i, s, _, h => by simp at h
  | x :: l, i, s, hl, h => by
    rw [List.pairwise_cons] at hl
    rw [atK]
    rcases i with _ | i
    · simp only [List.length_cons, List.getElem?_cons_zero, Option.some.injEq] at h
      subst h
      split <;> omega
    · rw [List.getElem?_cons_succ] at h
      have hx := hl.1 s (List.mem_of_getElem? h)
      have ih := atK_iff (y := y) hl.2 h
      split <;> omega
theorem atF_K {y : Int} : ∀ {l : List (Int × Int)} (v : Int), (l.Pairwise fun a b => a.1 < b.1) → atF v l y = if h : atK l y = 0 then v else ((l[atK l y - 1]?).map (·.2)).getD 0
  | [], v, _ => by simp [atF, atK]
  | x :: l, v, hl => by
    rw [List.pairwise_cons] at hl
    have ih := atF_K (y := y) (if x.1 ≤ y then x.2 else v) hl.2
    rw [atF, ih]
    by_cases hx : x.1 ≤ y
    · simp only [atK, hx, if_true]
      rcases hk : atK l y with _ | k
      · simp
      · simp
    · have : atK l y = 0 := by
        rcases l with _ | ⟨z, l⟩
        · rfl
        · have := hl.1 z (by simp)
          rw [atK, if_neg (by omega)]
      simp [atK, hx, this]
theorem atF_bd {y : Int} : ∀ {l : List (Int × Int)} (v : Int), (∀ s ∈ l, okStp s) → 0 ≤ v → v ≤ 1099511627776 → 0 ≤ atF v l y ∧ atF v l y ≤ 1099511627776
  | [], v, _, h0, h1 => ⟨h0, h1⟩
  | x :: l, v, hl, h0, h1 => by
    have hx := hl x (by simp)
    rw [atF]
    refine atF_bd _ (fun s hs => hl s (by simp [hs])) ?_ ?_ <;> split <;> first | exact hx.2.1 | exact hx.2.2 | assumption
theorem at1_fun (l : List (Int × Int)) (y : Int) (hl : l.Pairwise fun a b => a.1 < b.1) (i : Nat) (hi : i < l.length) : Fun Tryd.prog 51 [.lit (.int .i64 (i : Int)), .sadr [.sh 2 (l.map pairC)] 0, .sadr [.lit (.int .i64 y)] 0] (Ret (.lit (.bool (decide (atK l y ≤ i)))) []) := by
  obtain ⟨⟨sx, sy⟩, hidx⟩ : ∃ s, l[i]? = some s := ⟨_, List.getElem?_eq_getElem hi⟩
  have hk := atK_iff (y := y) hl hidx
  simp only at hk
  refine Fun.of (nt := 12) (rs := [.tmp 4]) Tryd.func51 rfl rfl rfl rfl rfl ?_
  refine Ev.sr fun K hK => S.o q.as (S.end (hK _ ?_))
  clear hK K
  refine Ev.sm (tbs [(0, 0), (0, 0), (2, 3), (3, 7), (4, 15), (0, 0), (6, 63), (7, 127)]) 7 fun K hK => M.o (q.ls am_ag31) (M.o q.mv (M.o (q.ix am_el31 am_cl40 (hl := (by first | exact ati hidx (by omega) | exact atig (by omega)))) (M.o (q.fs 0 am_fi40_0 am_cl3) (M.o (q.ls am_ag3) (M.o (q.ls am_ag3) (M.o q.gtr (M.end [] (h := S.o q.as (S.end (hK _ ?_))))))))))
  clear hK K
  refine Ev.ret ?_
  refine Ev.ret1 ?_
  refine ⟨?_, rfl⟩
  exact dI (by omega)
theorem at_fun (l : List (Int × Int)) (y : Int) (hok : okSteps l) : Fun Tryd.prog 33 [.sh 2 (l.map pairC), .lit (.int .i64 y)] (Ret (.lit (.int .i64 (atF 0 l y))) []) := by
  have hlen := hok.1
  have hl := hok.2.2
  have hk := atK_le l y
  have hf := atF_K (y := y) 0 hl
  have hg : ∀ h : ¬ atK l y = 0, l[atK l y - 1]? = some (l[atK l y - 1]'(by omega)) := fun h => List.getElem?_eq_getElem _
  refine Fun.of (nt := 18) (rs := [.tmp 4]) Tryd.func33 rfl rfl rfl rfl rfl ?_
  refine Ev.sr fun K hK => S.nn (q.bx [_] true) (S.nn (q.bx [_] true) (S.o q.as (S.end (hK _ ?_))))
  clear hK K
  refine Ev.sr fun K hK => S.o (q.lv am_ag31) (S.o (q.lens am_el31) (S.o q.mf (S.c0 (hF := search2_fun _ _ _ l.length (atK l y) hk (by omega) (fun i hi => at1_fun l y hl i hi)) (h := S.o q.as (S.end (hK _ ?_))))))
  clear hK K
  refine Ev.seq ?_
  refine Ev.sr fun K hK => S.o q.mv (S.o q.eql (S.end (hK _ ?_)))
  clear hK K
  refine Ev.cd (fun c1 => ?_) (fun c1 => ?_)
  · first
  | (first | omega | contradiction)
  | refine Ev.sr fun K hK => S.o q.as (S.end (hK _ ?_))
    clear hK K
    refine Ev.ret ?_
    refine Ev.ret1 ?_
    refine ⟨?_, rfl⟩
    first | (rw [hf, dif_pos (by omega)]; done) | (rw [hf, dif_neg (by omega), hg (by omega)]; rfl)
  · first
  | (first | omega | contradiction)
  | refine Ev.skip ?_
    show Ev _ _ _ _
    refine Ev.sr fun K hK => S.o (q.lv am_ag31) (S.o q.mv (S.o q.sub (S.o (q.ix am_el31 am_cl40 (hl := (by first | exact ati (hg (by omega)) (by omega) | exact atig (by omega)))) (S.o (q.fs 1 am_fi40_1 am_cl3) (S.o (q.ls am_ag3) (S.o q.as (S.end (hK _ ?_))))))))
    clear hK K
    refine Ev.ret ?_
    refine Ev.ret1 ?_
    refine ⟨?_, rfl⟩
    first | (rw [hf, dif_pos (by omega)]; done) | (rw [hf, dif_neg (by omega), hg (by omega)]; rfl)

def atV (l : List (Int × Int)) (y : Int) : Int := if okSteps l then atF 0 l y else 0
def atE (l : List (Int × Int)) : Int := if okSteps l then 0 else 1
theorem At_fun (l : List (Int × Int)) (y : Int) (hlen : l.length ≤ 140737488355328) : Fun Tryd.prog 10 [.sh 2 (l.map pairC), .lit (.int .i64 y)] (Ret (.tup [.lit (.int .i64 (atV l y)), .lit (.int .i64 (atE l))]) []) := by
  refine Fun.of (nt := 12) (rs := [.tmp 4, .tmp 5]) Tryd.func10 rfl rfl rfl rfl rfl ?_
  refine Ev.sr fun K hK => S.o q.as (S.o q.as (S.end (hK _ ?_)))
  clear hK K
  refine Ev.seq ?_
  refine Ev.sr fun K hK => S.o q.mv (S.c0 (hF := stepsValid_fun _ (by omega)) (h := S.o q.not (S.end (hK _ ?_))))
  clear hK K
  refine Ev.cn (fun c1 => ?_) (fun c1 => ?_)
  · first
  | (first | omega | contradiction)
  | refine Ev.sr fun K hK => S.o q.as (S.o q.as (S.end (hK _ ?_)))
    clear hK K
    refine Ev.ret ?_
    refine Ev.ret2 ?_
    refine ⟨?_, rfl⟩
    first | (rw [atV, atE, if_pos ‹_›, if_pos ‹_›]; done) | (rw [atV, atE, if_neg ‹_›, if_neg ‹_›]; done)
  · first
  | (first | omega | contradiction)
  | refine Ev.skip ?_
    show Ev _ _ _ _
    refine Ev.sr fun K hK => S.o q.mv (S.o q.mv (S.c0 (hF := at_fun _ _ (by assumption)) (h := S.o q.as (S.o q.as (S.end (hK _ ?_))))))
    clear hK K
    refine Ev.ret ?_
    refine Ev.ret2 ?_
    refine ⟨?_, rfl⟩
    first | (rw [atV, atE, if_pos ‹_›, if_pos ‹_›]; done) | (rw [atV, atE, if_neg ‹_›, if_neg ‹_›]; done)
end Go.Proofs.YthiockdlhehhoaaDoor
