/-
  Layer 10: steps.
  Conditions: none.
-/
import Derived.Test.YtkbpignlggahaaaGreatDoorBase
import Derived.Test.YtkbpignlggahaaaGreatDoorAmRes
namespace Go.Proofs.YtkbpignlggahaaaGreatDoor
open Go Go.AM
set_option linter.unusedSimpArgs false
set_option linter.unusedVariables false
set_option maxRecDepth 100000
set_option maxHeartbeats 1000000
def Place (n : Int) : Prop := -1048576 ≤ n ∧ n ≤ 1048576
instance (n) : Decidable (Place n) := by unfold Place; infer_instance
def okStp (s : Int × Int) : Prop := Place s.1 ∧ 0 ≤ s.2 ∧ s.2 ≤ 1099511627776
instance (s) : Decidable (okStp s) := by unfold okStp; infer_instance
def okSteps (l : List (Int × Int)) : Prop := l.length ≤ 200 ∧ (∀ s ∈ l, okStp s) ∧ l.Pairwise fun a b => a.1 < b.1
instance (l) : Decidable (okSteps l) := by unfold okSteps; infer_instance
theorem asc_snoc {pre : List (Int × Int)} {s : Int × Int} (h : pre.Pairwise fun a b => a.1 < b.1) (hl : ∀ h : 0 < pre.length, (pre.getLast (List.ne_nil_of_length_pos h)).1 < s.1) : (pre ++ [s]).Pairwise fun a b => a.1 < b.1 := by
  refine List.pairwise_append.2 ⟨h, by simp, fun a ha b hb => ?_⟩; simp only [List.mem_singleton] at hb; subst hb; have hpos : 0 < pre.length := List.length_pos_of_mem ha; have h2 := hl hpos; have hne := List.ne_nil_of_length_pos hpos; rw [← List.dropLast_concat_getLast hne] at h ha; rw [List.pairwise_append] at h
  rcases List.mem_append.1 ha with ha | ha
  · have := h.2.2 a ha _ (List.mem_singleton_self _); omega
  · simp only [List.mem_singleton] at ha; rw [ha]; exact h2
theorem steps_snoc {pre : List (Int × Int)} {s : Int × Int} (h : (∀ x ∈ pre, okStp x) ∧ pre.Pairwise fun a b => a.1 < b.1) (hs : okStp s) (hl : ∀ h : 0 < pre.length, (pre.getLast (List.ne_nil_of_length_pos h)).1 < s.1) : (∀ x ∈ pre ++ [s], okStp x) ∧ (pre ++ [s]).Pairwise fun a b => a.1 < b.1 := by
  refine ⟨fun x hx => ?_, asc_snoc h.2 hl⟩; simp only [List.mem_append, List.mem_singleton] at hx
  rcases hx with hx | rfl
  · exact h.1 x hx
  · exact hs
theorem steps_cut {pre suf l : List (Int × Int)} {s : Int × Int} (hp : pre ++ s :: suf = l) (h : okSteps l) : okStp s ∧ ∀ h : 0 < pre.length, (pre.getLast (List.ne_nil_of_length_pos h)).1 < s.1 := by
  obtain ⟨h1, h2, h3⟩ := h; refine ⟨h2 s (by rw [← hp]; simp), fun hpos => ?_⟩; rw [← hp, List.pairwise_append] at h3; exact h3.2.2 _ (List.getLast_mem _) s (by simp)
theorem place_fun (n : Int) : Fun Tryz.prog 216 [.lit (.int .i64 n)] (Ret (.lit (.bool (decide (Place n)))) []) := by
  refine Fun.of (nt := 9) (rs := [.tmp 2]) Tryz.func216 rfl rfl rfl rfl rfl ?_; refine Ev.sr fun K hK => S.o q.as (S.end (hK _ ?_)); clear hK K; refine Ev.sr fun K hK => S.o q.mv (S.o q.geq (S.bd q.mv (fun c1 => ?_) (fun c1 => ?_)))
  · first
  | omega | contradiction
  | refine S.o q.mv (S.o q.leq (S.o q.pt (S.o q.as (S.end (hK _ ?_))))); clear hK K; refine Ev.ret ?_; refine Ev.ret1 ?_; refine ⟨?_, rfl⟩
    first | exact bT (by unfold Place; omega) | exact bF (by unfold Place; omega) | exact dI (by unfold Place; omega)
  · first
  | omega | contradiction
  | refine S.sk (S.sk (S.o q.pf (S.o q.as (S.end (hK _ ?_))))); clear hK K; refine Ev.ret ?_; refine Ev.ret1 ?_; refine ⟨?_, rfl⟩
    first | exact bT (by unfold Place; omega) | exact bF (by unfold Place; omega) | exact dI (by unfold Place; omega)
theorem stepsValid_fun (l : List (Int × Int)) (hlen : l.length ≤ 140737488355328) : Fun Tryz.prog 186 [.sh 2 (l.map pairC)] (Ret (.lit (.bool (decide (okSteps l)))) []) := by
  refine Fun.of (nt := 45) (rs := [.tmp 2]) Tryz.func186 rfl rfl rfl rfl rfl ?_; refine Ev.sr fun K hK => S.o q.as (S.end (hK _ ?_)); clear hK K; refine Ev.seq ?_; refine Ev.sr fun K hK => S.o q.mv (S.o (q.lens am_el56) (S.o q.gtr (S.end (hK _ ?_)))); clear hK K; refine Ev.cd (fun c1 => ?_) (fun c1 => ?_)
  · first
  | omega | contradiction
  | refine Ev.sr fun K hK => S.o q.as (S.end (hK _ ?_)); clear hK K; refine Ev.ret ?_; refine Ev.ret1 ?_; refine ⟨?_, rfl⟩
    first
     | exact bF (fun h => by have h1 := h.1; omega)
     | exact bF (fun h => absurd (steps_cut hp h).1.1 ‹_›)
     | exact bF (fun h => by have h1 := (steps_cut hp h).1.2; simp only at h1; omega)
     | exact bF (fun h => by have h1 := (steps_cut hp h).2 (by omega); simp only at h1; omega)
     | exact bT ⟨by omega, by rw [← hp]; exact hinv⟩
  · first
  | omega | contradiction
  | refine Ev.skip ?_; show Ev _ _ _ _; refine Ev.seq ?_; refine Ev.sr fun K hK => S.o q.mv (S.o (q.lens am_el56) (S.o q.mv (S.end (hK _ ?_)))); clear hK K; refine Ev.block ?_; refine Ev.loopU (ι := {q : List (Int × Int) × List (Int × Int) // q.1 ++ q.2 = l ∧ (∀ x ∈ q.1, okStp x) ∧ q.1.Pairwise fun a b => a.1 < b.1}) [] [0, 8, 9] (fun ⟨(pre, suf), _⟩ => [(10, .lit (.int .i64 ((pre.length : Int))))]) (fun ⟨(pre, suf), _⟩ => []) (fun ⟨(pre, suf), _⟩ => suf.length) ⟨([], l), rfl, fun x hx => by simp at hx, .nil⟩ (.c (.c (.c .n))) keep_n (slots_c (he := (by first | rfl | (simp; done) | (congr 2; omega))) (h := trivial)) ?_; rintro ⟨⟨pre, suf⟩, hp, hinv⟩ R0 hR0; dsimp only [List.cons_append, List.nil_append, List.length_cons, List.length_nil]
    simp only at hp hinv
    have hpl : pre.length + suf.length = (l).length := by rw [← hp, List.length_append]
    rcases suf with _ | ⟨s, suf⟩
    · rw [List.append_nil] at hp; simp only [List.length_nil] at hpl; refine Ev.sr fun K hK => S.o q.lss (S.end (hK _ ?_)); clear hK K; refine Ev.ud (fun c2 => ?_) (fun c2 => ?_)
      · first
      | omega | contradiction
      | refine Ev.seq ?_; refine Ev.block ?_; refine Ev.sr fun K hK => S.o q.mv (S.o (q.ix am_el56 am_cl62 (hl := (by first | exact atig (by omega)))) (S.o (q.lsA [_, _] am_ag62 am_cl62) (S.nn (q.al am_ze62) (S.o q.as (S.sv [_, _] true [] am_in62 am_cl62 (h := S.end (hK _ ?_))))))); clear hK K; refine Ev.sm (tbs [(0, 0), (1, 1), (2, 3), (3, 7), (4, 15), (5, 31), (6, 63), (7, 127), (8, 255), (9, 511), (10, 1023), (11, 2047), (12, 4095), (13, 8191), (14, 16383), (15, 32767), (16, 65535), (17, 131071), (18, 262143), (19, 524287), (18, 262143), (18, 262143), (22, 2359295), (23, 7602175), (24, 15990783), (25, 32767999), (26, 67108863), (27, 134217727), (28, 268435455)]) 29 fun K hK => M.o (q.fa 0 am_fi62_0 am_cl3) (M.o (q.lv am_ag3) (M.c0 (hF := place_fun _) (h := M.o q.not (M.bn q.mv (fun c3 => ?_) (fun c3 => ?_)))))
        · first
        | omega | contradiction
        | refine M.sk (M.sk (M.sk (M.o q.pt (M.o q.mv (M.sk (M.sk (M.sk (M.o q.pt (M.o q.mv (M.sk (M.sk (M.sk (M.sk (M.sk (M.sk (M.sk (M.sk (M.sk (M.sk (M.sk (M.sk (M.sk (M.o q.pt (M.end [_] (h := S.end (hK _ ?_)))))))))))))))))))))))))); clear hK K; refine Ev.ct ?_; refine Ev.sr fun K hK => S.o q.as (S.end (hK _ ?_)); clear hK K; refine Ev.ret ?_; refine hR0 _ _ ?_; refine Ev.ret1 ?_; refine ⟨?_, rfl⟩
          first
           | exact bF (fun h => by have h1 := h.1; omega)
           | exact bF (fun h => absurd (steps_cut hp h).1.1 ‹_›)
           | exact bF (fun h => by have h1 := (steps_cut hp h).1.2; simp only at h1; omega)
           | exact bF (fun h => by have h1 := (steps_cut hp h).2 (by omega); simp only at h1; omega)
           | exact bT ⟨by omega, by rw [← hp]; exact hinv⟩
        · first
        | omega | contradiction
        | refine M.o (q.fa 1 am_fi62_1 am_cl3) (M.o (q.lv am_ag3) (M.o q.lss (M.o q.pf (M.bd q.mv (fun c4 => ?_) (fun c4 => ?_)))))
          · first
          | omega | contradiction
          | refine M.sk (M.sk (M.sk (M.o q.pt (M.o q.mv (M.sk (M.sk (M.sk (M.sk (M.sk (M.sk (M.sk (M.sk (M.sk (M.sk (M.sk (M.sk (M.sk (M.o q.pt (M.end [_] (h := S.end (hK _ ?_))))))))))))))))))))); clear hK K; refine Ev.ct ?_; refine Ev.sr fun K hK => S.o q.as (S.end (hK _ ?_)); clear hK K; refine Ev.ret ?_; refine hR0 _ _ ?_; refine Ev.ret1 ?_; refine ⟨?_, rfl⟩
            first
             | exact bF (fun h => by have h1 := h.1; omega)
             | exact bF (fun h => absurd (steps_cut hp h).1.1 ‹_›)
             | exact bF (fun h => by have h1 := (steps_cut hp h).1.2; simp only at h1; omega)
             | exact bF (fun h => by have h1 := (steps_cut hp h).2 (by omega); simp only at h1; omega)
             | exact bT ⟨by omega, by rw [← hp]; exact hinv⟩
          · first
          | omega | contradiction
          | refine M.o (q.fa 1 am_fi62_1 am_cl3) (M.o (q.lv am_ag3) (M.o q.gtr (M.o q.pf (M.bd q.mv (fun c5 => ?_) (fun c5 => ?_)))))
            · first
            | omega | contradiction
            | refine M.sk (M.sk (M.sk (M.sk (M.sk (M.sk (M.sk (M.sk (M.sk (M.sk (M.sk (M.sk (M.sk (M.o q.pt (M.end [_] (h := S.end (hK _ ?_)))))))))))))))); clear hK K; refine Ev.ct ?_; refine Ev.sr fun K hK => S.o q.as (S.end (hK _ ?_)); clear hK K; refine Ev.ret ?_; refine hR0 _ _ ?_; refine Ev.ret1 ?_; refine ⟨?_, rfl⟩
              first
               | exact bF (fun h => by have h1 := h.1; omega)
               | exact bF (fun h => absurd (steps_cut hp h).1.1 ‹_›)
               | exact bF (fun h => by have h1 := (steps_cut hp h).1.2; simp only at h1; omega)
               | exact bF (fun h => by have h1 := (steps_cut hp h).2 (by omega); simp only at h1; omega)
               | exact bT ⟨by omega, by rw [← hp]; exact hinv⟩
            · first
            | omega | contradiction
            | refine M.o q.mv (M.o q.gtr (M.bd q.mv (fun c6 => ?_) (fun c6 => ?_)))
              · first
              | omega | contradiction
              | refine M.o (q.fa 0 am_fi62_0 am_cl3) (M.o (q.lv am_ag3) (M.o q.mv (M.o q.mv (M.o q.sub (M.o (q.ix am_el56 am_cl62 (hl := (by first | exact atig (by omega)))) (M.o (q.fs 0 am_fi62_0 am_cl3) (M.o (q.ls am_ag3) (M.o q.leq (M.o q.pt (M.o q.pf (M.end [_] (h := S.end (hK _ ?_))))))))))))); clear hK K; refine Ev.cd (fun c7 => ?_) (fun c7 => ?_)
                · first
                | omega | contradiction
                | refine Ev.sr fun K hK => S.o q.as (S.end (hK _ ?_)); clear hK K; refine Ev.ret ?_; refine hR0 _ _ ?_; refine Ev.ret1 ?_; refine ⟨?_, rfl⟩
                  first
                   | exact bF (fun h => by have h1 := h.1; omega)
                   | exact bF (fun h => absurd (steps_cut hp h).1.1 ‹_›)
                   | exact bF (fun h => by have h1 := (steps_cut hp h).1.2; simp only at h1; omega)
                   | exact bF (fun h => by have h1 := (steps_cut hp h).2 (by omega); simp only at h1; omega)
                   | exact bT ⟨by omega, by rw [← hp]; exact hinv⟩
                · first
                | omega | contradiction
                | refine Ev.skip ?_; show Ev _ _ _ _; refine Ev.region_S fun K hK => S.o q.add (S.o q.mv (S.end (hK _ ?_))); clear hK K; refine hR0 _ _ ?_; refine roundU [] [0, 8, 9] ⟨(pre ++ [(sx, sy)], suf), by rw [← hp]; simp, ?_⟩ ?_ keep_n (slots_c (he := (by first | rfl | (simp; done) | (congr 2; omega))) (h := trivial)) (.c (.c (.c .n))); refine steps_snoc hinv ?_ ?_
                  · refine ⟨?_, by dsimp only; omega, by dsimp only; omega⟩
                    first | assumption | (unfold Place; dsimp only; omega)
                  · intro h
                    dsimp only
                    omega
                  all_goals (dsimp only; simp only [List.length_cons]; omega)
              · first
              | omega | contradiction
              | refine M.sk (M.sk (M.sk (M.sk (M.sk (M.sk (M.sk (M.sk (M.sk (M.o q.pf (M.o q.pf (M.end [_] (h := S.end (hK _ ?_))))))))))))); clear hK K; refine Ev.cf ?_; refine Ev.skip ?_; show Ev _ _ _ _; refine Ev.region_S fun K hK => S.o q.add (S.o q.mv (S.end (hK _ ?_))); clear hK K; refine hR0 _ _ ?_; refine roundU [] [0, 8, 9] ⟨(pre ++ [(sx, sy)], suf), by rw [← hp]; simp, ?_⟩ ?_ keep_n (slots_c (he := (by first | rfl | (simp; done) | (congr 2; omega))) (h := trivial)) (.c (.c (.c .n))); refine steps_snoc hinv ?_ ?_
                · refine ⟨?_, by dsimp only; omega, by dsimp only; omega⟩
                  first | assumption | (unfold Place; dsimp only; omega)
                · intro h
                  dsimp only
                  omega
                all_goals (dsimp only; simp only [List.length_cons]; omega)
      · first
      | omega | contradiction
      | refine Ev.exit ?_; refine hR0 _ _ ?_; show Ev _ _ _ _; refine Ev.sr fun K hK => S.o q.as (S.end (hK _ ?_)); clear hK K; refine Ev.ret ?_; refine Ev.ret1 ?_; refine ⟨?_, rfl⟩
        first
         | exact bF (fun h => by have h1 := h.1; omega)
         | exact bF (fun h => absurd (steps_cut hp h).1.1 ‹_›)
         | exact bF (fun h => by have h1 := (steps_cut hp h).1.2; simp only at h1; omega)
         | exact bF (fun h => by have h1 := (steps_cut hp h).2 (by omega); simp only at h1; omega)
         | exact bT ⟨by omega, by rw [← hp]; exact hinv⟩
    · simp only [List.length_cons] at hpl
      have hidx : l[pre.length]? = some s := by rw [← hp]; simp
      obtain ⟨sx, sy⟩ := s; have hprev := fun h => pre_last (pre := pre) hp h; refine Ev.sr fun K hK => S.o q.lss (S.end (hK _ ?_)); clear hK K; refine Ev.ud (fun c8 => ?_) (fun c8 => ?_)
      · first
      | omega | contradiction
      | refine Ev.seq ?_; refine Ev.block ?_; refine Ev.sr fun K hK => S.o q.mv (S.o (q.ix am_el56 am_cl62 (hl := (by first | exact ati hidx (by omega) | exact ati (hprev (by omega)) (by omega) | exact atig (by omega)))) (S.o (q.lsA [_, _] am_ag62 am_cl62) (S.nn (q.al am_ze62) (S.o q.as (S.sv [_, _] true [] am_in62 am_cl62 (h := S.end (hK _ ?_))))))); clear hK K; refine Ev.sm (tbs [(0, 0), (1, 1), (2, 3), (3, 7), (4, 15), (5, 31), (6, 63), (7, 127), (8, 255), (9, 511), (10, 1023), (11, 2047), (12, 4095), (13, 8191), (14, 16383), (15, 32767), (16, 65535), (17, 131071), (18, 262143), (19, 524287), (18, 262143), (18, 262143), (22, 2359295), (23, 7602175), (24, 15990783), (25, 32767999), (26, 67108863), (27, 134217727), (28, 268435455)]) 29 fun K hK => M.o (q.fa 0 am_fi62_0 am_cl3) (M.o (q.lv am_ag3) (M.c0 (hF := place_fun _) (h := M.o q.not (M.bn q.mv (fun c9 => ?_) (fun c9 => ?_)))))
        · first
        | omega | contradiction
        | refine M.sk (M.sk (M.sk (M.o q.pt (M.o q.mv (M.sk (M.sk (M.sk (M.o q.pt (M.o q.mv (M.sk (M.sk (M.sk (M.sk (M.sk (M.sk (M.sk (M.sk (M.sk (M.sk (M.sk (M.sk (M.sk (M.o q.pt (M.end [_] (h := S.end (hK _ ?_)))))))))))))))))))))))))); clear hK K; refine Ev.ct ?_; refine Ev.sr fun K hK => S.o q.as (S.end (hK _ ?_)); clear hK K; refine Ev.ret ?_; refine hR0 _ _ ?_; refine Ev.ret1 ?_; refine ⟨?_, rfl⟩
          first
           | exact bF (fun h => by have h1 := h.1; omega)
           | exact bF (fun h => absurd (steps_cut hp h).1.1 ‹_›)
           | exact bF (fun h => by have h1 := (steps_cut hp h).1.2; simp only at h1; omega)
           | exact bF (fun h => by have h1 := (steps_cut hp h).2 (by omega); simp only at h1; omega)
           | exact bT ⟨by omega, by rw [← hp]; exact hinv⟩
        · first
        | omega | contradiction
        | refine M.o (q.fa 1 am_fi62_1 am_cl3) (M.o (q.lv am_ag3) (M.o q.lss (M.o q.pf (M.bd q.mv (fun c10 => ?_) (fun c10 => ?_)))))
          · first
          | omega | contradiction
          | refine M.sk (M.sk (M.sk (M.o q.pt (M.o q.mv (M.sk (M.sk (M.sk (M.sk (M.sk (M.sk (M.sk (M.sk (M.sk (M.sk (M.sk (M.sk (M.sk (M.o q.pt (M.end [_] (h := S.end (hK _ ?_))))))))))))))))))))); clear hK K; refine Ev.ct ?_; refine Ev.sr fun K hK => S.o q.as (S.end (hK _ ?_)); clear hK K; refine Ev.ret ?_; refine hR0 _ _ ?_; refine Ev.ret1 ?_; refine ⟨?_, rfl⟩
            first
             | exact bF (fun h => by have h1 := h.1; omega)
             | exact bF (fun h => absurd (steps_cut hp h).1.1 ‹_›)
             | exact bF (fun h => by have h1 := (steps_cut hp h).1.2; simp only at h1; omega)
             | exact bF (fun h => by have h1 := (steps_cut hp h).2 (by omega); simp only at h1; omega)
             | exact bT ⟨by omega, by rw [← hp]; exact hinv⟩
          · first
          | omega | contradiction
          | refine M.o (q.fa 1 am_fi62_1 am_cl3) (M.o (q.lv am_ag3) (M.o q.gtr (M.o q.pf (M.bd q.mv (fun c11 => ?_) (fun c11 => ?_)))))
            · first
            | omega | contradiction
            | refine M.sk (M.sk (M.sk (M.sk (M.sk (M.sk (M.sk (M.sk (M.sk (M.sk (M.sk (M.sk (M.sk (M.o q.pt (M.end [_] (h := S.end (hK _ ?_)))))))))))))))); clear hK K; refine Ev.ct ?_; refine Ev.sr fun K hK => S.o q.as (S.end (hK _ ?_)); clear hK K; refine Ev.ret ?_; refine hR0 _ _ ?_; refine Ev.ret1 ?_; refine ⟨?_, rfl⟩
              first
               | exact bF (fun h => by have h1 := h.1; omega)
               | exact bF (fun h => absurd (steps_cut hp h).1.1 ‹_›)
               | exact bF (fun h => by have h1 := (steps_cut hp h).1.2; simp only at h1; omega)
               | exact bF (fun h => by have h1 := (steps_cut hp h).2 (by omega); simp only at h1; omega)
               | exact bT ⟨by omega, by rw [← hp]; exact hinv⟩
            · first
            | omega | contradiction
            | refine M.o q.mv (M.o q.gtr (M.bd q.mv (fun c12 => ?_) (fun c12 => ?_)))
              · first
              | omega | contradiction
              | refine M.o (q.fa 0 am_fi62_0 am_cl3) (M.o (q.lv am_ag3) (M.o q.mv (M.o q.mv (M.o q.sub (M.o (q.ix am_el56 am_cl62 (hl := (by first | exact ati hidx (by omega) | exact ati (hprev (by omega)) (by omega) | exact atig (by omega)))) (M.o (q.fs 0 am_fi62_0 am_cl3) (M.o (q.ls am_ag3) (M.o q.leq (M.o q.pt (M.o q.pf (M.end [_] (h := S.end (hK _ ?_))))))))))))); clear hK K; refine Ev.cd (fun c13 => ?_) (fun c13 => ?_)
                · first
                | omega | contradiction
                | refine Ev.sr fun K hK => S.o q.as (S.end (hK _ ?_)); clear hK K; refine Ev.ret ?_; refine hR0 _ _ ?_; refine Ev.ret1 ?_; refine ⟨?_, rfl⟩
                  first
                   | exact bF (fun h => by have h1 := h.1; omega)
                   | exact bF (fun h => absurd (steps_cut hp h).1.1 ‹_›)
                   | exact bF (fun h => by have h1 := (steps_cut hp h).1.2; simp only at h1; omega)
                   | exact bF (fun h => by have h1 := (steps_cut hp h).2 (by omega); simp only at h1; omega)
                   | exact bT ⟨by omega, by rw [← hp]; exact hinv⟩
                · first
                | omega | contradiction
                | refine Ev.skip ?_; show Ev _ _ _ _; refine Ev.region_S fun K hK => S.o q.add (S.o q.mv (S.end (hK _ ?_))); clear hK K; refine hR0 _ _ ?_; refine roundU [] [0, 8, 9] ⟨(pre ++ [(sx, sy)], suf), by rw [← hp]; simp, ?_⟩ ?_ keep_n (slots_c (he := (by first | rfl | (simp; done) | (congr 2; omega))) (h := trivial)) (.c (.c (.c .n))); refine steps_snoc hinv ?_ ?_
                  · refine ⟨?_, by dsimp only; omega, by dsimp only; omega⟩
                    first | assumption | (unfold Place; dsimp only; omega)
                  · intro h
                    dsimp only
                    omega
                  all_goals (dsimp only; simp only [List.length_cons]; omega)
              · first
              | omega | contradiction
              | refine M.sk (M.sk (M.sk (M.sk (M.sk (M.sk (M.sk (M.sk (M.sk (M.o q.pf (M.o q.pf (M.end [_] (h := S.end (hK _ ?_))))))))))))); clear hK K; refine Ev.cf ?_; refine Ev.skip ?_; show Ev _ _ _ _; refine Ev.region_S fun K hK => S.o q.add (S.o q.mv (S.end (hK _ ?_))); clear hK K; refine hR0 _ _ ?_; refine roundU [] [0, 8, 9] ⟨(pre ++ [(sx, sy)], suf), by rw [← hp]; simp, ?_⟩ ?_ keep_n (slots_c (he := (by first | rfl | (simp; done) | (congr 2; omega))) (h := trivial)) (.c (.c (.c .n))); refine steps_snoc hinv ?_ ?_
                · refine ⟨?_, by dsimp only; omega, by dsimp only; omega⟩
                  first | assumption | (unfold Place; dsimp only; omega)
                · intro h
                  dsimp only
                  omega
                all_goals (dsimp only; simp only [List.length_cons]; omega)
      · first
      | omega | contradiction
      | refine Ev.exit ?_; refine hR0 _ _ ?_; show Ev _ _ _ _; refine Ev.sr fun K hK => S.o q.as (S.end (hK _ ?_)); clear hK K; refine Ev.ret ?_; refine Ev.ret1 ?_; refine ⟨?_, rfl⟩
        first
         | exact bF (fun h => by have h1 := h.1; omega)
         | exact bF (fun h => absurd (steps_cut hp h).1.1 ‹_›)
         | exact bF (fun h => by have h1 := (steps_cut hp h).1.2; simp only at h1; omega)
         | exact bF (fun h => by have h1 := (steps_cut hp h).2 (by omega); simp only at h1; omega)
         | exact bT ⟨by omega, by rw [← hp]; exact hinv⟩
def atF (v : Int) : List (Int × Int) → Int → Int
  | [], _ => v
  | s :: l, y => atF (if s.1 ≤ y then s.2 else v) l y
def atK : List (Int × Int) → Int → Nat
  | [], _ => 0
  | s :: l, y => if s.1 ≤ y then atK l y + 1 else 0
def atV (l : List (Int × Int)) (y : Int) : Int := if okSteps l then atF 0 l y else 0
def atE (l : List (Int × Int)) : Int := if okSteps l then 0 else 1
end Go.Proofs.YtkbpignlggahaaaGreatDoor
namespace Go.Proofs.YtkbpignlggahaaaGreatDoor
open Go Go.AM
set_option linter.unusedSimpArgs false
set_option linter.unusedVariables false
set_option maxRecDepth 100000
set_option maxHeartbeats 1000000
structure Bx where
  lx : Int
  ly : Int
  lz : Int
  hx : Int
  hy : Int
  hz : Int
def Bx.c : Bx → List AV
  | ⟨a, b, c, d, e, f⟩ => [.lit (.int .i64 a), .lit (.int .i64 b), .lit (.int .i64 c), .lit (.int .i64 d), .lit (.int .i64 e), .lit (.int .i64 f)]
def okBx (b : Bx) : Prop := (b.lx ≤ b.hx ∧ -1048576 ≤ b.lx ∧ b.hx ≤ 1048576) ∧ (b.ly ≤ b.hy ∧ -1048576 ≤ b.ly ∧ b.hy ≤ 1048576) ∧ (b.lz ≤ b.hz ∧ -1048576 ≤ b.lz ∧ b.hz ≤ 1048576)
instance (b) : Decidable (okBx b) := by unfold okBx; infer_instance
structure Dem where
  name : List UInt8
  zone : Bx
  steps : List (Int × Int)
def Dem.c : Dem → List AV
  | ⟨n, ⟨a, b, c, d, e, f⟩, s⟩ => [.lit (str n), .lit (.int .i64 a), .lit (.int .i64 b), .lit (.int .i64 c), .lit (.int .i64 d), .lit (.int .i64 e), .lit (.int .i64 f), .sh 2 (s.map pairC)]
def okDem (d : Dem) : Prop := IsName d.name ∧ okBx d.zone ∧ okSteps d.steps
instance (d) : Decidable (okDem d) := by unfold okDem; infer_instance
def Dem.w (d : Dem) : Prop := d.name.length ≤ 140737488355328 ∧ d.steps.length ≤ 140737488355328
def demW (l : List Dem) : Prop := ∀ d ∈ l, d.w
def okDems (l : List Dem) : Prop := l.length ≤ 20 ∧ (∀ d ∈ l, okDem d) ∧ l.Pairwise (fun a b => a.name ≠ b.name)
instance (l) : Decidable (okDems l) := by unfold okDems; infer_instance
def demI (l : List Dem) (n : List UInt8) : Int := idxP (fun d => decide (d.name = n)) l 0
theorem demI_at {pre suf l : List Dem} {s : Dem} (hp : pre ++ s :: suf = l) : demI l s.name = pre.length ↔ ∀ a ∈ pre, a.name ≠ s.name := by
  constructor
  · intro h a ha hm; obtain ⟨p1, p2, rfl⟩ := List.append_of_mem ha
    have hle : demI l s.name ≤ p1.length := by
      rw [← hp, demI, List.append_assoc]
      have : ∀ (q : List Dem) (k : Int) (r : List Dem), a.name = s.name → idxP (fun b : Dem => decide (b.name = s.name)) (q ++ a :: r) k ≤ k + q.length := by
        intro q
        induction q with
        | nil => intro k r hm; rw [List.nil_append, idxP, if_pos (by simp [hm])]; simp
        | cons x q ih =>
          intro k r hm; rw [List.cons_append, idxP]
          split
          · simp only [List.length_cons]; omega
          · have := ih (k + 1) r hm; simp only [List.length_cons]; omega
      have := this p1 0 (p2 ++ s :: suf) hm
      simpa using this
    rw [h] at hle; simp only [List.length_append, List.length_cons] at hle; omega
  · intro h; rw [demI, ← hp, idxP_append _ pre _ 0 (fun a ha => by simp [h a ha]), idxP, if_pos (by simp)]; omega
theorem dems_cut {pre suf l : List Dem} {s : Dem} (hp : pre ++ s :: suf = l) (h : okDems l) : okDem s ∧ ∀ a ∈ pre, a.name ≠ s.name := by
  obtain ⟨h1, h2, h3⟩ := h; refine ⟨h2 s (by rw [← hp]; simp), fun a ha => ?_⟩; rw [← hp, List.pairwise_append] at h3; exact h3.2.2 a ha s (by simp)
theorem dems_snoc {pre : List Dem} {s : Dem} (h : (∀ b ∈ pre, okDem b) ∧ pre.Pairwise (fun a b => a.name ≠ b.name)) (h1 : okDem s) (h2 : ∀ a ∈ pre, a.name ≠ s.name) :
    (∀ b ∈ pre ++ [s], okDem b) ∧ (pre ++ [s]).Pairwise (fun a b => a.name ≠ b.name) := by
  refine ⟨fun b hb => ?_, List.pairwise_append.2 ⟨h.2, by simp, fun a ha b hb => ?_⟩⟩
  · rcases List.mem_append.1 hb with hb | hb
    · exact h.1 b hb
    · simp at hb; subst hb; exact h1
  · simp at hb; subst hb
    exact h2 a ha
theorem take_pre {T : Type} {pre suf l : List T} {s : T} (hp : pre ++ s :: suf = l) : l.take pre.length = pre := by rw [← hp, List.take_left]
def smD (l : List Dem) (most : Int) : Prop := ¬ ((l.length : Int) > most ∧ l.length ≤ 20 ∨ l.length > 25) ∧ ∀ d ∈ l, ¬ (d.name.length > 60 ∨ (d.steps.length : Int) > 2 * most ∧ d.steps.length ≤ 200 ∨ d.steps.length > 205)
instance (l most) : Decidable (smD l most) := by unfold smD; infer_instance
end Go.Proofs.YtkbpignlggahaaaGreatDoor
namespace Go.Proofs.YtkbpignlggahaaaGreatDoor
open Go Go.AM
set_option linter.unusedSimpArgs false
set_option linter.unusedVariables false
set_option maxRecDepth 100000
set_option maxHeartbeats 1000000
def co3 (a b c : Int) (k : Nat) : Int := if k = 0 then a else if k = 1 then b else c
def loB (b : Bx) (k : Nat) : Int := co3 b.lx b.ly b.lz k
def hiB (b : Bx) (k : Nat) : Int := co3 b.hx b.hy b.hz k
def okAx (b : Bx) (k : Nat) : Prop := loB b k ≤ hiB b k ∧ -1048576 ≤ loB b k ∧ hiB b k ≤ 1048576
theorem okBx_ax (b : Bx) : okBx b ↔ ∀ k, k < 3 → okAx b k := by
  constructor
  · rintro ⟨h1, h2, h3⟩ k hk
    match k, hk with
    | 0, _ => exact h1
    | 1, _ => exact h2
    | 2, _ => exact h3
  · intro h; exact ⟨h 0 (by decide), h 1 (by decide), h 2 (by decide)⟩
theorem ax_snoc {b : Bx} {k : Nat} (h : ∀ j, j < k → okAx b j) (h1 : okAx b k) : ∀ j, j < k + 1 → okAx b j := fun j hj => by
  by_cases e : j = k
  · subst e; exact h1
  · exact h j (by omega)
theorem coords_fun (a b c : Int) : Fun Tryz.prog 222 [.agg [.lit (.int .i64 a), .lit (.int .i64 b), .lit (.int .i64 c)]] (Ret (.agg [.lit (.int .i64 a), .lit (.int .i64 b), .lit (.int .i64 c)]) []) := by
  refine Fun.of (nt := 10) (rs := [.cell 2 237]) Tryz.func222 rfl rfl rfl rfl rfl ?_; refine Ev.sr fun K hK => S.nn (q.bx [_, _, _] true) (S.nn (q.al am_ze237) (S.end (hK _ ?_))); clear hK K; refine Ev.sr fun K hK => S.o (q.fa 0 am_fi80_0 am_cl3) (S.o (q.lv am_ag3) (S.o (q.fa 1 am_fi80_1 am_cl3) (S.o (q.lv am_ag3) (S.o (q.fa 2 am_fi80_2 am_cl3) (S.o (q.lv am_ag3) (S.o (q.bda [_, _, _] am_ze237 am_pn237 am_ar237 am_cl3) (S.sv [_, _, _] true [_] am_in237 am_cl237 (h := S.end (hK _ ?_))))))))); clear hK K; refine Ev.ret ?_; refine Ev.retv1 (res_c [_, _, _] am_ag237 am_cl237 res_n) ?_; refine ⟨?_, rfl⟩; rfl
theorem ends0_fun (b : Bx) : Fun Tryz.prog 200 [.agg b.c, .lit (.int .i64 0)] (Ret (.tup [.lit (.int .i64 b.lx), .lit (.int .i64 b.hx)]) []) := by
  refine Fun.of (nt := 16) (rs := [.tmp 4, .tmp 5]) Tryz.func200 rfl rfl rfl rfl rfl ?_; refine Ev.sr fun K hK => S.nn (q.bx [_, _, _, _, _, _] true) (S.o q.as (S.o q.as (S.end (hK _ ?_)))); clear hK K; refine Ev.weaken (Wk.forget [4]) ?_; refine Ev.sm (tbs [(0, 0), (1, 1), (2, 3), (0, 0), (4, 15), (0, 0), (6, 32), (7, 103), (0, 0), (9, 487), (8, 255), (11, 2047)]) 11 fun K hK => M.o (q.fa 0 am_fi100_0 am_cl80) (M.o (q.lvA [_, _, _] am_ag80 am_cl80) (M.c0 (hF := coords_fun _ _ _) (h := M.o q.mv (M.o (q.ixg am_ar237 am_ag3 am_cl3) (M.o (q.fa 3 am_fi100_1 am_cl80) (M.o (q.lvA [_, _, _] am_ag80 am_cl80) (M.c0 (hF := coords_fun _ _ _) (h := M.o q.mv (M.o (q.ixg am_ar237 am_ag3 am_cl3) (M.o q.as (M.end [_] (h := S.o q.as (S.end (hK _ ?_)))))))))))))); clear hK K; refine Ev.ret ?_; refine Ev.ret2 ?_; refine ⟨?_, rfl⟩; rfl
theorem ends1_fun (b : Bx) : Fun Tryz.prog 200 [.agg b.c, .lit (.int .i64 1)] (Ret (.tup [.lit (.int .i64 b.ly), .lit (.int .i64 b.hy)]) []) := by
  refine Fun.of (nt := 16) (rs := [.tmp 4, .tmp 5]) Tryz.func200 rfl rfl rfl rfl rfl ?_; refine Ev.sr fun K hK => S.nn (q.bx [_, _, _, _, _, _] true) (S.o q.as (S.o q.as (S.end (hK _ ?_)))); clear hK K; refine Ev.weaken (Wk.forget [4]) ?_; refine Ev.sm (tbs [(0, 0), (1, 1), (2, 3), (0, 0), (4, 15), (0, 0), (6, 32), (7, 103), (0, 0), (9, 487), (8, 255), (11, 2047)]) 11 fun K hK => M.o (q.fa 0 am_fi100_0 am_cl80) (M.o (q.lvA [_, _, _] am_ag80 am_cl80) (M.c0 (hF := coords_fun _ _ _) (h := M.o q.mv (M.o (q.ixg am_ar237 am_ag3 am_cl3) (M.o (q.fa 3 am_fi100_1 am_cl80) (M.o (q.lvA [_, _, _] am_ag80 am_cl80) (M.c0 (hF := coords_fun _ _ _) (h := M.o q.mv (M.o (q.ixg am_ar237 am_ag3 am_cl3) (M.o q.as (M.end [_] (h := S.o q.as (S.end (hK _ ?_)))))))))))))); clear hK K; refine Ev.ret ?_; refine Ev.ret2 ?_; refine ⟨?_, rfl⟩; rfl
theorem ends2_fun (b : Bx) : Fun Tryz.prog 200 [.agg b.c, .lit (.int .i64 2)] (Ret (.tup [.lit (.int .i64 b.lz), .lit (.int .i64 b.hz)]) []) := by
  refine Fun.of (nt := 16) (rs := [.tmp 4, .tmp 5]) Tryz.func200 rfl rfl rfl rfl rfl ?_; refine Ev.sr fun K hK => S.nn (q.bx [_, _, _, _, _, _] true) (S.o q.as (S.o q.as (S.end (hK _ ?_)))); clear hK K; refine Ev.weaken (Wk.forget [4]) ?_; refine Ev.sm (tbs [(0, 0), (1, 1), (2, 3), (0, 0), (4, 15), (0, 0), (6, 32), (7, 103), (0, 0), (9, 487), (8, 255), (11, 2047)]) 11 fun K hK => M.o (q.fa 0 am_fi100_0 am_cl80) (M.o (q.lvA [_, _, _] am_ag80 am_cl80) (M.c0 (hF := coords_fun _ _ _) (h := M.o q.mv (M.o (q.ixg am_ar237 am_ag3 am_cl3) (M.o (q.fa 3 am_fi100_1 am_cl80) (M.o (q.lvA [_, _, _] am_ag80 am_cl80) (M.c0 (hF := coords_fun _ _ _) (h := M.o q.mv (M.o (q.ixg am_ar237 am_ag3 am_cl3) (M.o q.as (M.end [_] (h := S.o q.as (S.end (hK _ ?_)))))))))))))); clear hK K; refine Ev.ret ?_; refine Ev.ret2 ?_; refine ⟨?_, rfl⟩; rfl
theorem ends_fun (b : Bx) (k : Nat) (hk : k < 3) : Fun Tryz.prog 200 [.agg b.c, .lit (.int .i64 (k : Int))] (Ret (.tup [.lit (.int .i64 (loB b k)), .lit (.int .i64 (hiB b k))]) []) := by
  match k, hk with
  | 0, _ => exact ends0_fun b
  | 1, _ => exact ends1_fun b
  | 2, _ => exact ends2_fun b
theorem boxValid_fun (b : Bx) : Fun Tryz.prog 157 [.agg b.c] (Ret (.lit (.bool (decide (okBx b)))) []) := by
  have hax := okBx_ax b; refine Fun.of (nt := 27) (rs := [.tmp 2]) Tryz.func157 rfl rfl rfl rfl rfl ?_; refine Ev.sr fun K hK => S.nn (q.bx [_, _, _, _, _, _] true) (S.o q.as (S.end (hK _ ?_))); clear hK K; refine Ev.seq ?_; refine Ev.sr fun K hK => S.o q.mv (S.end (hK _ ?_)); clear hK K; refine Ev.block ?_; refine Ev.loopU (ι := {k : Nat // k ≤ 3 ∧ ∀ j, j < k → okAx b j}) [0] [1] (fun ⟨k, _⟩ => [(6, .lit (.int .i64 ((k : Int))))]) (fun ⟨k, _⟩ => [(0, ⟨false, 100, 6, [[.lit (.int .i64 (b.lx)), .lit (.int .i64 (b.ly)), .lit (.int .i64 (b.lz)), .lit (.int .i64 (b.hx)), .lit (.int .i64 (b.hy)), .lit (.int .i64 (b.hz))]], true⟩)]) (fun ⟨k, _⟩ => 3 - k) ⟨0, by decide, fun j hj => absurd hj (by omega)⟩ (.c .n) (keep_c (he := (by first | rfl | (simp; done))) (h := keep_n)) (slots_c (he := (by first | rfl | (simp; done) | (congr 2; omega))) (h := trivial)) ?_; rintro ⟨k, hk, hinv⟩ R0 hR0; dsimp only [List.cons_append, List.nil_append, List.length_cons, List.length_nil]
  by_cases hk3 : k < 3
  rotate_left
  · obtain rfl : k = 3 := by omega
    refine Ev.sr fun K hK => S.o q.lss (S.end (hK _ ?_)); clear hK K; refine Ev.ud (fun c1 => ?_) (fun c1 => ?_)
    · first | omega | contradiction | (exfalso; simp at *; done)
    · first
    | omega | contradiction
    | refine Ev.exit ?_; refine hR0 _ _ ?_; show Ev _ _ _ _; refine Ev.sr fun K hK => S.o q.as (S.end (hK _ ?_)); clear hK K; refine Ev.ret ?_; refine Ev.ret1 ?_; refine ⟨?_, rfl⟩
      first
       | exact bT (hax.2 hinv)
       | exact bF (fun h => by have h1 := hax3.1 (hax.1 h k hk3); omega)
  · have hax3 : okAx b k ↔ loB b k ≤ hiB b k ∧ -1048576 ≤ loB b k ∧ hiB b k ≤ 1048576 := Iff.rfl; refine Ev.sr fun K hK => S.o q.lss (S.end (hK _ ?_)); clear hK K; refine Ev.ud (fun c2 => ?_) (fun c2 => ?_)
    · first
    | omega | contradiction
    | refine Ev.seq ?_; refine Ev.block ?_; refine Ev.sr fun K hK => S.o q.mv (S.o q.as (S.end (hK _ ?_))); clear hK K; refine Ev.sr fun K hK => S.o (q.lvA [_, _, _, _, _, _] am_ag100 am_cl100) (S.o q.mv (S.c0 (hF := ends_fun b k hk3) (h := S.o q.mv (S.o q.ex (S.o q.ex (S.o q.as (S.o q.as (S.end (hK _ ?_))))))))); clear hK K; refine Ev.sr fun K hK => S.o q.mv (S.o q.mv (S.o q.gtr (S.bd q.mv (fun c3 => ?_) (fun c3 => ?_))))
      · first
      | omega | contradiction
      | refine S.sk (S.sk (S.o q.pt (S.o q.mv (S.sk (S.sk (S.o q.pt (S.end (hK _ ?_)))))))); clear hK K; refine Ev.ct ?_; refine Ev.sr fun K hK => S.o q.as (S.end (hK _ ?_)); clear hK K; refine Ev.ret ?_; refine hR0 _ _ ?_; refine Ev.ret1 ?_; refine ⟨?_, rfl⟩
        first
         | exact bT (hax.2 hinv)
         | exact bF (fun h => by have h1 := hax3.1 (hax.1 h k hk3); omega)
      · first
      | omega | contradiction
      | refine S.o q.mv (S.o q.lss (S.o q.pf (S.bd q.mv (fun c4 => ?_) (fun c4 => ?_))))
        · first
        | omega | contradiction
        | refine S.sk (S.sk (S.o q.pt (S.end (hK _ ?_)))); clear hK K; refine Ev.ct ?_; refine Ev.sr fun K hK => S.o q.as (S.end (hK _ ?_)); clear hK K; refine Ev.ret ?_; refine hR0 _ _ ?_; refine Ev.ret1 ?_; refine ⟨?_, rfl⟩
          first
           | exact bT (hax.2 hinv)
           | exact bF (fun h => by have h1 := hax3.1 (hax.1 h k hk3); omega)
        · first
        | omega | contradiction
        | refine S.o q.mv (S.o q.gtr (S.o q.pf (S.end (hK _ ?_)))); clear hK K; refine Ev.cd (fun c5 => ?_) (fun c5 => ?_)
          · first
          | omega | contradiction
          | refine Ev.sr fun K hK => S.o q.as (S.end (hK _ ?_)); clear hK K; refine Ev.ret ?_; refine hR0 _ _ ?_; refine Ev.ret1 ?_; refine ⟨?_, rfl⟩
            first
             | exact bT (hax.2 hinv)
             | exact bF (fun h => by have h1 := hax3.1 (hax.1 h k hk3); omega)
          · first
          | omega | contradiction
          | refine Ev.skip ?_; show Ev _ _ _ _; refine Ev.region_S fun K hK => S.o q.add (S.o q.mv (S.end (hK _ ?_))); clear hK K; refine hR0 _ _ ?_; refine roundU [0] [1] ⟨k + 1, by omega, ax_snoc hinv (hax3.2 (by omega))⟩ ?_ (keep_c (he := (by first | rfl | (simp; done))) (h := keep_n)) (slots_c (he := (by first | rfl | (simp; done) | (congr 2; omega))) (h := trivial)) (.c .n); skip; all_goals (dsimp only; omega)
    · first | omega | contradiction | (exfalso; simp at *; done)
end Go.Proofs.YtkbpignlggahaaaGreatDoor
namespace Go.Proofs.YtkbpignlggahaaaGreatDoor
open Go Go.AM
set_option linter.unusedSimpArgs false
set_option linter.unusedVariables false
set_option maxRecDepth 100000
set_option maxHeartbeats 1000000
theorem right_fun (d : Dem) (hw : d.w) : Fun Tryz.prog 138 [.agg d.c] (Ret (.lit (.bool (decide (okDem d)))) []) := by
  obtain ⟨n, b, s⟩ := d; obtain ⟨hw1, hw2⟩ := hw
  simp only at hw1 hw2
  have hok : okDem ⟨n, b, s⟩ ↔ IsName n ∧ okBx b ∧ okSteps s := Iff.rfl; refine Fun.of (nt := 16) (rs := [.tmp 2]) Tryz.func138 rfl rfl rfl rfl rfl ?_; refine Ev.sr fun K hK => S.nn (q.bx [_, _, _, _, _, _, _, _] true) (S.o q.as (S.end (hK _ ?_))); clear hK K; refine Ev.sr fun K hK => S.o (q.fa 0 am_fi102_0 am_cl9) (S.o (q.lv am_ag9) (S.c0 (hF := isName_fun _ (by omega)) (h := S.bd q.mv (fun c1 => ?_) (fun c1 => ?_))))
  · first
  | omega | contradiction
  | refine S.o (q.fa 1 am_fi102_1 am_cl100) (S.o (q.lvA [_, _, _, _, _, _] am_ag100 am_cl100) (S.c0 (hF := boxValid_fun b) (h := S.o q.pt (S.bd q.mv (fun c2 => ?_) (fun c2 => ?_)))))
    · first
    | omega | contradiction
    | refine S.o (q.fa 7 am_fi102_2 am_cl56) (S.o (q.lv am_ag56) (S.c0 (hF := stepsValid_fun _ (by omega)) (h := S.o q.pt (S.o q.as (S.end (hK _ ?_)))))); clear hK K; refine Ev.ret ?_; refine Ev.ret1 ?_; refine ⟨?_, rfl⟩
      first | exact dI ⟨fun h => hok.2 ⟨‹_›, ‹_›, h⟩, fun h => (hok.1 h).2.2⟩ | exact bF (fun h => absurd (hok.1 h).1 ‹_›) | exact bF (fun h => absurd (hok.1 h).2.1 ‹_›)
    · first
    | omega | contradiction
    | refine S.sk (S.sk (S.sk (S.o q.pf (S.o q.as (S.end (hK _ ?_)))))); clear hK K; refine Ev.ret ?_; refine Ev.ret1 ?_; refine ⟨?_, rfl⟩
      first | exact dI ⟨fun h => hok.2 ⟨‹_›, ‹_›, h⟩, fun h => (hok.1 h).2.2⟩ | exact bF (fun h => absurd (hok.1 h).1 ‹_›) | exact bF (fun h => absurd (hok.1 h).2.1 ‹_›)
  · first
  | omega | contradiction
  | refine S.sk (S.sk (S.sk (S.o q.pf (S.o q.mv (S.sk (S.sk (S.sk (S.o q.pf (S.o q.as (S.end (hK _ ?_))))))))))); clear hK K; refine Ev.ret ?_; refine Ev.ret1 ?_; refine ⟨?_, rfl⟩
    first | exact dI ⟨fun h => hok.2 ⟨‹_›, ‹_›, h⟩, fun h => (hok.1 h).2.2⟩ | exact bF (fun h => absurd (hok.1 h).1 ‹_›) | exact bF (fun h => absurd (hok.1 h).2.1 ‹_›)
theorem indexFuncDem1 (g : FuncId) (c0 : List AV) (p : Dem → Bool) (hg : ∀ s, Fun Tryz.prog g [.agg (Dem.c s), .sadr c0 0] (Ret (.lit (.bool (p s))) [])) (l : List (Dem)) (hlen : l.length ≤ 140737488355328) :
    Fun Tryz.prog 187 [.sh 8 (l.map Dem.c), .fn (.func g) [] [.sadr c0 0]] (Ret (.lit (.int .i64 (idxP p l 0))) []) := by
  refine Fun.of (nt := 19) (rs := [.tmp 4]) Tryz.func187 rfl rfl rfl rfl rfl ?_; refine Ev.sr fun K hK => S.o q.as (S.end (hK _ ?_)); clear hK K; refine Ev.seq ?_; refine Ev.sr fun K hK => S.o q.mv (S.o (q.lens am_el30) (S.o q.mv (S.end (hK _ ?_)))); clear hK K; refine Ev.block ?_; refine Ev.loopU (ι := {q : List (Dem) × List (Dem) // q.1 ++ q.2 = l ∧ ∀ x ∈ q.1, p x = false}) [] [0, 1, 7] (fun ⟨(pre, suf), _⟩ => [(8, .lit (.int .i64 ((pre.length : Int))))]) (fun ⟨(pre, suf), _⟩ => []) (fun ⟨(pre, suf), _⟩ => suf.length) ⟨([], l), rfl, fun x hx => by simp at hx⟩ (.c (.c (.c .n))) keep_n (slots_c (he := (by first | rfl | (simp; done) | (congr 2; omega))) (h := trivial)) ?_; rintro ⟨⟨pre, suf⟩, hp, hinv⟩ R0 hR0; dsimp only [List.cons_append, List.nil_append, List.length_cons, List.length_nil]
  simp only at hp hinv
  have hpl : pre.length + suf.length = (l).length := by rw [← hp, List.length_append]
  rcases suf with _ | ⟨s, suf⟩
  · rw [List.append_nil] at hp; subst hp; simp only [List.length_nil] at hpl; refine Ev.sr fun K hK => S.o q.lss (S.end (hK _ ?_)); clear hK K; refine Ev.ud (fun c1 => ?_) (fun c1 => ?_)
    · first
    | omega | contradiction
    | refine Ev.seq ?_; refine Ev.block ?_; refine Ev.sr fun K hK => S.o q.mv (S.o q.as (S.end (hK _ ?_))); clear hK K; refine Ev.sr fun K hK => S.o q.mv (S.o q.mv (S.o q.mv (S.o (q.ix am_el30 am_cl102 (hl := (by first | exact atig (by omega)))) (S.o (q.lsA [_, _, _, _, _, _, _, _] am_ag102 am_cl102) (S.c0 (hF := hg s) (h := S.end (hK _ ?_))))))); clear hK K; refine Ev.c (fun c2 => ?_) (fun c2 => ?_)
      · first
      | omega | contradiction
      | refine Ev.sr fun K hK => S.o q.mv (S.o q.as (S.end (hK _ ?_))); clear hK K; refine Ev.ret ?_; refine hR0 _ _ ?_; refine Ev.ret1 ?_; refine ⟨?_, rfl⟩
        first | (congr 2; rw [← hp, idxP_append p pre _ 0 hinv, idxP, if_pos ‹_›]; omega) | (congr 2; rw [idxP_none p pre 0 hinv])
      · first
      | omega | contradiction
      | refine Ev.skip ?_; show Ev _ _ _ _; refine Ev.region_S fun K hK => S.o q.add (S.o q.mv (S.end (hK _ ?_))); clear hK K; refine hR0 _ _ ?_; refine roundU [] [0, 1, 7] ⟨(pre ++ [s], suf), by rw [← hp]; simp, ?_⟩ ?_ keep_n (slots_c (he := (by first | rfl | (simp; done) | (congr 2; omega))) (h := trivial)) (.c (.c (.c .n)))
        intro x hx; simp only [List.mem_append, List.mem_singleton] at hx; rcases hx with hx | rfl
        · exact hinv x hx
        · assumption
        all_goals (dsimp only; simp only [List.length_cons]; omega)
    · first
    | omega | contradiction
    | refine Ev.exit ?_; refine hR0 _ _ ?_; show Ev _ _ _ _; refine Ev.sr fun K hK => S.o q.as (S.end (hK _ ?_)); clear hK K; refine Ev.ret ?_; refine Ev.ret1 ?_; refine ⟨?_, rfl⟩
      first | (congr 2; rw [← hp, idxP_append p pre _ 0 hinv, idxP, if_pos ‹_›]; omega) | (congr 2; rw [idxP_none p pre 0 hinv])
  · simp only [List.length_cons] at hpl
    have hidx : (l)[pre.length]? = some s := by rw [← hp]; simp
    refine Ev.sr fun K hK => S.o q.lss (S.end (hK _ ?_)); clear hK K; refine Ev.ud (fun c3 => ?_) (fun c3 => ?_)
    · first
    | omega | contradiction
    | refine Ev.seq ?_; refine Ev.block ?_; refine Ev.sr fun K hK => S.o q.mv (S.o q.as (S.end (hK _ ?_))); clear hK K; refine Ev.sr fun K hK => S.o q.mv (S.o q.mv (S.o q.mv (S.o (q.ix am_el30 am_cl102 (hl := (by first | exact ati hidx (by omega) | exact atig (by omega)))) (S.o (q.lsA [_, _, _, _, _, _, _, _] am_ag102 am_cl102) (S.c0 (hF := hg s) (h := S.end (hK _ ?_))))))); clear hK K; refine Ev.c (fun c4 => ?_) (fun c4 => ?_)
      · first
      | omega | contradiction
      | refine Ev.sr fun K hK => S.o q.mv (S.o q.as (S.end (hK _ ?_))); clear hK K; refine Ev.ret ?_; refine hR0 _ _ ?_; refine Ev.ret1 ?_; refine ⟨?_, rfl⟩
        first | (congr 2; rw [← hp, idxP_append p pre _ 0 hinv, idxP, if_pos ‹_›]; omega) | (congr 2; rw [idxP_none p pre 0 hinv])
      · first
      | omega | contradiction
      | refine Ev.skip ?_; show Ev _ _ _ _; refine Ev.region_S fun K hK => S.o q.add (S.o q.mv (S.end (hK _ ?_))); clear hK K; refine hR0 _ _ ?_; refine roundU [] [0, 1, 7] ⟨(pre ++ [s], suf), by rw [← hp]; simp, ?_⟩ ?_ keep_n (slots_c (he := (by first | rfl | (simp; done) | (congr 2; omega))) (h := trivial)) (.c (.c (.c .n)))
        intro x hx; simp only [List.mem_append, List.mem_singleton] at hx; rcases hx with hx | rfl
        · exact hinv x hx
        · assumption
        all_goals (dsimp only; simp only [List.length_cons]; omega)
    · first
    | omega | contradiction
    | refine Ev.exit ?_; refine hR0 _ _ ?_; show Ev _ _ _ _; refine Ev.sr fun K hK => S.o q.as (S.end (hK _ ?_)); clear hK K; refine Ev.ret ?_; refine Ev.ret1 ?_; refine ⟨?_, rfl⟩
      first | (congr 2; rw [← hp, idxP_append p pre _ 0 hinv, idxP, if_pos ‹_›]; omega) | (congr 2; rw [idxP_none p pre 0 hinv])
theorem containsFuncDem1 (g : FuncId) (c0 : List AV) (p : Dem → Bool) (hg : ∀ s, Fun Tryz.prog g [.agg (Dem.c s), .sadr c0 0] (Ret (.lit (.bool (p s))) [])) (l : List (Dem)) (hlen : l.length ≤ 140737488355328) :
    Fun Tryz.prog 139 [.sh 8 (l.map Dem.c), .fn (.func g) [] [.sadr c0 0]] (Ret (.lit (.bool (decide (∃ x ∈ l, p x = true)))) []) := by
  have hd : (decide (∃ x ∈ l, p x = true)) = decide (0 ≤ idxP p l 0) := by simp only [idxP_nonneg p l 0 (Int.le_refl _)]
  rw [hd]; refine Fun.of (nt := 9) (rs := [.tmp 4]) Tryz.func139 rfl rfl rfl rfl rfl ?_; refine Ev.sr fun K hK => S.o q.as (S.end (hK _ ?_)); clear hK K; refine Ev.sr fun K hK => S.o q.mv (S.o q.mv (S.c0 (hF := indexFuncDem1 g c0 p hg l hlen) (h := S.o q.geq (S.o q.as (S.end (hK _ ?_)))))); clear hK K; refine Ev.ret ?_; refine Ev.ret1 ?_; refine ⟨?_, rfl⟩; rfl
theorem named_fun (d : Dem) (x : Dem) : Fun Tryz.prog 140 [.agg x.c, .sadr d.c 0] (Ret (.lit (.bool (decide (x.name = d.name)))) []) := by
  refine Fun.of (nt := 9) (rs := [.tmp 3]) Tryz.func140 rfl rfl rfl rfl rfl ?_; refine Ev.sr fun K hK => S.nn (q.bx [_, _, _, _, _, _, _, _] true) (S.o q.as (S.end (hK _ ?_))); clear hK K; refine Ev.sr fun K hK => S.o (q.fa 0 am_fi102_0 am_cl9) (S.o (q.lv am_ag9) (S.o (q.fs 0 am_fi102_0 am_cl9) (S.o (q.ls am_ag9) (S.o q.seqs (S.o q.as (S.end (hK _ ?_))))))); clear hK K; refine Ev.ret ?_; refine Ev.ret1 ?_; refine ⟨?_, rfl⟩; rfl
theorem demValid_fun (l : List Dem) (hlen : l.length ≤ 140737488355328) (hw : demW l) : Fun Tryz.prog 85 [.sh 8 (l.map Dem.c)] (Ret (.lit (.bool (decide (okDems l)))) []) := by
  refine Fun.of (nt := 26) (rs := [.tmp 2]) Tryz.func85 rfl rfl rfl rfl rfl ?_; refine Ev.sr fun K hK => S.o q.as (S.end (hK _ ?_)); clear hK K; refine Ev.seq ?_; refine Ev.sr fun K hK => S.o q.mv (S.o (q.lens am_el30) (S.o q.gtr (S.end (hK _ ?_)))); clear hK K; refine Ev.cd (fun c1 => ?_) (fun c1 => ?_)
  · first
  | omega | contradiction
  | refine Ev.sr fun K hK => S.o q.as (S.end (hK _ ?_)); clear hK K; refine Ev.ret ?_; refine Ev.ret1 ?_; refine ⟨?_, rfl⟩
    first
     | exact bF (fun h => by have h1 := h.1; omega)
     | exact bF (fun h => absurd (dems_cut hp h).1 ‹_›)
     | exact bF (fun h => by obtain ⟨x, hx, hn⟩ := ‹∃ x ∈ pre, _›; exact (dems_cut hp h).2 x hx (by simpa using hn))
     | exact bF (fun h => by have h1 := (demI_at hp).2 (dems_cut hp h).2; omega)
     | exact bF (fun h => absurd (dems_cut hp h).1.1 ‹_›)
     | exact bF (fun h => absurd (dems_cut hp h).1.2.1 ‹_›)
     | exact bF (fun h => absurd (dems_cut hp h).1.2.2 ‹_›)
     | exact bT ⟨by omega, by rw [← hp]; exact hinv⟩
  · first
  | omega | contradiction
  | refine Ev.skip ?_; show Ev _ _ _ _; refine Ev.seq ?_; refine Ev.sr fun K hK => S.o q.mv (S.o (q.lens am_el30) (S.o q.mv (S.end (hK _ ?_)))); clear hK K; refine Ev.block ?_; refine Ev.loopU (ι := {q : List Dem × List Dem // q.1 ++ q.2 = l ∧ (∀ b ∈ q.1, okDem b) ∧ q.1.Pairwise (fun a b => a.name ≠ b.name)}) [] [0, 8, 9] (fun ⟨(pre, suf), _⟩ => [(10, .lit (.int .i64 ((pre.length : Int))))]) (fun ⟨(pre, suf), _⟩ => []) (fun ⟨(pre, suf), _⟩ => suf.length) ⟨([], l), rfl, ⟨fun b hb => by simp at hb, by simp⟩⟩ (.c (.c (.c .n))) keep_n (slots_c (he := (by first | rfl | (simp; done) | (congr 2; omega))) (h := trivial)) ?_; rintro ⟨⟨pre, suf⟩, hp, hinv⟩ R0 hR0; dsimp only [List.cons_append, List.nil_append, List.length_cons, List.length_nil]
    simp only at hp hinv
    have hpl : pre.length + suf.length = (l).length := by rw [← hp, List.length_append]
    rcases suf with _ | ⟨s, suf⟩
    · rw [List.append_nil] at hp; simp only [List.length_nil] at hpl; refine Ev.sr fun K hK => S.o q.lss (S.end (hK _ ?_)); clear hK K; refine Ev.ud (fun c2 => ?_) (fun c2 => ?_)
      · first
      | omega | contradiction
      | refine Ev.seq ?_; refine Ev.block ?_; refine Ev.sr fun K hK => S.o q.mv (S.o (q.ix am_el30 am_cl102 (hl := (by first | exact atig (by omega)))) (S.o (q.lsA [_, _, _, _, _, _, _, _] am_ag102 am_cl102) (S.nn (q.al am_ze102) (S.o q.as (S.sv [_, _, _, _, _, _, _, _] true [] am_in102 am_cl102 (h := S.end (hK _ ?_))))))); clear hK K; refine Ev.sr fun K hK => S.o (q.lvA [_, _, _, _, _, _, _, _] am_ag102 am_cl102) (S.c0 (hF := right_fun _ (by assumption)) (h := S.o q.not (S.bn q.mv (fun c3 => ?_) (fun c3 => ?_))))
        · first
        | omega | contradiction
        | refine S.sk (S.sk (S.sk (S.sk (S.sk (S.o q.pt (S.end (hK _ ?_))))))); clear hK K; refine Ev.ct ?_; refine Ev.sr fun K hK => S.o q.as (S.end (hK _ ?_)); clear hK K; refine Ev.ret ?_; refine hR0 _ _ ?_; refine Ev.ret1 ?_; refine ⟨?_, rfl⟩
          first
           | exact bF (fun h => by have h1 := h.1; omega)
           | exact bF (fun h => absurd (dems_cut hp h).1 ‹_›)
           | exact bF (fun h => by obtain ⟨x, hx, hn⟩ := ‹∃ x ∈ pre, _›; exact (dems_cut hp h).2 x hx (by simpa using hn))
           | exact bF (fun h => by have h1 := (demI_at hp).2 (dems_cut hp h).2; omega)
           | exact bF (fun h => absurd (dems_cut hp h).1.1 ‹_›)
           | exact bF (fun h => absurd (dems_cut hp h).1.2.1 ‹_›)
           | exact bF (fun h => absurd (dems_cut hp h).1.2.2 ‹_›)
           | exact bT ⟨by omega, by rw [← hp]; exact hinv⟩
        · first
        | omega | contradiction
        | refine S.o q.mv (S.o q.mv (S.o (q.sh am_el30 am_cl102) (S.o q.mf ?_))); rw [htk]; refine S.c0 (hF := containsFuncDem1 _ _ _ (named_fun s) pre (by omega)) (h := S.o q.pf (S.end (hK _ ?_))); clear hK K; refine Ev.cd (fun c4 => ?_) (fun c4 => ?_)
          · first
          | omega | contradiction
          | refine Ev.sr fun K hK => S.o q.as (S.end (hK _ ?_)); clear hK K; refine Ev.ret ?_; refine hR0 _ _ ?_; refine Ev.ret1 ?_; refine ⟨?_, rfl⟩
            first
             | exact bF (fun h => by have h1 := h.1; omega)
             | exact bF (fun h => absurd (dems_cut hp h).1 ‹_›)
             | exact bF (fun h => by obtain ⟨x, hx, hn⟩ := ‹∃ x ∈ pre, _›; exact (dems_cut hp h).2 x hx (by simpa using hn))
             | exact bF (fun h => by have h1 := (demI_at hp).2 (dems_cut hp h).2; omega)
             | exact bF (fun h => absurd (dems_cut hp h).1.1 ‹_›)
             | exact bF (fun h => absurd (dems_cut hp h).1.2.1 ‹_›)
             | exact bF (fun h => absurd (dems_cut hp h).1.2.2 ‹_›)
             | exact bT ⟨by omega, by rw [← hp]; exact hinv⟩
          · first
          | omega | contradiction
          | refine Ev.skip ?_; show Ev _ _ _ _; refine Ev.region_S fun K hK => S.o q.add (S.o q.mv (S.end (hK _ ?_))); clear hK K; refine hR0 _ _ ?_; refine roundU [] [0, 8, 9] ⟨(pre ++ [s], suf), by rw [← hp]; simp, ?_⟩ ?_ keep_n (slots_c (he := (by first | rfl | (simp; done) | (congr 2; omega))) (h := trivial)) (.c (.c (.c .n))); exact dems_snoc hinv ‹_› (fun a ha he => by have h := ‹¬ ∃ x ∈ pre, _›; exact h ⟨a, ha, by simpa using he⟩); all_goals (dsimp only; simp only [List.length_cons]; omega)
      · first
      | omega | contradiction
      | refine Ev.exit ?_; refine hR0 _ _ ?_; show Ev _ _ _ _; refine Ev.sr fun K hK => S.o q.as (S.end (hK _ ?_)); clear hK K; refine Ev.ret ?_; refine Ev.ret1 ?_; refine ⟨?_, rfl⟩
        first
         | exact bF (fun h => by have h1 := h.1; omega)
         | exact bF (fun h => absurd (dems_cut hp h).1 ‹_›)
         | exact bF (fun h => by obtain ⟨x, hx, hn⟩ := ‹∃ x ∈ pre, _›; exact (dems_cut hp h).2 x hx (by simpa using hn))
         | exact bF (fun h => by have h1 := (demI_at hp).2 (dems_cut hp h).2; omega)
         | exact bF (fun h => absurd (dems_cut hp h).1.1 ‹_›)
         | exact bF (fun h => absurd (dems_cut hp h).1.2.1 ‹_›)
         | exact bF (fun h => absurd (dems_cut hp h).1.2.2 ‹_›)
         | exact bT ⟨by omega, by rw [← hp]; exact hinv⟩
    · simp only [List.length_cons] at hpl
      have hidx : l[pre.length]? = some s := by rw [← hp]; simp
      have hsw : s.w := hw s (by rw [← hp]; simp)
      have htk : List.take ((pre.length : Int).toNat - ((0 : Nat) : Int).toNat) (List.drop ((0 : Nat) : Int).toNat l) = pre := by simpa using take_pre hp
      refine Ev.sr fun K hK => S.o q.lss (S.end (hK _ ?_)); clear hK K; refine Ev.ud (fun c5 => ?_) (fun c5 => ?_)
      · first
      | omega | contradiction
      | refine Ev.seq ?_; refine Ev.block ?_; refine Ev.sr fun K hK => S.o q.mv (S.o (q.ix am_el30 am_cl102 (hl := (by first | exact ati hidx (by omega) | exact atig (by omega)))) (S.o (q.lsA [_, _, _, _, _, _, _, _] am_ag102 am_cl102) (S.nn (q.al am_ze102) (S.o q.as (S.sv [_, _, _, _, _, _, _, _] true [] am_in102 am_cl102 (h := S.end (hK _ ?_))))))); clear hK K; refine Ev.sr fun K hK => S.o (q.lvA [_, _, _, _, _, _, _, _] am_ag102 am_cl102) (S.c0 (hF := right_fun _ (by assumption)) (h := S.o q.not (S.bn q.mv (fun c6 => ?_) (fun c6 => ?_))))
        · first
        | omega | contradiction
        | refine S.sk (S.sk (S.sk (S.sk (S.sk (S.o q.pt (S.end (hK _ ?_))))))); clear hK K; refine Ev.ct ?_; refine Ev.sr fun K hK => S.o q.as (S.end (hK _ ?_)); clear hK K; refine Ev.ret ?_; refine hR0 _ _ ?_; refine Ev.ret1 ?_; refine ⟨?_, rfl⟩
          first
           | exact bF (fun h => by have h1 := h.1; omega)
           | exact bF (fun h => absurd (dems_cut hp h).1 ‹_›)
           | exact bF (fun h => by obtain ⟨x, hx, hn⟩ := ‹∃ x ∈ pre, _›; exact (dems_cut hp h).2 x hx (by simpa using hn))
           | exact bF (fun h => by have h1 := (demI_at hp).2 (dems_cut hp h).2; omega)
           | exact bF (fun h => absurd (dems_cut hp h).1.1 ‹_›)
           | exact bF (fun h => absurd (dems_cut hp h).1.2.1 ‹_›)
           | exact bF (fun h => absurd (dems_cut hp h).1.2.2 ‹_›)
           | exact bT ⟨by omega, by rw [← hp]; exact hinv⟩
        · first
        | omega | contradiction
        | refine S.o q.mv (S.o q.mv (S.o (q.sh am_el30 am_cl102) (S.o q.mf ?_))); rw [htk]; refine S.c0 (hF := containsFuncDem1 _ _ _ (named_fun s) pre (by omega)) (h := S.o q.pf (S.end (hK _ ?_))); clear hK K; refine Ev.cd (fun c7 => ?_) (fun c7 => ?_)
          · first
          | omega | contradiction
          | refine Ev.sr fun K hK => S.o q.as (S.end (hK _ ?_)); clear hK K; refine Ev.ret ?_; refine hR0 _ _ ?_; refine Ev.ret1 ?_; refine ⟨?_, rfl⟩
            first
             | exact bF (fun h => by have h1 := h.1; omega)
             | exact bF (fun h => absurd (dems_cut hp h).1 ‹_›)
             | exact bF (fun h => by obtain ⟨x, hx, hn⟩ := ‹∃ x ∈ pre, _›; exact (dems_cut hp h).2 x hx (by simpa using hn))
             | exact bF (fun h => by have h1 := (demI_at hp).2 (dems_cut hp h).2; omega)
             | exact bF (fun h => absurd (dems_cut hp h).1.1 ‹_›)
             | exact bF (fun h => absurd (dems_cut hp h).1.2.1 ‹_›)
             | exact bF (fun h => absurd (dems_cut hp h).1.2.2 ‹_›)
             | exact bT ⟨by omega, by rw [← hp]; exact hinv⟩
          · first
          | omega | contradiction
          | refine Ev.skip ?_; show Ev _ _ _ _; refine Ev.region_S fun K hK => S.o q.add (S.o q.mv (S.end (hK _ ?_))); clear hK K; refine hR0 _ _ ?_; refine roundU [] [0, 8, 9] ⟨(pre ++ [s], suf), by rw [← hp]; simp, ?_⟩ ?_ keep_n (slots_c (he := (by first | rfl | (simp; done) | (congr 2; omega))) (h := trivial)) (.c (.c (.c .n))); exact dems_snoc hinv ‹_› (fun a ha he => by have h := ‹¬ ∃ x ∈ pre, _›; exact h ⟨a, ha, by simpa using he⟩); all_goals (dsimp only; simp only [List.length_cons]; omega)
      · first
      | omega | contradiction
      | refine Ev.exit ?_; refine hR0 _ _ ?_; show Ev _ _ _ _; refine Ev.sr fun K hK => S.o q.as (S.end (hK _ ?_)); clear hK K; refine Ev.ret ?_; refine Ev.ret1 ?_; refine ⟨?_, rfl⟩
        first
         | exact bF (fun h => by have h1 := h.1; omega)
         | exact bF (fun h => absurd (dems_cut hp h).1 ‹_›)
         | exact bF (fun h => by obtain ⟨x, hx, hn⟩ := ‹∃ x ∈ pre, _›; exact (dems_cut hp h).2 x hx (by simpa using hn))
         | exact bF (fun h => by have h1 := (demI_at hp).2 (dems_cut hp h).2; omega)
         | exact bF (fun h => absurd (dems_cut hp h).1.1 ‹_›)
         | exact bF (fun h => absurd (dems_cut hp h).1.2.1 ‹_›)
         | exact bF (fun h => absurd (dems_cut hp h).1.2.2 ‹_›)
         | exact bT ⟨by omega, by rw [← hp]; exact hinv⟩
theorem smD_fun (l : List Dem) (most : Int) (h0 : 0 ≤ most) (h1 : most ≤ 1000) (hlen : l.length ≤ 140737488355328) : Fun Tryz.prog 22 [.sh 8 (l.map Dem.c), .lit (.int .i64 most)] (Ret (.lit (.bool (decide (smD l most)))) []) := by
  refine Fun.of (nt := 54) (rs := [.tmp 4]) Tryz.func22 rfl rfl rfl rfl rfl ?_; refine Ev.sr fun K hK => S.o q.as (S.end (hK _ ?_)); clear hK K; refine Ev.seq ?_; refine Ev.sr fun K hK => S.o q.mv (S.o (q.lens am_el30) (S.o q.mv (S.o q.gtr (S.bd q.mv (fun c1 => ?_) (fun c1 => ?_)))))
  · first
  | omega | contradiction
  | refine S.o q.mv (S.o (q.lens am_el30) (S.o q.leq (S.o q.pt (S.bd q.mv (fun c2 => ?_) (fun c2 => ?_)))))
    · first
    | omega | contradiction
    | refine S.sk (S.sk (S.sk (S.o q.pt (S.end (hK _ ?_))))); clear hK K; refine Ev.ct ?_; refine Ev.sr fun K hK => S.o q.as (S.end (hK _ ?_)); clear hK K; refine Ev.ret ?_; refine Ev.ret1 ?_; refine ⟨?_, rfl⟩
      first
       | exact bF (fun h => by have h1 := h.1; omega)
       | exact bF (fun h => by have h1 := h.2 s (by rw [← hp]; simp); omega)
       | exact bT ⟨by omega, by rw [← hp]; exact hinv⟩
    · first
    | omega | contradiction
    | refine S.o q.mv (S.o (q.lens am_el30) (S.o q.gtr (S.o q.pf (S.end (hK _ ?_))))); clear hK K; refine Ev.cd (fun c3 => ?_) (fun c3 => ?_)
      · first
      | omega | contradiction
      | refine Ev.sr fun K hK => S.o q.as (S.end (hK _ ?_)); clear hK K; refine Ev.ret ?_; refine Ev.ret1 ?_; refine ⟨?_, rfl⟩
        first
         | exact bF (fun h => by have h1 := h.1; omega)
         | exact bF (fun h => by have h1 := h.2 s (by rw [← hp]; simp); omega)
         | exact bT ⟨by omega, by rw [← hp]; exact hinv⟩
      · first
      | omega | contradiction
      | refine Ev.skip ?_; show Ev _ _ _ _; refine Ev.seq ?_; refine Ev.sr fun K hK => S.o q.as (S.end (hK _ ?_)); clear hK K; refine Ev.block ?_; refine Ev.loopU (ι := {q : List Dem × List Dem // q.1 ++ q.2 = l ∧ ∀ d ∈ q.1, ¬ (d.name.length > 60 ∨ (d.steps.length : Int) > 2 * most ∧ d.steps.length ≤ 200 ∨ d.steps.length > 205)}) [] [0, 1] (fun ⟨(pre, suf), _⟩ => [(5, .lit (.int .i64 ((pre.length : Int))))]) (fun ⟨(pre, suf), _⟩ => []) (fun ⟨(pre, suf), _⟩ => suf.length) ⟨([], l), rfl, fun x hx => by simp at hx⟩ (.c (.c .n)) keep_n (slots_c (he := (by first | rfl | (simp; done) | (congr 2; omega))) (h := trivial)) ?_; rintro ⟨⟨pre, suf⟩, hp, hinv⟩ R0 hR0; dsimp only [List.cons_append, List.nil_append, List.length_cons, List.length_nil]
        simp only at hp hinv
        have hpl : pre.length + suf.length = (l).length := by rw [← hp, List.length_append]
        rcases suf with _ | ⟨s, suf⟩
        · rw [List.append_nil] at hp; simp only [List.length_nil] at hpl; refine Ev.seq ?_; refine Ev.sr fun K hK => S.o q.mv (S.o q.mv (S.o (q.lens am_el30) (S.o q.lss (S.end (hK _ ?_))))); clear hK K; refine Ev.cd (fun c4 => ?_) (fun c4 => ?_)
          · first
          | omega | contradiction
          | refine Ev.skip ?_; show Ev _ _ _ _; refine Ev.seq ?_; refine Ev.block ?_; refine Ev.sr fun K hK => S.o q.mv (S.o q.mv (S.o (q.ix am_el30 am_cl102 (hl := (by first | exact atig (by omega)))) (S.o (q.fs 7 am_fi102_2 am_cl56) (S.o (q.ls am_ag56) (S.o (q.lens am_el56) (S.o q.as (S.end (hK _ ?_)))))))); clear hK K; refine Ev.sr fun K hK => S.o q.mv (S.o q.mv (S.o (q.ix am_el30 am_cl102 (hl := (by first | exact atig (by omega)))) (S.o (q.fs 0 am_fi102_0 am_cl9) (S.o (q.ls am_ag9) (S.o (q.slen am_el9 am_un9) (S.o q.gtr (S.bd q.mv (fun c5 => ?_) (fun c5 => ?_))))))))
            · first
            | omega | contradiction
            | refine S.sk (S.sk (S.sk (S.sk (S.sk (S.sk (S.sk (S.sk (S.o q.pt (S.o q.mv (S.sk (S.sk (S.o q.pt (S.end (hK _ ?_)))))))))))))); clear hK K; refine Ev.ct ?_; refine Ev.sr fun K hK => S.o q.as (S.end (hK _ ?_)); clear hK K; refine Ev.ret ?_; refine hR0 _ _ ?_; refine Ev.ret1 ?_; refine ⟨?_, rfl⟩
              first
               | exact bF (fun h => by have h1 := h.1; omega)
               | exact bF (fun h => by have h1 := h.2 s (by rw [← hp]; simp); omega)
               | exact bT ⟨by omega, by rw [← hp]; exact hinv⟩
            · first
            | omega | contradiction
            | refine S.o q.mv (S.o q.mv (S.o q.mul (S.o q.gtr (S.bd q.mv (fun c6 => ?_) (fun c6 => ?_)))))
              · first
              | omega | contradiction
              | refine S.o q.mv (S.o q.leq (S.o q.pt (S.o q.pf (S.bd q.mv (fun c7 => ?_) (fun c7 => ?_)))))
                · first
                | omega | contradiction
                | refine S.sk (S.sk (S.o q.pt (S.end (hK _ ?_)))); clear hK K; refine Ev.ct ?_; refine Ev.sr fun K hK => S.o q.as (S.end (hK _ ?_)); clear hK K; refine Ev.ret ?_; refine hR0 _ _ ?_; refine Ev.ret1 ?_; refine ⟨?_, rfl⟩
                  first
                   | exact bF (fun h => by have h1 := h.1; omega)
                   | exact bF (fun h => by have h1 := h.2 s (by rw [← hp]; simp); omega)
                   | exact bT ⟨by omega, by rw [← hp]; exact hinv⟩
                · first
                | omega | contradiction
                | refine S.o q.mv (S.o q.gtr (S.o q.pf (S.end (hK _ ?_)))); clear hK K; refine Ev.cd (fun c8 => ?_) (fun c8 => ?_)
                  · first
                  | omega | contradiction
                  | refine Ev.sr fun K hK => S.o q.as (S.end (hK _ ?_)); clear hK K; refine Ev.ret ?_; refine hR0 _ _ ?_; refine Ev.ret1 ?_; refine ⟨?_, rfl⟩
                    first
                     | exact bF (fun h => by have h1 := h.1; omega)
                     | exact bF (fun h => by have h1 := h.2 s (by rw [← hp]; simp); omega)
                     | exact bT ⟨by omega, by rw [← hp]; exact hinv⟩
                  · first
                  | omega | contradiction
                  | refine Ev.skip ?_; show Ev _ _ _ _; refine Ev.region_S fun K hK => S.o q.mv (S.o q.add (S.o q.as (S.end (hK _ ?_)))); clear hK K; refine hR0 _ _ ?_; refine roundU [] [0, 1] ⟨(pre ++ [s], suf), by rw [← hp]; simp, ?_⟩ ?_ keep_n (slots_c (he := (by first | rfl | (simp; done) | (congr 2; omega))) (h := trivial)) (.c (.c .n))
                    intro x hx; simp only [List.mem_append, List.mem_singleton] at hx; rcases hx with hx | rfl
                    · exact hinv x hx
                    · omega
                    all_goals (dsimp only; simp only [List.length_cons]; omega)
              · first
              | omega | contradiction
              | refine S.sk (S.sk (S.o q.pf (S.o q.pf (S.o q.mv (S.o q.mv (S.o q.gtr (S.o q.pf (S.end (hK _ ?_))))))))); clear hK K; refine Ev.cd (fun c9 => ?_) (fun c9 => ?_)
                · first
                | omega | contradiction
                | refine Ev.sr fun K hK => S.o q.as (S.end (hK _ ?_)); clear hK K; refine Ev.ret ?_; refine hR0 _ _ ?_; refine Ev.ret1 ?_; refine ⟨?_, rfl⟩
                  first
                   | exact bF (fun h => by have h1 := h.1; omega)
                   | exact bF (fun h => by have h1 := h.2 s (by rw [← hp]; simp); omega)
                   | exact bT ⟨by omega, by rw [← hp]; exact hinv⟩
                · first
                | omega | contradiction
                | refine Ev.skip ?_; show Ev _ _ _ _; refine Ev.region_S fun K hK => S.o q.mv (S.o q.add (S.o q.as (S.end (hK _ ?_)))); clear hK K; refine hR0 _ _ ?_; refine roundU [] [0, 1] ⟨(pre ++ [s], suf), by rw [← hp]; simp, ?_⟩ ?_ keep_n (slots_c (he := (by first | rfl | (simp; done) | (congr 2; omega))) (h := trivial)) (.c (.c .n))
                  intro x hx; simp only [List.mem_append, List.mem_singleton] at hx; rcases hx with hx | rfl
                  · exact hinv x hx
                  · omega
                  all_goals (dsimp only; simp only [List.length_cons]; omega)
          · first
          | omega | contradiction
          | refine Ev.exit ?_; refine hR0 _ _ ?_; show Ev _ _ _ _; refine Ev.sr fun K hK => S.o q.as (S.end (hK _ ?_)); clear hK K; refine Ev.ret ?_; refine Ev.ret1 ?_; refine ⟨?_, rfl⟩
            first
             | exact bF (fun h => by have h1 := h.1; omega)
             | exact bF (fun h => by have h1 := h.2 s (by rw [← hp]; simp); omega)
             | exact bT ⟨by omega, by rw [← hp]; exact hinv⟩
        · simp only [List.length_cons] at hpl
          have hidx : l[pre.length]? = some s := by rw [← hp]; simp
          refine Ev.seq ?_; refine Ev.sr fun K hK => S.o q.mv (S.o q.mv (S.o (q.lens am_el30) (S.o q.lss (S.end (hK _ ?_))))); clear hK K; refine Ev.cd (fun c10 => ?_) (fun c10 => ?_)
          · first
          | omega | contradiction
          | refine Ev.skip ?_; show Ev _ _ _ _; refine Ev.seq ?_; refine Ev.block ?_; refine Ev.sr fun K hK => S.o q.mv (S.o q.mv (S.o (q.ix am_el30 am_cl102 (hl := (by first | exact ati hidx (by omega) | exact atig (by omega)))) (S.o (q.fs 7 am_fi102_2 am_cl56) (S.o (q.ls am_ag56) (S.o (q.lens am_el56) (S.o q.as (S.end (hK _ ?_)))))))); clear hK K; refine Ev.sr fun K hK => S.o q.mv (S.o q.mv (S.o (q.ix am_el30 am_cl102 (hl := (by first | exact ati hidx (by omega) | exact atig (by omega)))) (S.o (q.fs 0 am_fi102_0 am_cl9) (S.o (q.ls am_ag9) (S.o (q.slen am_el9 am_un9) (S.o q.gtr (S.bd q.mv (fun c11 => ?_) (fun c11 => ?_))))))))
            · first
            | omega | contradiction
            | refine S.sk (S.sk (S.sk (S.sk (S.sk (S.sk (S.sk (S.sk (S.o q.pt (S.o q.mv (S.sk (S.sk (S.o q.pt (S.end (hK _ ?_)))))))))))))); clear hK K; refine Ev.ct ?_; refine Ev.sr fun K hK => S.o q.as (S.end (hK _ ?_)); clear hK K; refine Ev.ret ?_; refine hR0 _ _ ?_; refine Ev.ret1 ?_; refine ⟨?_, rfl⟩
              first
               | exact bF (fun h => by have h1 := h.1; omega)
               | exact bF (fun h => by have h1 := h.2 s (by rw [← hp]; simp); omega)
               | exact bT ⟨by omega, by rw [← hp]; exact hinv⟩
            · first
            | omega | contradiction
            | refine S.o q.mv (S.o q.mv (S.o q.mul (S.o q.gtr (S.bd q.mv (fun c12 => ?_) (fun c12 => ?_)))))
              · first
              | omega | contradiction
              | refine S.o q.mv (S.o q.leq (S.o q.pt (S.o q.pf (S.bd q.mv (fun c13 => ?_) (fun c13 => ?_)))))
                · first
                | omega | contradiction
                | refine S.sk (S.sk (S.o q.pt (S.end (hK _ ?_)))); clear hK K; refine Ev.ct ?_; refine Ev.sr fun K hK => S.o q.as (S.end (hK _ ?_)); clear hK K; refine Ev.ret ?_; refine hR0 _ _ ?_; refine Ev.ret1 ?_; refine ⟨?_, rfl⟩
                  first
                   | exact bF (fun h => by have h1 := h.1; omega)
                   | exact bF (fun h => by have h1 := h.2 s (by rw [← hp]; simp); omega)
                   | exact bT ⟨by omega, by rw [← hp]; exact hinv⟩
                · first
                | omega | contradiction
                | refine S.o q.mv (S.o q.gtr (S.o q.pf (S.end (hK _ ?_)))); clear hK K; refine Ev.cd (fun c14 => ?_) (fun c14 => ?_)
                  · first
                  | omega | contradiction
                  | refine Ev.sr fun K hK => S.o q.as (S.end (hK _ ?_)); clear hK K; refine Ev.ret ?_; refine hR0 _ _ ?_; refine Ev.ret1 ?_; refine ⟨?_, rfl⟩
                    first
                     | exact bF (fun h => by have h1 := h.1; omega)
                     | exact bF (fun h => by have h1 := h.2 s (by rw [← hp]; simp); omega)
                     | exact bT ⟨by omega, by rw [← hp]; exact hinv⟩
                  · first
                  | omega | contradiction
                  | refine Ev.skip ?_; show Ev _ _ _ _; refine Ev.region_S fun K hK => S.o q.mv (S.o q.add (S.o q.as (S.end (hK _ ?_)))); clear hK K; refine hR0 _ _ ?_; refine roundU [] [0, 1] ⟨(pre ++ [s], suf), by rw [← hp]; simp, ?_⟩ ?_ keep_n (slots_c (he := (by first | rfl | (simp; done) | (congr 2; omega))) (h := trivial)) (.c (.c .n))
                    intro x hx; simp only [List.mem_append, List.mem_singleton] at hx; rcases hx with hx | rfl
                    · exact hinv x hx
                    · omega
                    all_goals (dsimp only; simp only [List.length_cons]; omega)
              · first
              | omega | contradiction
              | refine S.sk (S.sk (S.o q.pf (S.o q.pf (S.o q.mv (S.o q.mv (S.o q.gtr (S.o q.pf (S.end (hK _ ?_))))))))); clear hK K; refine Ev.cd (fun c15 => ?_) (fun c15 => ?_)
                · first
                | omega | contradiction
                | refine Ev.sr fun K hK => S.o q.as (S.end (hK _ ?_)); clear hK K; refine Ev.ret ?_; refine hR0 _ _ ?_; refine Ev.ret1 ?_; refine ⟨?_, rfl⟩
                  first
                   | exact bF (fun h => by have h1 := h.1; omega)
                   | exact bF (fun h => by have h1 := h.2 s (by rw [← hp]; simp); omega)
                   | exact bT ⟨by omega, by rw [← hp]; exact hinv⟩
                · first
                | omega | contradiction
                | refine Ev.skip ?_; show Ev _ _ _ _; refine Ev.region_S fun K hK => S.o q.mv (S.o q.add (S.o q.as (S.end (hK _ ?_)))); clear hK K; refine hR0 _ _ ?_; refine roundU [] [0, 1] ⟨(pre ++ [s], suf), by rw [← hp]; simp, ?_⟩ ?_ keep_n (slots_c (he := (by first | rfl | (simp; done) | (congr 2; omega))) (h := trivial)) (.c (.c .n))
                  intro x hx; simp only [List.mem_append, List.mem_singleton] at hx; rcases hx with hx | rfl
                  · exact hinv x hx
                  · omega
                  all_goals (dsimp only; simp only [List.length_cons]; omega)
          · first
          | omega | contradiction
          | refine Ev.exit ?_; refine hR0 _ _ ?_; show Ev _ _ _ _; refine Ev.sr fun K hK => S.o q.as (S.end (hK _ ?_)); clear hK K; refine Ev.ret ?_; refine Ev.ret1 ?_; refine ⟨?_, rfl⟩
            first
             | exact bF (fun h => by have h1 := h.1; omega)
             | exact bF (fun h => by have h1 := h.2 s (by rw [← hp]; simp); omega)
             | exact bT ⟨by omega, by rw [← hp]; exact hinv⟩
  · first
  | omega | contradiction
  | refine S.sk (S.sk (S.sk (S.o q.pf (S.o q.mv (S.o q.mv (S.o (q.lens am_el30) (S.o q.gtr (S.o q.pf (S.end (hK _ ?_)))))))))); clear hK K; refine Ev.cd (fun c16 => ?_) (fun c16 => ?_)
    · first
    | omega | contradiction
    | refine Ev.sr fun K hK => S.o q.as (S.end (hK _ ?_)); clear hK K; refine Ev.ret ?_; refine Ev.ret1 ?_; refine ⟨?_, rfl⟩
      first
       | exact bF (fun h => by have h1 := h.1; omega)
       | exact bF (fun h => by have h1 := h.2 s (by rw [← hp]; simp); omega)
       | exact bT ⟨by omega, by rw [← hp]; exact hinv⟩
    · first
    | omega | contradiction
    | refine Ev.skip ?_; show Ev _ _ _ _; refine Ev.seq ?_; refine Ev.sr fun K hK => S.o q.as (S.end (hK _ ?_)); clear hK K; refine Ev.block ?_; refine Ev.loopU (ι := {q : List Dem × List Dem // q.1 ++ q.2 = l ∧ ∀ d ∈ q.1, ¬ (d.name.length > 60 ∨ (d.steps.length : Int) > 2 * most ∧ d.steps.length ≤ 200 ∨ d.steps.length > 205)}) [] [0, 1] (fun ⟨(pre, suf), _⟩ => [(5, .lit (.int .i64 ((pre.length : Int))))]) (fun ⟨(pre, suf), _⟩ => []) (fun ⟨(pre, suf), _⟩ => suf.length) ⟨([], l), rfl, fun x hx => by simp at hx⟩ (.c (.c .n)) keep_n (slots_c (he := (by first | rfl | (simp; done) | (congr 2; omega))) (h := trivial)) ?_; rintro ⟨⟨pre, suf⟩, hp, hinv⟩ R0 hR0; dsimp only [List.cons_append, List.nil_append, List.length_cons, List.length_nil]
      simp only at hp hinv
      have hpl : pre.length + suf.length = (l).length := by rw [← hp, List.length_append]
      rcases suf with _ | ⟨s, suf⟩
      · rw [List.append_nil] at hp; simp only [List.length_nil] at hpl; refine Ev.seq ?_; refine Ev.sr fun K hK => S.o q.mv (S.o q.mv (S.o (q.lens am_el30) (S.o q.lss (S.end (hK _ ?_))))); clear hK K; refine Ev.cd (fun c17 => ?_) (fun c17 => ?_)
        · first
        | omega | contradiction
        | refine Ev.skip ?_; show Ev _ _ _ _; refine Ev.seq ?_; refine Ev.block ?_; refine Ev.sr fun K hK => S.o q.mv (S.o q.mv (S.o (q.ix am_el30 am_cl102 (hl := (by first | exact atig (by omega)))) (S.o (q.fs 7 am_fi102_2 am_cl56) (S.o (q.ls am_ag56) (S.o (q.lens am_el56) (S.o q.as (S.end (hK _ ?_)))))))); clear hK K; refine Ev.sr fun K hK => S.o q.mv (S.o q.mv (S.o (q.ix am_el30 am_cl102 (hl := (by first | exact atig (by omega)))) (S.o (q.fs 0 am_fi102_0 am_cl9) (S.o (q.ls am_ag9) (S.o (q.slen am_el9 am_un9) (S.o q.gtr (S.bd q.mv (fun c18 => ?_) (fun c18 => ?_))))))))
          · first
          | omega | contradiction
          | refine S.sk (S.sk (S.sk (S.sk (S.sk (S.sk (S.sk (S.sk (S.o q.pt (S.o q.mv (S.sk (S.sk (S.o q.pt (S.end (hK _ ?_)))))))))))))); clear hK K; refine Ev.ct ?_; refine Ev.sr fun K hK => S.o q.as (S.end (hK _ ?_)); clear hK K; refine Ev.ret ?_; refine hR0 _ _ ?_; refine Ev.ret1 ?_; refine ⟨?_, rfl⟩
            first
             | exact bF (fun h => by have h1 := h.1; omega)
             | exact bF (fun h => by have h1 := h.2 s (by rw [← hp]; simp); omega)
             | exact bT ⟨by omega, by rw [← hp]; exact hinv⟩
          · first
          | omega | contradiction
          | refine S.o q.mv (S.o q.mv (S.o q.mul (S.o q.gtr (S.bd q.mv (fun c19 => ?_) (fun c19 => ?_)))))
            · first
            | omega | contradiction
            | refine S.o q.mv (S.o q.leq (S.o q.pt (S.o q.pf (S.bd q.mv (fun c20 => ?_) (fun c20 => ?_)))))
              · first
              | omega | contradiction
              | refine S.sk (S.sk (S.o q.pt (S.end (hK _ ?_)))); clear hK K; refine Ev.ct ?_; refine Ev.sr fun K hK => S.o q.as (S.end (hK _ ?_)); clear hK K; refine Ev.ret ?_; refine hR0 _ _ ?_; refine Ev.ret1 ?_; refine ⟨?_, rfl⟩
                first
                 | exact bF (fun h => by have h1 := h.1; omega)
                 | exact bF (fun h => by have h1 := h.2 s (by rw [← hp]; simp); omega)
                 | exact bT ⟨by omega, by rw [← hp]; exact hinv⟩
              · first
              | omega | contradiction
              | refine S.o q.mv (S.o q.gtr (S.o q.pf (S.end (hK _ ?_)))); clear hK K; refine Ev.cd (fun c21 => ?_) (fun c21 => ?_)
                · first
                | omega | contradiction
                | refine Ev.sr fun K hK => S.o q.as (S.end (hK _ ?_)); clear hK K; refine Ev.ret ?_; refine hR0 _ _ ?_; refine Ev.ret1 ?_; refine ⟨?_, rfl⟩
                  first
                   | exact bF (fun h => by have h1 := h.1; omega)
                   | exact bF (fun h => by have h1 := h.2 s (by rw [← hp]; simp); omega)
                   | exact bT ⟨by omega, by rw [← hp]; exact hinv⟩
                · first
                | omega | contradiction
                | refine Ev.skip ?_; show Ev _ _ _ _; refine Ev.region_S fun K hK => S.o q.mv (S.o q.add (S.o q.as (S.end (hK _ ?_)))); clear hK K; refine hR0 _ _ ?_; refine roundU [] [0, 1] ⟨(pre ++ [s], suf), by rw [← hp]; simp, ?_⟩ ?_ keep_n (slots_c (he := (by first | rfl | (simp; done) | (congr 2; omega))) (h := trivial)) (.c (.c .n))
                  intro x hx; simp only [List.mem_append, List.mem_singleton] at hx; rcases hx with hx | rfl
                  · exact hinv x hx
                  · omega
                  all_goals (dsimp only; simp only [List.length_cons]; omega)
            · first
            | omega | contradiction
            | refine S.sk (S.sk (S.o q.pf (S.o q.pf (S.o q.mv (S.o q.mv (S.o q.gtr (S.o q.pf (S.end (hK _ ?_))))))))); clear hK K; refine Ev.cd (fun c22 => ?_) (fun c22 => ?_)
              · first
              | omega | contradiction
              | refine Ev.sr fun K hK => S.o q.as (S.end (hK _ ?_)); clear hK K; refine Ev.ret ?_; refine hR0 _ _ ?_; refine Ev.ret1 ?_; refine ⟨?_, rfl⟩
                first
                 | exact bF (fun h => by have h1 := h.1; omega)
                 | exact bF (fun h => by have h1 := h.2 s (by rw [← hp]; simp); omega)
                 | exact bT ⟨by omega, by rw [← hp]; exact hinv⟩
              · first
              | omega | contradiction
              | refine Ev.skip ?_; show Ev _ _ _ _; refine Ev.region_S fun K hK => S.o q.mv (S.o q.add (S.o q.as (S.end (hK _ ?_)))); clear hK K; refine hR0 _ _ ?_; refine roundU [] [0, 1] ⟨(pre ++ [s], suf), by rw [← hp]; simp, ?_⟩ ?_ keep_n (slots_c (he := (by first | rfl | (simp; done) | (congr 2; omega))) (h := trivial)) (.c (.c .n))
                intro x hx; simp only [List.mem_append, List.mem_singleton] at hx; rcases hx with hx | rfl
                · exact hinv x hx
                · omega
                all_goals (dsimp only; simp only [List.length_cons]; omega)
        · first
        | omega | contradiction
        | refine Ev.exit ?_; refine hR0 _ _ ?_; show Ev _ _ _ _; refine Ev.sr fun K hK => S.o q.as (S.end (hK _ ?_)); clear hK K; refine Ev.ret ?_; refine Ev.ret1 ?_; refine ⟨?_, rfl⟩
          first
           | exact bF (fun h => by have h1 := h.1; omega)
           | exact bF (fun h => by have h1 := h.2 s (by rw [← hp]; simp); omega)
           | exact bT ⟨by omega, by rw [← hp]; exact hinv⟩
      · simp only [List.length_cons] at hpl
        have hidx : l[pre.length]? = some s := by rw [← hp]; simp
        refine Ev.seq ?_; refine Ev.sr fun K hK => S.o q.mv (S.o q.mv (S.o (q.lens am_el30) (S.o q.lss (S.end (hK _ ?_))))); clear hK K; refine Ev.cd (fun c23 => ?_) (fun c23 => ?_)
        · first
        | omega | contradiction
        | refine Ev.skip ?_; show Ev _ _ _ _; refine Ev.seq ?_; refine Ev.block ?_; refine Ev.sr fun K hK => S.o q.mv (S.o q.mv (S.o (q.ix am_el30 am_cl102 (hl := (by first | exact ati hidx (by omega) | exact atig (by omega)))) (S.o (q.fs 7 am_fi102_2 am_cl56) (S.o (q.ls am_ag56) (S.o (q.lens am_el56) (S.o q.as (S.end (hK _ ?_)))))))); clear hK K; refine Ev.sr fun K hK => S.o q.mv (S.o q.mv (S.o (q.ix am_el30 am_cl102 (hl := (by first | exact ati hidx (by omega) | exact atig (by omega)))) (S.o (q.fs 0 am_fi102_0 am_cl9) (S.o (q.ls am_ag9) (S.o (q.slen am_el9 am_un9) (S.o q.gtr (S.bd q.mv (fun c24 => ?_) (fun c24 => ?_))))))))
          · first
          | omega | contradiction
          | refine S.sk (S.sk (S.sk (S.sk (S.sk (S.sk (S.sk (S.sk (S.o q.pt (S.o q.mv (S.sk (S.sk (S.o q.pt (S.end (hK _ ?_)))))))))))))); clear hK K; refine Ev.ct ?_; refine Ev.sr fun K hK => S.o q.as (S.end (hK _ ?_)); clear hK K; refine Ev.ret ?_; refine hR0 _ _ ?_; refine Ev.ret1 ?_; refine ⟨?_, rfl⟩
            first
             | exact bF (fun h => by have h1 := h.1; omega)
             | exact bF (fun h => by have h1 := h.2 s (by rw [← hp]; simp); omega)
             | exact bT ⟨by omega, by rw [← hp]; exact hinv⟩
          · first
          | omega | contradiction
          | refine S.o q.mv (S.o q.mv (S.o q.mul (S.o q.gtr (S.bd q.mv (fun c25 => ?_) (fun c25 => ?_)))))
            · first
            | omega | contradiction
            | refine S.o q.mv (S.o q.leq (S.o q.pt (S.o q.pf (S.bd q.mv (fun c26 => ?_) (fun c26 => ?_)))))
              · first
              | omega | contradiction
              | refine S.sk (S.sk (S.o q.pt (S.end (hK _ ?_)))); clear hK K; refine Ev.ct ?_; refine Ev.sr fun K hK => S.o q.as (S.end (hK _ ?_)); clear hK K; refine Ev.ret ?_; refine hR0 _ _ ?_; refine Ev.ret1 ?_; refine ⟨?_, rfl⟩
                first
                 | exact bF (fun h => by have h1 := h.1; omega)
                 | exact bF (fun h => by have h1 := h.2 s (by rw [← hp]; simp); omega)
                 | exact bT ⟨by omega, by rw [← hp]; exact hinv⟩
              · first
              | omega | contradiction
              | refine S.o q.mv (S.o q.gtr (S.o q.pf (S.end (hK _ ?_)))); clear hK K; refine Ev.cd (fun c27 => ?_) (fun c27 => ?_)
                · first
                | omega | contradiction
                | refine Ev.sr fun K hK => S.o q.as (S.end (hK _ ?_)); clear hK K; refine Ev.ret ?_; refine hR0 _ _ ?_; refine Ev.ret1 ?_; refine ⟨?_, rfl⟩
                  first
                   | exact bF (fun h => by have h1 := h.1; omega)
                   | exact bF (fun h => by have h1 := h.2 s (by rw [← hp]; simp); omega)
                   | exact bT ⟨by omega, by rw [← hp]; exact hinv⟩
                · first
                | omega | contradiction
                | refine Ev.skip ?_; show Ev _ _ _ _; refine Ev.region_S fun K hK => S.o q.mv (S.o q.add (S.o q.as (S.end (hK _ ?_)))); clear hK K; refine hR0 _ _ ?_; refine roundU [] [0, 1] ⟨(pre ++ [s], suf), by rw [← hp]; simp, ?_⟩ ?_ keep_n (slots_c (he := (by first | rfl | (simp; done) | (congr 2; omega))) (h := trivial)) (.c (.c .n))
                  intro x hx; simp only [List.mem_append, List.mem_singleton] at hx; rcases hx with hx | rfl
                  · exact hinv x hx
                  · omega
                  all_goals (dsimp only; simp only [List.length_cons]; omega)
            · first
            | omega | contradiction
            | refine S.sk (S.sk (S.o q.pf (S.o q.pf (S.o q.mv (S.o q.mv (S.o q.gtr (S.o q.pf (S.end (hK _ ?_))))))))); clear hK K; refine Ev.cd (fun c28 => ?_) (fun c28 => ?_)
              · first
              | omega | contradiction
              | refine Ev.sr fun K hK => S.o q.as (S.end (hK _ ?_)); clear hK K; refine Ev.ret ?_; refine hR0 _ _ ?_; refine Ev.ret1 ?_; refine ⟨?_, rfl⟩
                first
                 | exact bF (fun h => by have h1 := h.1; omega)
                 | exact bF (fun h => by have h1 := h.2 s (by rw [← hp]; simp); omega)
                 | exact bT ⟨by omega, by rw [← hp]; exact hinv⟩
              · first
              | omega | contradiction
              | refine Ev.skip ?_; show Ev _ _ _ _; refine Ev.region_S fun K hK => S.o q.mv (S.o q.add (S.o q.as (S.end (hK _ ?_)))); clear hK K; refine hR0 _ _ ?_; refine roundU [] [0, 1] ⟨(pre ++ [s], suf), by rw [← hp]; simp, ?_⟩ ?_ keep_n (slots_c (he := (by first | rfl | (simp; done) | (congr 2; omega))) (h := trivial)) (.c (.c .n))
                intro x hx; simp only [List.mem_append, List.mem_singleton] at hx; rcases hx with hx | rfl
                · exact hinv x hx
                · omega
                all_goals (dsimp only; simp only [List.length_cons]; omega)
        · first
        | omega | contradiction
        | refine Ev.exit ?_; refine hR0 _ _ ?_; show Ev _ _ _ _; refine Ev.sr fun K hK => S.o q.as (S.end (hK _ ?_)); clear hK K; refine Ev.ret ?_; refine Ev.ret1 ?_; refine ⟨?_, rfl⟩
          first
           | exact bF (fun h => by have h1 := h.1; omega)
           | exact bF (fun h => by have h1 := h.2 s (by rw [← hp]; simp); omega)
           | exact bT ⟨by omega, by rw [← hp]; exact hinv⟩
end Go.Proofs.YtkbpignlggahaaaGreatDoor
