/-
  The answer on bundles: valid ones, masses, findings.
  Conditions: none.
-/
import Derived.Test.YtnbjmckhongidaaDoorMk2
import Derived.Test.YtnbjmckhongidaaDoorMk3
namespace Go.Proofs.YtnbjmckhongidaaDoor
open Go Go.AM
set_option linter.unusedSimpArgs false
set_option linter.unusedVariables false
set_option maxRecDepth 100000
set_option maxHeartbeats 1000000

theorem rBfind_fun (l : List Bundle) (t : List UInt8) (hlen : l.length ≤ 140737488355328) : Fun Tryd.prog 25 [.sh 4 (l.map Bundle.c), .lit (str t)] (Ret (.lit (.int .i64 (tagI l t))) []) := by
  unfold tagI
  refine Fun.of (nt := 20) (rs := [.tmp 4]) Tryd.func25 rfl rfl rfl rfl rfl ?_
  refine Ev.sr fun K hK => S.o q.as (S.end (hK _ ?_))
  clear hK K
  refine Ev.seq ?_
  refine Ev.sr fun K hK => S.o q.as (S.end (hK _ ?_))
  clear hK K
  refine Ev.block ?_
  refine Ev.loopU (ι := {q : List Bundle × List Bundle // q.1 ++ q.2 = l ∧ ∀ x ∈ q.1, decide (x.tag = t) = false}) [] [0, 1] (fun ⟨(pre, suf), _⟩ => [(5, .lit (.int .i64 ((pre.length : Int))))]) (fun ⟨(pre, suf), _⟩ => []) (fun ⟨(pre, suf), _⟩ => suf.length) ⟨([], l), rfl, fun x hx => by simp at hx⟩ (.c (.c .n)) keep_n (slots_c (he := (by first | rfl | (simp; done) | (congr 2; omega))) (h := trivial)) ?_
  rintro ⟨⟨pre, suf⟩, hp, hinv⟩ R0 hR0
  dsimp only [List.cons_append, List.nil_append, List.length_cons, List.length_nil]
  simp only at hp hinv
  have hpl : pre.length + suf.length = (l).length := by rw [← hp, List.length_append]
  rcases suf with _ | ⟨s, suf⟩
  · rw [List.append_nil] at hp; subst hp; simp only [List.length_nil] at hpl
    refine Ev.seq ?_
    refine Ev.sr fun K hK => S.o q.mv (S.o q.mv (S.o (q.lens am_el25) (S.o q.lss (S.end (hK _ ?_)))))
    clear hK K
    refine Ev.cd (fun c1 => ?_) (fun c1 => ?_)
    · first | omega | contradiction
    · first
    | (first | omega | contradiction)
    | refine Ev.exit ?_
      refine hR0 _ _ ?_
      show Ev _ _ _ _
      refine Ev.sr fun K hK => S.o q.as (S.end (hK _ ?_))
      clear hK K
      refine Ev.ret ?_
      refine Ev.ret1 ?_
      refine ⟨?_, rfl⟩
      first | (congr 2; rw [← hp, idxP_append _ pre _ 0 hinv, idxP, if_pos (decide_eq_true ‹_›)]; omega) | (congr 2; rw [idxP_none _ pre 0 hinv])
  · simp only [List.length_cons] at hpl
    have hidx : (l)[pre.length]? = some s := by rw [← hp]; simp
    refine Ev.seq ?_
    refine Ev.sr fun K hK => S.o q.mv (S.o q.mv (S.o (q.lens am_el25) (S.o q.lss (S.end (hK _ ?_)))))
    clear hK K
    refine Ev.cd (fun c2 => ?_) (fun c2 => ?_)
    · first
    | (first | omega | contradiction)
    | refine Ev.skip ?_
      show Ev _ _ _ _
      refine Ev.seq ?_
      refine Ev.block ?_
      refine Ev.sr fun K hK => S.o q.mv (S.o q.mv (S.o (q.ix am_el25 am_cl46 (hl := (by first | exact ati hidx (by omega) | exact atig (by omega)))) (S.o (q.fs 0 am_fi46_0 am_cl9) (S.o (q.ls am_ag9) (S.o q.mv (S.o q.seqs (S.end (hK _ ?_))))))))
      clear hK K
      refine Ev.cd (fun c3 => ?_) (fun c3 => ?_)
      · first
      | (first | omega | contradiction)
      | refine Ev.sr fun K hK => S.o q.mv (S.o q.as (S.end (hK _ ?_)))
        clear hK K
        refine Ev.ret ?_
        refine hR0 _ _ ?_
        refine Ev.ret1 ?_
        refine ⟨?_, rfl⟩
        first | (congr 2; rw [← hp, idxP_append _ pre _ 0 hinv, idxP, if_pos (decide_eq_true ‹_›)]; omega) | (congr 2; rw [idxP_none _ pre 0 hinv])
      · first
      | (first | omega | contradiction)
      | refine Ev.skip ?_
        show Ev _ _ _ _
        refine Ev.region_S fun K hK => S.o q.mv (S.o q.add (S.o q.as (S.end (hK _ ?_))))
        clear hK K
        refine hR0 _ _ ?_
        refine roundU [] [0, 1] ⟨(pre ++ [s], suf), by rw [← hp]; simp, ?_⟩ ?_ keep_n (slots_c (he := (by first | rfl | (simp; done) | (congr 2; omega))) (h := trivial)) (.c (.c .n))
        intro x hx; simp only [List.mem_append, List.mem_singleton] at hx; rcases hx with hx | rfl
        · exact hinv x hx
        · exact decide_eq_false ‹_›
        all_goals (dsimp only; simp only [List.length_cons]; omega)
    · first | omega | contradiction

theorem tagI_at {pre suf l : List Bundle} {s : Bundle} (hp : pre ++ s :: suf = l) : tagI l s.tag = pre.length ↔ ∀ a ∈ pre, a.tag ≠ s.tag := by
  have h := idxP_at (p := fun b : Bundle => decide (b.tag = s.tag)) hp (decide_eq_true rfl)
  unfold tagI
  rw [h]
  simp
theorem rBvalid_fun (l : List Bundle) (hlen : l.length ≤ 140737488355328) (hw : bunW l) : Fun Tryd.prog 23 [.sh 4 (l.map Bundle.c)] (Ret (.lit (.bool (decide (okBuns l)))) []) := by
  refine Fun.of (nt := 56) (rs := [.tmp 2]) Tryd.func23 rfl rfl rfl rfl rfl ?_
  refine Ev.sr fun K hK => S.o q.as (S.end (hK _ ?_))
  clear hK K
  refine Ev.seq ?_
  refine Ev.sr fun K hK => S.o q.mv (S.o (q.lens am_el25) (S.o q.gtr (S.end (hK _ ?_))))
  clear hK K
  refine Ev.cd (fun c1 => ?_) (fun c1 => ?_)
  · first
  | (first | omega | contradiction)
  | refine Ev.sr fun K hK => S.o q.as (S.end (hK _ ?_))
    clear hK K
    refine Ev.ret ?_
    refine Ev.ret1 ?_
    refine ⟨?_, rfl⟩
    first
     | exact bF (fun h => by have h1 := h.1; omega)
     | exact bF (fun h => absurd (buns_cut hp h).1.1 ‹_›)
     | exact bF (fun h => absurd (buns_cut hp h).1.2.1 ‹_›)
     | exact bF (fun h => by obtain ⟨_, _, h1, h2, h3, h4⟩ := (buns_cut hp h).1; omega)
     | exact bF (fun h => by have h1 := (tagI_at hp).2 (buns_cut hp h).2; omega)
     | exact bT ⟨by omega, by rw [← hp]; exact hinv⟩
  · first
  | (first | omega | contradiction)
  | refine Ev.skip ?_
    show Ev _ _ _ _
    refine Ev.seq ?_
    refine Ev.sr fun K hK => S.o q.as (S.end (hK _ ?_))
    clear hK K
    refine Ev.block ?_
    refine Ev.loopU (ι := {q : List Bundle × List Bundle // q.1 ++ q.2 = l ∧ (∀ c ∈ q.1, okBun c) ∧ q.1.Pairwise (fun a b => a.tag ≠ b.tag)}) [] [0] (fun ⟨(pre, suf), _⟩ => [(3, .lit (.int .i64 ((pre.length : Int))))]) (fun ⟨(pre, suf), _⟩ => []) (fun ⟨(pre, suf), _⟩ => suf.length) ⟨([], l), rfl, ⟨fun b hb => by simp at hb, by simp⟩⟩ (.c .n) keep_n (slots_c (he := (by first | rfl | (simp; done) | (congr 2; omega))) (h := trivial)) ?_
    rintro ⟨⟨pre, suf⟩, hp, hinv⟩ R0 hR0
    dsimp only [List.cons_append, List.nil_append, List.length_cons, List.length_nil]
    simp only at hp hinv
    have hpl : pre.length + suf.length = (l).length := by rw [← hp, List.length_append]
    rcases suf with _ | ⟨s, suf⟩
    · rw [List.append_nil] at hp; simp only [List.length_nil] at hpl
      refine Ev.seq ?_
      refine Ev.sr fun K hK => S.o q.mv (S.o q.mv (S.o (q.lens am_el25) (S.o q.lss (S.end (hK _ ?_)))))
      clear hK K
      refine Ev.cd (fun c2 => ?_) (fun c2 => ?_)
      · first | omega | contradiction
      · first
      | (first | omega | contradiction)
      | refine Ev.exit ?_
        refine hR0 _ _ ?_
        show Ev _ _ _ _
        refine Ev.sr fun K hK => S.o q.as (S.end (hK _ ?_))
        clear hK K
        refine Ev.ret ?_
        refine Ev.ret1 ?_
        refine ⟨?_, rfl⟩
        first
         | exact bF (fun h => by have h1 := h.1; omega)
         | exact bF (fun h => absurd (buns_cut hp h).1.1 ‹_›)
         | exact bF (fun h => absurd (buns_cut hp h).1.2.1 ‹_›)
         | exact bF (fun h => by obtain ⟨_, _, h1, h2, h3, h4⟩ := (buns_cut hp h).1; omega)
         | exact bF (fun h => by have h1 := (tagI_at hp).2 (buns_cut hp h).2; omega)
         | exact bT ⟨by omega, by rw [← hp]; exact hinv⟩
    · simp only [List.length_cons] at hpl
      have hidx : l[pre.length]? = some s := by rw [← hp]; simp
      obtain ⟨hsw1, hsw2⟩ : s.w := hw s (by rw [← hp]; simp)
      refine Ev.seq ?_
      refine Ev.sr fun K hK => S.o q.mv (S.o q.mv (S.o (q.lens am_el25) (S.o q.lss (S.end (hK _ ?_)))))
      clear hK K
      refine Ev.cd (fun c3 => ?_) (fun c3 => ?_)
      · first
      | (first | omega | contradiction)
      | refine Ev.skip ?_
        show Ev _ _ _ _
        refine Ev.seq ?_
        refine Ev.block ?_
        refine Ev.sr fun K hK => S.o q.mv (S.o q.mv (S.o (q.ix am_el25 am_cl46 (hl := (by first | exact ati hidx (by omega) | exact atig (by omega)))) (S.o (q.lsA [_, _, _, _] am_ag46 am_cl46) (S.nn (q.al am_ze46) (S.sv [_, _, _, _] true [] am_in46 am_cl46 (h := S.end (hK _ ?_)))))))
        clear hK K
        refine Ev.sr fun K hK => S.o (q.fa 0 am_fi46_0 am_cl9) (S.o (q.lv am_ag9) (S.c0 (hF := risName_fun _ (by omega)) (h := S.o q.not (S.bn q.mv (fun c4 => ?_) (fun c4 => ?_)))))
        · first
        | (first | omega | contradiction)
        | refine S.sk (S.sk (S.sk (S.sk (S.o q.pt (S.o q.mv (S.sk (S.sk (S.sk (S.o q.pt (S.o q.mv (S.sk (S.sk (S.sk (S.o q.pt (S.o q.mv (S.sk (S.sk (S.sk (S.o q.pt (S.o q.mv (S.sk (S.sk (S.sk (S.o q.pt (S.o q.mv (S.sk (S.sk (S.sk (S.sk (S.sk (S.sk (S.o q.pt (S.end (hK _ ?_))))))))))))))))))))))))))))))))))
          clear hK K
          refine Ev.ct ?_
          refine Ev.sr fun K hK => S.o q.as (S.end (hK _ ?_))
          clear hK K
          refine Ev.ret ?_
          refine hR0 _ _ ?_
          refine Ev.ret1 ?_
          refine ⟨?_, rfl⟩
          first
           | exact bF (fun h => by have h1 := h.1; omega)
           | exact bF (fun h => absurd (buns_cut hp h).1.1 ‹_›)
           | exact bF (fun h => absurd (buns_cut hp h).1.2.1 ‹_›)
           | exact bF (fun h => by obtain ⟨_, _, h1, h2, h3, h4⟩ := (buns_cut hp h).1; omega)
           | exact bF (fun h => by have h1 := (tagI_at hp).2 (buns_cut hp h).2; omega)
           | exact bT ⟨by omega, by rw [← hp]; exact hinv⟩
        · first
        | (first | omega | contradiction)
        | refine S.o (q.fa 1 am_fi46_1 am_cl9) (S.o (q.lv am_ag9) (S.c0 (hF := risName_fun _ (by omega)) (h := S.o q.not (S.o q.pf (S.bn q.mv (fun c5 => ?_) (fun c5 => ?_))))))
          · first
          | (first | omega | contradiction)
          | refine S.sk (S.sk (S.sk (S.o q.pt (S.o q.mv (S.sk (S.sk (S.sk (S.o q.pt (S.o q.mv (S.sk (S.sk (S.sk (S.o q.pt (S.o q.mv (S.sk (S.sk (S.sk (S.o q.pt (S.o q.mv (S.sk (S.sk (S.sk (S.sk (S.sk (S.sk (S.o q.pt (S.end (hK _ ?_))))))))))))))))))))))))))))
            clear hK K
            refine Ev.ct ?_
            refine Ev.sr fun K hK => S.o q.as (S.end (hK _ ?_))
            clear hK K
            refine Ev.ret ?_
            refine hR0 _ _ ?_
            refine Ev.ret1 ?_
            refine ⟨?_, rfl⟩
            first
             | exact bF (fun h => by have h1 := h.1; omega)
             | exact bF (fun h => absurd (buns_cut hp h).1.1 ‹_›)
             | exact bF (fun h => absurd (buns_cut hp h).1.2.1 ‹_›)
             | exact bF (fun h => by obtain ⟨_, _, h1, h2, h3, h4⟩ := (buns_cut hp h).1; omega)
             | exact bF (fun h => by have h1 := (tagI_at hp).2 (buns_cut hp h).2; omega)
             | exact bT ⟨by omega, by rw [← hp]; exact hinv⟩
          · first
          | (first | omega | contradiction)
          | refine S.o (q.fa 2 am_fi46_2 am_cl3) (S.o (q.lv am_ag3) (S.o q.lss (S.o q.pf (S.bd q.mv (fun c6 => ?_) (fun c6 => ?_)))))
            · first
            | (first | omega | contradiction)
            | refine S.sk (S.sk (S.sk (S.o q.pt (S.o q.mv (S.sk (S.sk (S.sk (S.o q.pt (S.o q.mv (S.sk (S.sk (S.sk (S.o q.pt (S.o q.mv (S.sk (S.sk (S.sk (S.sk (S.sk (S.sk (S.o q.pt (S.end (hK _ ?_)))))))))))))))))))))))
              clear hK K
              refine Ev.ct ?_
              refine Ev.sr fun K hK => S.o q.as (S.end (hK _ ?_))
              clear hK K
              refine Ev.ret ?_
              refine hR0 _ _ ?_
              refine Ev.ret1 ?_
              refine ⟨?_, rfl⟩
              first
               | exact bF (fun h => by have h1 := h.1; omega)
               | exact bF (fun h => absurd (buns_cut hp h).1.1 ‹_›)
               | exact bF (fun h => absurd (buns_cut hp h).1.2.1 ‹_›)
               | exact bF (fun h => by obtain ⟨_, _, h1, h2, h3, h4⟩ := (buns_cut hp h).1; omega)
               | exact bF (fun h => by have h1 := (tagI_at hp).2 (buns_cut hp h).2; omega)
               | exact bT ⟨by omega, by rw [← hp]; exact hinv⟩
            · first
            | (first | omega | contradiction)
            | refine S.o (q.fa 2 am_fi46_2 am_cl3) (S.o (q.lv am_ag3) (S.o q.gtr (S.o q.pf (S.bd q.mv (fun c7 => ?_) (fun c7 => ?_)))))
              · first
              | (first | omega | contradiction)
              | refine S.sk (S.sk (S.sk (S.o q.pt (S.o q.mv (S.sk (S.sk (S.sk (S.o q.pt (S.o q.mv (S.sk (S.sk (S.sk (S.sk (S.sk (S.sk (S.o q.pt (S.end (hK _ ?_))))))))))))))))))
                clear hK K
                refine Ev.ct ?_
                refine Ev.sr fun K hK => S.o q.as (S.end (hK _ ?_))
                clear hK K
                refine Ev.ret ?_
                refine hR0 _ _ ?_
                refine Ev.ret1 ?_
                refine ⟨?_, rfl⟩
                first
                 | exact bF (fun h => by have h1 := h.1; omega)
                 | exact bF (fun h => absurd (buns_cut hp h).1.1 ‹_›)
                 | exact bF (fun h => absurd (buns_cut hp h).1.2.1 ‹_›)
                 | exact bF (fun h => by obtain ⟨_, _, h1, h2, h3, h4⟩ := (buns_cut hp h).1; omega)
                 | exact bF (fun h => by have h1 := (tagI_at hp).2 (buns_cut hp h).2; omega)
                 | exact bT ⟨by omega, by rw [← hp]; exact hinv⟩
              · first
              | (first | omega | contradiction)
              | refine S.o (q.fa 3 am_fi46_3 am_cl3) (S.o (q.lv am_ag3) (S.o q.lss (S.o q.pf (S.bd q.mv (fun c8 => ?_) (fun c8 => ?_)))))
                · first
                | (first | omega | contradiction)
                | refine S.sk (S.sk (S.sk (S.o q.pt (S.o q.mv (S.sk (S.sk (S.sk (S.sk (S.sk (S.sk (S.o q.pt (S.end (hK _ ?_)))))))))))))
                  clear hK K
                  refine Ev.ct ?_
                  refine Ev.sr fun K hK => S.o q.as (S.end (hK _ ?_))
                  clear hK K
                  refine Ev.ret ?_
                  refine hR0 _ _ ?_
                  refine Ev.ret1 ?_
                  refine ⟨?_, rfl⟩
                  first
                   | exact bF (fun h => by have h1 := h.1; omega)
                   | exact bF (fun h => absurd (buns_cut hp h).1.1 ‹_›)
                   | exact bF (fun h => absurd (buns_cut hp h).1.2.1 ‹_›)
                   | exact bF (fun h => by obtain ⟨_, _, h1, h2, h3, h4⟩ := (buns_cut hp h).1; omega)
                   | exact bF (fun h => by have h1 := (tagI_at hp).2 (buns_cut hp h).2; omega)
                   | exact bT ⟨by omega, by rw [← hp]; exact hinv⟩
                · first
                | (first | omega | contradiction)
                | refine S.o (q.fa 3 am_fi46_3 am_cl3) (S.o (q.lv am_ag3) (S.o q.gtr (S.o q.pf (S.bd q.mv (fun c9 => ?_) (fun c9 => ?_)))))
                  · first
                  | (first | omega | contradiction)
                  | refine S.sk (S.sk (S.sk (S.sk (S.sk (S.sk (S.o q.pt (S.end (hK _ ?_))))))))
                    clear hK K
                    refine Ev.ct ?_
                    refine Ev.sr fun K hK => S.o q.as (S.end (hK _ ?_))
                    clear hK K
                    refine Ev.ret ?_
                    refine hR0 _ _ ?_
                    refine Ev.ret1 ?_
                    refine ⟨?_, rfl⟩
                    first
                     | exact bF (fun h => by have h1 := h.1; omega)
                     | exact bF (fun h => absurd (buns_cut hp h).1.1 ‹_›)
                     | exact bF (fun h => absurd (buns_cut hp h).1.2.1 ‹_›)
                     | exact bF (fun h => by obtain ⟨_, _, h1, h2, h3, h4⟩ := (buns_cut hp h).1; omega)
                     | exact bF (fun h => by have h1 := (tagI_at hp).2 (buns_cut hp h).2; omega)
                     | exact bT ⟨by omega, by rw [← hp]; exact hinv⟩
                  · first
                  | (first | omega | contradiction)
                  | refine S.o q.mv (S.o (q.fa 0 am_fi46_0 am_cl9) (S.o (q.lv am_ag9) (S.c0 (hF := rBfind_fun _ _ (by omega)) (h := S.o q.mv (S.o q.neq (S.o q.pf (S.end (hK _ ?_))))))))
                    clear hK K
                    refine Ev.cn (fun c10 => ?_) (fun c10 => ?_)
                    · first
                    | (first | omega | contradiction)
                    | refine Ev.sr fun K hK => S.o q.as (S.end (hK _ ?_))
                      clear hK K
                      refine Ev.ret ?_
                      refine hR0 _ _ ?_
                      refine Ev.ret1 ?_
                      refine ⟨?_, rfl⟩
                      first
                       | exact bF (fun h => by have h1 := h.1; omega)
                       | exact bF (fun h => absurd (buns_cut hp h).1.1 ‹_›)
                       | exact bF (fun h => absurd (buns_cut hp h).1.2.1 ‹_›)
                       | exact bF (fun h => by obtain ⟨_, _, h1, h2, h3, h4⟩ := (buns_cut hp h).1; omega)
                       | exact bF (fun h => by have h1 := (tagI_at hp).2 (buns_cut hp h).2; omega)
                       | exact bT ⟨by omega, by rw [← hp]; exact hinv⟩
                    · first
                    | (first | omega | contradiction)
                    | refine Ev.skip ?_
                      show Ev _ _ _ _
                      refine Ev.region_S fun K hK => S.o q.mv (S.o q.add (S.o q.as (S.end (hK _ ?_))))
                      clear hK K
                      refine hR0 _ _ ?_
                      refine roundU [] [0] ⟨(pre ++ [s], suf), by rw [← hp]; simp, ?_⟩ ?_ keep_n (slots_c (he := (by first | rfl | (simp; done) | (congr 2; omega))) (h := trivial)) (.c .n)
                      exact buns_snoc hinv ⟨‹_›, ‹_›, by omega, by omega, by omega, by omega⟩ ((tagI_at hp).1 (by omega))
                      all_goals (dsimp only; simp only [List.length_cons]; omega)
      · first | omega | contradiction

theorem rBmass_fun (l : List Bundle) (hS : okBuns l) : Fun Tryd.prog 24 [.sh 4 (l.map Bundle.c)] (Ret (.lit (.int .i64 (massSum l))) []) := by
  have hsl := hS.1
  refine Fun.of (nt := 19) (rs := [.tmp 2]) Tryd.func24 rfl rfl rfl rfl rfl ?_
  refine Ev.sr fun K hK => S.o q.as (S.end (hK _ ?_))
  clear hK K
  refine Ev.sr fun K hK => S.o q.as (S.end (hK _ ?_))
  clear hK K
  refine Ev.seq ?_
  refine Ev.sr fun K hK => S.o q.as (S.end (hK _ ?_))
  clear hK K
  refine Ev.block ?_
  refine Ev.loopU (ι := {p : List (Bundle) × List (Bundle) // p.1 ++ p.2 = l ∧ True}) [] [0, 2] (fun ⟨(pre, suf), _⟩ => [(4, .lit (.int .i64 ((pre.length : Int)))), (3, .lit (.int .i64 (massSum pre)))]) (fun ⟨(pre, suf), _⟩ => []) (fun ⟨(pre, suf), _⟩ => suf.length) ⟨([], l), rfl, trivial⟩ (.c (.c .n)) keep_n (slots_c (he := (by first | rfl | (congr 2; simp; done))) (h := (slots_c (he := (by first | rfl | exact iE (by rw [massSum_snoc]))) (h := trivial)))) ?_
  rintro ⟨⟨pre, suf⟩, hp, hinv⟩ R0 hR0
  dsimp only [List.cons_append, List.nil_append, List.length_cons, List.length_nil]
  simp only at hp hinv
  have hpl : pre.length + suf.length = (l).length := by rw [← hp, List.length_append]
  rcases suf with _ | ⟨s, suf⟩
  · rw [List.append_nil] at hp; subst pre; simp only [List.length_nil] at hpl
    refine Ev.seq ?_
    refine Ev.sr fun K hK => S.o q.mv (S.o q.mv (S.o (q.lens am_el25) (S.o q.lss (S.end (hK _ ?_)))))
    clear hK K
    refine Ev.cd (fun c1 => ?_) (fun c1 => ?_)
    · first | omega | contradiction
    · first
    | (first | omega | contradiction)
    | refine Ev.exit ?_
      refine hR0 _ _ ?_
      show Ev _ _ _ _
      refine Ev.sr fun K hK => S.o q.mv (S.o q.as (S.end (hK _ ?_)))
      clear hK K
      refine Ev.ret ?_
      refine Ev.ret1 ?_
      refine ⟨?_, rfl⟩
      rfl
  · simp only [List.length_cons] at hpl
    have hidx : (l)[pre.length]? = some s := by rw [← hp]; simp
    obtain ⟨_, _, _, _, hm1, hm2⟩ := hS.2.1 s (by rw [← hp]; simp)
    have hbb := massSum_bd pre (fun b hb => hS.2.1 b (by rw [← hp]; simp [hb]))
    refine Ev.seq ?_
    refine Ev.sr fun K hK => S.o q.mv (S.o q.mv (S.o (q.lens am_el25) (S.o q.lss (S.end (hK _ ?_)))))
    clear hK K
    refine Ev.cd (fun c2 => ?_) (fun c2 => ?_)
    · first
    | (first | omega | contradiction)
    | refine Ev.skip ?_
      show Ev _ _ _ _
      refine Ev.seq ?_
      refine Ev.block ?_
      refine Ev.region_S fun K hK => S.o q.mv (S.o q.mv (S.o q.mv (S.o (q.ix am_el25 am_cl46 (hl := (by first | exact ati hidx (by omega) | exact atig (by omega)))) (S.o (q.fs 3 am_fi46_3 am_cl3) (S.o (q.ls am_ag3) (S.o q.add (S.o q.as (S.end (hK _ ?_)))))))))
      clear hK K
      show Ev _ _ _ _
      refine Ev.region_S fun K hK => S.o q.mv (S.o q.add (S.o q.as (S.end (hK _ ?_))))
      clear hK K
      refine hR0 _ _ ?_
      refine roundU [] [0, 2] ⟨(pre ++ [s], suf), by rw [← hp]; simp, ?_⟩ ?_ keep_n (slots_c (he := (by first | rfl | (congr 2; simp; done))) (h := (slots_c (he := (by first | rfl | exact iE (by rw [massSum_snoc]))) (h := trivial)))) (.c (.c .n))
      trivial
      all_goals (dsimp only; simp only [List.length_cons]; omega)
    · first | omega | contradiction

theorem rBars_fun (l : List Bundle) (k : List UInt8) (hS : okBuns l) : Fun Tryd.prog 52 [.sh 4 (l.map Bundle.c), .lit (str k)] (Ret (.lit (.int .i64 (barsOf l k))) []) := by
  have hsl := hS.1
  refine Fun.of (nt := 28) (rs := [.tmp 4]) Tryd.func52 rfl rfl rfl rfl rfl ?_
  refine Ev.sr fun K hK => S.o q.as (S.end (hK _ ?_))
  clear hK K
  refine Ev.sr fun K hK => S.o q.as (S.end (hK _ ?_))
  clear hK K
  refine Ev.seq ?_
  refine Ev.sr fun K hK => S.o q.as (S.end (hK _ ?_))
  clear hK K
  refine Ev.block ?_
  refine Ev.loopU (ι := {p : List (Bundle) × List (Bundle) // p.1 ++ p.2 = l ∧ True}) [] [0, 1, 4] (fun ⟨(pre, suf), _⟩ => [(6, .lit (.int .i64 ((pre.length : Int)))), (5, .lit (.int .i64 (barsOf pre k)))]) (fun ⟨(pre, suf), _⟩ => []) (fun ⟨(pre, suf), _⟩ => suf.length) ⟨([], l), rfl, trivial⟩ (.c (.c (.c .n))) keep_n (slots_c (he := (by first | rfl | (congr 2; simp; done))) (h := (slots_c (he := (by first | rfl | exact iE (by rw [barsOf_snoc, if_pos ‹_›]) | exact iE (by rw [barsOf_snoc, if_neg ‹_›]))) (h := trivial)))) ?_
  rintro ⟨⟨pre, suf⟩, hp, hinv⟩ R0 hR0
  dsimp only [List.cons_append, List.nil_append, List.length_cons, List.length_nil]
  simp only at hp hinv
  have hpl : pre.length + suf.length = (l).length := by rw [← hp, List.length_append]
  rcases suf with _ | ⟨s, suf⟩
  · rw [List.append_nil] at hp; subst pre; simp only [List.length_nil] at hpl
    refine Ev.seq ?_
    refine Ev.sr fun K hK => S.o q.mv (S.o q.mv (S.o (q.lens am_el25) (S.o q.lss (S.end (hK _ ?_)))))
    clear hK K
    refine Ev.cd (fun c1 => ?_) (fun c1 => ?_)
    · first | omega | contradiction
    · first
    | (first | omega | contradiction)
    | refine Ev.exit ?_
      refine hR0 _ _ ?_
      show Ev _ _ _ _
      refine Ev.sr fun K hK => S.o q.mv (S.o q.as (S.end (hK _ ?_)))
      clear hK K
      refine Ev.ret ?_
      refine Ev.ret1 ?_
      refine ⟨?_, rfl⟩
      rfl
  · simp only [List.length_cons] at hpl
    have hidx : (l)[pre.length]? = some s := by rw [← hp]; simp
    obtain ⟨_, _, hm1, hm2, _, _⟩ := hS.2.1 s (by rw [← hp]; simp)
    have hbb := barsOf_bd k pre (fun b hb => hS.2.1 b (by rw [← hp]; simp [hb]))
    refine Ev.seq ?_
    refine Ev.sr fun K hK => S.o q.mv (S.o q.mv (S.o (q.lens am_el25) (S.o q.lss (S.end (hK _ ?_)))))
    clear hK K
    refine Ev.cd (fun c2 => ?_) (fun c2 => ?_)
    · first
    | (first | omega | contradiction)
    | refine Ev.skip ?_
      show Ev _ _ _ _
      refine Ev.seq ?_
      refine Ev.block ?_
      refine Ev.sr fun K hK => S.o q.mv (S.o q.mv (S.o (q.ix am_el25 am_cl46 (hl := (by first | exact ati hidx (by omega) | exact atig (by omega)))) (S.o (q.fs 1 am_fi46_1 am_cl9) (S.o (q.ls am_ag9) (S.o q.mv (S.o q.seqs (S.end (hK _ ?_))))))))
      clear hK K
      refine Ev.cd (fun c3 => ?_) (fun c3 => ?_)
      · first
      | (first | omega | contradiction)
      | refine Ev.region_S fun K hK => S.o q.mv (S.o q.mv (S.o q.mv (S.o (q.ix am_el25 am_cl46 (hl := (by first | exact ati hidx (by omega) | exact atig (by omega)))) (S.o (q.fs 2 am_fi46_2 am_cl3) (S.o (q.ls am_ag3) (S.o q.add (S.o q.as (S.end (hK _ ?_)))))))))
        clear hK K
        show Ev _ _ _ _
        refine Ev.region_S fun K hK => S.o q.mv (S.o q.add (S.o q.as (S.end (hK _ ?_))))
        clear hK K
        refine hR0 _ _ ?_
        refine roundU [] [0, 1, 4] ⟨(pre ++ [s], suf), by rw [← hp]; simp, ?_⟩ ?_ keep_n (slots_c (he := (by first | rfl | (congr 2; simp; done))) (h := (slots_c (he := (by first | rfl | exact iE (by rw [barsOf_snoc, if_pos ‹_›]) | exact iE (by rw [barsOf_snoc, if_neg ‹_›]))) (h := trivial)))) (.c (.c (.c .n)))
        trivial
        all_goals (dsimp only; simp only [List.length_cons]; omega)
      · first
      | (first | omega | contradiction)
      | refine Ev.skip ?_
        show Ev _ _ _ _
        refine Ev.region_S fun K hK => S.o q.mv (S.o q.add (S.o q.as (S.end (hK _ ?_))))
        clear hK K
        refine hR0 _ _ ?_
        refine roundU [] [0, 1, 4] ⟨(pre ++ [s], suf), by rw [← hp]; simp, ?_⟩ ?_ keep_n (slots_c (he := (by first | rfl | (congr 2; simp; done))) (h := (slots_c (he := (by first | rfl | exact iE (by rw [barsOf_snoc, if_pos ‹_›]) | exact iE (by rw [barsOf_snoc, if_neg ‹_›]))) (h := trivial)))) (.c (.c (.c .n)))
        trivial
        all_goals (dsimp only; simp only [List.length_cons]; omega)
    · first | omega | contradiction

theorem g2_no {bs : List Bar} {x : Bundle} (hS : okSched bs) (h : markI bs x.mark < 0) : find2 bs x = [(3, x.tag)] := by
  rcases masM_get hS x.mark with ⟨_, e⟩ | ⟨h0, _⟩
  · unfold find2; rw [e]
  · omega
theorem g2_at {bs : List Bar} {x : Bundle} (hS : okSched bs) (h : ¬ markI bs x.mark < 0) : ∃ b, bs[(markI bs x.mark).toNat]? = some b ∧ okBar b ∧ 0 ≤ oneOf b ∧ oneOf b ≤ 10343154 ∧ find2 bs x = (if x.mass = x.count * oneOf b then [] else [(4, x.tag)]) := by
  rcases masM_get hS x.mark with ⟨h0, _⟩ | ⟨_, b, h1, h2, _, e⟩
  · omega
  · have hok := hS.2.1 b h2
    obtain ⟨o1, o2⟩ := one_bd hok
    exact ⟨b, h1, hok, by omega, o2, by unfold find2; rw [e]⟩
theorem rCheck_fun (bs : List Bar) (l : List Bundle) (hS : okSched bs) (hB : okBuns l) : Fun Tryd.prog 28 [.sh 5 (bs.map Bar.c), .sh 4 (l.map Bundle.c)] (Ret (.sh 2 ((checkP bs l).map findC)) []) := by
  have hsl := hS.1
  have hbl := hB.1
  refine Fun.of (nt := 106) (rs := [.tmp 4]) Tryd.func28 rfl rfl rfl rfl rfl ?_
  refine Ev.sr fun K hK => S.o q.as (S.end (hK _ ?_))
  clear hK K
  refine Ev.sr fun K hK => S.o q.as (S.end (hK _ ?_))
  clear hK K
  refine Ev.seq ?_
  refine Ev.sr fun K hK => S.o q.as (S.end (hK _ ?_))
  clear hK K
  refine Ev.block ?_
  refine Ev.weaken (Wk.nown findC 5 57 2) ?_
  refine Ev.loopU (ι := {p : List (Bar) × List (Bar) // p.1 ++ p.2 = bs ∧ True}) [0] [0, 1, 4] (fun ⟨(pre, suf), _⟩ => [(6, .lit (.int .i64 ((pre.length : Int)))), (5, .als 0 0 (fnd1 l pre).length)]) (fun ⟨(pre, suf), _⟩ => [(0, ⟨true, 57, 2, (fnd1 l pre).map findC, true⟩)]) (fun ⟨(pre, suf), _⟩ => suf.length) ⟨([], bs), rfl, trivial⟩ (.c (.c (.c .n))) (keep_c (he := (by first | rfl | (rw [fnd1_snoc, f1_lt (by omega)]; done) | (rw [fnd1_snoc, f1_gt (by omega)]; done) | (rw [fnd1_snoc, f1_eq (by omega) (by omega), List.append_nil]; done) | (exfalso; omega))) (h := keep_n)) (slots_c (he := (by first | rfl | (congr 2; simp; done))) (h := (slots_c (he := (by first | rfl | (refine congrArg (AV.als _ 0) ?_; first | rfl | (rw [fnd1_snoc, f1_lt (by omega)]; done) | (rw [fnd1_snoc, f1_gt (by omega)]; done) | (rw [fnd1_snoc, f1_eq (by omega) (by omega), List.append_nil]; done)) | (exfalso; omega))) (h := trivial)))) ?_
  rintro ⟨⟨pre, suf⟩, hp, hinv⟩ R0 hR0
  dsimp only [List.cons_append, List.nil_append, List.length_cons, List.length_nil]
  simp only at hp hinv
  have hpl : pre.length + suf.length = (bs).length := by rw [← hp, List.length_append]
  rcases suf with _ | ⟨s, suf⟩
  · rw [List.append_nil] at hp; subst pre; simp only [List.length_nil] at hpl
    refine Ev.seq ?_
    refine Ev.sr fun K hK => S.o q.mv (S.o q.mv (S.o (q.lens am_el22) (S.o q.lss (S.end (hK _ ?_)))))
    clear hK K
    refine Ev.cd (fun c1 => ?_) (fun c1 => ?_)
    · first | omega | contradiction
    · first
    | (first | omega | contradiction)
    | refine Ev.exit ?_
      refine hR0 _ _ ?_
      show Ev _ _ _ _
      refine Ev.seq ?_
      refine Ev.sr fun K hK => S.o q.as (S.end (hK _ ?_))
      clear hK K
      refine Ev.block ?_
      refine Ev.loopU (ι := {p : List (Bundle) × List (Bundle) // p.1 ++ p.2 = l ∧ True}) [0] [0, 1, 4, 6, 10, 11, 12, 13] (fun ⟨(pre, suf), _⟩ => [(8, .lit (.int .i64 ((pre.length : Int)))), (5, .als 0 0 (fnd1 l bs ++ fnd2 bs pre).length)]) (fun ⟨(pre, suf), _⟩ => [(0, ⟨true, 57, 2, (fnd1 l bs ++ fnd2 bs pre).map findC, true⟩)]) (fun ⟨(pre, suf), _⟩ => suf.length) ⟨([], l), rfl, trivial⟩ (.c (.c (.c (.c (.c (.c (.c (.c .n)))))))) (keep_c (he := (by first | rfl | (simp [fnd2]; done) | (rw [fnd2_snoc, g2_no hS (by omega), ← List.append_assoc]; done) | (rw [fnd2_snoc, he2, if_neg (by omega), ← List.append_assoc]; done) | (rw [fnd2_snoc, he2, if_pos (by omega), List.append_nil]; done))) (h := keep_n)) (slots_c (he := (by first | rfl | (congr 2; simp; done))) (h := (slots_c (he := (by first | rfl | (refine congrArg (AV.als _ 0) ?_; first | (simp [fnd2]; done) | (rw [fnd2_snoc, g2_no hS (by omega), ← List.append_assoc]; done) | (rw [fnd2_snoc, he2, if_neg (by omega), ← List.append_assoc]; done) | (rw [fnd2_snoc, he2, if_pos (by omega), List.append_nil]; done)))) (h := trivial)))) ?_
      rintro ⟨⟨pre, suf⟩, hp, hinv⟩ R2 hR2
      dsimp only [List.cons_append, List.nil_append, List.length_cons, List.length_nil]
      simp only at hp hinv
      have hpl : pre.length + suf.length = (l).length := by rw [← hp, List.length_append]
      rcases suf with _ | ⟨s, suf⟩
      · rw [List.append_nil] at hp; subst pre; simp only [List.length_nil] at hpl
        refine Ev.seq ?_
        refine Ev.sr fun K hK => S.o q.mv (S.o q.mv (S.o (q.lens am_el25) (S.o q.lss (S.end (hK _ ?_)))))
        clear hK K
        refine Ev.cd (fun c2 => ?_) (fun c2 => ?_)
        · first | omega | contradiction
        · first
        | (first | omega | contradiction)
        | refine Ev.exit ?_
          refine hR2 _ _ ?_
          show Ev _ _ _ _
          refine Ev.sr fun K hK => S.o q.mv (S.o q.as (S.end (hK _ ?_)))
          clear hK K
          refine Ev.weaken (Wk.frz 4 []) ?_
          refine Ev.ret ?_
          refine Ev.ret1 ?_
          refine ⟨?_, rfl⟩
          rfl
      · simp only [List.length_cons] at hpl
        have hidx : (l)[pre.length]? = some s := by rw [← hp]; simp
        have hsok : okBun s := hB.2.1 s (by rw [← hp]; simp)
        obtain ⟨_, _, hs1, hs2, hs3, hs4⟩ := hsok
        have hfl := fnd1_len l bs
        have hfm := fnd2_len bs pre
        have hfa : (fnd1 l bs ++ fnd2 bs pre).length ≤ 2000 := by rw [List.length_append]; omega
        refine Ev.seq ?_
        refine Ev.sr fun K hK => S.o q.mv (S.o q.mv (S.o (q.lens am_el25) (S.o q.lss (S.end (hK _ ?_)))))
        clear hK K
        refine Ev.cd (fun c3 => ?_) (fun c3 => ?_)
        · first
        | (first | omega | contradiction)
        | refine Ev.skip ?_
          show Ev _ _ _ _
          refine Ev.seq ?_
          refine Ev.block ?_
          refine Ev.sr fun K hK => S.o q.mv (S.o q.mv (S.o q.mv (S.o (q.ix am_el25 am_cl46 (hl := (by first | exact ati hbi (by omega) | exact ati hidx (by omega) | exact atig (by omega)))) (S.o (q.fs 1 am_fi46_1 am_cl9) (S.o (q.ls am_ag9) (S.c0 (hF := rfind_fun _ _ (by omega)) (h := S.o q.as (S.end (hK _ ?_)))))))))
          clear hK K
          refine Ev.sr fun K hK => S.o q.mv (S.o q.lss (S.end (hK _ ?_)))
          clear hK K
          refine Ev.cd (fun c4 => ?_) (fun c4 => ?_)
          · first
          | (first | omega | contradiction)
          | refine Ev.region_S fun K hK => S.o q.mv (S.o q.mv (S.o q.mv (S.o (q.ix am_el25 am_cl46 (hl := (by first | exact ati hbi (by omega) | exact ati hidx (by omega) | exact atig (by omega)))) (S.o (q.fs 0 am_fi46_0 am_cl9) (S.o (q.ls am_ag9) (S.o (q.bd [_, _] am_ze57 am_pl57) (S.nn (q.bs [[_, _]] true am_el35 am_ze57 am_cl57) (S.ap' [_] am_el35 am_ze57 am_cl57 am_by57 (hh := head_own') (hr := (rows_lit [(⟨_, _⟩ : Int × List UInt8)])) (h := S.o q.as (S.end (hK _ ?_)))))))))))
            clear hK K
            show Ev _ _ _ _
            refine Ev.region_S fun K hK => S.o q.mv (S.o q.add (S.o q.as (S.end (hK _ ?_))))
            clear hK K
            refine hR2 _ _ ?_
            refine roundU [2] [0, 1, 4, 6, 10, 11, 12, 13] ⟨(pre ++ [s], suf), by rw [← hp]; simp, ?_⟩ ?_ (keep_c (he := (by first | rfl | (simp [fnd2]; done) | (rw [fnd2_snoc, g2_no hS (by omega), ← List.append_assoc]; done) | (rw [fnd2_snoc, he2, if_neg (by omega), ← List.append_assoc]; done) | (rw [fnd2_snoc, he2, if_pos (by omega), List.append_nil]; done))) (h := keep_n)) (slots_c (he := (by first | rfl | (congr 2; simp; done))) (h := (slots_c (he := (by first | rfl | (refine congrArg (AV.als _ 0) ?_; first | (simp [fnd2]; done) | (rw [fnd2_snoc, g2_no hS (by omega), ← List.append_assoc]; done) | (rw [fnd2_snoc, he2, if_neg (by omega), ← List.append_assoc]; done) | (rw [fnd2_snoc, he2, if_pos (by omega), List.append_nil]; done)))) (h := trivial)))) (.c (.c (.c (.c (.c (.c (.c (.c .n))))))))
            trivial
            all_goals (dsimp only; simp only [List.length_cons]; omega)
          · first
          | (first | omega | contradiction)
          | obtain ⟨b, hbi, hbk, ho1, ho2, he2⟩ := g2_at (x := s) hS ‹_›
            obtain ⟨hq1, hq2⟩ := mul_bd (k := s.count) (K := 1000) (by omega) hs2 ho1 ho2
            refine Ev.sm (tbs [(0, 0), (0, 0), (2, 3), (3, 7), (4, 15), (0, 0), (0, 0), (7, 96), (8, 224), (9, 480), (0, 0), (0, 0), (12, 3072), (13, 7168), (14, 15360), (15, 32736), (16, 65535)]) 17 fun K hK => M.o q.mv (M.o q.mv (M.o (q.ix am_el25 am_cl46 (hl := (by first | exact ati hbi (by omega) | exact ati hidx (by omega) | exact atig (by omega)))) (M.o (q.fs 3 am_fi46_3 am_cl3) (M.o (q.ls am_ag3) (M.o q.mv (M.o q.mv (M.o (q.ix am_el25 am_cl46 (hl := (by first | exact ati hbi (by omega) | exact ati hidx (by omega) | exact atig (by omega)))) (M.o (q.fs 2 am_fi46_2 am_cl3) (M.o (q.ls am_ag3) (M.o q.mv (M.o q.mv (M.o (q.ix am_el22 am_cl42 (hl := (by first | exact ati hbi (by omega) | exact ati hidx (by omega) | exact atig (by omega)))) (M.o (q.lsA [_, _, _, _, _] am_ag42 am_cl42) (M.c0 (hF := one_fun _ (by assumption)) (h := M.o q.mul (M.o q.neq (M.end [_] (h := S.end (hK _ ?_)))))))))))))))))))
            clear hK K
            refine Ev.cn (fun c5 => ?_) (fun c5 => ?_)
            · first
            | (first | omega | contradiction)
            | refine Ev.region_S fun K hK => S.o q.mv (S.o q.mv (S.o q.mv (S.o (q.ix am_el25 am_cl46 (hl := (by first | exact ati hbi (by omega) | exact ati hidx (by omega) | exact atig (by omega)))) (S.o (q.fs 0 am_fi46_0 am_cl9) (S.o (q.ls am_ag9) (S.o (q.bd [_, _] am_ze57 am_pl57) (S.nn (q.bs [[_, _]] true am_el35 am_ze57 am_cl57) (S.ap' [_] am_el35 am_ze57 am_cl57 am_by57 (hh := head_own') (hr := (rows_lit [(⟨_, _⟩ : Int × List UInt8)])) (h := S.o q.as (S.end (hK _ ?_)))))))))))
              clear hK K
              show Ev _ _ _ _
              refine Ev.region_S fun K hK => S.o q.mv (S.o q.add (S.o q.as (S.end (hK _ ?_))))
              clear hK K
              refine hR2 _ _ ?_
              refine roundU [70] [0, 1, 4, 6, 10, 11, 12, 13] ⟨(pre ++ [s], suf), by rw [← hp]; simp, ?_⟩ ?_ (keep_c (he := (by first | rfl | (simp [fnd2]; done) | (rw [fnd2_snoc, g2_no hS (by omega), ← List.append_assoc]; done) | (rw [fnd2_snoc, he2, if_neg (by omega), ← List.append_assoc]; done) | (rw [fnd2_snoc, he2, if_pos (by omega), List.append_nil]; done))) (h := keep_n)) (slots_c (he := (by first | rfl | (congr 2; simp; done))) (h := (slots_c (he := (by first | rfl | (refine congrArg (AV.als _ 0) ?_; first | (simp [fnd2]; done) | (rw [fnd2_snoc, g2_no hS (by omega), ← List.append_assoc]; done) | (rw [fnd2_snoc, he2, if_neg (by omega), ← List.append_assoc]; done) | (rw [fnd2_snoc, he2, if_pos (by omega), List.append_nil]; done)))) (h := trivial)))) (.c (.c (.c (.c (.c (.c (.c (.c .n))))))))
              trivial
              all_goals (dsimp only; simp only [List.length_cons]; omega)
            · first
            | (first | omega | contradiction)
            | refine Ev.skip ?_
              show Ev _ _ _ _
              refine Ev.region_S fun K hK => S.o q.mv (S.o q.add (S.o q.as (S.end (hK _ ?_))))
              clear hK K
              refine hR2 _ _ ?_
              refine roundU [0] [0, 1, 4, 6, 10, 11, 12, 13] ⟨(pre ++ [s], suf), by rw [← hp]; simp, ?_⟩ ?_ (keep_c (he := (by first | rfl | (simp [fnd2]; done) | (rw [fnd2_snoc, g2_no hS (by omega), ← List.append_assoc]; done) | (rw [fnd2_snoc, he2, if_neg (by omega), ← List.append_assoc]; done) | (rw [fnd2_snoc, he2, if_pos (by omega), List.append_nil]; done))) (h := keep_n)) (slots_c (he := (by first | rfl | (congr 2; simp; done))) (h := (slots_c (he := (by first | rfl | (refine congrArg (AV.als _ 0) ?_; first | (simp [fnd2]; done) | (rw [fnd2_snoc, g2_no hS (by omega), ← List.append_assoc]; done) | (rw [fnd2_snoc, he2, if_neg (by omega), ← List.append_assoc]; done) | (rw [fnd2_snoc, he2, if_pos (by omega), List.append_nil]; done)))) (h := trivial)))) (.c (.c (.c (.c (.c (.c (.c (.c .n))))))))
              trivial
              all_goals (dsimp only; simp only [List.length_cons]; omega)
        · first | omega | contradiction
  · simp only [List.length_cons] at hpl
    have hidx : (bs)[pre.length]? = some s := by rw [← hp]; simp
    have hsok : okBar s := hS.2.1 s (by rw [← hp]; simp)
    have hfl := fnd1_len l pre
    have hbb := barsOf_bd s.mark l hB.2.1
    refine Ev.seq ?_
    refine Ev.sr fun K hK => S.o q.mv (S.o q.mv (S.o (q.lens am_el22) (S.o q.lss (S.end (hK _ ?_)))))
    clear hK K
    refine Ev.cd (fun c6 => ?_) (fun c6 => ?_)
    · first
    | (first | omega | contradiction)
    | refine Ev.skip ?_
      show Ev _ _ _ _
      refine Ev.seq ?_
      refine Ev.block ?_
      refine Ev.sr fun K hK => S.o q.mv (S.o q.mv (S.o q.mv (S.o (q.ix am_el22 am_cl42 (hl := (by first | exact ati hbi (by omega) | exact ati hidx (by omega) | exact atig (by omega)))) (S.o (q.fs 0 am_fi42_0 am_cl9) (S.o (q.ls am_ag9) (S.c0 (hF := rBars_fun _ _ (by assumption)) (h := S.o q.as (S.end (hK _ ?_)))))))))
      clear hK K
      refine Ev.seq ?_
      refine Ev.sr fun K hK => S.o q.mv (S.o q.mv (S.o q.mv (S.o (q.ix am_el22 am_cl42 (hl := (by first | exact ati hbi (by omega) | exact ati hidx (by omega) | exact atig (by omega)))) (S.o (q.fs 2 am_fi42_2 am_cl3) (S.o (q.ls am_ag3) (S.o q.lss (S.end (hK _ ?_))))))))
      clear hK K
      refine Ev.cd (fun c7 => ?_) (fun c7 => ?_)
      · first
      | (first | omega | contradiction)
      | refine Ev.region_S fun K hK => S.o q.mv (S.o q.mv (S.o q.mv (S.o (q.ix am_el22 am_cl42 (hl := (by first | exact ati hbi (by omega) | exact ati hidx (by omega) | exact atig (by omega)))) (S.o (q.fs 0 am_fi42_0 am_cl9) (S.o (q.ls am_ag9) (S.o (q.bd [_, _] am_ze57 am_pl57) (S.nn (q.bs [[_, _]] true am_el35 am_ze57 am_cl57) (S.ap' [_] am_el35 am_ze57 am_cl57 am_by57 (hh := head_own') (hr := (rows_lit [(⟨_, _⟩ : Int × List UInt8)])) (h := S.o q.as (S.end (hK _ ?_)))))))))))
        clear hK K
        show Ev _ _ _ _
        refine Ev.sr fun K hK => S.o q.mv (S.o q.mv (S.o q.mv (S.o (q.ix am_el22 am_cl42 (hl := (by first | exact ati hbi (by omega) | exact ati hidx (by omega) | exact atig (by omega)))) (S.o (q.fs 2 am_fi42_2 am_cl3) (S.o (q.ls am_ag3) (S.o q.gtr (S.end (hK _ ?_))))))))
        clear hK K
        refine Ev.cd (fun c8 => ?_) (fun c8 => ?_)
        · first
        | (first | omega | contradiction)
        | have hxx : barsOf l s.mark ≤ s.count ∨ True := .inr trivial
          refine Ev.region_S fun K hK => S.o q.mv (S.o q.mv (S.o q.mv (S.o (q.ix am_el22 am_cl42 (hl := (by first | exact ati hbi (by omega) | exact ati hidx (by omega) | exact atig (by omega)))) (S.o (q.fs 0 am_fi42_0 am_cl9) (S.o (q.ls am_ag9) (S.o (q.bd [_, _] am_ze57 am_pl57) (S.nn (q.bs [[_, _]] true am_el35 am_ze57 am_cl57) (S.ap' [_, _] am_el35 am_ze57 am_cl57 am_by57 (hh := head_own') (hr := (rows_lit [(⟨_, _⟩ : Int × List UInt8)])) (h := S.o q.as (S.end (hK _ ?_)))))))))))
          clear hK K
          show Ev _ _ _ _
          refine Ev.region_S fun K hK => S.o q.mv (S.o q.add (S.o q.as (S.end (hK _ ?_))))
          clear hK K
          refine hR0 _ _ ?_
          refine roundU [4] [0, 1, 4] ⟨(pre ++ [s], suf), by rw [← hp]; simp, ?_⟩ ?_ (keep_c (he := (by first | rfl | (rw [fnd1_snoc, f1_lt (by omega)]; done) | (rw [fnd1_snoc, f1_gt (by omega)]; done) | (rw [fnd1_snoc, f1_eq (by omega) (by omega), List.append_nil]; done) | (exfalso; omega))) (h := keep_n)) (slots_c (he := (by first | rfl | (congr 2; simp; done))) (h := (slots_c (he := (by first | rfl | (refine congrArg (AV.als _ 0) ?_; first | rfl | (rw [fnd1_snoc, f1_lt (by omega)]; done) | (rw [fnd1_snoc, f1_gt (by omega)]; done) | (rw [fnd1_snoc, f1_eq (by omega) (by omega), List.append_nil]; done)) | (exfalso; omega))) (h := trivial)))) (.c (.c (.c .n)))
          trivial
          all_goals (dsimp only; simp only [List.length_cons]; omega)
        · first
        | (first | omega | contradiction)
        | refine Ev.skip ?_
          show Ev _ _ _ _
          refine Ev.region_S fun K hK => S.o q.mv (S.o q.add (S.o q.as (S.end (hK _ ?_))))
          clear hK K
          refine hR0 _ _ ?_
          refine roundU [2] [0, 1, 4] ⟨(pre ++ [s], suf), by rw [← hp]; simp, ?_⟩ ?_ (keep_c (he := (by first | rfl | (rw [fnd1_snoc, f1_lt (by omega)]; done) | (rw [fnd1_snoc, f1_gt (by omega)]; done) | (rw [fnd1_snoc, f1_eq (by omega) (by omega), List.append_nil]; done) | (exfalso; omega))) (h := keep_n)) (slots_c (he := (by first | rfl | (congr 2; simp; done))) (h := (slots_c (he := (by first | rfl | (refine congrArg (AV.als _ 0) ?_; first | rfl | (rw [fnd1_snoc, f1_lt (by omega)]; done) | (rw [fnd1_snoc, f1_gt (by omega)]; done) | (rw [fnd1_snoc, f1_eq (by omega) (by omega), List.append_nil]; done)) | (exfalso; omega))) (h := trivial)))) (.c (.c (.c .n)))
          trivial
          all_goals (dsimp only; simp only [List.length_cons]; omega)
      · first
      | (first | omega | contradiction)
      | refine Ev.skip ?_
        show Ev _ _ _ _
        refine Ev.sr fun K hK => S.o q.mv (S.o q.mv (S.o q.mv (S.o (q.ix am_el22 am_cl42 (hl := (by first | exact ati hbi (by omega) | exact ati hidx (by omega) | exact atig (by omega)))) (S.o (q.fs 2 am_fi42_2 am_cl3) (S.o (q.ls am_ag3) (S.o q.gtr (S.end (hK _ ?_))))))))
        clear hK K
        refine Ev.cd (fun c9 => ?_) (fun c9 => ?_)
        · first
        | (first | omega | contradiction)
        | have hxx : barsOf l s.mark ≤ s.count ∨ True := .inr trivial
          refine Ev.region_S fun K hK => S.o q.mv (S.o q.mv (S.o q.mv (S.o (q.ix am_el22 am_cl42 (hl := (by first | exact ati hbi (by omega) | exact ati hidx (by omega) | exact atig (by omega)))) (S.o (q.fs 0 am_fi42_0 am_cl9) (S.o (q.ls am_ag9) (S.o (q.bd [_, _] am_ze57 am_pl57) (S.nn (q.bs [[_, _]] true am_el35 am_ze57 am_cl57) (S.ap' [_] am_el35 am_ze57 am_cl57 am_by57 (hh := head_own') (hr := (rows_lit [(⟨_, _⟩ : Int × List UInt8)])) (h := S.o q.as (S.end (hK _ ?_)))))))))))
          clear hK K
          show Ev _ _ _ _
          refine Ev.region_S fun K hK => S.o q.mv (S.o q.add (S.o q.as (S.end (hK _ ?_))))
          clear hK K
          refine hR0 _ _ ?_
          refine roundU [2] [0, 1, 4] ⟨(pre ++ [s], suf), by rw [← hp]; simp, ?_⟩ ?_ (keep_c (he := (by first | rfl | (rw [fnd1_snoc, f1_lt (by omega)]; done) | (rw [fnd1_snoc, f1_gt (by omega)]; done) | (rw [fnd1_snoc, f1_eq (by omega) (by omega), List.append_nil]; done) | (exfalso; omega))) (h := keep_n)) (slots_c (he := (by first | rfl | (congr 2; simp; done))) (h := (slots_c (he := (by first | rfl | (refine congrArg (AV.als _ 0) ?_; first | rfl | (rw [fnd1_snoc, f1_lt (by omega)]; done) | (rw [fnd1_snoc, f1_gt (by omega)]; done) | (rw [fnd1_snoc, f1_eq (by omega) (by omega), List.append_nil]; done)) | (exfalso; omega))) (h := trivial)))) (.c (.c (.c .n)))
          trivial
          all_goals (dsimp only; simp only [List.length_cons]; omega)
        · first
        | (first | omega | contradiction)
        | refine Ev.skip ?_
          show Ev _ _ _ _
          refine Ev.region_S fun K hK => S.o q.mv (S.o q.add (S.o q.as (S.end (hK _ ?_))))
          clear hK K
          refine hR0 _ _ ?_
          refine roundU [0] [0, 1, 4] ⟨(pre ++ [s], suf), by rw [← hp]; simp, ?_⟩ ?_ (keep_c (he := (by first | rfl | (rw [fnd1_snoc, f1_lt (by omega)]; done) | (rw [fnd1_snoc, f1_gt (by omega)]; done) | (rw [fnd1_snoc, f1_eq (by omega) (by omega), List.append_nil]; done) | (exfalso; omega))) (h := keep_n)) (slots_c (he := (by first | rfl | (congr 2; simp; done))) (h := (slots_c (he := (by first | rfl | (refine congrArg (AV.als _ 0) ?_; first | rfl | (rw [fnd1_snoc, f1_lt (by omega)]; done) | (rw [fnd1_snoc, f1_gt (by omega)]; done) | (rw [fnd1_snoc, f1_eq (by omega) (by omega), List.append_nil]; done)) | (exfalso; omega))) (h := trivial)))) (.c (.c (.c .n)))
          trivial
          all_goals (dsimp only; simp only [List.length_cons]; omega)
    · first | omega | contradiction

/-- Few bundles with short names, or too many. -/
def shortB (l : List Bundle) (most : Int) : Prop := ¬ (((l.length : Int) > most ∧ l.length ≤ 1000) ∨ l.length > 1003) ∧ ∀ b ∈ l, b.tag.length ≤ 60 ∧ b.mark.length ≤ 60
instance (l most) : Decidable (shortB l most) := by unfold shortB; infer_instance
theorem short_w {l : List Bundle} {most : Int} (h : shortB l most) : bunW l ∧ l.length ≤ 1003 := ⟨fun b hb => by
  have := h.2 b hb
  exact ⟨by omega, by omega⟩, by have := h.1; omega⟩
theorem short_fun (l : List Bundle) (most : Int) (hlen : l.length ≤ 140737488355328) : Fun Tryd.prog 21 [.sh 4 (l.map Bundle.c), .lit (.int .i64 most)] (Ret (.lit (.bool (decide (shortB l most)))) []) := by
  refine Fun.of (nt := 42) (rs := [.tmp 4]) Tryd.func21 rfl rfl rfl rfl rfl ?_
  refine Ev.sr fun K hK => S.o q.as (S.end (hK _ ?_))
  clear hK K
  refine Ev.seq ?_
  refine Ev.sr fun K hK => S.o q.mv (S.o (q.lens am_el25) (S.o q.mv (S.o q.gtr (S.bd q.mv (fun c1 => ?_) (fun c1 => ?_)))))
  · first
  | (first | omega | contradiction)
  | refine S.o q.mv (S.o (q.lens am_el25) (S.o q.leq (S.o q.pt (S.bd q.mv (fun c2 => ?_) (fun c2 => ?_)))))
    · first
    | (first | omega | contradiction)
    | refine S.sk (S.sk (S.sk (S.o q.pt (S.end (hK _ ?_)))))
      clear hK K
      refine Ev.ct ?_
      refine Ev.sr fun K hK => S.o q.as (S.end (hK _ ?_))
      clear hK K
      refine Ev.ret ?_
      refine Ev.ret1 ?_
      refine ⟨?_, rfl⟩
      first
       | exact bF (fun h => by have h1 := h.1; omega)
       | exact bF (fun h => by have h1 := h.2 s (by rw [← hp]; simp); omega)
       | exact bT ⟨by omega, by rw [← hp]; exact hinv⟩
    · first
    | (first | omega | contradiction)
    | refine S.o q.mv (S.o (q.lens am_el25) (S.o q.gtr (S.o q.pf (S.end (hK _ ?_)))))
      clear hK K
      refine Ev.cd (fun c3 => ?_) (fun c3 => ?_)
      · first
      | (first | omega | contradiction)
      | refine Ev.sr fun K hK => S.o q.as (S.end (hK _ ?_))
        clear hK K
        refine Ev.ret ?_
        refine Ev.ret1 ?_
        refine ⟨?_, rfl⟩
        first
         | exact bF (fun h => by have h1 := h.1; omega)
         | exact bF (fun h => by have h1 := h.2 s (by rw [← hp]; simp); omega)
         | exact bT ⟨by omega, by rw [← hp]; exact hinv⟩
      · first
      | (first | omega | contradiction)
      | refine Ev.skip ?_
        show Ev _ _ _ _
        refine Ev.seq ?_
        refine Ev.sr fun K hK => S.o q.as (S.end (hK _ ?_))
        clear hK K
        refine Ev.block ?_
        refine Ev.loopU (ι := {q : List Bundle × List Bundle // q.1 ++ q.2 = l ∧ ∀ b ∈ q.1, b.tag.length ≤ 60 ∧ b.mark.length ≤ 60}) [] [0] (fun ⟨(pre, suf), _⟩ => [(5, .lit (.int .i64 ((pre.length : Int))))]) (fun ⟨(pre, suf), _⟩ => []) (fun ⟨(pre, suf), _⟩ => suf.length) ⟨([], l), rfl, fun x hx => by simp at hx⟩ (.c .n) keep_n (slots_c (he := (by first | rfl | (simp; done) | (congr 2; omega))) (h := trivial)) ?_
        rintro ⟨⟨pre, suf⟩, hp, hinv⟩ R0 hR0
        dsimp only [List.cons_append, List.nil_append, List.length_cons, List.length_nil]
        simp only at hp hinv
        have hpl : pre.length + suf.length = (l).length := by rw [← hp, List.length_append]
        rcases suf with _ | ⟨s, suf⟩
        · rw [List.append_nil] at hp; simp only [List.length_nil] at hpl
          refine Ev.seq ?_
          refine Ev.sr fun K hK => S.o q.mv (S.o q.mv (S.o (q.lens am_el25) (S.o q.lss (S.end (hK _ ?_)))))
          clear hK K
          refine Ev.cd (fun c4 => ?_) (fun c4 => ?_)
          · first | omega | contradiction
          · first
          | (first | omega | contradiction)
          | refine Ev.exit ?_
            refine hR0 _ _ ?_
            show Ev _ _ _ _
            refine Ev.sr fun K hK => S.o q.as (S.end (hK _ ?_))
            clear hK K
            refine Ev.ret ?_
            refine Ev.ret1 ?_
            refine ⟨?_, rfl⟩
            first
             | exact bF (fun h => by have h1 := h.1; omega)
             | exact bF (fun h => by have h1 := h.2 s (by rw [← hp]; simp); omega)
             | exact bT ⟨by omega, by rw [← hp]; exact hinv⟩
        · simp only [List.length_cons] at hpl
          have hidx : l[pre.length]? = some s := by rw [← hp]; simp
          refine Ev.seq ?_
          refine Ev.sr fun K hK => S.o q.mv (S.o q.mv (S.o (q.lens am_el25) (S.o q.lss (S.end (hK _ ?_)))))
          clear hK K
          refine Ev.cd (fun c5 => ?_) (fun c5 => ?_)
          · first
          | (first | omega | contradiction)
          | refine Ev.skip ?_
            show Ev _ _ _ _
            refine Ev.seq ?_
            refine Ev.block ?_
            refine Ev.sr fun K hK => S.o q.mv (S.o q.mv (S.o (q.ix am_el25 am_cl46 (hl := (by first | exact ati hidx (by omega) | exact atig (by omega)))) (S.o (q.fs 0 am_fi46_0 am_cl9) (S.o (q.ls am_ag9) (S.o (q.slen am_el9 am_un9) (S.o q.gtr (S.bd q.mv (fun c6 => ?_) (fun c6 => ?_))))))))
            · first
            | (first | omega | contradiction)
            | refine S.sk (S.sk (S.sk (S.sk (S.sk (S.sk (S.sk (S.o q.pt (S.end (hK _ ?_)))))))))
              clear hK K
              refine Ev.ct ?_
              refine Ev.sr fun K hK => S.o q.as (S.end (hK _ ?_))
              clear hK K
              refine Ev.ret ?_
              refine hR0 _ _ ?_
              refine Ev.ret1 ?_
              refine ⟨?_, rfl⟩
              first
               | exact bF (fun h => by have h1 := h.1; omega)
               | exact bF (fun h => by have h1 := h.2 s (by rw [← hp]; simp); omega)
               | exact bT ⟨by omega, by rw [← hp]; exact hinv⟩
            · first
            | (first | omega | contradiction)
            | refine S.o q.mv (S.o q.mv (S.o (q.ix am_el25 am_cl46 (hl := (by first | exact ati hidx (by omega) | exact atig (by omega)))) (S.o (q.fs 1 am_fi46_1 am_cl9) (S.o (q.ls am_ag9) (S.o (q.slen am_el9 am_un9) (S.o q.gtr (S.o q.pf (S.end (hK _ ?_)))))))))
              clear hK K
              refine Ev.cd (fun c7 => ?_) (fun c7 => ?_)
              · first
              | (first | omega | contradiction)
              | refine Ev.sr fun K hK => S.o q.as (S.end (hK _ ?_))
                clear hK K
                refine Ev.ret ?_
                refine hR0 _ _ ?_
                refine Ev.ret1 ?_
                refine ⟨?_, rfl⟩
                first
                 | exact bF (fun h => by have h1 := h.1; omega)
                 | exact bF (fun h => by have h1 := h.2 s (by rw [← hp]; simp); omega)
                 | exact bT ⟨by omega, by rw [← hp]; exact hinv⟩
              · first
              | (first | omega | contradiction)
              | refine Ev.skip ?_
                show Ev _ _ _ _
                refine Ev.region_S fun K hK => S.o q.mv (S.o q.add (S.o q.as (S.end (hK _ ?_))))
                clear hK K
                refine hR0 _ _ ?_
                refine roundU [] [0] ⟨(pre ++ [s], suf), by rw [← hp]; simp, ?_⟩ ?_ keep_n (slots_c (he := (by first | rfl | (simp; done) | (congr 2; omega))) (h := trivial)) (.c .n)
                intro x hx; simp only [List.mem_append, List.mem_singleton] at hx; rcases hx with hx | rfl
                · exact hinv x hx
                · omega
                all_goals (dsimp only; simp only [List.length_cons]; omega)
          · first | omega | contradiction
  · first
  | (first | omega | contradiction)
  | refine S.sk (S.sk (S.sk (S.o q.pf (S.o q.mv (S.o q.mv (S.o (q.lens am_el25) (S.o q.gtr (S.o q.pf (S.end (hK _ ?_))))))))))
    clear hK K
    refine Ev.cd (fun c8 => ?_) (fun c8 => ?_)
    · first
    | (first | omega | contradiction)
    | refine Ev.sr fun K hK => S.o q.as (S.end (hK _ ?_))
      clear hK K
      refine Ev.ret ?_
      refine Ev.ret1 ?_
      refine ⟨?_, rfl⟩
      first
       | exact bF (fun h => by have h1 := h.1; omega)
       | exact bF (fun h => by have h1 := h.2 s (by rw [← hp]; simp); omega)
       | exact bT ⟨by omega, by rw [← hp]; exact hinv⟩
    · first
    | (first | omega | contradiction)
    | refine Ev.skip ?_
      show Ev _ _ _ _
      refine Ev.seq ?_
      refine Ev.sr fun K hK => S.o q.as (S.end (hK _ ?_))
      clear hK K
      refine Ev.block ?_
      refine Ev.loopU (ι := {q : List Bundle × List Bundle // q.1 ++ q.2 = l ∧ ∀ b ∈ q.1, b.tag.length ≤ 60 ∧ b.mark.length ≤ 60}) [] [0] (fun ⟨(pre, suf), _⟩ => [(5, .lit (.int .i64 ((pre.length : Int))))]) (fun ⟨(pre, suf), _⟩ => []) (fun ⟨(pre, suf), _⟩ => suf.length) ⟨([], l), rfl, fun x hx => by simp at hx⟩ (.c .n) keep_n (slots_c (he := (by first | rfl | (simp; done) | (congr 2; omega))) (h := trivial)) ?_
      rintro ⟨⟨pre, suf⟩, hp, hinv⟩ R0 hR0
      dsimp only [List.cons_append, List.nil_append, List.length_cons, List.length_nil]
      simp only at hp hinv
      have hpl : pre.length + suf.length = (l).length := by rw [← hp, List.length_append]
      rcases suf with _ | ⟨s, suf⟩
      · rw [List.append_nil] at hp; simp only [List.length_nil] at hpl
        refine Ev.seq ?_
        refine Ev.sr fun K hK => S.o q.mv (S.o q.mv (S.o (q.lens am_el25) (S.o q.lss (S.end (hK _ ?_)))))
        clear hK K
        refine Ev.cd (fun c9 => ?_) (fun c9 => ?_)
        · first | omega | contradiction
        · first
        | (first | omega | contradiction)
        | refine Ev.exit ?_
          refine hR0 _ _ ?_
          show Ev _ _ _ _
          refine Ev.sr fun K hK => S.o q.as (S.end (hK _ ?_))
          clear hK K
          refine Ev.ret ?_
          refine Ev.ret1 ?_
          refine ⟨?_, rfl⟩
          first
           | exact bF (fun h => by have h1 := h.1; omega)
           | exact bF (fun h => by have h1 := h.2 s (by rw [← hp]; simp); omega)
           | exact bT ⟨by omega, by rw [← hp]; exact hinv⟩
      · simp only [List.length_cons] at hpl
        have hidx : l[pre.length]? = some s := by rw [← hp]; simp
        refine Ev.seq ?_
        refine Ev.sr fun K hK => S.o q.mv (S.o q.mv (S.o (q.lens am_el25) (S.o q.lss (S.end (hK _ ?_)))))
        clear hK K
        refine Ev.cd (fun c10 => ?_) (fun c10 => ?_)
        · first
        | (first | omega | contradiction)
        | refine Ev.skip ?_
          show Ev _ _ _ _
          refine Ev.seq ?_
          refine Ev.block ?_
          refine Ev.sr fun K hK => S.o q.mv (S.o q.mv (S.o (q.ix am_el25 am_cl46 (hl := (by first | exact ati hidx (by omega) | exact atig (by omega)))) (S.o (q.fs 0 am_fi46_0 am_cl9) (S.o (q.ls am_ag9) (S.o (q.slen am_el9 am_un9) (S.o q.gtr (S.bd q.mv (fun c11 => ?_) (fun c11 => ?_))))))))
          · first
          | (first | omega | contradiction)
          | refine S.sk (S.sk (S.sk (S.sk (S.sk (S.sk (S.sk (S.o q.pt (S.end (hK _ ?_)))))))))
            clear hK K
            refine Ev.ct ?_
            refine Ev.sr fun K hK => S.o q.as (S.end (hK _ ?_))
            clear hK K
            refine Ev.ret ?_
            refine hR0 _ _ ?_
            refine Ev.ret1 ?_
            refine ⟨?_, rfl⟩
            first
             | exact bF (fun h => by have h1 := h.1; omega)
             | exact bF (fun h => by have h1 := h.2 s (by rw [← hp]; simp); omega)
             | exact bT ⟨by omega, by rw [← hp]; exact hinv⟩
          · first
          | (first | omega | contradiction)
          | refine S.o q.mv (S.o q.mv (S.o (q.ix am_el25 am_cl46 (hl := (by first | exact ati hidx (by omega) | exact atig (by omega)))) (S.o (q.fs 1 am_fi46_1 am_cl9) (S.o (q.ls am_ag9) (S.o (q.slen am_el9 am_un9) (S.o q.gtr (S.o q.pf (S.end (hK _ ?_)))))))))
            clear hK K
            refine Ev.cd (fun c12 => ?_) (fun c12 => ?_)
            · first
            | (first | omega | contradiction)
            | refine Ev.sr fun K hK => S.o q.as (S.end (hK _ ?_))
              clear hK K
              refine Ev.ret ?_
              refine hR0 _ _ ?_
              refine Ev.ret1 ?_
              refine ⟨?_, rfl⟩
              first
               | exact bF (fun h => by have h1 := h.1; omega)
               | exact bF (fun h => by have h1 := h.2 s (by rw [← hp]; simp); omega)
               | exact bT ⟨by omega, by rw [← hp]; exact hinv⟩
            · first
            | (first | omega | contradiction)
            | refine Ev.skip ?_
              show Ev _ _ _ _
              refine Ev.region_S fun K hK => S.o q.mv (S.o q.add (S.o q.as (S.end (hK _ ?_))))
              clear hK K
              refine hR0 _ _ ?_
              refine roundU [] [0] ⟨(pre ++ [s], suf), by rw [← hp]; simp, ?_⟩ ?_ keep_n (slots_c (he := (by first | rfl | (simp; done) | (congr 2; omega))) (h := trivial)) (.c .n)
              intro x hx; simp only [List.mem_append, List.mem_singleton] at hx; rcases hx with hx | rfl
              · exact hinv x hx
              · omega
              all_goals (dsimp only; simp only [List.length_cons]; omega)
        · first | omega | contradiction

abbrev Fnd := Int × List UInt8
theorem fnd_same {s t : Fnd} (h : (!(decide (s.1 = t.1) && (decide ((⟨s.2.toArray⟩ : ByteArray) = ⟨t.2.toArray⟩) && true))) = false) : t = s := by
  simp only [Bool.not_eq_false', Bool.and_eq_true, decide_eq_true_eq, Bool.and_true] at h
  exact Prod.ext h.1.symm (bytes_inj.1 h.2).symm
theorem fnd_diff {s t : Fnd} (h : (!(decide (s.1 = t.1) && (decide ((⟨s.2.toArray⟩ : ByteArray) = ⟨t.2.toArray⟩) && true))) = true) : s ≠ t := by
  rintro rfl
  simp at h
theorem eqFnd_fun (a b : List Fnd) (ha : a.length ≤ 140737488355328) (hb : b.length ≤ 140737488355328) : Fun Tryd.prog 27 [.sh 2 (a.map findC), .sh 2 (b.map findC)] (Ret (.lit (.bool (decide (a = b)))) []) := by
  refine Fun.of (nt := 26) (rs := [.tmp 4]) Tryd.func27 rfl rfl rfl rfl rfl ?_
  refine Ev.sr fun K hK => S.o q.as (S.end (hK _ ?_))
  clear hK K
  refine Ev.seq ?_
  refine Ev.sr fun K hK => S.o q.mv (S.o (q.lens am_el35) (S.o q.mv (S.o (q.lens am_el35) (S.o q.neq (S.end (hK _ ?_))))))
  clear hK K
  refine Ev.cn (fun c1 => ?_) (fun c1 => ?_)
  · first
  | (first | omega | contradiction)
  | refine Ev.sr fun K hK => S.o q.as (S.end (hK _ ?_))
    clear hK K
    refine Ev.ret ?_
    refine Ev.ret1 ?_
    refine ⟨?_, rfl⟩
    first
     | exact bF (fun h => by subst h; omega)
     | exact bF (fun h => by subst h; rw [hidx] at hidx2; simp only [Option.some.injEq] at hidx2; exact fnd_diff ‹_› hidx2)
     | exact bT (hinv.symm.trans (List.take_of_length_le (by omega)))
  · first
  | (first | omega | contradiction)
  | refine Ev.skip ?_
    show Ev _ _ _ _
    refine Ev.seq ?_
    refine Ev.sr fun K hK => S.o q.mv (S.o (q.lens am_el35) (S.o q.mv (S.end (hK _ ?_))))
    clear hK K
    refine Ev.block ?_
    refine Ev.loopU (ι := {q : List Fnd × List Fnd // q.1 ++ q.2 = a ∧ b.take q.1.length = q.1}) [] [0, 1, 12] (fun ⟨(pre, suf), _⟩ => [(13, .lit (.int .i64 ((pre.length : Int))))]) (fun ⟨(pre, suf), _⟩ => []) (fun ⟨(pre, suf), _⟩ => suf.length) ⟨([], a), rfl, rfl⟩ (.c (.c (.c .n))) keep_n (slots_c (he := (by first | rfl | (simp; done) | (congr 2; omega))) (h := trivial)) ?_
    rintro ⟨⟨pre, suf⟩, hp, hinv⟩ R0 hR0
    dsimp only [List.cons_append, List.nil_append, List.length_cons, List.length_nil]
    simp only at hp hinv
    have hpl : pre.length + suf.length = (a).length := by rw [← hp, List.length_append]
    rcases suf with _ | ⟨s, suf⟩
    · rw [List.append_nil] at hp; subst hp; simp only [List.length_nil] at hpl
      refine Ev.sr fun K hK => S.o q.lss (S.end (hK _ ?_))
      clear hK K
      refine Ev.ud (fun c2 => ?_) (fun c2 => ?_)
      · first | omega | contradiction
      · first
      | (first | omega | contradiction)
      | refine Ev.exit ?_
        refine hR0 _ _ ?_
        show Ev _ _ _ _
        refine Ev.sr fun K hK => S.o q.as (S.end (hK _ ?_))
        clear hK K
        refine Ev.ret ?_
        refine Ev.ret1 ?_
        refine ⟨?_, rfl⟩
        first
         | exact bF (fun h => by subst h; omega)
         | exact bF (fun h => by subst h; rw [hidx] at hidx2; simp only [Option.some.injEq] at hidx2; exact fnd_diff ‹_› hidx2)
         | exact bT (hinv.symm.trans (List.take_of_length_le (by omega)))
    · simp only [List.length_cons] at hpl
      have hidx : (a)[pre.length]? = some s := by rw [← hp]; simp
      obtain ⟨s2, hidx2⟩ : ∃ s2, b[pre.length]? = some s2 := ⟨_, List.getElem?_eq_getElem (by omega)⟩
      refine Ev.sr fun K hK => S.o q.lss (S.end (hK _ ?_))
      clear hK K
      refine Ev.ud (fun c3 => ?_) (fun c3 => ?_)
      · first
      | (first | omega | contradiction)
      | refine Ev.seq ?_
        refine Ev.block ?_
        refine Ev.sr fun K hK => S.o q.mv (S.o q.as (S.end (hK _ ?_)))
        clear hK K
        refine Ev.sm (tbs [(0, 0), (0, 0), (2, 3), (3, 7), (0, 0), (0, 0), (6, 48), (7, 112), (8, 255)]) 9 fun K hK => M.o q.mv (M.o q.mv (M.o (q.ix am_el35 am_cl57 (hl := (by first | exact ati hidx (by omega) | exact ati hidx2 (by omega) | exact atig (by omega)))) (M.o (q.lsA [_, _] am_ag57 am_cl57) (M.o q.mv (M.o q.mv (M.o (q.ix am_el35 am_cl57 (hl := (by first | exact ati hidx (by omega) | exact ati hidx2 (by omega) | exact atig (by omega)))) (M.o (q.lsA [_, _] am_ag57 am_cl57) (M.o (q.sneq am_eq57 (am_sq57 _ _ _ _)) (M.end [] (h := S.end (hK _ ?_)))))))))))
        clear hK K
        refine Ev.c (fun c4 => ?_) (fun c4 => ?_)
        · first
        | (first | omega | contradiction)
        | refine Ev.sr fun K hK => S.o q.as (S.end (hK _ ?_))
          clear hK K
          refine Ev.ret ?_
          refine hR0 _ _ ?_
          refine Ev.ret1 ?_
          refine ⟨?_, rfl⟩
          first
           | exact bF (fun h => by subst h; omega)
           | exact bF (fun h => by subst h; rw [hidx] at hidx2; simp only [Option.some.injEq] at hidx2; exact fnd_diff ‹_› hidx2)
           | exact bT (hinv.symm.trans (List.take_of_length_le (by omega)))
        · first
        | (first | omega | contradiction)
        | refine Ev.skip ?_
          show Ev _ _ _ _
          refine Ev.region_S fun K hK => S.o q.add (S.o q.mv (S.end (hK _ ?_)))
          clear hK K
          refine hR0 _ _ ?_
          refine roundU [] [0, 1, 12] ⟨(pre ++ [s], suf), by rw [← hp]; simp, ?_⟩ ?_ keep_n (slots_c (he := (by first | rfl | (simp; done) | (congr 2; omega))) (h := trivial)) (.c (.c (.c .n)))
          simp only [List.length_append, List.length_cons, List.length_nil, Nat.zero_add]
          rw [List.take_add_one, hinv, hidx2]
          simp only [Option.toList_some, List.append_cancel_left_eq, List.cons.injEq, and_true]
          exact fnd_same ‹_›
          all_goals (dsimp only; simp only [List.length_cons]; omega)
      · first | omega | contradiction
end Go.Proofs.YtnbjmckhongidaaDoor
