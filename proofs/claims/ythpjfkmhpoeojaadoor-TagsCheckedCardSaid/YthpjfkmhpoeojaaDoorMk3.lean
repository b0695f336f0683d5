/-
  Bundles: valid ones, masses, findings.
  Conditions: none.
-/
import Derived.Test.YthpjfkmhpoeojaaDoorMk1
import Derived.Test.YthpjfkmhpoeojaaDoorBd3
namespace Go.Proofs.YthpjfkmhpoeojaaDoor
open Go Go.AM
set_option linter.unusedSimpArgs false
set_option linter.unusedVariables false
set_option maxRecDepth 100000
set_option maxHeartbeats 1000000

theorem bvalid_fun (l : List Bundle) (hlen : l.length ≤ 140737488355328) (hw : bunW l) : Fun Tryd.prog 22 [.sh 4 (l.map Bundle.c)] (Ret (.lit (.bool (decide (okBuns l)))) []) := by
  refine Fun.of (nt := 56) (rs := [.tmp 2]) Tryd.func22 rfl rfl rfl rfl rfl ?_
  refine Ev.sr fun K hK => S.o q.as (S.end (hK _ ?_))
  clear hK K
  refine Ev.seq ?_
  refine Ev.sr fun K hK => S.o q.mv (S.o (q.lens am_el31) (S.o q.gtr (S.end (hK _ ?_))))
  clear hK K
  refine Ev.cd (fun c1 => ?_) (fun c1 => ?_)
  · first
  | (first | omega | contradiction)
  | refine Ev.sr fun K hK => S.o q.as (S.end (hK _ ?_))
    clear hK K
    refine Ev.ret ?_
    refine Ev.ret1 ?_
    refine ⟨?_, rfl⟩
    first
     | exact bF (fun h => by have h1 := h.1; omega)
     | exact bF (fun h => absurd (buns_cut hp h).1.1 ‹_›)
     | exact bF (fun h => absurd (buns_cut hp h).1.2.1 ‹_›)
     | exact bF (fun h => by obtain ⟨_, _, h1, h2, h3, h4⟩ := (buns_cut hp h).1; omega)
     | exact bF (fun h => by obtain ⟨a, ha, e⟩ := tags_yes ‹_›; exact (buns_cut hp h).2 a ha e)
     | exact bT ⟨by omega, by rw [← hp]; exact hinv⟩
  · first
  | (first | omega | contradiction)
  | refine Ev.skip ?_
    show Ev _ _ _ _
    refine Ev.sr fun K hK => S.nn (v := .hd 0) (o := ⟨true, 98, 3, ([] : List (List UInt8 × Bool)).map (rowK (str) (Value.bool)), true⟩) (q.mm am_mt98) (S.o q.as (S.end (hK _ ?_)))
    clear hK K
    refine Ev.seq ?_
    refine Ev.sr fun K hK => S.o q.mv (S.o (q.lens am_el31) (S.o q.mv (S.end (hK _ ?_))))
    clear hK K
    refine Ev.block ?_
    refine Ev.loopU (ι := {q : List Bundle × List Bundle // q.1 ++ q.2 = l ∧ (∀ c ∈ q.1, okBun c) ∧ q.1.Pairwise (fun a b => a.tag ≠ b.tag)}) [0] [3, 10, 11] (fun ⟨(pre, suf), _⟩ => [(12, .lit (.int .i64 ((pre.length : Int))))]) (fun ⟨(pre, suf), _⟩ => [(0, ⟨true, 98, 3, (tagsM pre).map (rowK (str) (Value.bool)), true⟩)]) (fun ⟨(pre, suf), _⟩ => suf.length) ⟨([], l), rfl, ⟨fun b hb => by simp at hb, by simp⟩⟩ (.c (.c (.c .n))) (keep_c (he := (by first | rfl | (rw [tags_snoc ‹_›]))) (h := keep_n)) (slots_c (he := (by first | rfl | (congr 2; simp; done))) (h := trivial)) ?_
    rintro ⟨⟨pre, suf⟩, hp, hinv⟩ R0 hR0
    dsimp only [List.cons_append, List.nil_append, List.length_cons, List.length_nil]
    simp only at hp hinv
    have hpl : pre.length + suf.length = (l).length := by rw [← hp, List.length_append]
    rcases suf with _ | ⟨s, suf⟩
    · rw [List.append_nil] at hp; simp only [List.length_nil] at hpl
      refine Ev.sr fun K hK => S.o q.lss (S.end (hK _ ?_))
      clear hK K
      refine Ev.ud (fun c2 => ?_) (fun c2 => ?_)
      · first | omega | contradiction | (exfalso; simp at *; done)
      · first
      | (first | omega | contradiction)
      | refine Ev.exit ?_
        refine hR0 _ _ ?_
        show Ev _ _ _ _
        refine Ev.sr fun K hK => S.o q.as (S.end (hK _ ?_))
        clear hK K
        refine Ev.ret ?_
        refine Ev.ret1 ?_
        refine ⟨?_, rfl⟩
        first
         | exact bF (fun h => by have h1 := h.1; omega)
         | exact bF (fun h => absurd (buns_cut hp h).1.1 ‹_›)
         | exact bF (fun h => absurd (buns_cut hp h).1.2.1 ‹_›)
         | exact bF (fun h => by obtain ⟨_, _, h1, h2, h3, h4⟩ := (buns_cut hp h).1; omega)
         | exact bF (fun h => by obtain ⟨a, ha, e⟩ := tags_yes ‹_›; exact (buns_cut hp h).2 a ha e)
         | exact bT ⟨by omega, by rw [← hp]; exact hinv⟩
    · simp only [List.length_cons] at hpl
      have hidx : l[pre.length]? = some s := by rw [← hp]; simp
      obtain ⟨hsw1, hsw2⟩ : s.w := hw s (by rw [← hp]; simp)
      refine Ev.sr fun K hK => S.o q.lss (S.end (hK _ ?_))
      clear hK K
      refine Ev.ud (fun c3 => ?_) (fun c3 => ?_)
      · first
      | (first | omega | contradiction)
      | refine Ev.seq ?_
        refine Ev.block ?_
        refine Ev.sr fun K hK => S.o (q.ix am_el31 am_cl38 (hl := (by first | exact ati hidx (by omega) | exact atig (by omega)))) (S.o (q.lsA [_, _, _, _] am_ag38 am_cl38) (S.nn (q.al am_ze38) (S.sv [_, _, _, _] true [_] am_in38 am_cl38 (h := S.end (hK _ ?_)))))
        clear hK K
        refine Ev.seq ?_
        refine Ev.sr fun K hK => S.o (q.fa 0 am_fi38_0 am_cl9) (S.o (q.lv am_ag9) (S.c0 (hF := isName_fun _ (by omega)) (h := S.o q.not (S.bn q.mv (fun c4 => ?_) (fun c4 => ?_)))))
        · first
        | (first | omega | contradiction)
        | refine S.sk (S.sk (S.sk (S.sk (S.o q.pt (S.o q.mv (S.sk (S.sk (S.sk (S.sk (S.o q.pt (S.o q.mv (S.sk (S.sk (S.sk (S.o q.pt (S.o q.mv (S.sk (S.sk (S.sk (S.o q.pt (S.o q.mv (S.sk (S.sk (S.sk (S.o q.pt (S.o q.mv (S.sk (S.sk (S.sk (S.o q.pt (S.end (hK _ ?_))))))))))))))))))))))))))))))))
          clear hK K
          refine Ev.ct ?_
          refine Ev.sr fun K hK => S.o q.as (S.end (hK _ ?_))
          clear hK K
          refine Ev.ret ?_
          refine hR0 _ _ ?_
          refine Ev.ret1 ?_
          refine ⟨?_, rfl⟩
          first
           | exact bF (fun h => by have h1 := h.1; omega)
           | exact bF (fun h => absurd (buns_cut hp h).1.1 ‹_›)
           | exact bF (fun h => absurd (buns_cut hp h).1.2.1 ‹_›)
           | exact bF (fun h => by obtain ⟨_, _, h1, h2, h3, h4⟩ := (buns_cut hp h).1; omega)
           | exact bF (fun h => by obtain ⟨a, ha, e⟩ := tags_yes ‹_›; exact (buns_cut hp h).2 a ha e)
           | exact bT ⟨by omega, by rw [← hp]; exact hinv⟩
        · first
        | (first | omega | contradiction)
        | refine S.o (q.fa 1 am_fi38_1 am_cl9) (S.o (q.lv am_ag9) (S.c0 (hF := isName_fun _ (by omega)) (h := S.o q.not (S.o q.pf (S.bn q.mv (fun c5 => ?_) (fun c5 => ?_))))))
          · first
          | (first | omega | contradiction)
          | refine S.sk (S.sk (S.sk (S.sk (S.o q.pt (S.o q.mv (S.sk (S.sk (S.sk (S.o q.pt (S.o q.mv (S.sk (S.sk (S.sk (S.o q.pt (S.o q.mv (S.sk (S.sk (S.sk (S.o q.pt (S.o q.mv (S.sk (S.sk (S.sk (S.o q.pt (S.end (hK _ ?_))))))))))))))))))))))))))
            clear hK K
            refine Ev.ct ?_
            refine Ev.sr fun K hK => S.o q.as (S.end (hK _ ?_))
            clear hK K
            refine Ev.ret ?_
            refine hR0 _ _ ?_
            refine Ev.ret1 ?_
            refine ⟨?_, rfl⟩
            first
             | exact bF (fun h => by have h1 := h.1; omega)
             | exact bF (fun h => absurd (buns_cut hp h).1.1 ‹_›)
             | exact bF (fun h => absurd (buns_cut hp h).1.2.1 ‹_›)
             | exact bF (fun h => by obtain ⟨_, _, h1, h2, h3, h4⟩ := (buns_cut hp h).1; omega)
             | exact bF (fun h => by obtain ⟨a, ha, e⟩ := tags_yes ‹_›; exact (buns_cut hp h).2 a ha e)
             | exact bT ⟨by omega, by rw [← hp]; exact hinv⟩
          · first
          | (first | omega | contradiction)
          | refine S.o q.mv (S.o (q.fa 0 am_fi38_0 am_cl9) (S.o (q.lv am_ag9) (S.o (q.lk (vv := (Value.bool)) klS am_mt98) (S.o q.pf (S.bb q.mv (fun c6 => ?_) (fun c6 => ?_))))))
            · first
            | (first | omega | contradiction)
            | refine S.sk (S.sk (S.sk (S.o q.pt (S.o q.mv (S.sk (S.sk (S.sk (S.o q.pt (S.o q.mv (S.sk (S.sk (S.sk (S.o q.pt (S.o q.mv (S.sk (S.sk (S.sk (S.o q.pt (S.end (hK _ ?_))))))))))))))))))))
              clear hK K
              refine Ev.ct ?_
              refine Ev.sr fun K hK => S.o q.as (S.end (hK _ ?_))
              clear hK K
              refine Ev.ret ?_
              refine hR0 _ _ ?_
              refine Ev.ret1 ?_
              refine ⟨?_, rfl⟩
              first
               | exact bF (fun h => by have h1 := h.1; omega)
               | exact bF (fun h => absurd (buns_cut hp h).1.1 ‹_›)
               | exact bF (fun h => absurd (buns_cut hp h).1.2.1 ‹_›)
               | exact bF (fun h => by obtain ⟨_, _, h1, h2, h3, h4⟩ := (buns_cut hp h).1; omega)
               | exact bF (fun h => by obtain ⟨a, ha, e⟩ := tags_yes ‹_›; exact (buns_cut hp h).2 a ha e)
               | exact bT ⟨by omega, by rw [← hp]; exact hinv⟩
            · first
            | (first | omega | contradiction)
            | refine S.o (q.fa 2 am_fi38_2 am_cl3) (S.o (q.lv am_ag3) (S.o q.lss (S.o q.pf (S.bd q.mv (fun c7 => ?_) (fun c7 => ?_)))))
              · first
              | (first | omega | contradiction)
              | refine S.sk (S.sk (S.sk (S.o q.pt (S.o q.mv (S.sk (S.sk (S.sk (S.o q.pt (S.o q.mv (S.sk (S.sk (S.sk (S.o q.pt (S.end (hK _ ?_)))))))))))))))
                clear hK K
                refine Ev.ct ?_
                refine Ev.sr fun K hK => S.o q.as (S.end (hK _ ?_))
                clear hK K
                refine Ev.ret ?_
                refine hR0 _ _ ?_
                refine Ev.ret1 ?_
                refine ⟨?_, rfl⟩
                first
                 | exact bF (fun h => by have h1 := h.1; omega)
                 | exact bF (fun h => absurd (buns_cut hp h).1.1 ‹_›)
                 | exact bF (fun h => absurd (buns_cut hp h).1.2.1 ‹_›)
                 | exact bF (fun h => by obtain ⟨_, _, h1, h2, h3, h4⟩ := (buns_cut hp h).1; omega)
                 | exact bF (fun h => by obtain ⟨a, ha, e⟩ := tags_yes ‹_›; exact (buns_cut hp h).2 a ha e)
                 | exact bT ⟨by omega, by rw [← hp]; exact hinv⟩
              · first
              | (first | omega | contradiction)
              | refine S.o (q.fa 2 am_fi38_2 am_cl3) (S.o (q.lv am_ag3) (S.o q.gtr (S.o q.pf (S.bd q.mv (fun c8 => ?_) (fun c8 => ?_)))))
                · first
                | (first | omega | contradiction)
                | refine S.sk (S.sk (S.sk (S.o q.pt (S.o q.mv (S.sk (S.sk (S.sk (S.o q.pt (S.end (hK _ ?_))))))))))
                  clear hK K
                  refine Ev.ct ?_
                  refine Ev.sr fun K hK => S.o q.as (S.end (hK _ ?_))
                  clear hK K
                  refine Ev.ret ?_
                  refine hR0 _ _ ?_
                  refine Ev.ret1 ?_
                  refine ⟨?_, rfl⟩
                  first
                   | exact bF (fun h => by have h1 := h.1; omega)
                   | exact bF (fun h => absurd (buns_cut hp h).1.1 ‹_›)
                   | exact bF (fun h => absurd (buns_cut hp h).1.2.1 ‹_›)
                   | exact bF (fun h => by obtain ⟨_, _, h1, h2, h3, h4⟩ := (buns_cut hp h).1; omega)
                   | exact bF (fun h => by obtain ⟨a, ha, e⟩ := tags_yes ‹_›; exact (buns_cut hp h).2 a ha e)
                   | exact bT ⟨by omega, by rw [← hp]; exact hinv⟩
                · first
                | (first | omega | contradiction)
                | refine S.o (q.fa 3 am_fi38_3 am_cl3) (S.o (q.lv am_ag3) (S.o q.lss (S.o q.pf (S.bd q.mv (fun c9 => ?_) (fun c9 => ?_)))))
                  · first
                  | (first | omega | contradiction)
                  | refine S.sk (S.sk (S.sk (S.o q.pt (S.end (hK _ ?_)))))
                    clear hK K
                    refine Ev.ct ?_
                    refine Ev.sr fun K hK => S.o q.as (S.end (hK _ ?_))
                    clear hK K
                    refine Ev.ret ?_
                    refine hR0 _ _ ?_
                    refine Ev.ret1 ?_
                    refine ⟨?_, rfl⟩
                    first
                     | exact bF (fun h => by have h1 := h.1; omega)
                     | exact bF (fun h => absurd (buns_cut hp h).1.1 ‹_›)
                     | exact bF (fun h => absurd (buns_cut hp h).1.2.1 ‹_›)
                     | exact bF (fun h => by obtain ⟨_, _, h1, h2, h3, h4⟩ := (buns_cut hp h).1; omega)
                     | exact bF (fun h => by obtain ⟨a, ha, e⟩ := tags_yes ‹_›; exact (buns_cut hp h).2 a ha e)
                     | exact bT ⟨by omega, by rw [← hp]; exact hinv⟩
                  · first
                  | (first | omega | contradiction)
                  | refine S.o (q.fa 3 am_fi38_3 am_cl3) (S.o (q.lv am_ag3) (S.o q.gtr (S.o q.pf (S.end (hK _ ?_)))))
                    clear hK K
                    refine Ev.cd (fun c10 => ?_) (fun c10 => ?_)
                    · first
                    | (first | omega | contradiction)
                    | refine Ev.sr fun K hK => S.o q.as (S.end (hK _ ?_))
                      clear hK K
                      refine Ev.ret ?_
                      refine hR0 _ _ ?_
                      refine Ev.ret1 ?_
                      refine ⟨?_, rfl⟩
                      first
                       | exact bF (fun h => by have h1 := h.1; omega)
                       | exact bF (fun h => absurd (buns_cut hp h).1.1 ‹_›)
                       | exact bF (fun h => absurd (buns_cut hp h).1.2.1 ‹_›)
                       | exact bF (fun h => by obtain ⟨_, _, h1, h2, h3, h4⟩ := (buns_cut hp h).1; omega)
                       | exact bF (fun h => by obtain ⟨a, ha, e⟩ := tags_yes ‹_›; exact (buns_cut hp h).2 a ha e)
                       | exact bT ⟨by omega, by rw [← hp]; exact hinv⟩
                    · first
                    | (first | omega | contradiction)
                    | refine Ev.skip ?_
                      show Ev _ _ _ _
                      refine Ev.region_S fun K hK => S.o q.mv (S.o (q.fa 0 am_fi38_0 am_cl9) (S.o (q.lv am_ag9) (S.mu (vv := (Value.bool)) [_] klS am_mt98 (fun _ => rfl) (hn := S.end (hK _ ?_)))))
                      clear hK K
                      show Ev _ _ _ _
                      refine Ev.region_S fun K hK => S.o q.add (S.o q.mv (S.end (hK _ ?_)))
                      clear hK K
                      refine hR0 _ _ ?_
                      refine roundU [0] [3, 10, 11] ⟨(pre ++ [s], suf), by rw [← hp]; simp, ?_⟩ ?_ (keep_c (he := (by first | rfl | (rw [tags_snoc ‹_›]))) (h := keep_n)) (slots_c (he := (by first | rfl | (congr 2; simp; done))) (h := trivial)) (.c (.c (.c .n)))
                      exact buns_snoc hinv ⟨‹_›, ‹_›, by omega, by omega, by omega, by omega⟩ (tags_no ‹_›)
                      all_goals (dsimp only; simp only [List.length_cons]; omega)
      · first | omega | contradiction | (exfalso; simp at *; done)

theorem indexFuncBun1 (g : FuncId) (c0 : List AV) (p : Bundle → Bool) (hg : ∀ s, Fun Tryd.prog g [.agg (Bundle.c s), .sadr c0 0] (Ret (.lit (.bool (p s))) [])) (l : List (Bundle)) (hlen : l.length ≤ 140737488355328) :
    Fun Tryd.prog 50 [.sh 4 (l.map Bundle.c), .fn (.func g) [] [.sadr c0 0]] (Ret (.lit (.int .i64 (idxP p l 0))) []) := by
  refine Fun.of (nt := 19) (rs := [.tmp 4]) Tryd.func50 rfl rfl rfl rfl rfl ?_
  refine Ev.sr fun K hK => S.o q.as (S.end (hK _ ?_))
  clear hK K
  refine Ev.seq ?_
  refine Ev.sr fun K hK => S.o q.mv (S.o (q.lens am_el31) (S.o q.mv (S.end (hK _ ?_))))
  clear hK K
  refine Ev.block ?_
  refine Ev.loopU (ι := {q : List (Bundle) × List (Bundle) // q.1 ++ q.2 = l ∧ ∀ x ∈ q.1, p x = false}) [] [0, 1, 7] (fun ⟨(pre, suf), _⟩ => [(8, .lit (.int .i64 ((pre.length : Int))))]) (fun ⟨(pre, suf), _⟩ => []) (fun ⟨(pre, suf), _⟩ => suf.length) ⟨([], l), rfl, fun x hx => by simp at hx⟩ (.c (.c (.c .n))) keep_n (slots_c (he := (by first | rfl | (simp; done) | (congr 2; omega))) (h := trivial)) ?_
  rintro ⟨⟨pre, suf⟩, hp, hinv⟩ R0 hR0
  dsimp only [List.cons_append, List.nil_append, List.length_cons, List.length_nil]
  simp only at hp hinv
  have hpl : pre.length + suf.length = (l).length := by rw [← hp, List.length_append]
  rcases suf with _ | ⟨s, suf⟩
  · rw [List.append_nil] at hp; subst hp; simp only [List.length_nil] at hpl
    refine Ev.sr fun K hK => S.o q.lss (S.end (hK _ ?_))
    clear hK K
    refine Ev.ud (fun c1 => ?_) (fun c1 => ?_)
    · first
    | (first | omega | contradiction)
    | refine Ev.seq ?_
      refine Ev.block ?_
      refine Ev.sr fun K hK => S.o q.mv (S.o q.as (S.end (hK _ ?_)))
      clear hK K
      refine Ev.sr fun K hK => S.o q.mv (S.o q.mv (S.o q.mv (S.o (q.ix am_el31 am_cl38 (hl := (by first | exact atig (by omega)))) (S.o (q.lsA [_, _, _, _] am_ag38 am_cl38) (S.c0 (hF := hg s) (h := S.end (hK _ ?_)))))))
      clear hK K
      refine Ev.c (fun c2 => ?_) (fun c2 => ?_)
      · first
      | (first | omega | contradiction)
      | refine Ev.sr fun K hK => S.o q.mv (S.o q.as (S.end (hK _ ?_)))
        clear hK K
        refine Ev.ret ?_
        refine hR0 _ _ ?_
        refine Ev.ret1 ?_
        refine ⟨?_, rfl⟩
        first | (congr 2; rw [← hp, idxP_append p pre _ 0 hinv, idxP, if_pos ‹_›]; omega) | (congr 2; rw [idxP_none p pre 0 hinv])
      · first
      | (first | omega | contradiction)
      | refine Ev.skip ?_
        show Ev _ _ _ _
        refine Ev.region_S fun K hK => S.o q.add (S.o q.mv (S.end (hK _ ?_)))
        clear hK K
        refine hR0 _ _ ?_
        refine roundU [] [0, 1, 7] ⟨(pre ++ [s], suf), by rw [← hp]; simp, ?_⟩ ?_ keep_n (slots_c (he := (by first | rfl | (simp; done) | (congr 2; omega))) (h := trivial)) (.c (.c (.c .n)))
        intro x hx; simp only [List.mem_append, List.mem_singleton] at hx; rcases hx with hx | rfl
        · exact hinv x hx
        · assumption
        all_goals (dsimp only; simp only [List.length_cons]; omega)
    · first
    | (first | omega | contradiction)
    | refine Ev.exit ?_
      refine hR0 _ _ ?_
      show Ev _ _ _ _
      refine Ev.sr fun K hK => S.o q.as (S.end (hK _ ?_))
      clear hK K
      refine Ev.ret ?_
      refine Ev.ret1 ?_
      refine ⟨?_, rfl⟩
      first | (congr 2; rw [← hp, idxP_append p pre _ 0 hinv, idxP, if_pos ‹_›]; omega) | (congr 2; rw [idxP_none p pre 0 hinv])
  · simp only [List.length_cons] at hpl
    have hidx : (l)[pre.length]? = some s := by rw [← hp]; simp
    refine Ev.sr fun K hK => S.o q.lss (S.end (hK _ ?_))
    clear hK K
    refine Ev.ud (fun c3 => ?_) (fun c3 => ?_)
    · first
    | (first | omega | contradiction)
    | refine Ev.seq ?_
      refine Ev.block ?_
      refine Ev.sr fun K hK => S.o q.mv (S.o q.as (S.end (hK _ ?_)))
      clear hK K
      refine Ev.sr fun K hK => S.o q.mv (S.o q.mv (S.o q.mv (S.o (q.ix am_el31 am_cl38 (hl := (by first | exact ati hidx (by omega) | exact atig (by omega)))) (S.o (q.lsA [_, _, _, _] am_ag38 am_cl38) (S.c0 (hF := hg s) (h := S.end (hK _ ?_)))))))
      clear hK K
      refine Ev.c (fun c4 => ?_) (fun c4 => ?_)
      · first
      | (first | omega | contradiction)
      | refine Ev.sr fun K hK => S.o q.mv (S.o q.as (S.end (hK _ ?_)))
        clear hK K
        refine Ev.ret ?_
        refine hR0 _ _ ?_
        refine Ev.ret1 ?_
        refine ⟨?_, rfl⟩
        first | (congr 2; rw [← hp, idxP_append p pre _ 0 hinv, idxP, if_pos ‹_›]; omega) | (congr 2; rw [idxP_none p pre 0 hinv])
      · first
      | (first | omega | contradiction)
      | refine Ev.skip ?_
        show Ev _ _ _ _
        refine Ev.region_S fun K hK => S.o q.add (S.o q.mv (S.end (hK _ ?_)))
        clear hK K
        refine hR0 _ _ ?_
        refine roundU [] [0, 1, 7] ⟨(pre ++ [s], suf), by rw [← hp]; simp, ?_⟩ ?_ keep_n (slots_c (he := (by first | rfl | (simp; done) | (congr 2; omega))) (h := trivial)) (.c (.c (.c .n)))
        intro x hx; simp only [List.mem_append, List.mem_singleton] at hx; rcases hx with hx | rfl
        · exact hinv x hx
        · assumption
        all_goals (dsimp only; simp only [List.length_cons]; omega)
    · first
    | (first | omega | contradiction)
    | refine Ev.exit ?_
      refine hR0 _ _ ?_
      show Ev _ _ _ _
      refine Ev.sr fun K hK => S.o q.as (S.end (hK _ ?_))
      clear hK K
      refine Ev.ret ?_
      refine Ev.ret1 ?_
      refine ⟨?_, rfl⟩
      first | (congr 2; rw [← hp, idxP_append p pre _ 0 hinv, idxP, if_pos ‹_›]; omega) | (congr 2; rw [idxP_none p pre 0 hinv])



theorem f1_lt {l : List Bundle} {b : Bar} (h : barsOf l b.mark < b.count) : find1 l b = [(1, b.mark)] := if_pos h
theorem f1_gt {l : List Bundle} {b : Bar} (h : b.count < barsOf l b.mark) : find1 l b = [(2, b.mark)] := by rw [find1, if_neg (by omega), if_pos h]
theorem f1_eq {l : List Bundle} {b : Bar} (h1 : ¬ barsOf l b.mark < b.count) (h2 : ¬ b.count < barsOf l b.mark) : find1 l b = [] := by rw [find1, if_neg h1, if_neg h2]
theorem f2_no {bs : List Bar} {x : Bundle} (h : (!(mget (masM bs) x.mark).isSome) = true) : find2 bs x = [(3, x.tag)] := by
  unfold find2
  cases hm : mget (masM bs) x.mark with
  | none => rfl
  | some v => rw [hm] at h; simp at h
theorem f2_ne {bs : List Bar} {x : Bundle} (h : (!(mget (masM bs) x.mark).isSome) = false) (h2 : ¬ x.mass = x.count * (mget (masM bs) x.mark).getD 0) : find2 bs x = [(4, x.tag)] := by
  unfold find2
  cases hm : mget (masM bs) x.mark with
  | none => rw [hm] at h; simp at h
  | some v => rw [hm] at h2; exact if_neg h2
theorem f2_eq {bs : List Bar} {x : Bundle} (h : (!(mget (masM bs) x.mark).isSome) = false) (h2 : x.mass = x.count * (mget (masM bs) x.mark).getD 0) : find2 bs x = [] := by
  unfold find2
  cases hm : mget (masM bs) x.mark with
  | none => rw [hm] at h; simp at h
  | some v => rw [hm] at h2; exact if_pos h2
theorem mas_bd {bs : List Bar} (h : okSched bs) (k : List UInt8) : 0 ≤ (mget (masM bs) k).getD 0 ∧ (mget (masM bs) k).getD 0 ≤ 10343154 := by
  rcases masM_get h k with ⟨_, e⟩ | ⟨_, b, _, hb, _, e⟩
  · rw [e]; decide
  · rw [e]
    obtain ⟨h1, h2⟩ := one_bd (h.2.1 b hb)
    exact ⟨by show 0 ≤ oneOf b; omega, h2⟩
theorem chk_bad {bs : List Bar} {l : List Bundle} (h : ¬ (okSched bs ∧ okBuns l)) : chkV bs l = [] ∧ chkE bs l = 1 := ⟨if_neg h, if_neg h⟩
theorem chk_ok {bs : List Bar} {l : List Bundle} (h : okSched bs ∧ okBuns l) : chkV bs l = fnd1 l bs ++ fnd2 bs l ∧ chkE bs l = 0 := ⟨if_pos h, if_pos h⟩
theorem bcheck_fun (bs : List Bar) (l : List Bundle) (hb : bs.length ≤ 140737488355328) (hlen : l.length ≤ 140737488355328) (hwb : schedW bs) (hw : bunW l) : Fun Tryd.prog 20 [.sh 5 (bs.map Bar.c), .sh 4 (l.map Bundle.c)] (Ret (.tup [.sh 2 ((chkV bs l).map findC), .lit (.int .i64 (chkE bs l))]) []) := by
  refine Fun.of (nt := 127) (rs := [.tmp 4, .tmp 5]) Tryd.func20 rfl rfl rfl rfl rfl ?_
  refine Ev.sr fun K hK => S.o q.as (S.o q.as (S.end (hK _ ?_)))
  clear hK K
  refine Ev.seq ?_
  refine Ev.sr fun K hK => S.o q.mv (S.c0 (hF := schedValid_fun _ (by omega) (by assumption)) (h := S.o q.not (S.bn q.mv (fun c1 => ?_) (fun c1 => ?_))))
  · first
  | (first | omega | contradiction)
  | refine S.sk (S.sk (S.sk (S.o q.pt (S.end (hK _ ?_)))))
    clear hK K
    refine Ev.ct ?_
    refine Ev.sr fun K hK => S.o q.as (S.o q.as (S.end (hK _ ?_)))
    clear hK K
    refine Ev.weaken (Wk.nsh findC 4 2) ?_
    refine Ev.ret ?_
    refine Ev.ret2 ?_
    refine ⟨?_, rfl⟩
    first
     | (rw [(chk_bad (fun h => absurd h.1 ‹¬ okSched bs›)).1, (chk_bad (fun h => absurd h.1 ‹¬ okSched bs›)).2]; done)
     | (rw [(chk_bad (fun h => absurd h.2 ‹¬ okBuns l›)).1, (chk_bad (fun h => absurd h.2 ‹¬ okBuns l›)).2]; done)
     | (rw [(chk_ok ⟨hS, hB⟩).1, (chk_ok ⟨hS, hB⟩).2]; done)
  · first
  | (first | omega | contradiction)
  | refine S.o q.mv (S.c0 (hF := bvalid_fun _ (by omega) (by assumption)) (h := S.o q.not (S.o q.pf (S.end (hK _ ?_)))))
    clear hK K
    refine Ev.cn (fun c2 => ?_) (fun c2 => ?_)
    · first
    | (first | omega | contradiction)
    | refine Ev.sr fun K hK => S.o q.as (S.o q.as (S.end (hK _ ?_)))
      clear hK K
      refine Ev.weaken (Wk.nsh findC 4 2) ?_
      refine Ev.ret ?_
      refine Ev.ret2 ?_
      refine ⟨?_, rfl⟩
      first
       | (rw [(chk_bad (fun h => absurd h.1 ‹¬ okSched bs›)).1, (chk_bad (fun h => absurd h.1 ‹¬ okSched bs›)).2]; done)
       | (rw [(chk_bad (fun h => absurd h.2 ‹¬ okBuns l›)).1, (chk_bad (fun h => absurd h.2 ‹¬ okBuns l›)).2]; done)
       | (rw [(chk_ok ⟨hS, hB⟩).1, (chk_ok ⟨hS, hB⟩).2]; done)
    · first
    | (first | omega | contradiction)
    | refine Ev.skip ?_
      show Ev _ _ _ _
      have hS : okSched bs := ‹_›
      have hB : okBuns l := ‹_›
      have hsl := hS.1
      have hbl := hB.1
      refine Ev.sr fun K hK => S.nn (v := .hd 0) (o := ⟨true, 94, 3, ([] : List (List UInt8 × Int)).map (rowK (str) (Value.int .i64)), true⟩) (q.mm am_mt94) (S.nn (v := .hd 1) (o := ⟨true, 94, 3, ([] : List (List UInt8 × Int)).map (rowK (str) (Value.int .i64)), true⟩) (q.mm am_mt94) (S.o q.as (S.o q.as (S.end (hK _ ?_)))))
      clear hK K
      refine Ev.seq ?_
      refine Ev.sr fun K hK => S.o q.mv (S.o (q.lens am_el23) (S.o q.mv (S.end (hK _ ?_))))
      clear hK K
      refine Ev.block ?_
      refine Ev.loopU (ι := {p : List (Bar) × List (Bar) // p.1 ++ p.2 = bs ∧ True}) [0, 1] [0, 1, 4, 5, 6, 7, 30, 31] (fun ⟨(pre, suf), _⟩ => [(32, .lit (.int .i64 ((pre.length : Int))))]) (fun ⟨(pre, suf), _⟩ => [(0, ⟨true, 94, 3, (([] : List (List UInt8 × Int))).map (rowK (str) (Value.int .i64)), true⟩), (1, ⟨true, 94, 3, (masM pre).map (rowK (str) (Value.int .i64)), true⟩)]) (fun ⟨(pre, suf), _⟩ => suf.length) ⟨([], bs), rfl, trivial⟩ (.c (.c (.c (.c (.c (.c (.c (.c .n)))))))) (keep_c (he := (by rfl)) (h := (keep_c (he := (by first | rfl | (rw [masM_snoc hp hS]; done))) (h := keep_n)))) (slots_c (he := (by first | rfl | (congr 2; simp; done))) (h := trivial)) ?_
      rintro ⟨⟨pre, suf⟩, hp, hinv⟩ R0 hR0
      dsimp only [List.cons_append, List.nil_append, List.length_cons, List.length_nil]
      simp only at hp hinv
      have hpl : pre.length + suf.length = (bs).length := by rw [← hp, List.length_append]
      rcases suf with _ | ⟨s, suf⟩
      · rw [List.append_nil] at hp; subst pre; simp only [List.length_nil] at hpl
        refine Ev.sr fun K hK => S.o q.lss (S.end (hK _ ?_))
        clear hK K
        refine Ev.ud (fun c3 => ?_) (fun c3 => ?_)
        · first | omega | contradiction | (exfalso; simp at *; done)
        · first
        | (first | omega | contradiction)
        | refine Ev.exit ?_
          refine hR0 _ _ ?_
          show Ev _ _ _ _
          refine Ev.seq ?_
          refine Ev.sr fun K hK => S.o q.mv (S.o (q.lens am_el31) (S.o q.mv (S.end (hK _ ?_))))
          clear hK K
          refine Ev.block ?_
          refine Ev.loopU (ι := {p : List (Bundle) × List (Bundle) // p.1 ++ p.2 = l ∧ True}) [0, 1] [0, 1, 4, 5, 6, 7, 30, 31, 32, 33, 42, 43] (fun ⟨(pre, suf), _⟩ => [(44, .lit (.int .i64 ((pre.length : Int))))]) (fun ⟨(pre, suf), _⟩ => [(0, ⟨true, 94, 3, (cntM pre).map (rowK (str) (Value.int .i64)), true⟩), (1, ⟨true, 94, 3, (masM bs).map (rowK (str) (Value.int .i64)), true⟩)]) (fun ⟨(pre, suf), _⟩ => suf.length) ⟨([], l), rfl, trivial⟩ (.c (.c (.c (.c (.c (.c (.c (.c (.c (.c (.c (.c .n)))))))))))) (keep_c (he := (by first | rfl | (rw [cntM_snoc]; done))) (h := (keep_c (he := (by rfl)) (h := keep_n)))) (slots_c (he := (by first | rfl | (congr 2; simp; done))) (h := trivial)) ?_
          rintro ⟨⟨pre, suf⟩, hp, hinv⟩ R2 hR2
          dsimp only [List.cons_append, List.nil_append, List.length_cons, List.length_nil]
          simp only at hp hinv
          have hpl : pre.length + suf.length = (l).length := by rw [← hp, List.length_append]
          rcases suf with _ | ⟨s, suf⟩
          · rw [List.append_nil] at hp; subst pre; simp only [List.length_nil] at hpl
            refine Ev.sr fun K hK => S.o q.lss (S.end (hK _ ?_))
            clear hK K
            refine Ev.ud (fun c4 => ?_) (fun c4 => ?_)
            · first | omega | contradiction | (exfalso; simp at *; done)
            · first
            | (first | omega | contradiction)
            | refine Ev.exit ?_
              refine hR2 _ _ ?_
              show Ev _ _ _ _
              refine Ev.sr fun K hK => S.o q.as (S.end (hK _ ?_))
              clear hK K
              refine Ev.seq ?_
              refine Ev.sr fun K hK => S.o q.mv (S.o (q.lens am_el23) (S.o q.mv (S.end (hK _ ?_))))
              clear hK K
              refine Ev.block ?_
              refine Ev.weaken (Wk.nown findC 12 96 2) ?_
              refine Ev.loopU (ι := {p : List (Bar) × List (Bar) // p.1 ++ p.2 = bs ∧ True}) [0, 1, 2] [0, 1, 4, 5, 6, 7, 30, 31, 32, 33, 42, 43, 44, 45, 56, 57] (fun ⟨(pre, suf), _⟩ => [(58, .lit (.int .i64 ((pre.length : Int)))), (12, .als 2 0 (fnd1 l pre).length)]) (fun ⟨(pre, suf), _⟩ => [(0, ⟨true, 94, 3, (cntM l).map (rowK (str) (Value.int .i64)), true⟩), (1, ⟨true, 94, 3, (masM bs).map (rowK (str) (Value.int .i64)), true⟩), (2, ⟨true, 96, 2, (fnd1 l pre).map findC, true⟩)]) (fun ⟨(pre, suf), _⟩ => suf.length) ⟨([], bs), rfl, trivial⟩ (.c (.c (.c (.c (.c (.c (.c (.c (.c (.c (.c (.c (.c (.c (.c (.c .n)))))))))))))))) (keep_c (he := (by rfl)) (h := (keep_c (he := (by rfl)) (h := (keep_c (he := (by first | rfl | (rw [fnd1_snoc, f1_lt (by omega)]; done) | (rw [fnd1_snoc, f1_gt (by omega)]; done) | (rw [fnd1_snoc, f1_eq (by omega) (by omega), List.append_nil]; done))) (h := keep_n)))))) (slots_c (he := (by first | rfl | (congr 2; simp; done))) (h := (slots_c (he := (by first | rfl | (refine congrArg (AV.als _ 0) ?_; first | rfl | (rw [fnd1_snoc, f1_lt (by omega)]; done) | (rw [fnd1_snoc, f1_gt (by omega)]; done) | (rw [fnd1_snoc, f1_eq (by omega) (by omega), List.append_nil]; done)))) (h := trivial)))) ?_
              rintro ⟨⟨pre, suf⟩, hp, hinv⟩ R4 hR4
              dsimp only [List.cons_append, List.nil_append, List.length_cons, List.length_nil]
              simp only at hp hinv
              have hpl : pre.length + suf.length = (bs).length := by rw [← hp, List.length_append]
              rcases suf with _ | ⟨s, suf⟩
              · rw [List.append_nil] at hp; subst pre; simp only [List.length_nil] at hpl
                refine Ev.sr fun K hK => S.o q.lss (S.end (hK _ ?_))
                clear hK K
                refine Ev.ud (fun c5 => ?_) (fun c5 => ?_)
                · first | omega | contradiction | (exfalso; simp at *; done)
                · first
                | (first | omega | contradiction)
                | refine Ev.exit ?_
                  refine hR4 _ _ ?_
                  show Ev _ _ _ _
                  refine Ev.seq ?_
                  refine Ev.sr fun K hK => S.o q.mv (S.o (q.lens am_el31) (S.o q.mv (S.end (hK _ ?_))))
                  clear hK K
                  refine Ev.block ?_
                  refine Ev.loopU (ι := {p : List (Bundle) × List (Bundle) // p.1 ++ p.2 = l ∧ True}) [0, 1, 2] [0, 1, 4, 5, 6, 7, 30, 31, 32, 33, 42, 43, 44, 45, 56, 57, 58, 59, 89, 90] (fun ⟨(pre, suf), _⟩ => [(91, .lit (.int .i64 ((pre.length : Int)))), (12, .als 2 0 (fnd1 l bs ++ fnd2 bs pre).length)]) (fun ⟨(pre, suf), _⟩ => [(0, ⟨true, 94, 3, (cntM l).map (rowK (str) (Value.int .i64)), true⟩), (1, ⟨true, 94, 3, (masM bs).map (rowK (str) (Value.int .i64)), true⟩), (2, ⟨true, 96, 2, (fnd1 l bs ++ fnd2 bs pre).map findC, true⟩)]) (fun ⟨(pre, suf), _⟩ => suf.length) ⟨([], l), rfl, trivial⟩ (.c (.c (.c (.c (.c (.c (.c (.c (.c (.c (.c (.c (.c (.c (.c (.c (.c (.c (.c (.c .n)))))))))))))))))))) (keep_c (he := (by rfl)) (h := (keep_c (he := (by rfl)) (h := (keep_c (he := (by first | rfl | (simp [fnd2]; done) | (rw [fnd2_snoc, f2_no ‹_›, ← List.append_assoc]; done) | (rw [fnd2_snoc, f2_ne ‹_› (by omega), ← List.append_assoc]; done) | (rw [fnd2_snoc, f2_eq ‹_› (by omega), List.append_nil]; done))) (h := keep_n)))))) (slots_c (he := (by first | rfl | (congr 2; simp; done))) (h := (slots_c (he := (by first | rfl | (refine congrArg (AV.als _ 0) ?_; first | (simp [fnd2]; done) | (rw [fnd2_snoc, f2_no ‹_›, ← List.append_assoc]; done) | (rw [fnd2_snoc, f2_ne ‹_› (by omega), ← List.append_assoc]; done) | (rw [fnd2_snoc, f2_eq ‹_› (by omega), List.append_nil]; done)))) (h := trivial)))) ?_
                  rintro ⟨⟨pre, suf⟩, hp, hinv⟩ R7 hR7
                  dsimp only [List.cons_append, List.nil_append, List.length_cons, List.length_nil]
                  simp only at hp hinv
                  have hpl : pre.length + suf.length = (l).length := by rw [← hp, List.length_append]
                  rcases suf with _ | ⟨s, suf⟩
                  · rw [List.append_nil] at hp; subst pre; simp only [List.length_nil] at hpl
                    refine Ev.sr fun K hK => S.o q.lss (S.end (hK _ ?_))
                    clear hK K
                    refine Ev.ud (fun c6 => ?_) (fun c6 => ?_)
                    · first | omega | contradiction | (exfalso; simp at *; done)
                    · first
                    | (first | omega | contradiction)
                    | refine Ev.exit ?_
                      refine hR7 _ _ ?_
                      show Ev _ _ _ _
                      refine Ev.sr fun K hK => S.o q.mv (S.o q.as (S.o q.as (S.end (hK _ ?_))))
                      clear hK K
                      refine Ev.weaken (Wk.frz 4 [_, _]) ?_
                      refine Ev.ret ?_
                      refine Ev.ret2 ?_
                      refine ⟨?_, rfl⟩
                      first
                       | (rw [(chk_bad (fun h => absurd h.1 ‹¬ okSched bs›)).1, (chk_bad (fun h => absurd h.1 ‹¬ okSched bs›)).2]; done)
                       | (rw [(chk_bad (fun h => absurd h.2 ‹¬ okBuns l›)).1, (chk_bad (fun h => absurd h.2 ‹¬ okBuns l›)).2]; done)
                       | (rw [(chk_ok ⟨hS, hB⟩).1, (chk_ok ⟨hS, hB⟩).2]; done)
                  · simp only [List.length_cons] at hpl
                    have hidx : (l)[pre.length]? = some s := by rw [← hp]; simp
                    have hsok : okBun s := hB.2.1 s (by rw [← hp]; simp)
                    obtain ⟨_, _, hs1, hs2, hs3, hs4⟩ := hsok
                    have hmb := mas_bd hS s.mark
                    obtain ⟨hq1, hq2⟩ := mul_bd (k := s.count) (K := 1000) (by omega) hs2 hmb.1 hmb.2
                    have hfl := fnd1_len l bs
                    have hfm := fnd2_len bs pre
                    have hfa : (fnd1 l bs ++ fnd2 bs pre).length ≤ 2000 := by rw [List.length_append]; omega
                    refine Ev.sr fun K hK => S.o q.lss (S.end (hK _ ?_))
                    clear hK K
                    refine Ev.ud (fun c7 => ?_) (fun c7 => ?_)
                    · first
                    | (first | omega | contradiction)
                    | refine Ev.seq ?_
                      refine Ev.block ?_
                      refine Ev.sr fun K hK => S.o (q.ix am_el31 am_cl38 (hl := (by first | exact ati hidx (by omega) | exact atig (by omega)))) (S.o (q.lsA [_, _, _, _] am_ag38 am_cl38) (S.nn (q.al am_ze38) (S.sv [_, _, _, _] true [_, _, _] am_in38 am_cl38 (h := S.end (hK _ ?_)))))
                      clear hK K
                      refine Ev.sr fun K hK => S.o q.mv (S.o (q.fa 1 am_fi38_1 am_cl9) (S.o (q.lv am_ag9) (S.o (q.lkt (vv := (Value.int .i64)) klS am_mt94) (S.o q.mv (S.o q.ex (S.o q.ex (S.o q.as (S.o q.as (S.end (hK _ ?_))))))))))
                      clear hK K
                      refine Ev.block ?_
                      refine Ev.sr fun K hK => S.o q.mv (S.o q.not (S.o q.as (S.end (hK _ ?_))))
                      clear hK K
                      refine Ev.c (fun c8 => ?_) (fun c8 => ?_)
                      · first
                      | (first | omega | contradiction)
                      | refine Ev.region_S fun K hK => S.o q.mv (S.o (q.fa 0 am_fi38_0 am_cl9) (S.o (q.lv am_ag9) (S.o (q.bd [_, _] am_ze96 am_pl96) (S.nn (q.bs [[_, _]] true am_el50 am_ze96 am_cl96) (S.ap' [_, _, _, _] am_el50 am_ze96 am_cl96 am_by96 (hh := head_own') (hr := (rows_lit [(⟨_, _⟩ : Int × List UInt8)])) (h := S.o q.as (S.end (hK _ ?_))))))))
                        clear hK K
                        show Ev _ _ _ _
                        refine Ev.region_S fun K hK => S.o q.add (S.o q.mv (S.end (hK _ ?_)))
                        clear hK K
                        refine hR7 _ _ ?_
                        refine roundU [0, 1, 5] [0, 1, 4, 5, 6, 7, 30, 31, 32, 33, 42, 43, 44, 45, 56, 57, 58, 59, 89, 90] ⟨(pre ++ [s], suf), by rw [← hp]; simp, ?_⟩ ?_ (keep_c (he := (by rfl)) (h := (keep_c (he := (by rfl)) (h := (keep_c (he := (by first | rfl | (simp [fnd2]; done) | (rw [fnd2_snoc, f2_no ‹_›, ← List.append_assoc]; done) | (rw [fnd2_snoc, f2_ne ‹_› (by omega), ← List.append_assoc]; done) | (rw [fnd2_snoc, f2_eq ‹_› (by omega), List.append_nil]; done))) (h := keep_n)))))) (slots_c (he := (by first | rfl | (congr 2; simp; done))) (h := (slots_c (he := (by first | rfl | (refine congrArg (AV.als _ 0) ?_; first | (simp [fnd2]; done) | (rw [fnd2_snoc, f2_no ‹_›, ← List.append_assoc]; done) | (rw [fnd2_snoc, f2_ne ‹_› (by omega), ← List.append_assoc]; done) | (rw [fnd2_snoc, f2_eq ‹_› (by omega), List.append_nil]; done)))) (h := trivial)))) (.c (.c (.c (.c (.c (.c (.c (.c (.c (.c (.c (.c (.c (.c (.c (.c (.c (.c (.c (.c .n))))))))))))))))))))
                        trivial
                        all_goals (dsimp only; simp only [List.length_cons]; omega)
                      · first
                      | (first | omega | contradiction)
                      | refine Ev.sr fun K hK => S.o (q.fa 3 am_fi38_3 am_cl3) (S.o (q.lv am_ag3) (S.o (q.fa 2 am_fi38_2 am_cl3) (S.o (q.lv am_ag3) (S.o q.mv (S.o (q.mul (h1 := by omega) (h2 := by omega)) (S.o q.neq (S.o q.as (S.end (hK _ ?_)))))))))
                        clear hK K
                        refine Ev.cn (fun c9 => ?_) (fun c9 => ?_)
                        · first
                        | (first | omega | contradiction)
                        | refine Ev.region_S fun K hK => S.o q.mv (S.o (q.fa 0 am_fi38_0 am_cl9) (S.o (q.lv am_ag9) (S.o (q.bd [_, _] am_ze96 am_pl96) (S.nn (q.bs [[_, _]] true am_el50 am_ze96 am_cl96) (S.ap' [_, _, _, _] am_el50 am_ze96 am_cl96 am_by96 (hh := head_own') (hr := (rows_lit [(⟨_, _⟩ : Int × List UInt8)])) (h := S.o q.as (S.end (hK _ ?_))))))))
                          clear hK K
                          show Ev _ _ _ _
                          refine Ev.region_S fun K hK => S.o q.add (S.o q.mv (S.end (hK _ ?_)))
                          clear hK K
                          refine hR7 _ _ ?_
                          refine roundU [0, 1, 5] [0, 1, 4, 5, 6, 7, 30, 31, 32, 33, 42, 43, 44, 45, 56, 57, 58, 59, 89, 90] ⟨(pre ++ [s], suf), by rw [← hp]; simp, ?_⟩ ?_ (keep_c (he := (by rfl)) (h := (keep_c (he := (by rfl)) (h := (keep_c (he := (by first | rfl | (simp [fnd2]; done) | (rw [fnd2_snoc, f2_no ‹_›, ← List.append_assoc]; done) | (rw [fnd2_snoc, f2_ne ‹_› (by omega), ← List.append_assoc]; done) | (rw [fnd2_snoc, f2_eq ‹_› (by omega), List.append_nil]; done))) (h := keep_n)))))) (slots_c (he := (by first | rfl | (congr 2; simp; done))) (h := (slots_c (he := (by first | rfl | (refine congrArg (AV.als _ 0) ?_; first | (simp [fnd2]; done) | (rw [fnd2_snoc, f2_no ‹_›, ← List.append_assoc]; done) | (rw [fnd2_snoc, f2_ne ‹_› (by omega), ← List.append_assoc]; done) | (rw [fnd2_snoc, f2_eq ‹_› (by omega), List.append_nil]; done)))) (h := trivial)))) (.c (.c (.c (.c (.c (.c (.c (.c (.c (.c (.c (.c (.c (.c (.c (.c (.c (.c (.c (.c .n))))))))))))))))))))
                          trivial
                          all_goals (dsimp only; simp only [List.length_cons]; omega)
                        · first
                        | (first | omega | contradiction)
                        | refine Ev.skip ?_
                          show Ev _ _ _ _
                          refine Ev.region_S fun K hK => S.o q.add (S.o q.mv (S.end (hK _ ?_)))
                          clear hK K
                          refine hR7 _ _ ?_
                          refine roundU [0, 1, 2] [0, 1, 4, 5, 6, 7, 30, 31, 32, 33, 42, 43, 44, 45, 56, 57, 58, 59, 89, 90] ⟨(pre ++ [s], suf), by rw [← hp]; simp, ?_⟩ ?_ (keep_c (he := (by rfl)) (h := (keep_c (he := (by rfl)) (h := (keep_c (he := (by first | rfl | (simp [fnd2]; done) | (rw [fnd2_snoc, f2_no ‹_›, ← List.append_assoc]; done) | (rw [fnd2_snoc, f2_ne ‹_› (by omega), ← List.append_assoc]; done) | (rw [fnd2_snoc, f2_eq ‹_› (by omega), List.append_nil]; done))) (h := keep_n)))))) (slots_c (he := (by first | rfl | (congr 2; simp; done))) (h := (slots_c (he := (by first | rfl | (refine congrArg (AV.als _ 0) ?_; first | (simp [fnd2]; done) | (rw [fnd2_snoc, f2_no ‹_›, ← List.append_assoc]; done) | (rw [fnd2_snoc, f2_ne ‹_› (by omega), ← List.append_assoc]; done) | (rw [fnd2_snoc, f2_eq ‹_› (by omega), List.append_nil]; done)))) (h := trivial)))) (.c (.c (.c (.c (.c (.c (.c (.c (.c (.c (.c (.c (.c (.c (.c (.c (.c (.c (.c (.c .n))))))))))))))))))))
                          trivial
                          all_goals (dsimp only; simp only [List.length_cons]; omega)
                    · first | omega | contradiction | (exfalso; simp at *; done)
              · simp only [List.length_cons] at hpl
                have hidx : (bs)[pre.length]? = some s := by rw [← hp]; simp
                have hsok : okBar s := hS.2.1 s (by rw [← hp]; simp)
                have hgt := cntM_get l s.mark
                have hfl := fnd1_len l pre
                refine Ev.sr fun K hK => S.o q.lss (S.end (hK _ ?_))
                clear hK K
                refine Ev.ud (fun c10 => ?_) (fun c10 => ?_)
                · first
                | (first | omega | contradiction)
                | refine Ev.seq ?_
                  refine Ev.block ?_
                  refine Ev.sr fun K hK => S.o (q.ix am_el23 am_cl67 (hl := (by first | exact ati hidx (by omega) | exact atig (by omega)))) (S.o (q.lsA [_, _, _, _, _] am_ag67 am_cl67) (S.nn (q.al am_ze67) (S.sv [_, _, _, _, _] true [_, _, _] am_in67 am_cl67 (h := S.end (hK _ ?_)))))
                  clear hK K
                  refine Ev.sr fun K hK => S.o q.mv (S.o (q.fa 0 am_fi67_0 am_cl9) (S.o (q.lv am_ag9) (S.o (q.lk (vv := (Value.int .i64)) klS am_mt94) (S.o q.as (S.end (hK _ ?_))))))
                  clear hK K
                  refine Ev.block ?_
                  refine Ev.sr fun K hK => S.o q.mv (S.o (q.fa 2 am_fi67_2 am_cl3) (S.o (q.lv am_ag3) (S.o q.lss (S.o q.as (S.end (hK _ ?_))))))
                  clear hK K
                  refine Ev.cd (fun c11 => ?_) (fun c11 => ?_)
                  · first
                  | (first | omega | contradiction)
                  | refine Ev.region_S fun K hK => S.o q.mv (S.o (q.fa 0 am_fi67_0 am_cl9) (S.o (q.lv am_ag9) (S.o (q.bd [_, _] am_ze96 am_pl96) (S.nn (q.bs [[_, _]] true am_el50 am_ze96 am_cl96) (S.ap' [_, _, _, _] am_el50 am_ze96 am_cl96 am_by96 (hh := head_own') (hr := (rows_lit [(⟨_, _⟩ : Int × List UInt8)])) (h := S.o q.as (S.end (hK _ ?_))))))))
                    clear hK K
                    show Ev _ _ _ _
                    refine Ev.region_S fun K hK => S.o q.add (S.o q.mv (S.end (hK _ ?_)))
                    clear hK K
                    refine hR4 _ _ ?_
                    refine roundU [0, 1, 5] [0, 1, 4, 5, 6, 7, 30, 31, 32, 33, 42, 43, 44, 45, 56, 57] ⟨(pre ++ [s], suf), by rw [← hp]; simp, ?_⟩ ?_ (keep_c (he := (by rfl)) (h := (keep_c (he := (by rfl)) (h := (keep_c (he := (by first | rfl | (rw [fnd1_snoc, f1_lt (by omega)]; done) | (rw [fnd1_snoc, f1_gt (by omega)]; done) | (rw [fnd1_snoc, f1_eq (by omega) (by omega), List.append_nil]; done))) (h := keep_n)))))) (slots_c (he := (by first | rfl | (congr 2; simp; done))) (h := (slots_c (he := (by first | rfl | (refine congrArg (AV.als _ 0) ?_; first | rfl | (rw [fnd1_snoc, f1_lt (by omega)]; done) | (rw [fnd1_snoc, f1_gt (by omega)]; done) | (rw [fnd1_snoc, f1_eq (by omega) (by omega), List.append_nil]; done)))) (h := trivial)))) (.c (.c (.c (.c (.c (.c (.c (.c (.c (.c (.c (.c (.c (.c (.c (.c .n))))))))))))))))
                    trivial
                    all_goals (dsimp only; simp only [List.length_cons]; omega)
                  · first
                  | (first | omega | contradiction)
                  | refine Ev.sr fun K hK => S.o q.mv (S.o (q.fa 2 am_fi67_2 am_cl3) (S.o (q.lv am_ag3) (S.o q.gtr (S.o q.as (S.end (hK _ ?_))))))
                    clear hK K
                    refine Ev.cd (fun c12 => ?_) (fun c12 => ?_)
                    · first
                    | (first | omega | contradiction)
                    | refine Ev.region_S fun K hK => S.o q.mv (S.o (q.fa 0 am_fi67_0 am_cl9) (S.o (q.lv am_ag9) (S.o (q.bd [_, _] am_ze96 am_pl96) (S.nn (q.bs [[_, _]] true am_el50 am_ze96 am_cl96) (S.ap' [_, _, _, _] am_el50 am_ze96 am_cl96 am_by96 (hh := head_own') (hr := (rows_lit [(⟨_, _⟩ : Int × List UInt8)])) (h := S.o q.as (S.end (hK _ ?_))))))))
                      clear hK K
                      show Ev _ _ _ _
                      refine Ev.region_S fun K hK => S.o q.add (S.o q.mv (S.end (hK _ ?_)))
                      clear hK K
                      refine hR4 _ _ ?_
                      refine roundU [0, 1, 5] [0, 1, 4, 5, 6, 7, 30, 31, 32, 33, 42, 43, 44, 45, 56, 57] ⟨(pre ++ [s], suf), by rw [← hp]; simp, ?_⟩ ?_ (keep_c (he := (by rfl)) (h := (keep_c (he := (by rfl)) (h := (keep_c (he := (by first | rfl | (rw [fnd1_snoc, f1_lt (by omega)]; done) | (rw [fnd1_snoc, f1_gt (by omega)]; done) | (rw [fnd1_snoc, f1_eq (by omega) (by omega), List.append_nil]; done))) (h := keep_n)))))) (slots_c (he := (by first | rfl | (congr 2; simp; done))) (h := (slots_c (he := (by first | rfl | (refine congrArg (AV.als _ 0) ?_; first | rfl | (rw [fnd1_snoc, f1_lt (by omega)]; done) | (rw [fnd1_snoc, f1_gt (by omega)]; done) | (rw [fnd1_snoc, f1_eq (by omega) (by omega), List.append_nil]; done)))) (h := trivial)))) (.c (.c (.c (.c (.c (.c (.c (.c (.c (.c (.c (.c (.c (.c (.c (.c .n))))))))))))))))
                      trivial
                      all_goals (dsimp only; simp only [List.length_cons]; omega)
                    · first
                    | (first | omega | contradiction)
                    | refine Ev.skip ?_
                      show Ev _ _ _ _
                      refine Ev.region_S fun K hK => S.o q.add (S.o q.mv (S.end (hK _ ?_)))
                      clear hK K
                      refine hR4 _ _ ?_
                      refine roundU [0, 1, 2] [0, 1, 4, 5, 6, 7, 30, 31, 32, 33, 42, 43, 44, 45, 56, 57] ⟨(pre ++ [s], suf), by rw [← hp]; simp, ?_⟩ ?_ (keep_c (he := (by rfl)) (h := (keep_c (he := (by rfl)) (h := (keep_c (he := (by first | rfl | (rw [fnd1_snoc, f1_lt (by omega)]; done) | (rw [fnd1_snoc, f1_gt (by omega)]; done) | (rw [fnd1_snoc, f1_eq (by omega) (by omega), List.append_nil]; done))) (h := keep_n)))))) (slots_c (he := (by first | rfl | (congr 2; simp; done))) (h := (slots_c (he := (by first | rfl | (refine congrArg (AV.als _ 0) ?_; first | rfl | (rw [fnd1_snoc, f1_lt (by omega)]; done) | (rw [fnd1_snoc, f1_gt (by omega)]; done) | (rw [fnd1_snoc, f1_eq (by omega) (by omega), List.append_nil]; done)))) (h := trivial)))) (.c (.c (.c (.c (.c (.c (.c (.c (.c (.c (.c (.c (.c (.c (.c (.c .n))))))))))))))))
                      trivial
                      all_goals (dsimp only; simp only [List.length_cons]; omega)
                · first | omega | contradiction | (exfalso; simp at *; done)
          · simp only [List.length_cons] at hpl
            have hidx : (l)[pre.length]? = some s := by rw [← hp]; simp
            have hsok : okBun s := hB.2.1 s (by rw [← hp]; simp)
            obtain ⟨_, _, hs1, hs2, hs3, hs4⟩ := hsok
            have hgt := cntM_get pre s.mark
            have hbb := barsOf_bd s.mark pre (fun b hb => hB.2.1 b (by rw [← hp]; simp [hb]))
            refine Ev.sr fun K hK => S.o q.lss (S.end (hK _ ?_))
            clear hK K
            refine Ev.ud (fun c13 => ?_) (fun c13 => ?_)
            · first
            | (first | omega | contradiction)
            | refine Ev.seq ?_
              refine Ev.block ?_
              refine Ev.sr fun K hK => S.o (q.ix am_el31 am_cl38 (hl := (by first | exact ati hidx (by omega) | exact atig (by omega)))) (S.o (q.lsA [_, _, _, _] am_ag38 am_cl38) (S.nn (q.al am_ze38) (S.sv [_, _, _, _] true [_, _] am_in38 am_cl38 (h := S.end (hK _ ?_)))))
              clear hK K
              refine Ev.region_S fun K hK => S.o q.mv (S.o (q.fa 1 am_fi38_1 am_cl9) (S.o (q.lv am_ag9) (S.o (q.lk (vv := (Value.int .i64)) klS am_mt94) (S.o (q.fa 2 am_fi38_2 am_cl3) (S.o (q.lv am_ag3) (S.o q.add (S.mu (vv := (Value.int .i64)) [_, _] klS am_mt94 (fun _ => rfl) (hn := S.end (hK _ ?_)))))))))
              clear hK K
              show Ev _ _ _ _
              refine Ev.region_S fun K hK => S.o q.add (S.o q.mv (S.end (hK _ ?_)))
              clear hK K
              refine hR2 _ _ ?_
              refine roundU [0, 1] [0, 1, 4, 5, 6, 7, 30, 31, 32, 33, 42, 43] ⟨(pre ++ [s], suf), by rw [← hp]; simp, ?_⟩ ?_ (keep_c (he := (by first | rfl | (rw [cntM_snoc]; done))) (h := (keep_c (he := (by rfl)) (h := keep_n)))) (slots_c (he := (by first | rfl | (congr 2; simp; done))) (h := trivial)) (.c (.c (.c (.c (.c (.c (.c (.c (.c (.c (.c (.c .n))))))))))))
              trivial
              all_goals (dsimp only; simp only [List.length_cons]; omega)
            · first | omega | contradiction | (exfalso; simp at *; done)
      · simp only [List.length_cons] at hpl
        have hidx : (bs)[pre.length]? = some s := by rw [← hp]; simp
        have hsok : okBar s := hS.2.1 s (by rw [← hp]; simp)
        refine Ev.sr fun K hK => S.o q.lss (S.end (hK _ ?_))
        clear hK K
        refine Ev.ud (fun c14 => ?_) (fun c14 => ?_)
        · first
        | (first | omega | contradiction)
        | refine Ev.seq ?_
          refine Ev.block ?_
          refine Ev.sr fun K hK => S.o (q.ix am_el23 am_cl67 (hl := (by first | exact ati hidx (by omega) | exact atig (by omega)))) (S.o (q.lsA [_, _, _, _, _] am_ag67 am_cl67) (S.nn (q.al am_ze67) (S.sv [_, _, _, _, _] true [_, _] am_in67 am_cl67 (h := S.end (hK _ ?_)))))
          clear hK K
          refine Ev.region_M (tbs [(0, 0), (0, 0), (2, 2), (0, 0), (4, 8), (5, 31)]) 5 fun K hK => M.o q.mv (M.o (q.fa 0 am_fi67_0 am_cl9) (M.o (q.lv am_ag9) (M.o (q.lvA [_, _, _, _, _] am_ag67 am_cl67) (M.c0 (hF := bone_fun _ (by assumption)) (h := M.end [_, _, _] (h := S.mu (vv := (Value.int .i64)) [_, _] klS am_mt94 (fun _ => rfl) (hn := S.end (hK _ ?_))))))))
          clear hK K
          show Ev _ _ _ _
          refine Ev.region_S fun K hK => S.o q.add (S.o q.mv (S.end (hK _ ?_)))
          clear hK K
          refine hR0 _ _ ?_
          refine roundU [0, 1] [0, 1, 4, 5, 6, 7, 30, 31] ⟨(pre ++ [s], suf), by rw [← hp]; simp, ?_⟩ ?_ (keep_c (he := (by rfl)) (h := (keep_c (he := (by first | rfl | (rw [masM_snoc hp hS]; done))) (h := keep_n)))) (slots_c (he := (by first | rfl | (congr 2; simp; done))) (h := trivial)) (.c (.c (.c (.c (.c (.c (.c (.c .n))))))))
          trivial
          all_goals (dsimp only; simp only [List.length_cons]; omega)
        · first | omega | contradiction | (exfalso; simp at *; done)
end Go.Proofs.YthpjfkmhpoeojaaDoor
