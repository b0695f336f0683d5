/-
  Stock: validity, the reference.
  Conditions: none.
-/
import Derived.Test.YtckahagagfmpbaaSo4
namespace Go.Proofs.Ytckahagagfmpbaa
open Go Go.AM
set_option linter.unusedSimpArgs false
set_option linter.unusedVariables false
set_option maxRecDepth 100000
set_option maxHeartbeats 1000000
theorem rValid_fun (l : List (Int × Int)) (hlen : l.length ≤ 140737488355328) : Fun Try.prog 14 [.sh 2 (l.map pairC)] (Ret (.lit (.bool (decide (okStock l)))) []) := by
  refine Fun.of (nt := 46) (rs := [.tmp 2]) Try.func14 rfl rfl rfl rfl rfl ?_
  refine Ev.sr fun K hK => S.o q.as (S.end (hK _ ?_))
  clear hK K
  refine Ev.seq ?_
  refine Ev.sr fun K hK => S.o q.mv (S.o (q.lens am_el22) (S.o q.gtr (S.end (hK _ ?_))))
  clear hK K
  refine Ev.cd (fun c1 => ?_) (fun c1 => ?_)
  · first
  | (first | omega | contradiction)
  | refine Ev.sr fun K hK => S.o q.as (S.end (hK _ ?_))
    clear hK K
    refine Ev.ret ?_
    refine Ev.ret1 ?_
    refine ⟨?_, rfl⟩
    first
     | exact bF (fun h => by have := h.1; omega)
     | exact bF (fun h => (stock_cut hp h).2 ⟨(tx, ty), by rw [← hpk]; simp, by simp only; omega⟩)
     | exact bF (fun h => by have h1 := (stock_cut hp h).1; unfold okSt at h1; simp only at h1; omega)
     | exact bT ⟨by omega, by rw [← hp]; exact hinv⟩
  · first
  | (first | omega | contradiction)
  | refine Ev.skip ?_
    show Ev _ _ _ _
    refine Ev.seq ?_
    refine Ev.sr fun K hK => S.o q.as (S.end (hK _ ?_))
    clear hK K
    refine Ev.block ?_
    refine Ev.loopU (ι := {q : List (Int × Int) × List (Int × Int) // q.1 ++ q.2 = l ∧ (∀ b ∈ q.1, okSt b) ∧ q.1.Pairwise (fun x y => x.1 ≠ y.1)}) [] [0] (fun ⟨(pre, suf), _⟩ => [(3, .lit (.int .i64 ((pre.length : Int))))]) (fun ⟨(pre, suf), _⟩ => []) (fun ⟨(pre, suf), _⟩ => suf.length) ⟨([], l), rfl, ⟨fun b hb => by simp at hb, by simp⟩⟩ (.c .n) keep_n (slots_c (he := (by first | rfl | (congr 2; simp; done))) (h := trivial)) ?_
    rintro ⟨⟨pre, suf⟩, hp, hinv⟩ R0 hR0
    dsimp only [List.cons_append, List.nil_append, List.length_cons, List.length_nil]
    simp only at hp hinv
    have hpl : pre.length + suf.length = (l).length := by rw [← hp, List.length_append]
    rcases suf with _ | ⟨s, suf⟩
    · rw [List.append_nil] at hp; simp only [List.length_nil] at hpl
      refine Ev.seq ?_
      refine Ev.sr fun K hK => S.o q.mv (S.o q.mv (S.o (q.lens am_el22) (S.o q.lss (S.end (hK _ ?_)))))
      clear hK K
      refine Ev.cd (fun c2 => ?_) (fun c2 => ?_)
      · first
      | (first | omega | contradiction)
      | refine Ev.skip ?_
        show Ev _ _ _ _
        refine Ev.seq ?_
        refine Ev.block ?_
        refine Ev.seq ?_
        refine Ev.sr fun K hK => S.o q.mv (S.o q.mv (S.o (q.ix am_el22 am_cl37 (hl := (by first | exact atig (by omega)))) (S.o (q.fs 0 am_fi37_0 am_cl3) (S.o (q.ls am_ag3) (S.c0 (hF := between_fun _ _ _) (h := S.o q.not (S.bn q.mv (fun c3 => ?_) (fun c3 => ?_))))))))
        · first
        | (first | omega | contradiction)
        | refine S.sk (S.sk (S.sk (S.sk (S.sk (S.sk (S.sk (S.o q.pt (S.end (hK _ ?_)))))))))
          clear hK K
          refine Ev.ct ?_
          refine Ev.sr fun K hK => S.o q.as (S.end (hK _ ?_))
          clear hK K
          refine Ev.ret ?_
          refine hR0 _ _ ?_
          refine Ev.ret1 ?_
          refine ⟨?_, rfl⟩
          first
           | exact bF (fun h => by have := h.1; omega)
           | exact bF (fun h => (stock_cut hp h).2 ⟨(tx, ty), by rw [← hpk]; simp, by simp only; omega⟩)
           | exact bF (fun h => by have h1 := (stock_cut hp h).1; unfold okSt at h1; simp only at h1; omega)
           | exact bT ⟨by omega, by rw [← hp]; exact hinv⟩
        · first
        | (first | omega | contradiction)
        | refine S.o q.mv (S.o q.mv (S.o (q.ix am_el22 am_cl37 (hl := (by first | exact atig (by omega)))) (S.o (q.fs 1 am_fi37_1 am_cl3) (S.o (q.ls am_ag3) (S.c0 (hF := between_fun _ _ _) (h := S.o q.not (S.o q.pf (S.end (hK _ ?_)))))))))
          clear hK K
          refine Ev.cn (fun c4 => ?_) (fun c4 => ?_)
          · first
          | (first | omega | contradiction)
          | refine Ev.sr fun K hK => S.o q.as (S.end (hK _ ?_))
            clear hK K
            refine Ev.ret ?_
            refine hR0 _ _ ?_
            refine Ev.ret1 ?_
            refine ⟨?_, rfl⟩
            first
             | exact bF (fun h => by have := h.1; omega)
             | exact bF (fun h => (stock_cut hp h).2 ⟨(tx, ty), by rw [← hpk]; simp, by simp only; omega⟩)
             | exact bF (fun h => by have h1 := (stock_cut hp h).1; unfold okSt at h1; simp only at h1; omega)
             | exact bT ⟨by omega, by rw [← hp]; exact hinv⟩
          · first
          | (first | omega | contradiction)
          | refine Ev.skip ?_
            show Ev _ _ _ _
            refine Ev.sr fun K hK => S.o q.as (S.end (hK _ ?_))
            clear hK K
            refine Ev.block ?_
            refine Ev.loopU (ι := {q : List (Int × Int) × List (Int × Int) // q.1 ++ q.2 = pre ∧ ∀ b ∈ q.1, b.1 ≠ sx}) [] [0, 3, 8, 9, 10, 11, 14, 15, 16, 17, 18, 19, 20, 21, 22, 23, 24, 25, 26, 27, 28, 29] (fun ⟨(prek, sufk), _⟩ => [(4, .lit (.int .i64 ((prek.length : Int))))]) (fun ⟨(prek, sufk), _⟩ => []) (fun ⟨(prek, sufk), _⟩ => sufk.length) ⟨([], pre), rfl, fun x hx => by simp at hx⟩ (.c (.c (.c (.c (.c (.c (.c (.c (.c (.c (.c (.c (.c (.c (.c (.c (.c (.c (.c (.c (.c (.c .n)))))))))))))))))))))) keep_n (slots_c (he := (by first | rfl | (congr 2; simp; done))) (h := trivial)) ?_
            rintro ⟨⟨prek, sufk⟩, hpk, hinvk⟩ R2 hR2
            dsimp only [List.cons_append, List.nil_append, List.length_cons, List.length_nil]
            simp only at hpk hinvk
            have hplk : prek.length + sufk.length = pre.length := by rw [← hpk, List.length_append]
            rcases sufk with _ | ⟨tk, sufk⟩
            · rw [List.append_nil] at hpk; simp only [List.length_nil] at hplk
              refine Ev.seq ?_
              refine Ev.sr fun K hK => S.o q.mv (S.o q.mv (S.o q.lss (S.end (hK _ ?_))))
              clear hK K
              refine Ev.cd (fun c5 => ?_) (fun c5 => ?_)
              · first
              | (first | omega | contradiction)
              | refine Ev.skip ?_
                show Ev _ _ _ _
                refine Ev.seq ?_
                refine Ev.block ?_
                refine Ev.sm (tbs [(0, 0), (0, 0), (2, 3), (3, 7), (4, 15), (0, 0), (0, 0), (7, 96), (8, 224), (9, 480), (10, 1023)]) 11 fun K hK => M.o q.mv (M.o q.mv (M.o (q.ix am_el22 am_cl37 (hl := (by first | exact atig (by omega)))) (M.o (q.fs 0 am_fi37_0 am_cl3) (M.o (q.ls am_ag3) (M.o q.mv (M.o q.mv (M.o (q.ix am_el22 am_cl37 (hl := (by first | exact atig (by omega)))) (M.o (q.fs 0 am_fi37_0 am_cl3) (M.o (q.ls am_ag3) (M.o q.eql (M.end [] (h := S.end (hK _ ?_)))))))))))))
                clear hK K
                refine Ev.cd (fun c6 => ?_) (fun c6 => ?_)
                · first
                | (first | omega | contradiction)
                | refine Ev.sr fun K hK => S.o q.as (S.end (hK _ ?_))
                  clear hK K
                  refine Ev.ret ?_
                  refine hR2 _ _ ?_
                  refine hR0 _ _ ?_
                  refine Ev.ret1 ?_
                  refine ⟨?_, rfl⟩
                  first
                   | exact bF (fun h => by have := h.1; omega)
                   | exact bF (fun h => (stock_cut hp h).2 ⟨(tx, ty), by rw [← hpk]; simp, by simp only; omega⟩)
                   | exact bF (fun h => by have h1 := (stock_cut hp h).1; unfold okSt at h1; simp only at h1; omega)
                   | exact bT ⟨by omega, by rw [← hp]; exact hinv⟩
                · first
                | (first | omega | contradiction)
                | refine Ev.skip ?_
                  show Ev _ _ _ _
                  refine Ev.region_S fun K hK => S.o q.mv (S.o q.add (S.o q.as (S.end (hK _ ?_))))
                  clear hK K
                  refine hR2 _ _ ?_
                  refine roundU [] [0, 3, 8, 9, 10, 11, 14, 15, 16, 17, 18, 19, 20, 21, 22, 23, 24, 25, 26, 27, 28, 29] ⟨(prek ++ [(tx, ty)], sufk), by rw [← hpk]; simp, ?_⟩ ?_ keep_n (slots_c (he := (by first | rfl | (congr 2; simp; done))) (h := trivial)) (.c (.c (.c (.c (.c (.c (.c (.c (.c (.c (.c (.c (.c (.c (.c (.c (.c (.c (.c (.c (.c (.c .n))))))))))))))))))))))
                  intro x hx; simp only [List.mem_append, List.mem_singleton] at hx; rcases hx with hx | rfl
                  · exact hinvk x hx
                  · simp only; omega
                  all_goals (dsimp only; simp only [List.length_cons]; omega)
              · first
              | (first | omega | contradiction)
              | refine Ev.exit ?_
                refine hR2 _ _ ?_
                show Ev _ _ _ _
                refine Ev.region_S fun K hK => S.o q.mv (S.o q.add (S.o q.as (S.end (hK _ ?_))))
                clear hK K
                refine hR0 _ _ ?_
                refine roundU [] [0] ⟨(pre ++ [(sx, sy)], suf), by rw [← hp]; simp, ?_⟩ ?_ keep_n (slots_c (he := (by first | rfl | (congr 2; simp; done))) (h := trivial)) (.c .n)
                exact stock_snoc hinv (by unfold okSt; simp only; omega) (fun ⟨b, hb, e⟩ => hinvk b (hpk ▸ hb) e)
                all_goals (dsimp only; simp only [List.length_cons]; omega)
            · simp only [List.length_cons] at hplk
              obtain ⟨tx, ty⟩ := tk
              have hidk : l[prek.length]? = some (tx, ty) := by rw [← hp, ← hpk]; simp
              refine Ev.seq ?_
              refine Ev.sr fun K hK => S.o q.mv (S.o q.mv (S.o q.lss (S.end (hK _ ?_))))
              clear hK K
              refine Ev.cd (fun c7 => ?_) (fun c7 => ?_)
              · first
              | (first | omega | contradiction)
              | refine Ev.skip ?_
                show Ev _ _ _ _
                refine Ev.seq ?_
                refine Ev.block ?_
                refine Ev.sm (tbs [(0, 0), (0, 0), (2, 3), (3, 7), (4, 15), (0, 0), (0, 0), (7, 96), (8, 224), (9, 480), (10, 1023)]) 11 fun K hK => M.o q.mv (M.o q.mv (M.o (q.ix am_el22 am_cl37 (hl := (by first | exact ati hidk (by omega) | exact ati hidx (by omega) | exact atig (by omega)))) (M.o (q.fs 0 am_fi37_0 am_cl3) (M.o (q.ls am_ag3) (M.o q.mv (M.o q.mv (M.o (q.ix am_el22 am_cl37 (hl := (by first | exact ati hidk (by omega) | exact ati hidx (by omega) | exact atig (by omega)))) (M.o (q.fs 0 am_fi37_0 am_cl3) (M.o (q.ls am_ag3) (M.o q.eql (M.end [] (h := S.end (hK _ ?_)))))))))))))
                clear hK K
                refine Ev.cd (fun c8 => ?_) (fun c8 => ?_)
                · first
                | (first | omega | contradiction)
                | refine Ev.sr fun K hK => S.o q.as (S.end (hK _ ?_))
                  clear hK K
                  refine Ev.ret ?_
                  refine hR2 _ _ ?_
                  refine hR0 _ _ ?_
                  refine Ev.ret1 ?_
                  refine ⟨?_, rfl⟩
                  first
                   | exact bF (fun h => by have := h.1; omega)
                   | exact bF (fun h => (stock_cut hp h).2 ⟨(tx, ty), by rw [← hpk]; simp, by simp only; omega⟩)
                   | exact bF (fun h => by have h1 := (stock_cut hp h).1; unfold okSt at h1; simp only at h1; omega)
                   | exact bT ⟨by omega, by rw [← hp]; exact hinv⟩
                · first
                | (first | omega | contradiction)
                | refine Ev.skip ?_
                  show Ev _ _ _ _
                  refine Ev.region_S fun K hK => S.o q.mv (S.o q.add (S.o q.as (S.end (hK _ ?_))))
                  clear hK K
                  refine hR2 _ _ ?_
                  refine roundU [] [0, 3, 8, 9, 10, 11, 14, 15, 16, 17, 18, 19, 20, 21, 22, 23, 24, 25, 26, 27, 28, 29] ⟨(prek ++ [(tx, ty)], sufk), by rw [← hpk]; simp, ?_⟩ ?_ keep_n (slots_c (he := (by first | rfl | (congr 2; simp; done))) (h := trivial)) (.c (.c (.c (.c (.c (.c (.c (.c (.c (.c (.c (.c (.c (.c (.c (.c (.c (.c (.c (.c (.c (.c .n))))))))))))))))))))))
                  intro x hx; simp only [List.mem_append, List.mem_singleton] at hx; rcases hx with hx | rfl
                  · exact hinvk x hx
                  · simp only; omega
                  all_goals (dsimp only; simp only [List.length_cons]; omega)
              · first
              | (first | omega | contradiction)
              | refine Ev.exit ?_
                refine hR2 _ _ ?_
                show Ev _ _ _ _
                refine Ev.region_S fun K hK => S.o q.mv (S.o q.add (S.o q.as (S.end (hK _ ?_))))
                clear hK K
                refine hR0 _ _ ?_
                refine roundU [] [0] ⟨(pre ++ [(sx, sy)], suf), by rw [← hp]; simp, ?_⟩ ?_ keep_n (slots_c (he := (by first | rfl | (congr 2; simp; done))) (h := trivial)) (.c .n)
                exact stock_snoc hinv (by unfold okSt; simp only; omega) (fun ⟨b, hb, e⟩ => hinvk b (hpk ▸ hb) e)
                all_goals (dsimp only; simp only [List.length_cons]; omega)
      · first
      | (first | omega | contradiction)
      | refine Ev.exit ?_
        refine hR0 _ _ ?_
        show Ev _ _ _ _
        refine Ev.sr fun K hK => S.o q.as (S.end (hK _ ?_))
        clear hK K
        refine Ev.ret ?_
        refine Ev.ret1 ?_
        refine ⟨?_, rfl⟩
        first
         | exact bF (fun h => by have := h.1; omega)
         | exact bF (fun h => (stock_cut hp h).2 ⟨(tx, ty), by rw [← hpk]; simp, by simp only; omega⟩)
         | exact bF (fun h => by have h1 := (stock_cut hp h).1; unfold okSt at h1; simp only at h1; omega)
         | exact bT ⟨by omega, by rw [← hp]; exact hinv⟩
    · simp only [List.length_cons] at hpl
      have hidx : l[pre.length]? = some s := by rw [← hp]; simp
      obtain ⟨sx, sy⟩ := s
      refine Ev.seq ?_
      refine Ev.sr fun K hK => S.o q.mv (S.o q.mv (S.o (q.lens am_el22) (S.o q.lss (S.end (hK _ ?_)))))
      clear hK K
      refine Ev.cd (fun c9 => ?_) (fun c9 => ?_)
      · first
      | (first | omega | contradiction)
      | refine Ev.skip ?_
        show Ev _ _ _ _
        refine Ev.seq ?_
        refine Ev.block ?_
        refine Ev.seq ?_
        refine Ev.sr fun K hK => S.o q.mv (S.o q.mv (S.o (q.ix am_el22 am_cl37 (hl := (by first | exact ati hidx (by omega) | exact atig (by omega)))) (S.o (q.fs 0 am_fi37_0 am_cl3) (S.o (q.ls am_ag3) (S.c0 (hF := between_fun _ _ _) (h := S.o q.not (S.bn q.mv (fun c10 => ?_) (fun c10 => ?_))))))))
        · first
        | (first | omega | contradiction)
        | refine S.sk (S.sk (S.sk (S.sk (S.sk (S.sk (S.sk (S.o q.pt (S.end (hK _ ?_)))))))))
          clear hK K
          refine Ev.ct ?_
          refine Ev.sr fun K hK => S.o q.as (S.end (hK _ ?_))
          clear hK K
          refine Ev.ret ?_
          refine hR0 _ _ ?_
          refine Ev.ret1 ?_
          refine ⟨?_, rfl⟩
          first
           | exact bF (fun h => by have := h.1; omega)
           | exact bF (fun h => (stock_cut hp h).2 ⟨(tx, ty), by rw [← hpk]; simp, by simp only; omega⟩)
           | exact bF (fun h => by have h1 := (stock_cut hp h).1; unfold okSt at h1; simp only at h1; omega)
           | exact bT ⟨by omega, by rw [← hp]; exact hinv⟩
        · first
        | (first | omega | contradiction)
        | refine S.o q.mv (S.o q.mv (S.o (q.ix am_el22 am_cl37 (hl := (by first | exact ati hidx (by omega) | exact atig (by omega)))) (S.o (q.fs 1 am_fi37_1 am_cl3) (S.o (q.ls am_ag3) (S.c0 (hF := between_fun _ _ _) (h := S.o q.not (S.o q.pf (S.end (hK _ ?_)))))))))
          clear hK K
          refine Ev.cn (fun c11 => ?_) (fun c11 => ?_)
          · first
          | (first | omega | contradiction)
          | refine Ev.sr fun K hK => S.o q.as (S.end (hK _ ?_))
            clear hK K
            refine Ev.ret ?_
            refine hR0 _ _ ?_
            refine Ev.ret1 ?_
            refine ⟨?_, rfl⟩
            first
             | exact bF (fun h => by have := h.1; omega)
             | exact bF (fun h => (stock_cut hp h).2 ⟨(tx, ty), by rw [← hpk]; simp, by simp only; omega⟩)
             | exact bF (fun h => by have h1 := (stock_cut hp h).1; unfold okSt at h1; simp only at h1; omega)
             | exact bT ⟨by omega, by rw [← hp]; exact hinv⟩
          · first
          | (first | omega | contradiction)
          | refine Ev.skip ?_
            show Ev _ _ _ _
            refine Ev.sr fun K hK => S.o q.as (S.end (hK _ ?_))
            clear hK K
            refine Ev.block ?_
            refine Ev.loopU (ι := {q : List (Int × Int) × List (Int × Int) // q.1 ++ q.2 = pre ∧ ∀ b ∈ q.1, b.1 ≠ sx}) [] [0, 3, 8, 9, 10, 11, 14, 15, 16, 17, 18, 19, 20, 21, 22, 23, 24, 25, 26, 27, 28, 29] (fun ⟨(prek, sufk), _⟩ => [(4, .lit (.int .i64 ((prek.length : Int))))]) (fun ⟨(prek, sufk), _⟩ => []) (fun ⟨(prek, sufk), _⟩ => sufk.length) ⟨([], pre), rfl, fun x hx => by simp at hx⟩ (.c (.c (.c (.c (.c (.c (.c (.c (.c (.c (.c (.c (.c (.c (.c (.c (.c (.c (.c (.c (.c (.c .n)))))))))))))))))))))) keep_n (slots_c (he := (by first | rfl | (congr 2; simp; done))) (h := trivial)) ?_
            rintro ⟨⟨prek, sufk⟩, hpk, hinvk⟩ R2 hR2
            dsimp only [List.cons_append, List.nil_append, List.length_cons, List.length_nil]
            simp only at hpk hinvk
            have hplk : prek.length + sufk.length = pre.length := by rw [← hpk, List.length_append]
            rcases sufk with _ | ⟨tk, sufk⟩
            · rw [List.append_nil] at hpk; simp only [List.length_nil] at hplk
              refine Ev.seq ?_
              refine Ev.sr fun K hK => S.o q.mv (S.o q.mv (S.o q.lss (S.end (hK _ ?_))))
              clear hK K
              refine Ev.cd (fun c12 => ?_) (fun c12 => ?_)
              · first
              | (first | omega | contradiction)
              | refine Ev.skip ?_
                show Ev _ _ _ _
                refine Ev.seq ?_
                refine Ev.block ?_
                refine Ev.sm (tbs [(0, 0), (0, 0), (2, 3), (3, 7), (4, 15), (0, 0), (0, 0), (7, 96), (8, 224), (9, 480), (10, 1023)]) 11 fun K hK => M.o q.mv (M.o q.mv (M.o (q.ix am_el22 am_cl37 (hl := (by first | exact ati hidx (by omega) | exact atig (by omega)))) (M.o (q.fs 0 am_fi37_0 am_cl3) (M.o (q.ls am_ag3) (M.o q.mv (M.o q.mv (M.o (q.ix am_el22 am_cl37 (hl := (by first | exact ati hidx (by omega) | exact atig (by omega)))) (M.o (q.fs 0 am_fi37_0 am_cl3) (M.o (q.ls am_ag3) (M.o q.eql (M.end [] (h := S.end (hK _ ?_)))))))))))))
                clear hK K
                refine Ev.cd (fun c13 => ?_) (fun c13 => ?_)
                · first
                | (first | omega | contradiction)
                | refine Ev.sr fun K hK => S.o q.as (S.end (hK _ ?_))
                  clear hK K
                  refine Ev.ret ?_
                  refine hR2 _ _ ?_
                  refine hR0 _ _ ?_
                  refine Ev.ret1 ?_
                  refine ⟨?_, rfl⟩
                  first
                   | exact bF (fun h => by have := h.1; omega)
                   | exact bF (fun h => (stock_cut hp h).2 ⟨(tx, ty), by rw [← hpk]; simp, by simp only; omega⟩)
                   | exact bF (fun h => by have h1 := (stock_cut hp h).1; unfold okSt at h1; simp only at h1; omega)
                   | exact bT ⟨by omega, by rw [← hp]; exact hinv⟩
                · first
                | (first | omega | contradiction)
                | refine Ev.skip ?_
                  show Ev _ _ _ _
                  refine Ev.region_S fun K hK => S.o q.mv (S.o q.add (S.o q.as (S.end (hK _ ?_))))
                  clear hK K
                  refine hR2 _ _ ?_
                  refine roundU [] [0, 3, 8, 9, 10, 11, 14, 15, 16, 17, 18, 19, 20, 21, 22, 23, 24, 25, 26, 27, 28, 29] ⟨(prek ++ [(tx, ty)], sufk), by rw [← hpk]; simp, ?_⟩ ?_ keep_n (slots_c (he := (by first | rfl | (congr 2; simp; done))) (h := trivial)) (.c (.c (.c (.c (.c (.c (.c (.c (.c (.c (.c (.c (.c (.c (.c (.c (.c (.c (.c (.c (.c (.c .n))))))))))))))))))))))
                  intro x hx; simp only [List.mem_append, List.mem_singleton] at hx; rcases hx with hx | rfl
                  · exact hinvk x hx
                  · simp only; omega
                  all_goals (dsimp only; simp only [List.length_cons]; omega)
              · first
              | (first | omega | contradiction)
              | refine Ev.exit ?_
                refine hR2 _ _ ?_
                show Ev _ _ _ _
                refine Ev.region_S fun K hK => S.o q.mv (S.o q.add (S.o q.as (S.end (hK _ ?_))))
                clear hK K
                refine hR0 _ _ ?_
                refine roundU [] [0] ⟨(pre ++ [(sx, sy)], suf), by rw [← hp]; simp, ?_⟩ ?_ keep_n (slots_c (he := (by first | rfl | (congr 2; simp; done))) (h := trivial)) (.c .n)
                exact stock_snoc hinv (by unfold okSt; simp only; omega) (fun ⟨b, hb, e⟩ => hinvk b (hpk ▸ hb) e)
                all_goals (dsimp only; simp only [List.length_cons]; omega)
            · simp only [List.length_cons] at hplk
              obtain ⟨tx, ty⟩ := tk
              have hidk : l[prek.length]? = some (tx, ty) := by rw [← hp, ← hpk]; simp
              refine Ev.seq ?_
              refine Ev.sr fun K hK => S.o q.mv (S.o q.mv (S.o q.lss (S.end (hK _ ?_))))
              clear hK K
              refine Ev.cd (fun c14 => ?_) (fun c14 => ?_)
              · first
              | (first | omega | contradiction)
              | refine Ev.skip ?_
                show Ev _ _ _ _
                refine Ev.seq ?_
                refine Ev.block ?_
                refine Ev.sm (tbs [(0, 0), (0, 0), (2, 3), (3, 7), (4, 15), (0, 0), (0, 0), (7, 96), (8, 224), (9, 480), (10, 1023)]) 11 fun K hK => M.o q.mv (M.o q.mv (M.o (q.ix am_el22 am_cl37 (hl := (by first | exact ati hidx (by omega) | exact ati hidk (by omega) | exact ati hidx (by omega) | exact atig (by omega)))) (M.o (q.fs 0 am_fi37_0 am_cl3) (M.o (q.ls am_ag3) (M.o q.mv (M.o q.mv (M.o (q.ix am_el22 am_cl37 (hl := (by first | exact ati hidx (by omega) | exact ati hidk (by omega) | exact ati hidx (by omega) | exact atig (by omega)))) (M.o (q.fs 0 am_fi37_0 am_cl3) (M.o (q.ls am_ag3) (M.o q.eql (M.end [] (h := S.end (hK _ ?_)))))))))))))
                clear hK K
                refine Ev.cd (fun c15 => ?_) (fun c15 => ?_)
                · first
                | (first | omega | contradiction)
                | refine Ev.sr fun K hK => S.o q.as (S.end (hK _ ?_))
                  clear hK K
                  refine Ev.ret ?_
                  refine hR2 _ _ ?_
                  refine hR0 _ _ ?_
                  refine Ev.ret1 ?_
                  refine ⟨?_, rfl⟩
                  first
                   | exact bF (fun h => by have := h.1; omega)
                   | exact bF (fun h => (stock_cut hp h).2 ⟨(tx, ty), by rw [← hpk]; simp, by simp only; omega⟩)
                   | exact bF (fun h => by have h1 := (stock_cut hp h).1; unfold okSt at h1; simp only at h1; omega)
                   | exact bT ⟨by omega, by rw [← hp]; exact hinv⟩
                · first
                | (first | omega | contradiction)
                | refine Ev.skip ?_
                  show Ev _ _ _ _
                  refine Ev.region_S fun K hK => S.o q.mv (S.o q.add (S.o q.as (S.end (hK _ ?_))))
                  clear hK K
                  refine hR2 _ _ ?_
                  refine roundU [] [0, 3, 8, 9, 10, 11, 14, 15, 16, 17, 18, 19, 20, 21, 22, 23, 24, 25, 26, 27, 28, 29] ⟨(prek ++ [(tx, ty)], sufk), by rw [← hpk]; simp, ?_⟩ ?_ keep_n (slots_c (he := (by first | rfl | (congr 2; simp; done))) (h := trivial)) (.c (.c (.c (.c (.c (.c (.c (.c (.c (.c (.c (.c (.c (.c (.c (.c (.c (.c (.c (.c (.c (.c .n))))))))))))))))))))))
                  intro x hx; simp only [List.mem_append, List.mem_singleton] at hx; rcases hx with hx | rfl
                  · exact hinvk x hx
                  · simp only; omega
                  all_goals (dsimp only; simp only [List.length_cons]; omega)
              · first
              | (first | omega | contradiction)
              | refine Ev.exit ?_
                refine hR2 _ _ ?_
                show Ev _ _ _ _
                refine Ev.region_S fun K hK => S.o q.mv (S.o q.add (S.o q.as (S.end (hK _ ?_))))
                clear hK K
                refine hR0 _ _ ?_
                refine roundU [] [0] ⟨(pre ++ [(sx, sy)], suf), by rw [← hp]; simp, ?_⟩ ?_ keep_n (slots_c (he := (by first | rfl | (congr 2; simp; done))) (h := trivial)) (.c .n)
                exact stock_snoc hinv (by unfold okSt; simp only; omega) (fun ⟨b, hb, e⟩ => hinvk b (hpk ▸ hb) e)
                all_goals (dsimp only; simp only [List.length_cons]; omega)
      · first
      | (first | omega | contradiction)
      | refine Ev.exit ?_
        refine hR0 _ _ ?_
        show Ev _ _ _ _
        refine Ev.sr fun K hK => S.o q.as (S.end (hK _ ?_))
        clear hK K
        refine Ev.ret ?_
        refine Ev.ret1 ?_
        refine ⟨?_, rfl⟩
        first
         | exact bF (fun h => by have := h.1; omega)
         | exact bF (fun h => (stock_cut hp h).2 ⟨(tx, ty), by rw [← hpk]; simp, by simp only; omega⟩)
         | exact bF (fun h => by have h1 := (stock_cut hp h).1; unfold okSt at h1; simp only at h1; omega)
         | exact bT ⟨by omega, by rw [← hp]; exact hinv⟩
end Go.Proofs.Ytckahagagfmpbaa
