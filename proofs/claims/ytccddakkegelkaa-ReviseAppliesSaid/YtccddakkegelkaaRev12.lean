/-
  Layer 41: the reference, part 3.
  Conditions: none.
-/
import Derived.Test.YtccddakkegelkaaRev8
import Derived.Test.YtccddakkegelkaaRev4
import Derived.Test.YtccddakkegelkaaRev10
namespace Go.Proofs.Ytccddakkegelkaa
open Go Go.AM
set_option linter.unusedSimpArgs false
set_option linter.unusedVariables false
set_option maxRecDepth 100000
set_option maxHeartbeats 1000000

theorem rfits_fun (a b : List Bar) (l : List Chg) (ha : a.length ≤ 140737488355328) (hb : b.length ≤ 140737488355328) (hok : okChgs l) : Fun Try.prog 57 [.sh 5 (a.map Bar.c), .sh 5 (b.map Bar.c), .sh 2 (l.map findC)] (Ret (.lit (.bool (decide (fitsP a b l)))) []) := by
  have hll := hok.1
  refine Fun.of (nt := 70) (rs := [.tmp 6]) Try.func57 rfl rfl rfl rfl rfl ?_
  refine Ev.sr fun K hK => S.o q.as (S.end (hK _ ?_))
  clear hK K
  refine Ev.seq ?_
  refine Ev.sr fun K hK => S.o q.as (S.end (hK _ ?_))
  clear hK K
  refine Ev.block ?_
  refine Ev.loopU (ι := {q : List Chg × List Chg // q.1 ++ q.2 = l ∧ ∀ c ∈ q.1, fitC a b c}) [] [0, 1, 2] (fun ⟨(pre, suf), _⟩ => [(7, .lit (.int .i64 ((pre.length : Int))))]) (fun ⟨(pre, suf), _⟩ => []) (fun ⟨(pre, suf), _⟩ => suf.length) ⟨([], l), rfl, fun x hx => by simp at hx⟩ (.c (.c (.c .n))) keep_n (slots_c (he := (by first | rfl | (simp; done) | (congr 2; omega))) (h := trivial)) ?_
  rintro ⟨⟨pre, suf⟩, hp, hinv⟩ R0 hR0
  dsimp only [List.cons_append, List.nil_append, List.length_cons, List.length_nil]
  simp only at hp hinv
  have hpl : pre.length + suf.length = (l).length := by rw [← hp, List.length_append]
  rcases suf with _ | ⟨s, suf⟩
  · rw [List.append_nil] at hp; subst pre; simp only [List.length_nil] at hpl
    refine Ev.seq ?_
    refine Ev.sr fun K hK => S.o q.mv (S.o q.mv (S.o (q.lens am_el25) (S.o q.lss (S.end (hK _ ?_)))))
    clear hK K
    refine Ev.cd (fun c1 => ?_) (fun c1 => ?_)
    · first
    | (first | omega | contradiction)
    | refine Ev.skip ?_
      show Ev _ _ _ _
      refine Ev.seq ?_
      refine Ev.block ?_
      refine Ev.sm (tbs [(0, 0), (0, 0), (0, 0), (3, 6), (4, 14), (5, 30), (6, 63), (7, 127), (0, 0), (0, 0), (0, 0), (11, 1536), (12, 3584), (13, 7680), (14, 16255), (15, 32639), (15, 32767), (17, 131071)]) 17 fun K hK => M.o q.mv (M.o q.mv (M.o q.mv (M.o (q.ix am_el25 am_cl36 (hl := (by first | exact atig (by omega)))) (M.o (q.fs 1 am_fi36_1 am_cl9) (M.o (q.ls am_ag9) (M.c0 (hF := rfind_fun _ _ (by omega)) (h := M.o q.geq (M.o q.mv (M.o q.mv (M.o q.mv (M.o (q.ix am_el25 am_cl36 (hl := (by first | exact atig (by omega)))) (M.o (q.fs 1 am_fi36_1 am_cl9) (M.o (q.ls am_ag9) (M.c0 (hF := rfind_fun _ _ (by omega)) (h := M.o q.geq (M.o q.as (M.end [] (h := S.o q.as (S.end (hK _ ?_))))))))))))))))))))
      clear hK K
      refine Ev.sr fun K hK => S.o q.mv (S.o q.mv (S.o (q.ix am_el25 am_cl36 (hl := (by first | exact atig (by omega)))) (S.o (q.fs 0 am_fi36_0 am_cl3) (S.o (q.ls am_ag3) (S.end (hK _ ?_))))))
      clear hK K
      refine Ev.block ?_
      refine Ev.seq ?_
      refine Ev.sr fun K hK => S.o q.eql (S.o q.as (S.end (hK _ ?_)))
      clear hK K
      refine Ev.cd (fun c2 => ?_) (fun c2 => ?_)
      · first
      | (first | omega | contradiction)
      | refine Ev.skip ?_
        show Ev _ _ _ _
        refine Ev.cd (fun _ => ?_) (fun c => absurd c2 c)
        refine Ev.sr fun K hK => S.o q.mv (S.o q.not (S.end (hK _ ?_)))
        clear hK K
        refine Ev.cn (fun c3 => ?_) (fun c3 => ?_)
        · first
        | (first | omega | contradiction)
        | refine Ev.sr fun K hK => S.o q.as (S.end (hK _ ?_))
          clear hK K
          refine Ev.ret ?_
          refine hR0 _ _ ?_
          refine Ev.ret1 ?_
          refine ⟨?_, rfl⟩
          first
           | exact bF (fun h => by have h1 := h.1 s (by rw [← hp]; simp); unfold fitC at h1; omega)
           | exact bF (fun h => h.2 s2 (by rw [← hp2]; simp) (chg_no (by omega)))
           | exact bT ⟨hinv, by rw [← hp2]; exact hinv2⟩
        · first
        | (first | omega | contradiction)
        | refine Ev.skip ?_
          show Ev _ _ _ _
          refine Ev.region_S fun K hK => S.o q.mv (S.o q.add (S.o q.as (S.end (hK _ ?_))))
          clear hK K
          refine hR0 _ _ ?_
          refine roundU [] [0, 1, 2] ⟨(pre ++ [s], suf), by rw [← hp]; simp, ?_⟩ ?_ keep_n (slots_c (he := (by first | rfl | (simp; done) | (congr 2; omega))) (h := trivial)) (.c (.c (.c .n)))
          intro x hx; simp only [List.mem_append, List.mem_singleton] at hx; rcases hx with hx | rfl
          · exact hinv x hx
          · unfold fitC; omega
          all_goals (dsimp only; simp only [List.length_cons]; omega)
      · first
      | (first | omega | contradiction)
      | refine Ev.region_S fun K hK => S.o q.eql (S.o q.as (S.end (hK _ ?_)))
        clear hK K
        show Ev _ _ _ _
        refine Ev.cd (fun c4 => ?_) (fun c4 => ?_)
        · first
        | (first | omega | contradiction)
        | refine Ev.sr fun K hK => S.o q.mv (S.o q.not (S.end (hK _ ?_)))
          clear hK K
          refine Ev.cn (fun c5 => ?_) (fun c5 => ?_)
          · first
          | (first | omega | contradiction)
          | refine Ev.sr fun K hK => S.o q.as (S.end (hK _ ?_))
            clear hK K
            refine Ev.ret ?_
            refine hR0 _ _ ?_
            refine Ev.ret1 ?_
            refine ⟨?_, rfl⟩
            first
             | exact bF (fun h => by have h1 := h.1 s (by rw [← hp]; simp); unfold fitC at h1; omega)
             | exact bF (fun h => h.2 s2 (by rw [← hp2]; simp) (chg_no (by omega)))
             | exact bT ⟨hinv, by rw [← hp2]; exact hinv2⟩
          · first
          | (first | omega | contradiction)
          | refine Ev.skip ?_
            show Ev _ _ _ _
            refine Ev.region_S fun K hK => S.o q.mv (S.o q.add (S.o q.as (S.end (hK _ ?_))))
            clear hK K
            refine hR0 _ _ ?_
            refine roundU [] [0, 1, 2] ⟨(pre ++ [s], suf), by rw [← hp]; simp, ?_⟩ ?_ keep_n (slots_c (he := (by first | rfl | (simp; done) | (congr 2; omega))) (h := trivial)) (.c (.c (.c .n)))
            intro x hx; simp only [List.mem_append, List.mem_singleton] at hx; rcases hx with hx | rfl
            · exact hinv x hx
            · unfold fitC; omega
            all_goals (dsimp only; simp only [List.length_cons]; omega)
        · first
        | (first | omega | contradiction)
        | refine Ev.sr fun K hK => S.o q.eql (S.o q.as (S.end (hK _ ?_)))
          clear hK K
          refine Ev.cd (fun c6 => ?_) (fun c6 => ?_)
          · first
          | (first | omega | contradiction)
          | refine Ev.sr fun K hK => S.o q.mv (S.o q.not (S.bn q.mv (fun c7 => ?_) (fun c7 => ?_)))
            · first
            | (first | omega | contradiction)
            | refine S.sk (S.sk (S.o q.pt (S.end (hK _ ?_))))
              clear hK K
              refine Ev.ct ?_
              refine Ev.sr fun K hK => S.o q.as (S.end (hK _ ?_))
              clear hK K
              refine Ev.ret ?_
              refine hR0 _ _ ?_
              refine Ev.ret1 ?_
              refine ⟨?_, rfl⟩
              first
               | exact bF (fun h => by have h1 := h.1 s (by rw [← hp]; simp); unfold fitC at h1; omega)
               | exact bF (fun h => h.2 s2 (by rw [← hp2]; simp) (chg_no (by omega)))
               | exact bT ⟨hinv, by rw [← hp2]; exact hinv2⟩
            · first
            | (first | omega | contradiction)
            | refine S.o q.mv (S.o q.not (S.o q.pf (S.end (hK _ ?_))))
              clear hK K
              refine Ev.cn (fun c8 => ?_) (fun c8 => ?_)
              · first
              | (first | omega | contradiction)
              | refine Ev.sr fun K hK => S.o q.as (S.end (hK _ ?_))
                clear hK K
                refine Ev.ret ?_
                refine hR0 _ _ ?_
                refine Ev.ret1 ?_
                refine ⟨?_, rfl⟩
                first
                 | exact bF (fun h => by have h1 := h.1 s (by rw [← hp]; simp); unfold fitC at h1; omega)
                 | exact bF (fun h => h.2 s2 (by rw [← hp2]; simp) (chg_no (by omega)))
                 | exact bT ⟨hinv, by rw [← hp2]; exact hinv2⟩
              · first
              | (first | omega | contradiction)
              | refine Ev.skip ?_
                show Ev _ _ _ _
                refine Ev.region_S fun K hK => S.o q.mv (S.o q.add (S.o q.as (S.end (hK _ ?_))))
                clear hK K
                refine hR0 _ _ ?_
                refine roundU [] [0, 1, 2] ⟨(pre ++ [s], suf), by rw [← hp]; simp, ?_⟩ ?_ keep_n (slots_c (he := (by first | rfl | (simp; done) | (congr 2; omega))) (h := trivial)) (.c (.c (.c .n)))
                intro x hx; simp only [List.mem_append, List.mem_singleton] at hx; rcases hx with hx | rfl
                · exact hinv x hx
                · unfold fitC; omega
                all_goals (dsimp only; simp only [List.length_cons]; omega)
          · first
          | (first | omega | contradiction)
          | refine Ev.sr fun K hK => S.o q.mv (S.bd q.mv (fun c9 => ?_) (fun c9 => ?_))
            · first
            | (first | omega | contradiction)
            | refine S.sk (S.sk (S.o q.pt (S.end (hK _ ?_))))
              clear hK K
              refine Ev.ct ?_
              refine Ev.sr fun K hK => S.o q.as (S.end (hK _ ?_))
              clear hK K
              refine Ev.ret ?_
              refine hR0 _ _ ?_
              refine Ev.ret1 ?_
              refine ⟨?_, rfl⟩
              first
               | exact bF (fun h => by have h1 := h.1 s (by rw [← hp]; simp); unfold fitC at h1; omega)
               | exact bF (fun h => h.2 s2 (by rw [← hp2]; simp) (chg_no (by omega)))
               | exact bT ⟨hinv, by rw [← hp2]; exact hinv2⟩
            · first
            | (first | omega | contradiction)
            | refine S.o q.mv (S.o q.not (S.o q.pf (S.end (hK _ ?_))))
              clear hK K
              refine Ev.cn (fun c10 => ?_) (fun c10 => ?_)
              · first
              | (first | omega | contradiction)
              | refine Ev.sr fun K hK => S.o q.as (S.end (hK _ ?_))
                clear hK K
                refine Ev.ret ?_
                refine hR0 _ _ ?_
                refine Ev.ret1 ?_
                refine ⟨?_, rfl⟩
                first
                 | exact bF (fun h => by have h1 := h.1 s (by rw [← hp]; simp); unfold fitC at h1; omega)
                 | exact bF (fun h => h.2 s2 (by rw [← hp2]; simp) (chg_no (by omega)))
                 | exact bT ⟨hinv, by rw [← hp2]; exact hinv2⟩
              · first
              | (first | omega | contradiction)
              | refine Ev.skip ?_
                show Ev _ _ _ _
                refine Ev.region_S fun K hK => S.o q.mv (S.o q.add (S.o q.as (S.end (hK _ ?_))))
                clear hK K
                refine hR0 _ _ ?_
                refine roundU [] [0, 1, 2] ⟨(pre ++ [s], suf), by rw [← hp]; simp, ?_⟩ ?_ keep_n (slots_c (he := (by first | rfl | (simp; done) | (congr 2; omega))) (h := trivial)) (.c (.c (.c .n)))
                intro x hx; simp only [List.mem_append, List.mem_singleton] at hx; rcases hx with hx | rfl
                · exact hinv x hx
                · unfold fitC; omega
                all_goals (dsimp only; simp only [List.length_cons]; omega)
    · first
    | (first | omega | contradiction)
    | refine Ev.exit ?_
      refine hR0 _ _ ?_
      show Ev _ _ _ _
      refine Ev.seq ?_
      refine Ev.sr fun K hK => S.o q.as (S.end (hK _ ?_))
      clear hK K
      refine Ev.block ?_
      refine Ev.loopU (ι := {q : List Bar × List Bar // q.1 ++ q.2 = a ∧ ∀ x ∈ q.1, ofK l x.mark ≠ 0}) [] [0, 1, 2, 7, 11, 12, 13, 14] (fun ⟨(pre2, suf2), _⟩ => [(10, .lit (.int .i64 ((pre2.length : Int))))]) (fun ⟨(pre2, suf2), _⟩ => []) (fun ⟨(pre2, suf2), _⟩ => suf2.length) ⟨([], a), rfl, fun x hx => by simp at hx⟩ (.c (.c (.c (.c (.c (.c (.c (.c .n)))))))) keep_n (slots_c (he := (by first | rfl | (simp; done) | (congr 2; omega))) (h := trivial)) ?_
      rintro ⟨⟨pre2, suf2⟩, hp2, hinv2⟩ R3 hR3
      dsimp only [List.cons_append, List.nil_append, List.length_cons, List.length_nil]
      simp only at hp2 hinv2
      have hpl2 : pre2.length + suf2.length = a.length := by rw [← hp2, List.length_append]
      rcases suf2 with _ | ⟨s2, suf2⟩
      · rw [List.append_nil] at hp2; simp only [List.length_nil] at hpl2
        refine Ev.seq ?_
        refine Ev.sr fun K hK => S.o q.mv (S.o q.mv (S.o (q.lens am_el22) (S.o q.lss (S.end (hK _ ?_)))))
        clear hK K
        refine Ev.cd (fun c11 => ?_) (fun c11 => ?_)
        · first
        | (first | omega | contradiction)
        | refine Ev.skip ?_
          show Ev _ _ _ _
          refine Ev.seq ?_
          refine Ev.block ?_
          refine Ev.sr fun K hK => S.o q.mv (S.o q.mv (S.o q.mv (S.o (q.ix am_el22 am_cl43 (hl := (by first | exact atig (by omega)))) (S.o (q.fs 0 am_fi43_0 am_cl9) (S.o (q.ls am_ag9) (S.c0 (hF := rFind41_fun _ _ (by omega)) (h := S.o q.lss (S.end (hK _ ?_)))))))))
          clear hK K
          refine Ev.cd (fun c12 => ?_) (fun c12 => ?_)
          · first
          | (first | omega | contradiction)
          | refine Ev.sr fun K hK => S.o q.as (S.end (hK _ ?_))
            clear hK K
            refine Ev.ret ?_
            refine hR3 _ _ ?_
            refine Ev.ret1 ?_
            refine ⟨?_, rfl⟩
            first
             | exact bF (fun h => by have h1 := h.1 s (by rw [← hp]; simp); unfold fitC at h1; omega)
             | exact bF (fun h => h.2 s2 (by rw [← hp2]; simp) (chg_no (by omega)))
             | exact bT ⟨hinv, by rw [← hp2]; exact hinv2⟩
          · first
          | (first | omega | contradiction)
          | refine Ev.skip ?_
            show Ev _ _ _ _
            refine Ev.region_S fun K hK => S.o q.mv (S.o q.add (S.o q.as (S.end (hK _ ?_))))
            clear hK K
            refine hR3 _ _ ?_
            refine roundU [] [0, 1, 2, 7, 11, 12, 13, 14] ⟨(pre2 ++ [s2], suf2), by rw [← hp2]; simp, ?_⟩ ?_ keep_n (slots_c (he := (by first | rfl | (simp; done) | (congr 2; omega))) (h := trivial)) (.c (.c (.c (.c (.c (.c (.c (.c .n))))))))
            intro x hx; simp only [List.mem_append, List.mem_singleton] at hx; rcases hx with hx | rfl
            · exact hinv2 x hx
            · have h1 := (chg_of (mk := x.mark) hok.2.1 (by omega)).2.1; omega
            all_goals (dsimp only; simp only [List.length_cons]; omega)
        · first
        | (first | omega | contradiction)
        | refine Ev.exit ?_
          refine hR3 _ _ ?_
          show Ev _ _ _ _
          refine Ev.sr fun K hK => S.o q.as (S.end (hK _ ?_))
          clear hK K
          refine Ev.ret ?_
          refine Ev.ret1 ?_
          refine ⟨?_, rfl⟩
          first
           | exact bF (fun h => by have h1 := h.1 s (by rw [← hp]; simp); unfold fitC at h1; omega)
           | exact bF (fun h => h.2 s2 (by rw [← hp2]; simp) (chg_no (by omega)))
           | exact bT ⟨hinv, by rw [← hp2]; exact hinv2⟩
      · simp only [List.length_cons] at hpl2
        have hidx2 : a[pre2.length]? = some s2 := by rw [← hp2]; simp
        refine Ev.seq ?_
        refine Ev.sr fun K hK => S.o q.mv (S.o q.mv (S.o (q.lens am_el22) (S.o q.lss (S.end (hK _ ?_)))))
        clear hK K
        refine Ev.cd (fun c13 => ?_) (fun c13 => ?_)
        · first
        | (first | omega | contradiction)
        | refine Ev.skip ?_
          show Ev _ _ _ _
          refine Ev.seq ?_
          refine Ev.block ?_
          refine Ev.sr fun K hK => S.o q.mv (S.o q.mv (S.o q.mv (S.o (q.ix am_el22 am_cl43 (hl := (by first | exact ati hidx2 (by omega) | exact atig (by omega)))) (S.o (q.fs 0 am_fi43_0 am_cl9) (S.o (q.ls am_ag9) (S.c0 (hF := rFind41_fun _ _ (by omega)) (h := S.o q.lss (S.end (hK _ ?_)))))))))
          clear hK K
          refine Ev.cd (fun c14 => ?_) (fun c14 => ?_)
          · first
          | (first | omega | contradiction)
          | refine Ev.sr fun K hK => S.o q.as (S.end (hK _ ?_))
            clear hK K
            refine Ev.ret ?_
            refine hR3 _ _ ?_
            refine Ev.ret1 ?_
            refine ⟨?_, rfl⟩
            first
             | exact bF (fun h => by have h1 := h.1 s (by rw [← hp]; simp); unfold fitC at h1; omega)
             | exact bF (fun h => h.2 s2 (by rw [← hp2]; simp) (chg_no (by omega)))
             | exact bT ⟨hinv, by rw [← hp2]; exact hinv2⟩
          · first
          | (first | omega | contradiction)
          | refine Ev.skip ?_
            show Ev _ _ _ _
            refine Ev.region_S fun K hK => S.o q.mv (S.o q.add (S.o q.as (S.end (hK _ ?_))))
            clear hK K
            refine hR3 _ _ ?_
            refine roundU [] [0, 1, 2, 7, 11, 12, 13, 14] ⟨(pre2 ++ [s2], suf2), by rw [← hp2]; simp, ?_⟩ ?_ keep_n (slots_c (he := (by first | rfl | (simp; done) | (congr 2; omega))) (h := trivial)) (.c (.c (.c (.c (.c (.c (.c (.c .n))))))))
            intro x hx; simp only [List.mem_append, List.mem_singleton] at hx; rcases hx with hx | rfl
            · exact hinv2 x hx
            · have h1 := (chg_of (mk := x.mark) hok.2.1 (by omega)).2.1; omega
            all_goals (dsimp only; simp only [List.length_cons]; omega)
        · first
        | (first | omega | contradiction)
        | refine Ev.exit ?_
          refine hR3 _ _ ?_
          show Ev _ _ _ _
          refine Ev.sr fun K hK => S.o q.as (S.end (hK _ ?_))
          clear hK K
          refine Ev.ret ?_
          refine Ev.ret1 ?_
          refine ⟨?_, rfl⟩
          first
           | exact bF (fun h => by have h1 := h.1 s (by rw [← hp]; simp); unfold fitC at h1; omega)
           | exact bF (fun h => h.2 s2 (by rw [← hp2]; simp) (chg_no (by omega)))
           | exact bT ⟨hinv, by rw [← hp2]; exact hinv2⟩
  · simp only [List.length_cons] at hpl
    have hidx : (l)[pre.length]? = some s := by rw [← hp]; simp
    have hk1 := (hok.2.1 s (by rw [← hp]; simp)).1
    have hk2 := (hok.2.1 s (by rw [← hp]; simp)).2.1
    refine Ev.seq ?_
    refine Ev.sr fun K hK => S.o q.mv (S.o q.mv (S.o (q.lens am_el25) (S.o q.lss (S.end (hK _ ?_)))))
    clear hK K
    refine Ev.cd (fun c15 => ?_) (fun c15 => ?_)
    · first
    | (first | omega | contradiction)
    | refine Ev.skip ?_
      show Ev _ _ _ _
      refine Ev.seq ?_
      refine Ev.block ?_
      refine Ev.sm (tbs [(0, 0), (0, 0), (0, 0), (3, 6), (4, 14), (5, 30), (6, 63), (7, 127), (0, 0), (0, 0), (0, 0), (11, 1536), (12, 3584), (13, 7680), (14, 16255), (15, 32639), (15, 32767), (17, 131071)]) 17 fun K hK => M.o q.mv (M.o q.mv (M.o q.mv (M.o (q.ix am_el25 am_cl36 (hl := (by first | exact ati hidx (by omega) | exact atig (by omega)))) (M.o (q.fs 1 am_fi36_1 am_cl9) (M.o (q.ls am_ag9) (M.c0 (hF := rfind_fun _ _ (by omega)) (h := M.o q.geq (M.o q.mv (M.o q.mv (M.o q.mv (M.o (q.ix am_el25 am_cl36 (hl := (by first | exact ati hidx (by omega) | exact atig (by omega)))) (M.o (q.fs 1 am_fi36_1 am_cl9) (M.o (q.ls am_ag9) (M.c0 (hF := rfind_fun _ _ (by omega)) (h := M.o q.geq (M.o q.as (M.end [] (h := S.o q.as (S.end (hK _ ?_))))))))))))))))))))
      clear hK K
      refine Ev.sr fun K hK => S.o q.mv (S.o q.mv (S.o (q.ix am_el25 am_cl36 (hl := (by first | exact ati hidx (by omega) | exact atig (by omega)))) (S.o (q.fs 0 am_fi36_0 am_cl3) (S.o (q.ls am_ag3) (S.end (hK _ ?_))))))
      clear hK K
      refine Ev.block ?_
      refine Ev.seq ?_
      refine Ev.sr fun K hK => S.o q.eql (S.o q.as (S.end (hK _ ?_)))
      clear hK K
      refine Ev.cd (fun c16 => ?_) (fun c16 => ?_)
      · first
      | (first | omega | contradiction)
      | refine Ev.skip ?_
        show Ev _ _ _ _
        refine Ev.cd (fun _ => ?_) (fun c => absurd c16 c)
        refine Ev.sr fun K hK => S.o q.mv (S.o q.not (S.end (hK _ ?_)))
        clear hK K
        refine Ev.cn (fun c17 => ?_) (fun c17 => ?_)
        · first
        | (first | omega | contradiction)
        | refine Ev.sr fun K hK => S.o q.as (S.end (hK _ ?_))
          clear hK K
          refine Ev.ret ?_
          refine hR0 _ _ ?_
          refine Ev.ret1 ?_
          refine ⟨?_, rfl⟩
          first
           | exact bF (fun h => by have h1 := h.1 s (by rw [← hp]; simp); unfold fitC at h1; omega)
           | exact bF (fun h => h.2 s2 (by rw [← hp2]; simp) (chg_no (by omega)))
           | exact bT ⟨hinv, by rw [← hp2]; exact hinv2⟩
        · first
        | (first | omega | contradiction)
        | refine Ev.skip ?_
          show Ev _ _ _ _
          refine Ev.region_S fun K hK => S.o q.mv (S.o q.add (S.o q.as (S.end (hK _ ?_))))
          clear hK K
          refine hR0 _ _ ?_
          refine roundU [] [0, 1, 2] ⟨(pre ++ [s], suf), by rw [← hp]; simp, ?_⟩ ?_ keep_n (slots_c (he := (by first | rfl | (simp; done) | (congr 2; omega))) (h := trivial)) (.c (.c (.c .n)))
          intro x hx; simp only [List.mem_append, List.mem_singleton] at hx; rcases hx with hx | rfl
          · exact hinv x hx
          · unfold fitC; omega
          all_goals (dsimp only; simp only [List.length_cons]; omega)
      · first
      | (first | omega | contradiction)
      | refine Ev.region_S fun K hK => S.o q.eql (S.o q.as (S.end (hK _ ?_)))
        clear hK K
        show Ev _ _ _ _
        refine Ev.cd (fun c18 => ?_) (fun c18 => ?_)
        · first
        | (first | omega | contradiction)
        | refine Ev.sr fun K hK => S.o q.mv (S.o q.not (S.end (hK _ ?_)))
          clear hK K
          refine Ev.cn (fun c19 => ?_) (fun c19 => ?_)
          · first
          | (first | omega | contradiction)
          | refine Ev.sr fun K hK => S.o q.as (S.end (hK _ ?_))
            clear hK K
            refine Ev.ret ?_
            refine hR0 _ _ ?_
            refine Ev.ret1 ?_
            refine ⟨?_, rfl⟩
            first
             | exact bF (fun h => by have h1 := h.1 s (by rw [← hp]; simp); unfold fitC at h1; omega)
             | exact bF (fun h => h.2 s2 (by rw [← hp2]; simp) (chg_no (by omega)))
             | exact bT ⟨hinv, by rw [← hp2]; exact hinv2⟩
          · first
          | (first | omega | contradiction)
          | refine Ev.skip ?_
            show Ev _ _ _ _
            refine Ev.region_S fun K hK => S.o q.mv (S.o q.add (S.o q.as (S.end (hK _ ?_))))
            clear hK K
            refine hR0 _ _ ?_
            refine roundU [] [0, 1, 2] ⟨(pre ++ [s], suf), by rw [← hp]; simp, ?_⟩ ?_ keep_n (slots_c (he := (by first | rfl | (simp; done) | (congr 2; omega))) (h := trivial)) (.c (.c (.c .n)))
            intro x hx; simp only [List.mem_append, List.mem_singleton] at hx; rcases hx with hx | rfl
            · exact hinv x hx
            · unfold fitC; omega
            all_goals (dsimp only; simp only [List.length_cons]; omega)
        · first
        | (first | omega | contradiction)
        | refine Ev.sr fun K hK => S.o q.eql (S.o q.as (S.end (hK _ ?_)))
          clear hK K
          refine Ev.cd (fun c20 => ?_) (fun c20 => ?_)
          · first
          | (first | omega | contradiction)
          | refine Ev.sr fun K hK => S.o q.mv (S.o q.not (S.bn q.mv (fun c21 => ?_) (fun c21 => ?_)))
            · first
            | (first | omega | contradiction)
            | refine S.sk (S.sk (S.o q.pt (S.end (hK _ ?_))))
              clear hK K
              refine Ev.ct ?_
              refine Ev.sr fun K hK => S.o q.as (S.end (hK _ ?_))
              clear hK K
              refine Ev.ret ?_
              refine hR0 _ _ ?_
              refine Ev.ret1 ?_
              refine ⟨?_, rfl⟩
              first
               | exact bF (fun h => by have h1 := h.1 s (by rw [← hp]; simp); unfold fitC at h1; omega)
               | exact bF (fun h => h.2 s2 (by rw [← hp2]; simp) (chg_no (by omega)))
               | exact bT ⟨hinv, by rw [← hp2]; exact hinv2⟩
            · first
            | (first | omega | contradiction)
            | refine S.o q.mv (S.o q.not (S.o q.pf (S.end (hK _ ?_))))
              clear hK K
              refine Ev.cn (fun c22 => ?_) (fun c22 => ?_)
              · first
              | (first | omega | contradiction)
              | refine Ev.sr fun K hK => S.o q.as (S.end (hK _ ?_))
                clear hK K
                refine Ev.ret ?_
                refine hR0 _ _ ?_
                refine Ev.ret1 ?_
                refine ⟨?_, rfl⟩
                first
                 | exact bF (fun h => by have h1 := h.1 s (by rw [← hp]; simp); unfold fitC at h1; omega)
                 | exact bF (fun h => h.2 s2 (by rw [← hp2]; simp) (chg_no (by omega)))
                 | exact bT ⟨hinv, by rw [← hp2]; exact hinv2⟩
              · first
              | (first | omega | contradiction)
              | refine Ev.skip ?_
                show Ev _ _ _ _
                refine Ev.region_S fun K hK => S.o q.mv (S.o q.add (S.o q.as (S.end (hK _ ?_))))
                clear hK K
                refine hR0 _ _ ?_
                refine roundU [] [0, 1, 2] ⟨(pre ++ [s], suf), by rw [← hp]; simp, ?_⟩ ?_ keep_n (slots_c (he := (by first | rfl | (simp; done) | (congr 2; omega))) (h := trivial)) (.c (.c (.c .n)))
                intro x hx; simp only [List.mem_append, List.mem_singleton] at hx; rcases hx with hx | rfl
                · exact hinv x hx
                · unfold fitC; omega
                all_goals (dsimp only; simp only [List.length_cons]; omega)
          · first
          | (first | omega | contradiction)
          | refine Ev.sr fun K hK => S.o q.mv (S.bd q.mv (fun c23 => ?_) (fun c23 => ?_))
            · first
            | (first | omega | contradiction)
            | refine S.sk (S.sk (S.o q.pt (S.end (hK _ ?_))))
              clear hK K
              refine Ev.ct ?_
              refine Ev.sr fun K hK => S.o q.as (S.end (hK _ ?_))
              clear hK K
              refine Ev.ret ?_
              refine hR0 _ _ ?_
              refine Ev.ret1 ?_
              refine ⟨?_, rfl⟩
              first
               | exact bF (fun h => by have h1 := h.1 s (by rw [← hp]; simp); unfold fitC at h1; omega)
               | exact bF (fun h => h.2 s2 (by rw [← hp2]; simp) (chg_no (by omega)))
               | exact bT ⟨hinv, by rw [← hp2]; exact hinv2⟩
            · first
            | (first | omega | contradiction)
            | refine S.o q.mv (S.o q.not (S.o q.pf (S.end (hK _ ?_))))
              clear hK K
              refine Ev.cn (fun c24 => ?_) (fun c24 => ?_)
              · first
              | (first | omega | contradiction)
              | refine Ev.sr fun K hK => S.o q.as (S.end (hK _ ?_))
                clear hK K
                refine Ev.ret ?_
                refine hR0 _ _ ?_
                refine Ev.ret1 ?_
                refine ⟨?_, rfl⟩
                first
                 | exact bF (fun h => by have h1 := h.1 s (by rw [← hp]; simp); unfold fitC at h1; omega)
                 | exact bF (fun h => h.2 s2 (by rw [← hp2]; simp) (chg_no (by omega)))
                 | exact bT ⟨hinv, by rw [← hp2]; exact hinv2⟩
              · first
              | (first | omega | contradiction)
              | refine Ev.skip ?_
                show Ev _ _ _ _
                refine Ev.region_S fun K hK => S.o q.mv (S.o q.add (S.o q.as (S.end (hK _ ?_))))
                clear hK K
                refine hR0 _ _ ?_
                refine roundU [] [0, 1, 2] ⟨(pre ++ [s], suf), by rw [← hp]; simp, ?_⟩ ?_ keep_n (slots_c (he := (by first | rfl | (simp; done) | (congr 2; omega))) (h := trivial)) (.c (.c (.c .n)))
                intro x hx; simp only [List.mem_append, List.mem_singleton] at hx; rcases hx with hx | rfl
                · exact hinv x hx
                · unfold fitC; omega
                all_goals (dsimp only; simp only [List.length_cons]; omega)
    · first
    | (first | omega | contradiction)
    | refine Ev.exit ?_
      refine hR0 _ _ ?_
      show Ev _ _ _ _
      refine Ev.seq ?_
      refine Ev.sr fun K hK => S.o q.as (S.end (hK _ ?_))
      clear hK K
      refine Ev.block ?_
      refine Ev.loopU (ι := {q : List Bar × List Bar // q.1 ++ q.2 = a ∧ ∀ x ∈ q.1, ofK l x.mark ≠ 0}) [] [0, 1, 2, 7, 11, 12, 13, 14] (fun ⟨(pre2, suf2), _⟩ => [(10, .lit (.int .i64 ((pre2.length : Int))))]) (fun ⟨(pre2, suf2), _⟩ => []) (fun ⟨(pre2, suf2), _⟩ => suf2.length) ⟨([], a), rfl, fun x hx => by simp at hx⟩ (.c (.c (.c (.c (.c (.c (.c (.c .n)))))))) keep_n (slots_c (he := (by first | rfl | (simp; done) | (congr 2; omega))) (h := trivial)) ?_
      rintro ⟨⟨pre2, suf2⟩, hp2, hinv2⟩ R3 hR3
      dsimp only [List.cons_append, List.nil_append, List.length_cons, List.length_nil]
      simp only at hp2 hinv2
      have hpl2 : pre2.length + suf2.length = a.length := by rw [← hp2, List.length_append]
      rcases suf2 with _ | ⟨s2, suf2⟩
      · rw [List.append_nil] at hp2; simp only [List.length_nil] at hpl2
        refine Ev.seq ?_
        refine Ev.sr fun K hK => S.o q.mv (S.o q.mv (S.o (q.lens am_el22) (S.o q.lss (S.end (hK _ ?_)))))
        clear hK K
        refine Ev.cd (fun c25 => ?_) (fun c25 => ?_)
        · first
        | (first | omega | contradiction)
        | refine Ev.skip ?_
          show Ev _ _ _ _
          refine Ev.seq ?_
          refine Ev.block ?_
          refine Ev.sr fun K hK => S.o q.mv (S.o q.mv (S.o q.mv (S.o (q.ix am_el22 am_cl43 (hl := (by first | exact ati hidx (by omega) | exact atig (by omega)))) (S.o (q.fs 0 am_fi43_0 am_cl9) (S.o (q.ls am_ag9) (S.c0 (hF := rFind41_fun _ _ (by omega)) (h := S.o q.lss (S.end (hK _ ?_)))))))))
          clear hK K
          refine Ev.cd (fun c26 => ?_) (fun c26 => ?_)
          · first
          | (first | omega | contradiction)
          | refine Ev.sr fun K hK => S.o q.as (S.end (hK _ ?_))
            clear hK K
            refine Ev.ret ?_
            refine hR3 _ _ ?_
            refine Ev.ret1 ?_
            refine ⟨?_, rfl⟩
            first
             | exact bF (fun h => by have h1 := h.1 s (by rw [← hp]; simp); unfold fitC at h1; omega)
             | exact bF (fun h => h.2 s2 (by rw [← hp2]; simp) (chg_no (by omega)))
             | exact bT ⟨hinv, by rw [← hp2]; exact hinv2⟩
          · first
          | (first | omega | contradiction)
          | refine Ev.skip ?_
            show Ev _ _ _ _
            refine Ev.region_S fun K hK => S.o q.mv (S.o q.add (S.o q.as (S.end (hK _ ?_))))
            clear hK K
            refine hR3 _ _ ?_
            refine roundU [] [0, 1, 2, 7, 11, 12, 13, 14] ⟨(pre2 ++ [s2], suf2), by rw [← hp2]; simp, ?_⟩ ?_ keep_n (slots_c (he := (by first | rfl | (simp; done) | (congr 2; omega))) (h := trivial)) (.c (.c (.c (.c (.c (.c (.c (.c .n))))))))
            intro x hx; simp only [List.mem_append, List.mem_singleton] at hx; rcases hx with hx | rfl
            · exact hinv2 x hx
            · have h1 := (chg_of (mk := x.mark) hok.2.1 (by omega)).2.1; omega
            all_goals (dsimp only; simp only [List.length_cons]; omega)
        · first
        | (first | omega | contradiction)
        | refine Ev.exit ?_
          refine hR3 _ _ ?_
          show Ev _ _ _ _
          refine Ev.sr fun K hK => S.o q.as (S.end (hK _ ?_))
          clear hK K
          refine Ev.ret ?_
          refine Ev.ret1 ?_
          refine ⟨?_, rfl⟩
          first
           | exact bF (fun h => by have h1 := h.1 s (by rw [← hp]; simp); unfold fitC at h1; omega)
           | exact bF (fun h => h.2 s2 (by rw [← hp2]; simp) (chg_no (by omega)))
           | exact bT ⟨hinv, by rw [← hp2]; exact hinv2⟩
      · simp only [List.length_cons] at hpl2
        have hidx2 : a[pre2.length]? = some s2 := by rw [← hp2]; simp
        refine Ev.seq ?_
        refine Ev.sr fun K hK => S.o q.mv (S.o q.mv (S.o (q.lens am_el22) (S.o q.lss (S.end (hK _ ?_)))))
        clear hK K
        refine Ev.cd (fun c27 => ?_) (fun c27 => ?_)
        · first
        | (first | omega | contradiction)
        | refine Ev.skip ?_
          show Ev _ _ _ _
          refine Ev.seq ?_
          refine Ev.block ?_
          refine Ev.sr fun K hK => S.o q.mv (S.o q.mv (S.o q.mv (S.o (q.ix am_el22 am_cl43 (hl := (by first | exact ati hidx (by omega) | exact ati hidx2 (by omega) | exact atig (by omega)))) (S.o (q.fs 0 am_fi43_0 am_cl9) (S.o (q.ls am_ag9) (S.c0 (hF := rFind41_fun _ _ (by omega)) (h := S.o q.lss (S.end (hK _ ?_)))))))))
          clear hK K
          refine Ev.cd (fun c28 => ?_) (fun c28 => ?_)
          · first
          | (first | omega | contradiction)
          | refine Ev.sr fun K hK => S.o q.as (S.end (hK _ ?_))
            clear hK K
            refine Ev.ret ?_
            refine hR3 _ _ ?_
            refine Ev.ret1 ?_
            refine ⟨?_, rfl⟩
            first
             | exact bF (fun h => by have h1 := h.1 s (by rw [← hp]; simp); unfold fitC at h1; omega)
             | exact bF (fun h => h.2 s2 (by rw [← hp2]; simp) (chg_no (by omega)))
             | exact bT ⟨hinv, by rw [← hp2]; exact hinv2⟩
          · first
          | (first | omega | contradiction)
          | refine Ev.skip ?_
            show Ev _ _ _ _
            refine Ev.region_S fun K hK => S.o q.mv (S.o q.add (S.o q.as (S.end (hK _ ?_))))
            clear hK K
            refine hR3 _ _ ?_
            refine roundU [] [0, 1, 2, 7, 11, 12, 13, 14] ⟨(pre2 ++ [s2], suf2), by rw [← hp2]; simp, ?_⟩ ?_ keep_n (slots_c (he := (by first | rfl | (simp; done) | (congr 2; omega))) (h := trivial)) (.c (.c (.c (.c (.c (.c (.c (.c .n))))))))
            intro x hx; simp only [List.mem_append, List.mem_singleton] at hx; rcases hx with hx | rfl
            · exact hinv2 x hx
            · have h1 := (chg_of (mk := x.mark) hok.2.1 (by omega)).2.1; omega
            all_goals (dsimp only; simp only [List.length_cons]; omega)
        · first
        | (first | omega | contradiction)
        | refine Ev.exit ?_
          refine hR3 _ _ ?_
          show Ev _ _ _ _
          refine Ev.sr fun K hK => S.o q.as (S.end (hK _ ?_))
          clear hK K
          refine Ev.ret ?_
          refine Ev.ret1 ?_
          refine ⟨?_, rfl⟩
          first
           | exact bF (fun h => by have h1 := h.1 s (by rw [← hp]; simp); unfold fitC at h1; omega)
           | exact bF (fun h => h.2 s2 (by rw [← hp2]; simp) (chg_no (by omega)))
           | exact bT ⟨hinv, by rw [← hp2]; exact hinv2⟩

theorem barAt_memA {b : List Bar} {mk : List UInt8} {y : Bar} (h : barAt b mk = some y) : y ∈ b := List.mem_of_find?_eq_some h
theorem apply_mem {a b : List Bar} {l : List Chg} {x : Bar} (h : x ∈ applyP a b l) : x ∈ a ∨ x ∈ b := by
  simp only [applyP, List.mem_append, List.mem_flatMap] at h
  rcases h with ⟨y, hy, h⟩ | ⟨c, hc, h⟩
  · unfold keepP at h
    split at h
    · simp only [List.mem_singleton] at h; subst h; exact .inl hy
    · split at h
      · simp only [Option.mem_toList] at h; exact .inr (barAt_memA h)
      · simp at h
  · unfold newB at h
    split at h
    · simp only [Option.mem_toList] at h; exact .inr (barAt_memA h)
    · simp at h
theorem rApply_fun (a b : List Bar) (l : List Chg) (hyes : okApply a b l) : Fun Try.prog 27 [.sh 5 (a.map Bar.c), .sh 5 (b.map Bar.c), .sh 2 (l.map findC)] (Ret (.tup [.sh 5 ((appV a b l).map Bar.c), .lit (.int .i64 (appE a b l))]) []) := by
  have hal := hyes.1.1.1
  have hbl := hyes.1.2.1
  have hll := hyes.2.1
  have hokl := hyes.2
  have hbd : ∀ y, y ∈ a ∨ y ∈ b → y.dims.length ≤ 1000000 := fun y hy => by
    have h1 : okBar y := hy.elim (hyes.1.1.2.1 y) (hyes.1.2.2.1 y)
    have h1 := h1.2.2.2.2.2.1
    have h2 : dimsN y.code ≤ 5 := (by unfold dimsN; repeat' split <;> omega)
    omega
  refine Fun.of (nt := 87) (rs := [.tmp 6, .tmp 7]) Try.func27 rfl rfl rfl rfl rfl ?_
  refine Ev.sr fun K hK => S.o q.as (S.o q.as (S.end (hK _ ?_)))
  clear hK K
  refine Ev.seq ?_
  refine Ev.sr fun K hK => S.o q.mv (S.o q.mv (S.o q.mv (S.c0 (hF := rfits_fun _ _ _ (by omega) (by omega) (by assumption)) (h := S.o q.not (S.end (hK _ ?_))))))
  clear hK K
  refine Ev.cn (fun c1 => ?_) (fun c1 => ?_)
  · first
  | (first | omega | contradiction)
  | refine Ev.sr fun K hK => S.o q.as (S.o q.as (S.end (hK _ ?_)))
    clear hK K
    refine Ev.weaken (Wk.nsh Bar.c 6 5) ?_
    refine Ev.ret ?_
    refine Ev.ret2 ?_
    refine ⟨?_, rfl⟩
    first
     | (rw [show appV a b l = [] by rw [appV, if_pos hyes, if_neg ‹¬ fitsP a b l›], show appE a b l = 9 by rw [appE, if_pos hyes, if_neg ‹¬ fitsP a b l›]]; done)
     | (have hlen : ¬ (applyP a b l).length ≤ 60 := by rw [hfin]; omega
        rw [show appV a b l = [] by rw [appV, if_pos hyes, if_pos hf, if_neg hlen], show appE a b l = 4 by rw [appE, if_pos hyes, if_pos hf, if_neg hlen]]; done)
     | (have hlen : (applyP a b l).length ≤ 60 := by rw [hfin]; omega
        rw [show appV a b l = applyP a b l by rw [appV, if_pos hyes, if_pos hf, if_pos hlen], show appE a b l = 0 by rw [appE, if_pos hyes, if_pos hf, if_pos hlen], hfin]; done)
  · first
  | (first | omega | contradiction)
  | refine Ev.skip ?_
    show Ev _ _ _ _
    have hf : fitsP a b l := ‹_›
    refine Ev.sr fun K hK => S.o q.as (S.end (hK _ ?_))
    clear hK K
    refine Ev.seq ?_
    refine Ev.sr fun K hK => S.o q.as (S.end (hK _ ?_))
    clear hK K
    refine Ev.block ?_
    refine Ev.weaken (Wk.nown Bar.c 8 43 5) ?_
    refine Ev.loopU (ι := {p : List (Bar) × List (Bar) // p.1 ++ p.2 = a ∧ True}) [0] [0, 1, 2, 6, 7] (fun ⟨(pre, suf), _⟩ => [(9, .lit (.int .i64 ((pre.length : Int)))), (8, .als 0 0 (pre.flatMap (keepP b l)).length)]) (fun ⟨(pre, suf), _⟩ => [(0, ⟨true, 43, 5, (pre.flatMap (keepP b l)).map Bar.c, true⟩)]) (fun ⟨(pre, suf), _⟩ => suf.length) ⟨([], a), rfl, trivial⟩ (.c (.c (.c (.c (.c .n))))) (keep_c (he := (by first | rfl | (rw [flat_snoc, keep_1 ‹_›]) | (rw [flat_snoc, keep_2 ‹_› hy]) | (rw [flat_snoc, keep_0 ‹_› ‹_›, List.append_nil]))) (h := keep_n)) (slots_c (he := (by first | rfl | (congr 2; simp; done))) (h := (slots_c (he := (by first | rfl | (congr 1; rw [flat_snoc, keep_1 ‹_›]) | (congr 1; rw [flat_snoc, keep_2 ‹_› hy]) | (rw [flat_snoc, keep_0 ‹_› ‹_›, List.append_nil]))) (h := trivial)))) ?_
    rintro ⟨⟨pre, suf⟩, hp, hinv⟩ R0 hR0
    dsimp only [List.cons_append, List.nil_append, List.length_cons, List.length_nil]
    simp only at hp hinv
    have hpl : pre.length + suf.length = (a).length := by rw [← hp, List.length_append]
    rcases suf with _ | ⟨s, suf⟩
    · rw [List.append_nil] at hp; subst pre; simp only [List.length_nil] at hpl
      have hkl := flat_len (keepP b l) (keep_len b l) a
      refine Ev.seq ?_
      refine Ev.sr fun K hK => S.o q.mv (S.o q.mv (S.o (q.lens am_el22) (S.o q.lss (S.end (hK _ ?_)))))
      clear hK K
      refine Ev.cd (fun c2 => ?_) (fun c2 => ?_)
      · first
      | (first | omega | contradiction)
      | refine Ev.skip ?_
        show Ev _ _ _ _
        refine Ev.seq ?_
        refine Ev.block ?_
        refine Ev.sr fun K hK => S.o q.mv (S.o q.mv (S.o q.mv (S.o q.mv (S.o (q.ix am_el22 am_cl43 (hl := (by first | exact ati hyi (by omega) | exact atig (by omega)))) (S.o (q.fs 0 am_fi43_0 am_cl9) (S.o (q.ls am_ag9) (S.c0 (hF := rFind41_fun _ _ (by omega)) (h := S.o (q.ix am_el25 am_cl36 (hl := (by first | exact ati hyi (by omega) | exact atig (by omega)))) (S.o (q.fs 0 am_fi36_0 am_cl3) (S.o (q.ls am_ag3) (S.end (hK _ ?_))))))))))))
        clear hK K
        refine Ev.block ?_
        refine Ev.sr fun K hK => S.o q.eql (S.o q.as (S.end (hK _ ?_)))
        clear hK K
        refine Ev.cd (fun c3 => ?_) (fun c3 => ?_)
        · first
        | (first | omega | contradiction)
        | refine Ev.region_S fun K hK => S.o q.mv (S.o q.mv (S.o q.mv (S.o (q.ix am_el22 am_cl43 (hl := (by first | exact ati hyi (by omega) | exact atig (by omega)))) (S.o (q.lsA [_, _, _, _, _] am_ag43 am_cl43) (S.nn (q.bs [[_, _, _, _, _]] true am_el22 am_ze43 am_cl43) (S.ap' [_] am_el22 am_ze43 am_cl43 am_by43 (hh := head_own') (hr := (rows_lit [s])) (h := S.o q.as (S.end (hK _ ?_)))))))))
          clear hK K
          show Ev _ _ _ _
          refine Ev.region_S fun K hK => S.o q.mv (S.o q.add (S.o q.as (S.end (hK _ ?_))))
          clear hK K
          refine hR0 _ _ ?_
          refine roundU [2] [0, 1, 2, 6, 7] ⟨(pre ++ [s], suf), by rw [← hp]; simp, ?_⟩ ?_ (keep_c (he := (by first | rfl | (rw [flat_snoc, keep_1 ‹_›]) | (rw [flat_snoc, keep_2 ‹_› hy]) | (rw [flat_snoc, keep_0 ‹_› ‹_›, List.append_nil]))) (h := keep_n)) (slots_c (he := (by first | rfl | (congr 2; simp; done))) (h := (slots_c (he := (by first | rfl | (congr 1; rw [flat_snoc, keep_1 ‹_›]) | (congr 1; rw [flat_snoc, keep_2 ‹_› hy]) | (rw [flat_snoc, keep_0 ‹_› ‹_›, List.append_nil]))) (h := trivial)))) (.c (.c (.c (.c (.c .n)))))
          trivial
          all_goals (dsimp only; simp only [List.length_cons]; omega)
        · first
        | (first | omega | contradiction)
        | refine Ev.sr fun K hK => S.o q.eql (S.o q.as (S.end (hK _ ?_)))
          clear hK K
          refine Ev.cd (fun c4 => ?_) (fun c4 => ?_)
          · first
          | (first | omega | contradiction)
          | have hfit : 0 ≤ markI a s.mark ∧ 0 ≤ markI b s.mark := (hf.1 _ (ofK_mem (mk := s.mark) (by omega))).2.1 (by assumption)
            obtain ⟨hfit1, hfit2⟩ := hfit
            obtain ⟨y, hy, hyi, hym, hyk⟩ := barAt_some hfit2
            refine Ev.region_S fun K hK => S.o q.mv (S.o q.mv (S.o q.mv (S.o q.mv (S.o q.mv (S.o (q.ix am_el22 am_cl43 (hl := (by first | exact ati hyi (by omega) | exact atig (by omega)))) (S.o (q.fs 0 am_fi43_0 am_cl9) (S.o (q.ls am_ag9) (S.c0 (hF := rfind_fun _ _ (by omega)) (h := S.o (q.ix am_el22 am_cl43 (hl := (by first | exact ati hyi (by omega) | exact atig (by omega)))) (S.o (q.lsA [_, _, _, _, _] am_ag43 am_cl43) (S.nn (q.bs [[_, _, _, _, _]] true am_el22 am_ze43 am_cl43) (S.ap' [_] am_el22 am_ze43 am_cl43 am_by43 (hh := head_own') (hr := (rows_lit [y])) (h := S.o q.as (S.end (hK _ ?_)))))))))))))))
            clear hK K
            show Ev _ _ _ _
            refine Ev.region_S fun K hK => S.o q.mv (S.o q.add (S.o q.as (S.end (hK _ ?_))))
            clear hK K
            refine hR0 _ _ ?_
            refine roundU [2] [0, 1, 2, 6, 7] ⟨(pre ++ [s], suf), by rw [← hp]; simp, ?_⟩ ?_ (keep_c (he := (by first | rfl | (rw [flat_snoc, keep_1 ‹_›]) | (rw [flat_snoc, keep_2 ‹_› hy]) | (rw [flat_snoc, keep_0 ‹_› ‹_›, List.append_nil]))) (h := keep_n)) (slots_c (he := (by first | rfl | (congr 2; simp; done))) (h := (slots_c (he := (by first | rfl | (congr 1; rw [flat_snoc, keep_1 ‹_›]) | (congr 1; rw [flat_snoc, keep_2 ‹_› hy]) | (rw [flat_snoc, keep_0 ‹_› ‹_›, List.append_nil]))) (h := trivial)))) (.c (.c (.c (.c (.c .n)))))
            trivial
            all_goals (dsimp only; simp only [List.length_cons]; omega)
          · first
          | (first | omega | contradiction)
          | refine Ev.skip ?_
            show Ev _ _ _ _
            refine Ev.region_S fun K hK => S.o q.mv (S.o q.add (S.o q.as (S.end (hK _ ?_))))
            clear hK K
            refine hR0 _ _ ?_
            refine roundU [0] [0, 1, 2, 6, 7] ⟨(pre ++ [s], suf), by rw [← hp]; simp, ?_⟩ ?_ (keep_c (he := (by first | rfl | (rw [flat_snoc, keep_1 ‹_›]) | (rw [flat_snoc, keep_2 ‹_› hy]) | (rw [flat_snoc, keep_0 ‹_› ‹_›, List.append_nil]))) (h := keep_n)) (slots_c (he := (by first | rfl | (congr 2; simp; done))) (h := (slots_c (he := (by first | rfl | (congr 1; rw [flat_snoc, keep_1 ‹_›]) | (congr 1; rw [flat_snoc, keep_2 ‹_› hy]) | (rw [flat_snoc, keep_0 ‹_› ‹_›, List.append_nil]))) (h := trivial)))) (.c (.c (.c (.c (.c .n)))))
            trivial
            all_goals (dsimp only; simp only [List.length_cons]; omega)
      · first
      | (first | omega | contradiction)
      | refine Ev.exit ?_
        refine hR0 _ _ ?_
        show Ev _ _ _ _
        refine Ev.seq ?_
        refine Ev.sr fun K hK => S.o q.as (S.end (hK _ ?_))
        clear hK K
        refine Ev.block ?_
        refine Ev.loopU (ι := {q : List Chg × List Chg // q.1 ++ q.2 = l}) [0] [0, 1, 2, 6, 7, 9, 16, 17, 18, 19] (fun ⟨(pre2, suf2), _⟩ => [(10, .lit (.int .i64 ((pre2.length : Int)))), (8, .als 0 0 (a.flatMap (keepP b l) ++ pre2.flatMap (newB b)).length)]) (fun ⟨(pre2, suf2), _⟩ => [(0, ⟨true, 43, 5, (a.flatMap (keepP b l) ++ pre2.flatMap (newB b)).map Bar.c, true⟩)]) (fun ⟨(pre2, suf2), _⟩ => suf2.length) ⟨([], l), rfl⟩ (.c (.c (.c (.c (.c (.c (.c (.c (.c (.c .n)))))))))) (keep_c (he := (by first | rfl | (simp; done) | (rw [flat_snoc, new_3 ‹_› hy, List.append_assoc]) | (rw [flat_snoc, new_0 ‹_›, List.append_nil]))) (h := keep_n)) (slots_c (he := (by first | rfl | (congr 2; simp; done))) (h := (slots_c (he := (by first | rfl | (congr 1; simp; done) | (congr 1; rw [flat_snoc, new_3 ‹_› hy, List.append_assoc]) | (rw [flat_snoc, new_0 ‹_›, List.append_nil]))) (h := trivial)))) ?_
        rintro ⟨⟨pre2, suf2⟩, hp2⟩ R3 hR3
        dsimp only [List.cons_append, List.nil_append, List.length_cons, List.length_nil]
        simp only at hp2
        have hpl2 : pre2.length + suf2.length = l.length := by rw [← hp2, List.length_append]
        have hnl := flat_len (newB b) (new_len b) pre2
        rcases suf2 with _ | ⟨s, suf2⟩
        · rw [List.append_nil] at hp2; simp only [List.length_nil] at hpl2
          have hfin : applyP a b l = a.flatMap (keepP b l) ++ pre2.flatMap (newB b) := by rw [hp2]; rfl
          refine Ev.seq ?_
          refine Ev.sr fun K hK => S.o q.mv (S.o q.mv (S.o (q.lens am_el25) (S.o q.lss (S.end (hK _ ?_)))))
          clear hK K
          refine Ev.cd (fun c5 => ?_) (fun c5 => ?_)
          · first
          | (first | omega | contradiction)
          | refine Ev.skip ?_
            show Ev _ _ _ _
            refine Ev.seq ?_
            refine Ev.block ?_
            refine Ev.sr fun K hK => S.o q.mv (S.o q.mv (S.o (q.ix am_el25 am_cl36 (hl := (by first | exact ati hyi (by omega) | exact atig (by omega)))) (S.o (q.fs 0 am_fi36_0 am_cl3) (S.o (q.ls am_ag3) (S.o q.eql (S.end (hK _ ?_)))))))
            clear hK K
            refine Ev.cd (fun c6 => ?_) (fun c6 => ?_)
            · first
            | (first | omega | contradiction)
            | have hfit : markI a s.2 < 0 ∧ 0 ≤ markI b s.2 := (hf.1 s (by rw [← hp2]; simp)).2.2 (by assumption)
              obtain ⟨hfit1, hfit2⟩ := hfit
              obtain ⟨y, hy, hyi, hym, hyk⟩ := barAt_some hfit2
              refine Ev.region_S fun K hK => S.o q.mv (S.o q.mv (S.o q.mv (S.o q.mv (S.o q.mv (S.o (q.ix am_el25 am_cl36 (hl := (by first | exact ati hyi (by omega) | exact atig (by omega)))) (S.o (q.fs 1 am_fi36_1 am_cl9) (S.o (q.ls am_ag9) (S.c0 (hF := rfind_fun _ _ (by omega)) (h := S.o (q.ix am_el22 am_cl43 (hl := (by first | exact ati hyi (by omega) | exact atig (by omega)))) (S.o (q.lsA [_, _, _, _, _] am_ag43 am_cl43) (S.nn (q.bs [[_, _, _, _, _]] true am_el22 am_ze43 am_cl43) (S.ap' [_] am_el22 am_ze43 am_cl43 am_by43 (hh := head_own') (hr := (rows_lit [y])) (h := S.o q.as (S.end (hK _ ?_)))))))))))))))
              clear hK K
              show Ev _ _ _ _
              refine Ev.region_S fun K hK => S.o q.mv (S.o q.add (S.o q.as (S.end (hK _ ?_))))
              clear hK K
              refine hR3 _ _ ?_
              refine roundU [2] [0, 1, 2, 6, 7, 9, 16, 17, 18, 19] ⟨(pre2 ++ [s], suf2), by rw [← hp2]; simp⟩ ?_ (keep_c (he := (by first | rfl | (simp; done) | (rw [flat_snoc, new_3 ‹_› hy, List.append_assoc]) | (rw [flat_snoc, new_0 ‹_›, List.append_nil]))) (h := keep_n)) (slots_c (he := (by first | rfl | (congr 2; simp; done))) (h := (slots_c (he := (by first | rfl | (congr 1; simp; done) | (congr 1; rw [flat_snoc, new_3 ‹_› hy, List.append_assoc]) | (rw [flat_snoc, new_0 ‹_›, List.append_nil]))) (h := trivial)))) (.c (.c (.c (.c (.c (.c (.c (.c (.c (.c .n))))))))))
              skip
              all_goals (dsimp only; simp only [List.length_cons]; omega)
            · first
            | (first | omega | contradiction)
            | refine Ev.skip ?_
              show Ev _ _ _ _
              refine Ev.region_S fun K hK => S.o q.mv (S.o q.add (S.o q.as (S.end (hK _ ?_))))
              clear hK K
              refine hR3 _ _ ?_
              refine roundU [0] [0, 1, 2, 6, 7, 9, 16, 17, 18, 19] ⟨(pre2 ++ [s], suf2), by rw [← hp2]; simp⟩ ?_ (keep_c (he := (by first | rfl | (simp; done) | (rw [flat_snoc, new_3 ‹_› hy, List.append_assoc]) | (rw [flat_snoc, new_0 ‹_›, List.append_nil]))) (h := keep_n)) (slots_c (he := (by first | rfl | (congr 2; simp; done))) (h := (slots_c (he := (by first | rfl | (congr 1; simp; done) | (congr 1; rw [flat_snoc, new_3 ‹_› hy, List.append_assoc]) | (rw [flat_snoc, new_0 ‹_›, List.append_nil]))) (h := trivial)))) (.c (.c (.c (.c (.c (.c (.c (.c (.c (.c .n))))))))))
              skip
              all_goals (dsimp only; simp only [List.length_cons]; omega)
          · first
          | (first | omega | contradiction)
          | refine Ev.exit ?_
            refine hR3 _ _ ?_
            show Ev _ _ _ _
            refine Ev.seq ?_
            refine Ev.sr fun K hK => S.o q.mv (S.o (q.lena am_el22) (S.o q.gtr (S.end (hK _ ?_))))
            clear hK K
            refine Ev.cd (fun c7 => ?_) (fun c7 => ?_)
            · first
            | (first | omega | contradiction)
            | refine Ev.sr fun K hK => S.o q.as (S.o q.as (S.end (hK _ ?_)))
              clear hK K
              refine Ev.weaken (Wk.nsh Bar.c 6 5) ?_
              refine Ev.ret ?_
              refine Ev.ret2 ?_
              refine ⟨?_, rfl⟩
              first
               | (rw [show appV a b l = [] by rw [appV, if_pos hyes, if_neg ‹¬ fitsP a b l›], show appE a b l = 9 by rw [appE, if_pos hyes, if_neg ‹¬ fitsP a b l›]]; done)
               | (have hlen : ¬ (applyP a b l).length ≤ 60 := by rw [hfin]; omega
                  rw [show appV a b l = [] by rw [appV, if_pos hyes, if_pos hf, if_neg hlen], show appE a b l = 4 by rw [appE, if_pos hyes, if_pos hf, if_neg hlen]]; done)
               | (have hlen : (applyP a b l).length ≤ 60 := by rw [hfin]; omega
                  rw [show appV a b l = applyP a b l by rw [appV, if_pos hyes, if_pos hf, if_pos hlen], show appE a b l = 0 by rw [appE, if_pos hyes, if_pos hf, if_pos hlen], hfin]; done)
            · first
            | (first | omega | contradiction)
            | refine Ev.skip ?_
              show Ev _ _ _ _
              refine Ev.weaken (Wk.frz 8 []) ?_
              have hcd : ∀ x ∈ a.flatMap (keepP b l) ++ pre2.flatMap (newB b), x.dims.length ≤ 1000000 := fun x hx => hbd x (apply_mem (by rw [hfin]; exact hx))
              refine Ev.sr fun K hK => S.o q.mv (S.c0 (hF := copy14_fun _ (by omega) (by assumption)) (h := S.o q.as (S.o q.as (S.end (hK _ ?_)))))
              clear hK K
              refine Ev.ret ?_
              refine Ev.ret2 ?_
              refine ⟨?_, rfl⟩
              first
               | (rw [show appV a b l = [] by rw [appV, if_pos hyes, if_neg ‹¬ fitsP a b l›], show appE a b l = 9 by rw [appE, if_pos hyes, if_neg ‹¬ fitsP a b l›]]; done)
               | (have hlen : ¬ (applyP a b l).length ≤ 60 := by rw [hfin]; omega
                  rw [show appV a b l = [] by rw [appV, if_pos hyes, if_pos hf, if_neg hlen], show appE a b l = 4 by rw [appE, if_pos hyes, if_pos hf, if_neg hlen]]; done)
               | (have hlen : (applyP a b l).length ≤ 60 := by rw [hfin]; omega
                  rw [show appV a b l = applyP a b l by rw [appV, if_pos hyes, if_pos hf, if_pos hlen], show appE a b l = 0 by rw [appE, if_pos hyes, if_pos hf, if_pos hlen], hfin]; done)
        · simp only [List.length_cons] at hpl2
          have hidx2 : l[pre2.length]? = some s := by rw [← hp2]; simp
          refine Ev.seq ?_
          refine Ev.sr fun K hK => S.o q.mv (S.o q.mv (S.o (q.lens am_el25) (S.o q.lss (S.end (hK _ ?_)))))
          clear hK K
          refine Ev.cd (fun c8 => ?_) (fun c8 => ?_)
          · first
          | (first | omega | contradiction)
          | refine Ev.skip ?_
            show Ev _ _ _ _
            refine Ev.seq ?_
            refine Ev.block ?_
            refine Ev.sr fun K hK => S.o q.mv (S.o q.mv (S.o (q.ix am_el25 am_cl36 (hl := (by first | exact ati hyi (by omega) | exact ati hidx2 (by omega) | exact atig (by omega)))) (S.o (q.fs 0 am_fi36_0 am_cl3) (S.o (q.ls am_ag3) (S.o q.eql (S.end (hK _ ?_)))))))
            clear hK K
            refine Ev.cd (fun c9 => ?_) (fun c9 => ?_)
            · first
            | (first | omega | contradiction)
            | have hfit : markI a s.2 < 0 ∧ 0 ≤ markI b s.2 := (hf.1 s (by rw [← hp2]; simp)).2.2 (by assumption)
              obtain ⟨hfit1, hfit2⟩ := hfit
              obtain ⟨y, hy, hyi, hym, hyk⟩ := barAt_some hfit2
              refine Ev.region_S fun K hK => S.o q.mv (S.o q.mv (S.o q.mv (S.o q.mv (S.o q.mv (S.o (q.ix am_el25 am_cl36 (hl := (by first | exact ati hyi (by omega) | exact ati hidx2 (by omega) | exact atig (by omega)))) (S.o (q.fs 1 am_fi36_1 am_cl9) (S.o (q.ls am_ag9) (S.c0 (hF := rfind_fun _ _ (by omega)) (h := S.o (q.ix am_el22 am_cl43 (hl := (by first | exact ati hyi (by omega) | exact ati hidx2 (by omega) | exact atig (by omega)))) (S.o (q.lsA [_, _, _, _, _] am_ag43 am_cl43) (S.nn (q.bs [[_, _, _, _, _]] true am_el22 am_ze43 am_cl43) (S.ap' [_] am_el22 am_ze43 am_cl43 am_by43 (hh := head_own') (hr := (rows_lit [y])) (h := S.o q.as (S.end (hK _ ?_)))))))))))))))
              clear hK K
              show Ev _ _ _ _
              refine Ev.region_S fun K hK => S.o q.mv (S.o q.add (S.o q.as (S.end (hK _ ?_))))
              clear hK K
              refine hR3 _ _ ?_
              refine roundU [2] [0, 1, 2, 6, 7, 9, 16, 17, 18, 19] ⟨(pre2 ++ [s], suf2), by rw [← hp2]; simp⟩ ?_ (keep_c (he := (by first | rfl | (simp; done) | (rw [flat_snoc, new_3 ‹_› hy, List.append_assoc]) | (rw [flat_snoc, new_0 ‹_›, List.append_nil]))) (h := keep_n)) (slots_c (he := (by first | rfl | (congr 2; simp; done))) (h := (slots_c (he := (by first | rfl | (congr 1; simp; done) | (congr 1; rw [flat_snoc, new_3 ‹_› hy, List.append_assoc]) | (rw [flat_snoc, new_0 ‹_›, List.append_nil]))) (h := trivial)))) (.c (.c (.c (.c (.c (.c (.c (.c (.c (.c .n))))))))))
              skip
              all_goals (dsimp only; simp only [List.length_cons]; omega)
            · first
            | (first | omega | contradiction)
            | refine Ev.skip ?_
              show Ev _ _ _ _
              refine Ev.region_S fun K hK => S.o q.mv (S.o q.add (S.o q.as (S.end (hK _ ?_))))
              clear hK K
              refine hR3 _ _ ?_
              refine roundU [0] [0, 1, 2, 6, 7, 9, 16, 17, 18, 19] ⟨(pre2 ++ [s], suf2), by rw [← hp2]; simp⟩ ?_ (keep_c (he := (by first | rfl | (simp; done) | (rw [flat_snoc, new_3 ‹_› hy, List.append_assoc]) | (rw [flat_snoc, new_0 ‹_›, List.append_nil]))) (h := keep_n)) (slots_c (he := (by first | rfl | (congr 2; simp; done))) (h := (slots_c (he := (by first | rfl | (congr 1; simp; done) | (congr 1; rw [flat_snoc, new_3 ‹_› hy, List.append_assoc]) | (rw [flat_snoc, new_0 ‹_›, List.append_nil]))) (h := trivial)))) (.c (.c (.c (.c (.c (.c (.c (.c (.c (.c .n))))))))))
              skip
              all_goals (dsimp only; simp only [List.length_cons]; omega)
          · first
          | (first | omega | contradiction)
          | refine Ev.exit ?_
            refine hR3 _ _ ?_
            show Ev _ _ _ _
            refine Ev.seq ?_
            refine Ev.sr fun K hK => S.o q.mv (S.o (q.lena am_el22) (S.o q.gtr (S.end (hK _ ?_))))
            clear hK K
            refine Ev.cd (fun c10 => ?_) (fun c10 => ?_)
            · first
            | (first | omega | contradiction)
            | refine Ev.sr fun K hK => S.o q.as (S.o q.as (S.end (hK _ ?_)))
              clear hK K
              refine Ev.weaken (Wk.nsh Bar.c 6 5) ?_
              refine Ev.ret ?_
              refine Ev.ret2 ?_
              refine ⟨?_, rfl⟩
              first
               | (rw [show appV a b l = [] by rw [appV, if_pos hyes, if_neg ‹¬ fitsP a b l›], show appE a b l = 9 by rw [appE, if_pos hyes, if_neg ‹¬ fitsP a b l›]]; done)
               | (have hlen : ¬ (applyP a b l).length ≤ 60 := by rw [hfin]; omega
                  rw [show appV a b l = [] by rw [appV, if_pos hyes, if_pos hf, if_neg hlen], show appE a b l = 4 by rw [appE, if_pos hyes, if_pos hf, if_neg hlen]]; done)
               | (have hlen : (applyP a b l).length ≤ 60 := by rw [hfin]; omega
                  rw [show appV a b l = applyP a b l by rw [appV, if_pos hyes, if_pos hf, if_pos hlen], show appE a b l = 0 by rw [appE, if_pos hyes, if_pos hf, if_pos hlen], hfin]; done)
            · first
            | (first | omega | contradiction)
            | refine Ev.skip ?_
              show Ev _ _ _ _
              refine Ev.weaken (Wk.frz 8 []) ?_
              have hcd : ∀ x ∈ a.flatMap (keepP b l) ++ pre2.flatMap (newB b), x.dims.length ≤ 1000000 := fun x hx => hbd x (apply_mem (by rw [hfin]; exact hx))
              refine Ev.sr fun K hK => S.o q.mv (S.c0 (hF := copy14_fun _ (by omega) (by assumption)) (h := S.o q.as (S.o q.as (S.end (hK _ ?_)))))
              clear hK K
              refine Ev.ret ?_
              refine Ev.ret2 ?_
              refine ⟨?_, rfl⟩
              first
               | (rw [show appV a b l = [] by rw [appV, if_pos hyes, if_neg ‹¬ fitsP a b l›], show appE a b l = 9 by rw [appE, if_pos hyes, if_neg ‹¬ fitsP a b l›]]; done)
               | (have hlen : ¬ (applyP a b l).length ≤ 60 := by rw [hfin]; omega
                  rw [show appV a b l = [] by rw [appV, if_pos hyes, if_pos hf, if_neg hlen], show appE a b l = 4 by rw [appE, if_pos hyes, if_pos hf, if_neg hlen]]; done)
               | (have hlen : (applyP a b l).length ≤ 60 := by rw [hfin]; omega
                  rw [show appV a b l = applyP a b l by rw [appV, if_pos hyes, if_pos hf, if_pos hlen], show appE a b l = 0 by rw [appE, if_pos hyes, if_pos hf, if_pos hlen], hfin]; done)
    · simp only [List.length_cons] at hpl
      have hidx : (a)[pre.length]? = some s := by rw [← hp]; simp
      have hkl := flat_len (keepP b l) (keep_len b l) pre
      have hin := chg_in (hf.2 s (by rw [← hp]; simp))
      obtain ⟨hci, hc1, hc2⟩ := chg_of hokl.2.1 hin
      refine Ev.seq ?_
      refine Ev.sr fun K hK => S.o q.mv (S.o q.mv (S.o (q.lens am_el22) (S.o q.lss (S.end (hK _ ?_)))))
      clear hK K
      refine Ev.cd (fun c11 => ?_) (fun c11 => ?_)
      · first
      | (first | omega | contradiction)
      | refine Ev.skip ?_
        show Ev _ _ _ _
        refine Ev.seq ?_
        refine Ev.block ?_
        refine Ev.sr fun K hK => S.o q.mv (S.o q.mv (S.o q.mv (S.o q.mv (S.o (q.ix am_el22 am_cl43 (hl := (by first | exact ati hyi (by omega) | exact ati hidx (by omega) | exact ati hci (by omega) | exact atig (by omega)))) (S.o (q.fs 0 am_fi43_0 am_cl9) (S.o (q.ls am_ag9) (S.c0 (hF := rFind41_fun _ _ (by omega)) (h := S.o (q.ix am_el25 am_cl36 (hl := (by first | exact ati hyi (by omega) | exact ati hidx (by omega) | exact ati hci (by omega) | exact atig (by omega)))) (S.o (q.fs 0 am_fi36_0 am_cl3) (S.o (q.ls am_ag3) (S.end (hK _ ?_))))))))))))
        clear hK K
        refine Ev.block ?_
        refine Ev.sr fun K hK => S.o q.eql (S.o q.as (S.end (hK _ ?_)))
        clear hK K
        refine Ev.cd (fun c12 => ?_) (fun c12 => ?_)
        · first
        | (first | omega | contradiction)
        | refine Ev.region_S fun K hK => S.o q.mv (S.o q.mv (S.o q.mv (S.o (q.ix am_el22 am_cl43 (hl := (by first | exact ati hyi (by omega) | exact ati hidx (by omega) | exact ati hci (by omega) | exact atig (by omega)))) (S.o (q.lsA [_, _, _, _, _] am_ag43 am_cl43) (S.nn (q.bs [[_, _, _, _, _]] true am_el22 am_ze43 am_cl43) (S.ap' [_] am_el22 am_ze43 am_cl43 am_by43 (hh := head_own') (hr := (rows_lit [s])) (h := S.o q.as (S.end (hK _ ?_)))))))))
          clear hK K
          show Ev _ _ _ _
          refine Ev.region_S fun K hK => S.o q.mv (S.o q.add (S.o q.as (S.end (hK _ ?_))))
          clear hK K
          refine hR0 _ _ ?_
          refine roundU [2] [0, 1, 2, 6, 7] ⟨(pre ++ [s], suf), by rw [← hp]; simp, ?_⟩ ?_ (keep_c (he := (by first | rfl | (rw [flat_snoc, keep_1 ‹_›]) | (rw [flat_snoc, keep_2 ‹_› hy]) | (rw [flat_snoc, keep_0 ‹_› ‹_›, List.append_nil]))) (h := keep_n)) (slots_c (he := (by first | rfl | (congr 2; simp; done))) (h := (slots_c (he := (by first | rfl | (congr 1; rw [flat_snoc, keep_1 ‹_›]) | (congr 1; rw [flat_snoc, keep_2 ‹_› hy]) | (rw [flat_snoc, keep_0 ‹_› ‹_›, List.append_nil]))) (h := trivial)))) (.c (.c (.c (.c (.c .n)))))
          trivial
          all_goals (dsimp only; simp only [List.length_cons]; omega)
        · first
        | (first | omega | contradiction)
        | refine Ev.sr fun K hK => S.o q.eql (S.o q.as (S.end (hK _ ?_)))
          clear hK K
          refine Ev.cd (fun c13 => ?_) (fun c13 => ?_)
          · first
          | (first | omega | contradiction)
          | have hfit : 0 ≤ markI a s.mark ∧ 0 ≤ markI b s.mark := (hf.1 _ (ofK_mem (mk := s.mark) (by omega))).2.1 (by assumption)
            obtain ⟨hfit1, hfit2⟩ := hfit
            obtain ⟨y, hy, hyi, hym, hyk⟩ := barAt_some hfit2
            refine Ev.region_S fun K hK => S.o q.mv (S.o q.mv (S.o q.mv (S.o q.mv (S.o q.mv (S.o (q.ix am_el22 am_cl43 (hl := (by first | exact ati hyi (by omega) | exact ati hidx (by omega) | exact ati hci (by omega) | exact atig (by omega)))) (S.o (q.fs 0 am_fi43_0 am_cl9) (S.o (q.ls am_ag9) (S.c0 (hF := rfind_fun _ _ (by omega)) (h := S.o (q.ix am_el22 am_cl43 (hl := (by first | exact ati hyi (by omega) | exact ati hidx (by omega) | exact ati hci (by omega) | exact atig (by omega)))) (S.o (q.lsA [_, _, _, _, _] am_ag43 am_cl43) (S.nn (q.bs [[_, _, _, _, _]] true am_el22 am_ze43 am_cl43) (S.ap' [_] am_el22 am_ze43 am_cl43 am_by43 (hh := head_own') (hr := (rows_lit [y])) (h := S.o q.as (S.end (hK _ ?_)))))))))))))))
            clear hK K
            show Ev _ _ _ _
            refine Ev.region_S fun K hK => S.o q.mv (S.o q.add (S.o q.as (S.end (hK _ ?_))))
            clear hK K
            refine hR0 _ _ ?_
            refine roundU [2] [0, 1, 2, 6, 7] ⟨(pre ++ [s], suf), by rw [← hp]; simp, ?_⟩ ?_ (keep_c (he := (by first | rfl | (rw [flat_snoc, keep_1 ‹_›]) | (rw [flat_snoc, keep_2 ‹_› hy]) | (rw [flat_snoc, keep_0 ‹_› ‹_›, List.append_nil]))) (h := keep_n)) (slots_c (he := (by first | rfl | (congr 2; simp; done))) (h := (slots_c (he := (by first | rfl | (congr 1; rw [flat_snoc, keep_1 ‹_›]) | (congr 1; rw [flat_snoc, keep_2 ‹_› hy]) | (rw [flat_snoc, keep_0 ‹_› ‹_›, List.append_nil]))) (h := trivial)))) (.c (.c (.c (.c (.c .n)))))
            trivial
            all_goals (dsimp only; simp only [List.length_cons]; omega)
          · first
          | (first | omega | contradiction)
          | refine Ev.skip ?_
            show Ev _ _ _ _
            refine Ev.region_S fun K hK => S.o q.mv (S.o q.add (S.o q.as (S.end (hK _ ?_))))
            clear hK K
            refine hR0 _ _ ?_
            refine roundU [0] [0, 1, 2, 6, 7] ⟨(pre ++ [s], suf), by rw [← hp]; simp, ?_⟩ ?_ (keep_c (he := (by first | rfl | (rw [flat_snoc, keep_1 ‹_›]) | (rw [flat_snoc, keep_2 ‹_› hy]) | (rw [flat_snoc, keep_0 ‹_› ‹_›, List.append_nil]))) (h := keep_n)) (slots_c (he := (by first | rfl | (congr 2; simp; done))) (h := (slots_c (he := (by first | rfl | (congr 1; rw [flat_snoc, keep_1 ‹_›]) | (congr 1; rw [flat_snoc, keep_2 ‹_› hy]) | (rw [flat_snoc, keep_0 ‹_› ‹_›, List.append_nil]))) (h := trivial)))) (.c (.c (.c (.c (.c .n)))))
            trivial
            all_goals (dsimp only; simp only [List.length_cons]; omega)
      · first
      | (first | omega | contradiction)
      | refine Ev.exit ?_
        refine hR0 _ _ ?_
        show Ev _ _ _ _
        refine Ev.seq ?_
        refine Ev.sr fun K hK => S.o q.as (S.end (hK _ ?_))
        clear hK K
        refine Ev.block ?_
        refine Ev.loopU (ι := {q : List Chg × List Chg // q.1 ++ q.2 = l}) [0] [0, 1, 2, 6, 7, 9, 16, 17, 18, 19] (fun ⟨(pre2, suf2), _⟩ => [(10, .lit (.int .i64 ((pre2.length : Int)))), (8, .als 0 0 (a.flatMap (keepP b l) ++ pre2.flatMap (newB b)).length)]) (fun ⟨(pre2, suf2), _⟩ => [(0, ⟨true, 43, 5, (a.flatMap (keepP b l) ++ pre2.flatMap (newB b)).map Bar.c, true⟩)]) (fun ⟨(pre2, suf2), _⟩ => suf2.length) ⟨([], l), rfl⟩ (.c (.c (.c (.c (.c (.c (.c (.c (.c (.c .n)))))))))) (keep_c (he := (by first | rfl | (simp; done) | (rw [flat_snoc, new_3 ‹_› hy, List.append_assoc]) | (rw [flat_snoc, new_0 ‹_›, List.append_nil]))) (h := keep_n)) (slots_c (he := (by first | rfl | (congr 2; simp; done))) (h := (slots_c (he := (by first | rfl | (congr 1; simp; done) | (congr 1; rw [flat_snoc, new_3 ‹_› hy, List.append_assoc]) | (rw [flat_snoc, new_0 ‹_›, List.append_nil]))) (h := trivial)))) ?_
        rintro ⟨⟨pre2, suf2⟩, hp2⟩ R3 hR3
        dsimp only [List.cons_append, List.nil_append, List.length_cons, List.length_nil]
        simp only at hp2
        have hpl2 : pre2.length + suf2.length = l.length := by rw [← hp2, List.length_append]
        have hnl := flat_len (newB b) (new_len b) pre2
        rcases suf2 with _ | ⟨s, suf2⟩
        · rw [List.append_nil] at hp2; simp only [List.length_nil] at hpl2
          have hfin : applyP a b l = a.flatMap (keepP b l) ++ pre2.flatMap (newB b) := by rw [hp2]; rfl
          refine Ev.seq ?_
          refine Ev.sr fun K hK => S.o q.mv (S.o q.mv (S.o (q.lens am_el25) (S.o q.lss (S.end (hK _ ?_)))))
          clear hK K
          refine Ev.cd (fun c14 => ?_) (fun c14 => ?_)
          · first
          | (first | omega | contradiction)
          | refine Ev.skip ?_
            show Ev _ _ _ _
            refine Ev.seq ?_
            refine Ev.block ?_
            refine Ev.sr fun K hK => S.o q.mv (S.o q.mv (S.o (q.ix am_el25 am_cl36 (hl := (by first | exact ati hyi (by omega) | exact ati hidx (by omega) | exact ati hci (by omega) | exact atig (by omega)))) (S.o (q.fs 0 am_fi36_0 am_cl3) (S.o (q.ls am_ag3) (S.o q.eql (S.end (hK _ ?_)))))))
            clear hK K
            refine Ev.cd (fun c15 => ?_) (fun c15 => ?_)
            · first
            | (first | omega | contradiction)
            | have hfit : markI a s.2 < 0 ∧ 0 ≤ markI b s.2 := (hf.1 s (by rw [← hp2]; simp)).2.2 (by assumption)
              obtain ⟨hfit1, hfit2⟩ := hfit
              obtain ⟨y, hy, hyi, hym, hyk⟩ := barAt_some hfit2
              refine Ev.region_S fun K hK => S.o q.mv (S.o q.mv (S.o q.mv (S.o q.mv (S.o q.mv (S.o (q.ix am_el25 am_cl36 (hl := (by first | exact ati hyi (by omega) | exact ati hidx (by omega) | exact ati hci (by omega) | exact atig (by omega)))) (S.o (q.fs 1 am_fi36_1 am_cl9) (S.o (q.ls am_ag9) (S.c0 (hF := rfind_fun _ _ (by omega)) (h := S.o (q.ix am_el22 am_cl43 (hl := (by first | exact ati hyi (by omega) | exact ati hidx (by omega) | exact ati hci (by omega) | exact atig (by omega)))) (S.o (q.lsA [_, _, _, _, _] am_ag43 am_cl43) (S.nn (q.bs [[_, _, _, _, _]] true am_el22 am_ze43 am_cl43) (S.ap' [_] am_el22 am_ze43 am_cl43 am_by43 (hh := head_own') (hr := (rows_lit [y])) (h := S.o q.as (S.end (hK _ ?_)))))))))))))))
              clear hK K
              show Ev _ _ _ _
              refine Ev.region_S fun K hK => S.o q.mv (S.o q.add (S.o q.as (S.end (hK _ ?_))))
              clear hK K
              refine hR3 _ _ ?_
              refine roundU [2] [0, 1, 2, 6, 7, 9, 16, 17, 18, 19] ⟨(pre2 ++ [s], suf2), by rw [← hp2]; simp⟩ ?_ (keep_c (he := (by first | rfl | (simp; done) | (rw [flat_snoc, new_3 ‹_› hy, List.append_assoc]) | (rw [flat_snoc, new_0 ‹_›, List.append_nil]))) (h := keep_n)) (slots_c (he := (by first | rfl | (congr 2; simp; done))) (h := (slots_c (he := (by first | rfl | (congr 1; simp; done) | (congr 1; rw [flat_snoc, new_3 ‹_› hy, List.append_assoc]) | (rw [flat_snoc, new_0 ‹_›, List.append_nil]))) (h := trivial)))) (.c (.c (.c (.c (.c (.c (.c (.c (.c (.c .n))))))))))
              skip
              all_goals (dsimp only; simp only [List.length_cons]; omega)
            · first
            | (first | omega | contradiction)
            | refine Ev.skip ?_
              show Ev _ _ _ _
              refine Ev.region_S fun K hK => S.o q.mv (S.o q.add (S.o q.as (S.end (hK _ ?_))))
              clear hK K
              refine hR3 _ _ ?_
              refine roundU [0] [0, 1, 2, 6, 7, 9, 16, 17, 18, 19] ⟨(pre2 ++ [s], suf2), by rw [← hp2]; simp⟩ ?_ (keep_c (he := (by first | rfl | (simp; done) | (rw [flat_snoc, new_3 ‹_› hy, List.append_assoc]) | (rw [flat_snoc, new_0 ‹_›, List.append_nil]))) (h := keep_n)) (slots_c (he := (by first | rfl | (congr 2; simp; done))) (h := (slots_c (he := (by first | rfl | (congr 1; simp; done) | (congr 1; rw [flat_snoc, new_3 ‹_› hy, List.append_assoc]) | (rw [flat_snoc, new_0 ‹_›, List.append_nil]))) (h := trivial)))) (.c (.c (.c (.c (.c (.c (.c (.c (.c (.c .n))))))))))
              skip
              all_goals (dsimp only; simp only [List.length_cons]; omega)
          · first
          | (first | omega | contradiction)
          | refine Ev.exit ?_
            refine hR3 _ _ ?_
            show Ev _ _ _ _
            refine Ev.seq ?_
            refine Ev.sr fun K hK => S.o q.mv (S.o (q.lena am_el22) (S.o q.gtr (S.end (hK _ ?_))))
            clear hK K
            refine Ev.cd (fun c16 => ?_) (fun c16 => ?_)
            · first
            | (first | omega | contradiction)
            | refine Ev.sr fun K hK => S.o q.as (S.o q.as (S.end (hK _ ?_)))
              clear hK K
              refine Ev.weaken (Wk.nsh Bar.c 6 5) ?_
              refine Ev.ret ?_
              refine Ev.ret2 ?_
              refine ⟨?_, rfl⟩
              first
               | (rw [show appV a b l = [] by rw [appV, if_pos hyes, if_neg ‹¬ fitsP a b l›], show appE a b l = 9 by rw [appE, if_pos hyes, if_neg ‹¬ fitsP a b l›]]; done)
               | (have hlen : ¬ (applyP a b l).length ≤ 60 := by rw [hfin]; omega
                  rw [show appV a b l = [] by rw [appV, if_pos hyes, if_pos hf, if_neg hlen], show appE a b l = 4 by rw [appE, if_pos hyes, if_pos hf, if_neg hlen]]; done)
               | (have hlen : (applyP a b l).length ≤ 60 := by rw [hfin]; omega
                  rw [show appV a b l = applyP a b l by rw [appV, if_pos hyes, if_pos hf, if_pos hlen], show appE a b l = 0 by rw [appE, if_pos hyes, if_pos hf, if_pos hlen], hfin]; done)
            · first
            | (first | omega | contradiction)
            | refine Ev.skip ?_
              show Ev _ _ _ _
              refine Ev.weaken (Wk.frz 8 []) ?_
              have hcd : ∀ x ∈ a.flatMap (keepP b l) ++ pre2.flatMap (newB b), x.dims.length ≤ 1000000 := fun x hx => hbd x (apply_mem (by rw [hfin]; exact hx))
              refine Ev.sr fun K hK => S.o q.mv (S.c0 (hF := copy14_fun _ (by omega) (by assumption)) (h := S.o q.as (S.o q.as (S.end (hK _ ?_)))))
              clear hK K
              refine Ev.ret ?_
              refine Ev.ret2 ?_
              refine ⟨?_, rfl⟩
              first
               | (rw [show appV a b l = [] by rw [appV, if_pos hyes, if_neg ‹¬ fitsP a b l›], show appE a b l = 9 by rw [appE, if_pos hyes, if_neg ‹¬ fitsP a b l›]]; done)
               | (have hlen : ¬ (applyP a b l).length ≤ 60 := by rw [hfin]; omega
                  rw [show appV a b l = [] by rw [appV, if_pos hyes, if_pos hf, if_neg hlen], show appE a b l = 4 by rw [appE, if_pos hyes, if_pos hf, if_neg hlen]]; done)
               | (have hlen : (applyP a b l).length ≤ 60 := by rw [hfin]; omega
                  rw [show appV a b l = applyP a b l by rw [appV, if_pos hyes, if_pos hf, if_pos hlen], show appE a b l = 0 by rw [appE, if_pos hyes, if_pos hf, if_pos hlen], hfin]; done)
        · simp only [List.length_cons] at hpl2
          have hidx2 : l[pre2.length]? = some s := by rw [← hp2]; simp
          refine Ev.seq ?_
          refine Ev.sr fun K hK => S.o q.mv (S.o q.mv (S.o (q.lens am_el25) (S.o q.lss (S.end (hK _ ?_)))))
          clear hK K
          refine Ev.cd (fun c17 => ?_) (fun c17 => ?_)
          · first
          | (first | omega | contradiction)
          | refine Ev.skip ?_
            show Ev _ _ _ _
            refine Ev.seq ?_
            refine Ev.block ?_
            refine Ev.sr fun K hK => S.o q.mv (S.o q.mv (S.o (q.ix am_el25 am_cl36 (hl := (by first | exact ati hyi (by omega) | exact ati hidx (by omega) | exact ati hci (by omega) | exact ati hidx2 (by omega) | exact atig (by omega)))) (S.o (q.fs 0 am_fi36_0 am_cl3) (S.o (q.ls am_ag3) (S.o q.eql (S.end (hK _ ?_)))))))
            clear hK K
            refine Ev.cd (fun c18 => ?_) (fun c18 => ?_)
            · first
            | (first | omega | contradiction)
            | have hfit : markI a s.2 < 0 ∧ 0 ≤ markI b s.2 := (hf.1 s (by rw [← hp2]; simp)).2.2 (by assumption)
              obtain ⟨hfit1, hfit2⟩ := hfit
              obtain ⟨y, hy, hyi, hym, hyk⟩ := barAt_some hfit2
              refine Ev.region_S fun K hK => S.o q.mv (S.o q.mv (S.o q.mv (S.o q.mv (S.o q.mv (S.o (q.ix am_el25 am_cl36 (hl := (by first | exact ati hyi (by omega) | exact ati hidx (by omega) | exact ati hci (by omega) | exact ati hidx2 (by omega) | exact atig (by omega)))) (S.o (q.fs 1 am_fi36_1 am_cl9) (S.o (q.ls am_ag9) (S.c0 (hF := rfind_fun _ _ (by omega)) (h := S.o (q.ix am_el22 am_cl43 (hl := (by first | exact ati hyi (by omega) | exact ati hidx (by omega) | exact ati hci (by omega) | exact ati hidx2 (by omega) | exact atig (by omega)))) (S.o (q.lsA [_, _, _, _, _] am_ag43 am_cl43) (S.nn (q.bs [[_, _, _, _, _]] true am_el22 am_ze43 am_cl43) (S.ap' [_] am_el22 am_ze43 am_cl43 am_by43 (hh := head_own') (hr := (rows_lit [y])) (h := S.o q.as (S.end (hK _ ?_)))))))))))))))
              clear hK K
              show Ev _ _ _ _
              refine Ev.region_S fun K hK => S.o q.mv (S.o q.add (S.o q.as (S.end (hK _ ?_))))
              clear hK K
              refine hR3 _ _ ?_
              refine roundU [2] [0, 1, 2, 6, 7, 9, 16, 17, 18, 19] ⟨(pre2 ++ [s], suf2), by rw [← hp2]; simp⟩ ?_ (keep_c (he := (by first | rfl | (simp; done) | (rw [flat_snoc, new_3 ‹_› hy, List.append_assoc]) | (rw [flat_snoc, new_0 ‹_›, List.append_nil]))) (h := keep_n)) (slots_c (he := (by first | rfl | (congr 2; simp; done))) (h := (slots_c (he := (by first | rfl | (congr 1; simp; done) | (congr 1; rw [flat_snoc, new_3 ‹_› hy, List.append_assoc]) | (rw [flat_snoc, new_0 ‹_›, List.append_nil]))) (h := trivial)))) (.c (.c (.c (.c (.c (.c (.c (.c (.c (.c .n))))))))))
              skip
              all_goals (dsimp only; simp only [List.length_cons]; omega)
            · first
            | (first | omega | contradiction)
            | refine Ev.skip ?_
              show Ev _ _ _ _
              refine Ev.region_S fun K hK => S.o q.mv (S.o q.add (S.o q.as (S.end (hK _ ?_))))
              clear hK K
              refine hR3 _ _ ?_
              refine roundU [0] [0, 1, 2, 6, 7, 9, 16, 17, 18, 19] ⟨(pre2 ++ [s], suf2), by rw [← hp2]; simp⟩ ?_ (keep_c (he := (by first | rfl | (simp; done) | (rw [flat_snoc, new_3 ‹_› hy, List.append_assoc]) | (rw [flat_snoc, new_0 ‹_›, List.append_nil]))) (h := keep_n)) (slots_c (he := (by first | rfl | (congr 2; simp; done))) (h := (slots_c (he := (by first | rfl | (congr 1; simp; done) | (congr 1; rw [flat_snoc, new_3 ‹_› hy, List.append_assoc]) | (rw [flat_snoc, new_0 ‹_›, List.append_nil]))) (h := trivial)))) (.c (.c (.c (.c (.c (.c (.c (.c (.c (.c .n))))))))))
              skip
              all_goals (dsimp only; simp only [List.length_cons]; omega)
          · first
          | (first | omega | contradiction)
          | refine Ev.exit ?_
            refine hR3 _ _ ?_
            show Ev _ _ _ _
            refine Ev.seq ?_
            refine Ev.sr fun K hK => S.o q.mv (S.o (q.lena am_el22) (S.o q.gtr (S.end (hK _ ?_))))
            clear hK K
            refine Ev.cd (fun c19 => ?_) (fun c19 => ?_)
            · first
            | (first | omega | contradiction)
            | refine Ev.sr fun K hK => S.o q.as (S.o q.as (S.end (hK _ ?_)))
              clear hK K
              refine Ev.weaken (Wk.nsh Bar.c 6 5) ?_
              refine Ev.ret ?_
              refine Ev.ret2 ?_
              refine ⟨?_, rfl⟩
              first
               | (rw [show appV a b l = [] by rw [appV, if_pos hyes, if_neg ‹¬ fitsP a b l›], show appE a b l = 9 by rw [appE, if_pos hyes, if_neg ‹¬ fitsP a b l›]]; done)
               | (have hlen : ¬ (applyP a b l).length ≤ 60 := by rw [hfin]; omega
                  rw [show appV a b l = [] by rw [appV, if_pos hyes, if_pos hf, if_neg hlen], show appE a b l = 4 by rw [appE, if_pos hyes, if_pos hf, if_neg hlen]]; done)
               | (have hlen : (applyP a b l).length ≤ 60 := by rw [hfin]; omega
                  rw [show appV a b l = applyP a b l by rw [appV, if_pos hyes, if_pos hf, if_pos hlen], show appE a b l = 0 by rw [appE, if_pos hyes, if_pos hf, if_pos hlen], hfin]; done)
            · first
            | (first | omega | contradiction)
            | refine Ev.skip ?_
              show Ev _ _ _ _
              refine Ev.weaken (Wk.frz 8 []) ?_
              have hcd : ∀ x ∈ a.flatMap (keepP b l) ++ pre2.flatMap (newB b), x.dims.length ≤ 1000000 := fun x hx => hbd x (apply_mem (by rw [hfin]; exact hx))
              refine Ev.sr fun K hK => S.o q.mv (S.c0 (hF := copy14_fun _ (by omega) (by assumption)) (h := S.o q.as (S.o q.as (S.end (hK _ ?_)))))
              clear hK K
              refine Ev.ret ?_
              refine Ev.ret2 ?_
              refine ⟨?_, rfl⟩
              first
               | (rw [show appV a b l = [] by rw [appV, if_pos hyes, if_neg ‹¬ fitsP a b l›], show appE a b l = 9 by rw [appE, if_pos hyes, if_neg ‹¬ fitsP a b l›]]; done)
               | (have hlen : ¬ (applyP a b l).length ≤ 60 := by rw [hfin]; omega
                  rw [show appV a b l = [] by rw [appV, if_pos hyes, if_pos hf, if_neg hlen], show appE a b l = 4 by rw [appE, if_pos hyes, if_pos hf, if_neg hlen]]; done)
               | (have hlen : (applyP a b l).length ≤ 60 := by rw [hfin]; omega
                  rw [show appV a b l = applyP a b l by rw [appV, if_pos hyes, if_pos hf, if_pos hlen], show appE a b l = 0 by rw [appE, if_pos hyes, if_pos hf, if_pos hlen], hfin]; done)
end Go.Proofs.Ytccddakkegelkaa
