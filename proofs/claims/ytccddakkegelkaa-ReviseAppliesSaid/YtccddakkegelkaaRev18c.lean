/-
  Layer 41: the law of applying.
  Conditions: none.
-/
import Derived.Test.YtccddakkegelkaaRev12
import Derived.Test.YtccddakkegelkaaRev16
import Derived.Test.YtccddakkegelkaaRev2
namespace Go.Proofs.Ytccddakkegelkaa
open Go Go.AM
set_option linter.unusedSimpArgs false
set_option linter.unusedVariables false
set_option maxRecDepth 100000
set_option maxHeartbeats 1000000

theorem appV_len (a b : List Bar) (l : List Chg) : (appV a b l).length ≤ 60 := by
  unfold appV
  split
  · split
    · split
      · assumption
      · simp
    · simp
  · simp
theorem appV_mem {a b : List Bar} {l : List Chg} {x : Bar} (h : x ∈ appV a b l) : x ∈ applyP a b l := by
  unfold appV at h
  by_cases h1 : okApply a b l
  · rw [if_pos h1] at h
    by_cases h2 : fitsP a b l
    · rw [if_pos h2] at h
      by_cases h3 : (applyP a b l).length ≤ 60
      · rw [if_pos h3] at h; exact h
      · rw [if_neg h3] at h; cases h
    · rw [if_neg h2] at h; cases h
  · rw [if_neg h1] at h; cases h
theorem applies_law (a b : List Bar) (l : List Chg) (ha : a.length ≤ 140737488355328) (hb : b.length ≤ 140737488355328) (hl : l.length ≤ 140737488355328) : Fun Try.prog 5 [.sh 5 (a.map Bar.c), .sh 5 (b.map Bar.c), .sh 2 (l.map findC)] (Ret (.lit (.bool true)) []) := by
  have hal := appV_len a b l
  have hab : ∀ x ∈ [a, b], x.length ≤ 140737488355328 := by
    intro x hx
    simp only [List.mem_cons, List.not_mem_nil, or_false] at hx
    rcases hx with rfl | rfl <;> assumption
  refine Fun.of (nt := 122) (rs := [.tmp 6]) Try.func5 rfl rfl rfl rfl rfl ?_
  refine Ev.sr fun K hK => S.o q.as (S.end (hK _ ?_))
  clear hK K
  refine Ev.seq ?_
  refine Ev.sr fun K hK => S.c0 (hF := awake_fun) (h := S.o q.nott (S.end (hK _ ?_)))
  clear hK K
  refine Ev.cf ?_
  refine Ev.skip ?_
  show Ev _ _ _ _
  refine Ev.seq ?_
  refine Ev.sr fun K hK => S.o q.mv (S.o q.mv (S.nn (q.bs [[_], [_]] true am_el65 am_ze22 am_cl22) ?_))
  refine SeqL.weaken (Wk.frzl (f := barsC) [a, b] 20 []) ?_
  refine S.c0 (hF := long_fun [a, b] (by simp) hab) (h := S.bb q.mv (fun c1 => ?_) (fun c1 => ?_))
  · first
  | (first | omega | contradiction)
  | refine S.sk (S.sk (S.o q.pt (S.end (hK _ ?_))))
    clear hK K
    refine Ev.ct ?_
    refine Ev.sr fun K hK => S.o q.as (S.end (hK _ ?_))
    clear hK K
    refine Ev.ret ?_
    refine Ev.ret1 ?_
    refine ⟨?_, rfl⟩
    first | rfl | exact lawT (by omega) | (exfalso; omega) | contradiction
  · first
  | (first | omega | contradiction)
  | refine S.o q.mv (S.c0 (hF := many_fun _ (by omega)) (h := S.o q.pf (S.end (hK _ ?_))))
    clear hK K
    refine Ev.cd (fun c2 => ?_) (fun c2 => ?_)
    · first
    | (first | omega | contradiction)
    | refine Ev.sr fun K hK => S.o q.as (S.end (hK _ ?_))
      clear hK K
      refine Ev.ret ?_
      refine Ev.ret1 ?_
      refine ⟨?_, rfl⟩
      first | rfl | exact lawT (by omega) | (exfalso; omega) | contradiction
    · first
    | (first | omega | contradiction)
    | refine Ev.skip ?_
      show Ev _ _ _ _
      obtain ⟨hsa, hsb⟩ := long_no ‹_›
      have hwa := small_w hsa
      have hwb := small_w hsb
      have hwl := (many_w (l := l) ‹_›).1
      refine Ev.sr fun K hK => S.o q.mv (S.o q.mv (S.o q.mv (S.c0 (hF := Apply_fun _ _ _ (by omega) (by omega) (by omega) (by assumption) (by assumption) (by assumption)) (h := S.o q.mv (S.o q.ex (S.o q.ex (S.o q.as (S.o q.as (S.end (hK _ ?_))))))))))
      clear hK K
      refine Ev.sr fun K hK => S.o q.mv (S.c0 (hF := Count_fun _ (by omega) (by assumption)) (h := S.o q.mv (S.o q.ex (S.o q.ex (S.o q.as (S.o q.as (S.end (hK _ ?_))))))))
      clear hK K
      refine Ev.sr fun K hK => S.o q.mv (S.c0 (hF := Text_fun _ (by omega) (by assumption)) (h := S.o q.mv (S.o q.ex (S.o q.ex (S.o q.as (S.o q.as (S.end (hK _ ?_))))))))
      clear hK K
      refine Ev.sr fun K hK => S.o q.mv (S.c0 (hF := rchgValid_fun _ (by omega) (by assumption)) (h := S.o q.as (S.end (hK _ ?_))))
      clear hK K
      refine Ev.seq ?_
      refine Ev.sr fun K hK => S.o q.mv (S.o q.not (S.end (hK _ ?_)))
      clear hK K
      refine Ev.cn (fun c3 => ?_) (fun c3 => ?_)
      · first
      | (first | omega | contradiction)
      | have e1 : textE l = 1 := if_neg ‹_›
        have e2 : (cntV l).length = 0 := by rw [show cntV l = [] from if_neg ‹_›]; rfl
        have e3 : textV l = [] := if_neg ‹_›
        refine Ev.sr fun K hK => S.o q.mv (S.o (q.lens am_el41) (S.o q.neq (S.bn q.mv (fun c4 => ?_) (fun c4 => ?_))))
        · first
        | (first | omega | contradiction)
        | refine S.sk (S.sk (S.o q.pt (S.o q.mv (S.sk (S.sk (S.o q.pt (S.o q.mv (S.sk (S.sk (S.o q.pt (S.end (hK _ ?_))))))))))))
          clear hK K
          refine Ev.ct ?_
          refine Ev.sr fun K hK => S.o q.as (S.end (hK _ ?_))
          clear hK K
          refine Ev.ret ?_
          refine Ev.ret1 ?_
          refine ⟨?_, rfl⟩
          first | rfl | exact lawT (by omega) | (exfalso; omega) | contradiction
        · first
        | (first | omega | contradiction)
        | refine S.o q.mv (S.o q.neq (S.o q.pf (S.bn q.mv (fun c5 => ?_) (fun c5 => ?_))))
          · first
          | (first | omega | contradiction)
          | refine S.sk (S.sk (S.o q.pt (S.o q.mv (S.sk (S.sk (S.o q.pt (S.end (hK _ ?_))))))))
            clear hK K
            refine Ev.ct ?_
            refine Ev.sr fun K hK => S.o q.as (S.end (hK _ ?_))
            clear hK K
            refine Ev.ret ?_
            refine Ev.ret1 ?_
            refine ⟨?_, rfl⟩
            first | rfl | exact lawT (by omega) | (exfalso; omega) | contradiction
          · first
          | (first | omega | contradiction)
          | refine S.o q.mv (S.o q.snes (S.o q.pf (S.bn q.mv (fun c6 => ?_) (fun c6 => ?_))))
            · first
            | (first | omega | contradiction)
            | refine S.sk (S.sk (S.o q.pt (S.end (hK _ ?_))))
              clear hK K
              refine Ev.ct ?_
              refine Ev.sr fun K hK => S.o q.as (S.end (hK _ ?_))
              clear hK K
              refine Ev.ret ?_
              refine Ev.ret1 ?_
              refine ⟨?_, rfl⟩
              first | rfl | exact lawT (by omega) | (exfalso; omega) | contradiction
            · first
            | (first | omega | contradiction)
            | refine S.o q.mv (S.o q.neq (S.o q.pf (S.end (hK _ ?_))))
              clear hK K
              refine Ev.cn (fun c7 => ?_) (fun c7 => ?_)
              · first
              | (first | omega | contradiction)
              | refine Ev.sr fun K hK => S.o q.as (S.end (hK _ ?_))
                clear hK K
                refine Ev.ret ?_
                refine Ev.ret1 ?_
                refine ⟨?_, rfl⟩
                first | rfl | exact lawT (by omega) | (exfalso; omega) | contradiction
              · first
              | (first | omega | contradiction)
              | refine Ev.skip ?_
                show Ev _ _ _ _
                refine Ev.seq ?_
                refine Ev.sr fun K hK => S.o q.mv (S.o q.not (S.bn q.mv (fun c8 => ?_) (fun c8 => ?_)))
                · first
                | (first | omega | contradiction)
                | refine S.sk (S.sk (S.sk (S.o q.pt (S.o q.mv (S.sk (S.sk (S.sk (S.o q.pt (S.end (hK _ ?_))))))))))
                  clear hK K
                  refine Ev.ct ?_
                  have hno : ¬ okApply a b l := by first | exact fun h => absurd h.1.1 ‹_› | exact fun h => absurd h.1.2 ‹_› | exact fun h => absurd h.2 ‹_›
                  have f1 : appE a b l = 1 := if_neg hno
                  have f2 : (appV a b l).length = 0 := by rw [show appV a b l = [] from if_neg hno]; rfl
                  refine Ev.sr fun K hK => S.o q.mv (S.o (q.lens am_el22) (S.o q.eql (S.bd q.mv (fun c9 => ?_) (fun c9 => ?_))))
                  · first
                  | (first | omega | contradiction)
                  | refine S.o q.mv (S.o q.eql (S.o q.pt (S.o q.as (S.end (hK _ ?_)))))
                    clear hK K
                    refine Ev.ret ?_
                    refine Ev.ret1 ?_
                    refine ⟨?_, rfl⟩
                    first | rfl | exact lawT (by omega) | (exfalso; omega) | contradiction
                  · first
                  | (first | omega | contradiction)
                  | refine S.sk (S.sk (S.o q.pf (S.o q.as (S.end (hK _ ?_)))))
                    clear hK K
                    refine Ev.ret ?_
                    refine Ev.ret1 ?_
                    refine ⟨?_, rfl⟩
                    first | rfl | exact lawT (by omega) | (exfalso; omega) | contradiction
                · first
                | (first | omega | contradiction)
                | refine S.o q.mv (S.c0 (hF := rschedValid_fun _ (by omega) (by assumption)) (h := S.o q.not (S.o q.pf (S.bn q.mv (fun c10 => ?_) (fun c10 => ?_)))))
                  · first
                  | (first | omega | contradiction)
                  | refine S.sk (S.sk (S.sk (S.o q.pt (S.end (hK _ ?_)))))
                    clear hK K
                    refine Ev.ct ?_
                    have hno : ¬ okApply a b l := by first | exact fun h => absurd h.1.1 ‹_› | exact fun h => absurd h.1.2 ‹_› | exact fun h => absurd h.2 ‹_›
                    have f1 : appE a b l = 1 := if_neg hno
                    have f2 : (appV a b l).length = 0 := by rw [show appV a b l = [] from if_neg hno]; rfl
                    refine Ev.sr fun K hK => S.o q.mv (S.o (q.lens am_el22) (S.o q.eql (S.bd q.mv (fun c11 => ?_) (fun c11 => ?_))))
                    · first
                    | (first | omega | contradiction)
                    | refine S.o q.mv (S.o q.eql (S.o q.pt (S.o q.as (S.end (hK _ ?_)))))
                      clear hK K
                      refine Ev.ret ?_
                      refine Ev.ret1 ?_
                      refine ⟨?_, rfl⟩
                      first | rfl | exact lawT (by omega) | (exfalso; omega) | contradiction
                    · first
                    | (first | omega | contradiction)
                    | refine S.sk (S.sk (S.o q.pf (S.o q.as (S.end (hK _ ?_)))))
                      clear hK K
                      refine Ev.ret ?_
                      refine Ev.ret1 ?_
                      refine ⟨?_, rfl⟩
                      first | rfl | exact lawT (by omega) | (exfalso; omega) | contradiction
                  · first
                  | (first | omega | contradiction)
                  | refine S.o q.mv (S.c0 (hF := rschedValid_fun _ (by omega) (by assumption)) (h := S.o q.not (S.o q.pf (S.end (hK _ ?_)))))
                    clear hK K
                    refine Ev.cn (fun c12 => ?_) (fun c12 => ?_)
                    · first
                    | (first | omega | contradiction)
                    | have hno : ¬ okApply a b l := by first | exact fun h => absurd h.1.1 ‹_› | exact fun h => absurd h.1.2 ‹_› | exact fun h => absurd h.2 ‹_›
                      have f1 : appE a b l = 1 := if_neg hno
                      have f2 : (appV a b l).length = 0 := by rw [show appV a b l = [] from if_neg hno]; rfl
                      refine Ev.sr fun K hK => S.o q.mv (S.o (q.lens am_el22) (S.o q.eql (S.bd q.mv (fun c13 => ?_) (fun c13 => ?_))))
                      · first
                      | (first | omega | contradiction)
                      | refine S.o q.mv (S.o q.eql (S.o q.pt (S.o q.as (S.end (hK _ ?_)))))
                        clear hK K
                        refine Ev.ret ?_
                        refine Ev.ret1 ?_
                        refine ⟨?_, rfl⟩
                        first | rfl | exact lawT (by omega) | (exfalso; omega) | contradiction
                      · first
                      | (first | omega | contradiction)
                      | refine S.sk (S.sk (S.o q.pf (S.o q.as (S.end (hK _ ?_)))))
                        clear hK K
                        refine Ev.ret ?_
                        refine Ev.ret1 ?_
                        refine ⟨?_, rfl⟩
                        first | rfl | exact lawT (by omega) | (exfalso; omega) | contradiction
                    · first
                    | (first | omega | contradiction)
                    | refine Ev.skip ?_
                      show Ev _ _ _ _
                      have hyes : okApply a b l := ⟨⟨‹_›, ‹_›⟩, ‹_›⟩
                      have hdm : ∀ x ∈ appV a b l, x.dims.length ≤ 140737488355328 := by
                        intro x hx
                        have h1 := appV_mem hx
                        exact (apply_mem h1).elim (fun h => (hwa x h).2) (fun h => (hwb x h).2)
                      refine Ev.sr fun K hK => S.o q.mv (S.o q.mv (S.o q.mv (S.c0 (hF := rApply_fun _ _ _ (by assumption)) (h := S.o q.mv (S.o q.ex (S.o q.ex (S.o q.as (S.o q.as (S.end (hK _ ?_))))))))))
                      clear hK K
                      refine Ev.sr fun K hK => S.o q.mv (S.o q.mv (S.c0 (hF := same14_fun _ _ (by omega) (by omega) hdm hdm) (h := S.bd q.mv (fun c14 => ?_) (fun c14 => ?_))))
                      · first
                      | (first | omega | contradiction)
                      | refine S.o q.mv (S.o q.mv (S.o q.eql (S.o q.pt (S.o q.as (S.end (hK _ ?_))))))
                        clear hK K
                        refine Ev.ret ?_
                        refine Ev.ret1 ?_
                        refine ⟨?_, rfl⟩
                        first | rfl | exact lawT (by omega) | (exfalso; omega) | contradiction
                      · first
                      | (first | omega | contradiction)
                      | refine S.sk (S.sk (S.sk (S.o q.pf (S.o q.as (S.end (hK _ ?_))))))
                        clear hK K
                        refine Ev.ret ?_
                        refine Ev.ret1 ?_
                        refine ⟨?_, rfl⟩
                        first | rfl | exact lawT (by omega) | (exfalso; omega) | contradiction
      · first
      | (first | omega | contradiction)
      | have hok : okChgs l := ‹_›
        have hll := hok.1
        have e1 : textE l = 0 := if_pos hok
        have e2 : cntV l = cntL l := if_pos hok
        have e3 : textV l = textP l := if_pos hok
        have e4 : (cntV l).length = 4 := by rw [e2]; rfl
        have e5 : (cntL l).length = 4 := rfl
        refine Ev.sr fun K hK => S.o q.mv (S.o q.neq (S.bn q.mv (fun c15 => ?_) (fun c15 => ?_)))
        · first
        | (first | omega | contradiction)
        | refine S.sk (S.sk (S.sk (S.sk (S.sk (S.sk (S.sk (S.sk (S.sk (S.sk (S.sk (S.sk (S.o q.pt (S.o q.mv (S.sk (S.sk (S.o q.pt (S.o q.mv (S.sk (S.sk (S.sk (S.sk (S.o q.pt (S.end (hK _ ?_))))))))))))))))))))))))
          clear hK K
          refine Ev.ct ?_
          refine Ev.sr fun K hK => S.o q.as (S.end (hK _ ?_))
          clear hK K
          refine Ev.ret ?_
          refine Ev.ret1 ?_
          refine ⟨?_, rfl⟩
          first | rfl | exact lawT (by omega) | (exfalso; omega) | contradiction
        · first
        | (first | omega | contradiction)
        | refine S.o q.mv (S.o q.mv (S.c0 (hF := rCount_fun _ _ (by omega)) (h := S.o q.mv (S.c0 (hF := rCount_fun _ _ (by omega)) (h := S.o q.mv (S.c0 (hF := rCount_fun _ _ (by omega)) (h := S.o q.mv (S.c0 (hF := rCount_fun _ _ (by omega)) (h := S.nn (q.bs [[_], [_], [_], [_]] true am_el41 am_ze3 am_cl3) ?_)))))))))
          refine SeqL.weaken (Wk.frzl (f := intC) (cntL l) 74 []) ?_
          refine S.c0 (hF := eqInts_fun _ _ (by omega) (by omega)) (h := S.o q.not (S.o q.pf (S.bn q.mv (fun c16 => ?_) (fun c16 => ?_))))
          · first
          | (first | omega | contradiction)
          | refine S.sk (S.sk (S.o q.pt (S.o q.mv (S.sk (S.sk (S.sk (S.sk (S.o q.pt (S.end (hK _ ?_))))))))))
            clear hK K
            refine Ev.ct ?_
            refine Ev.sr fun K hK => S.o q.as (S.end (hK _ ?_))
            clear hK K
            refine Ev.ret ?_
            refine Ev.ret1 ?_
            refine ⟨?_, rfl⟩
            first | rfl | exact lawT (by omega) | (exfalso; omega) | contradiction
          · first
          | (first | omega | contradiction)
          | refine S.o q.mv (S.o q.neq (S.o q.pf (S.bn q.mv (fun c17 => ?_) (fun c17 => ?_))))
            · first
            | (first | omega | contradiction)
            | refine S.sk (S.sk (S.sk (S.sk (S.o q.pt (S.end (hK _ ?_))))))
              clear hK K
              refine Ev.ct ?_
              refine Ev.sr fun K hK => S.o q.as (S.end (hK _ ?_))
              clear hK K
              refine Ev.ret ?_
              refine Ev.ret1 ?_
              refine ⟨?_, rfl⟩
              first | rfl | exact lawT (by omega) | (exfalso; omega) | contradiction
            · first
            | (first | omega | contradiction)
            | refine S.o q.mv (S.o q.mv (S.c0 (hF := rText_fun _ (by assumption)) (h := S.o q.snes (S.o q.pf (S.end (hK _ ?_))))))
              clear hK K
              refine Ev.cn (fun c18 => ?_) (fun c18 => ?_)
              · first
              | (first | omega | contradiction)
              | refine Ev.sr fun K hK => S.o q.as (S.end (hK _ ?_))
                clear hK K
                refine Ev.ret ?_
                refine Ev.ret1 ?_
                refine ⟨?_, rfl⟩
                first | rfl | exact lawT (by omega) | (exfalso; omega) | contradiction
              · first
              | (first | omega | contradiction)
              | refine Ev.skip ?_
                show Ev _ _ _ _
                refine Ev.seq ?_
                refine Ev.sr fun K hK => S.o q.mv (S.o q.not (S.bn q.mv (fun c19 => ?_) (fun c19 => ?_)))
                · first
                | (first | omega | contradiction)
                | refine S.sk (S.sk (S.sk (S.o q.pt (S.o q.mv (S.sk (S.sk (S.sk (S.o q.pt (S.end (hK _ ?_))))))))))
                  clear hK K
                  refine Ev.ct ?_
                  have hno : ¬ okApply a b l := by first | exact fun h => absurd h.1.1 ‹_› | exact fun h => absurd h.1.2 ‹_› | exact fun h => absurd h.2 ‹_›
                  have f1 : appE a b l = 1 := if_neg hno
                  have f2 : (appV a b l).length = 0 := by rw [show appV a b l = [] from if_neg hno]; rfl
                  refine Ev.sr fun K hK => S.o q.mv (S.o (q.lens am_el22) (S.o q.eql (S.bd q.mv (fun c20 => ?_) (fun c20 => ?_))))
                  · first
                  | (first | omega | contradiction)
                  | refine S.o q.mv (S.o q.eql (S.o q.pt (S.o q.as (S.end (hK _ ?_)))))
                    clear hK K
                    refine Ev.ret ?_
                    refine Ev.ret1 ?_
                    refine ⟨?_, rfl⟩
                    first | rfl | exact lawT (by omega) | (exfalso; omega) | contradiction
                  · first
                  | (first | omega | contradiction)
                  | refine S.sk (S.sk (S.o q.pf (S.o q.as (S.end (hK _ ?_)))))
                    clear hK K
                    refine Ev.ret ?_
                    refine Ev.ret1 ?_
                    refine ⟨?_, rfl⟩
                    first | rfl | exact lawT (by omega) | (exfalso; omega) | contradiction
                · first
                | (first | omega | contradiction)
                | refine S.o q.mv (S.c0 (hF := rschedValid_fun _ (by omega) (by assumption)) (h := S.o q.not (S.o q.pf (S.bn q.mv (fun c21 => ?_) (fun c21 => ?_)))))
                  · first
                  | (first | omega | contradiction)
                  | refine S.sk (S.sk (S.sk (S.o q.pt (S.end (hK _ ?_)))))
                    clear hK K
                    refine Ev.ct ?_
                    have hno : ¬ okApply a b l := by first | exact fun h => absurd h.1.1 ‹_› | exact fun h => absurd h.1.2 ‹_› | exact fun h => absurd h.2 ‹_›
                    have f1 : appE a b l = 1 := if_neg hno
                    have f2 : (appV a b l).length = 0 := by rw [show appV a b l = [] from if_neg hno]; rfl
                    refine Ev.sr fun K hK => S.o q.mv (S.o (q.lens am_el22) (S.o q.eql (S.bd q.mv (fun c22 => ?_) (fun c22 => ?_))))
                    · first
                    | (first | omega | contradiction)
                    | refine S.o q.mv (S.o q.eql (S.o q.pt (S.o q.as (S.end (hK _ ?_)))))
                      clear hK K
                      refine Ev.ret ?_
                      refine Ev.ret1 ?_
                      refine ⟨?_, rfl⟩
                      first | rfl | exact lawT (by omega) | (exfalso; omega) | contradiction
                    · first
                    | (first | omega | contradiction)
                    | refine S.sk (S.sk (S.o q.pf (S.o q.as (S.end (hK _ ?_)))))
                      clear hK K
                      refine Ev.ret ?_
                      refine Ev.ret1 ?_
                      refine ⟨?_, rfl⟩
                      first | rfl | exact lawT (by omega) | (exfalso; omega) | contradiction
                  · first
                  | (first | omega | contradiction)
                  | refine S.o q.mv (S.c0 (hF := rschedValid_fun _ (by omega) (by assumption)) (h := S.o q.not (S.o q.pf (S.end (hK _ ?_)))))
                    clear hK K
                    refine Ev.cn (fun c23 => ?_) (fun c23 => ?_)
                    · first
                    | (first | omega | contradiction)
                    | have hno : ¬ okApply a b l := by first | exact fun h => absurd h.1.1 ‹_› | exact fun h => absurd h.1.2 ‹_› | exact fun h => absurd h.2 ‹_›
                      have f1 : appE a b l = 1 := if_neg hno
                      have f2 : (appV a b l).length = 0 := by rw [show appV a b l = [] from if_neg hno]; rfl
                      refine Ev.sr fun K hK => S.o q.mv (S.o (q.lens am_el22) (S.o q.eql (S.bd q.mv (fun c24 => ?_) (fun c24 => ?_))))
                      · first
                      | (first | omega | contradiction)
                      | refine S.o q.mv (S.o q.eql (S.o q.pt (S.o q.as (S.end (hK _ ?_)))))
                        clear hK K
                        refine Ev.ret ?_
                        refine Ev.ret1 ?_
                        refine ⟨?_, rfl⟩
                        first | rfl | exact lawT (by omega) | (exfalso; omega) | contradiction
                      · first
                      | (first | omega | contradiction)
                      | refine S.sk (S.sk (S.o q.pf (S.o q.as (S.end (hK _ ?_)))))
                        clear hK K
                        refine Ev.ret ?_
                        refine Ev.ret1 ?_
                        refine ⟨?_, rfl⟩
                        first | rfl | exact lawT (by omega) | (exfalso; omega) | contradiction
                    · first
                    | (first | omega | contradiction)
                    | refine Ev.skip ?_
                      show Ev _ _ _ _
                      have hyes : okApply a b l := ⟨⟨‹_›, ‹_›⟩, ‹_›⟩
                      have hdm : ∀ x ∈ appV a b l, x.dims.length ≤ 140737488355328 := by
                        intro x hx
                        have h1 := appV_mem hx
                        exact (apply_mem h1).elim (fun h => (hwa x h).2) (fun h => (hwb x h).2)
                      refine Ev.sr fun K hK => S.o q.mv (S.o q.mv (S.o q.mv (S.c0 (hF := rApply_fun _ _ _ (by assumption)) (h := S.o q.mv (S.o q.ex (S.o q.ex (S.o q.as (S.o q.as (S.end (hK _ ?_))))))))))
                      clear hK K
                      refine Ev.sr fun K hK => S.o q.mv (S.o q.mv (S.c0 (hF := same14_fun _ _ (by omega) (by omega) hdm hdm) (h := S.bd q.mv (fun c25 => ?_) (fun c25 => ?_))))
                      · first
                      | (first | omega | contradiction)
                      | refine S.o q.mv (S.o q.mv (S.o q.eql (S.o q.pt (S.o q.as (S.end (hK _ ?_))))))
                        clear hK K
                        refine Ev.ret ?_
                        refine Ev.ret1 ?_
                        refine ⟨?_, rfl⟩
                        first | rfl | exact lawT (by omega) | (exfalso; omega) | contradiction
                      · first
                      | (first | omega | contradiction)
                      | refine S.sk (S.sk (S.sk (S.o q.pf (S.o q.as (S.end (hK _ ?_))))))
                        clear hK K
                        refine Ev.ret ?_
                        refine Ev.ret1 ?_
                        refine ⟨?_, rfl⟩
                        first | rfl | exact lawT (by omega) | (exfalso; omega) | contradiction
end Go.Proofs.Ytccddakkegelkaa
