/-
  The reference: Envelope.
  Conditions: none.
-/
import Derived.Test.YtdegjlhcchimbaaDoorEn2
namespace Go.Proofs.YtdegjlhcchimbaaDoor
open Go Go.AM
set_option linter.unusedSimpArgs false
set_option linter.unusedVariables false
set_option maxRecDepth 100000
set_option maxHeartbeats 2000000
theorem within23_fun (a b : Bx) : Fun Tryd.prog 16 [.agg a.c, .agg b.c] (Ret (.lit (.bool (decide (inB a b)))) []) := by
  refine Fun.of (nt := 39) (rs := [.tmp 4]) Tryd.func16 rfl rfl rfl rfl rfl ?_
  refine Ev.sr fun K hK => S.nn (q.bx [_, _, _, _, _, _] true) (S.nn (q.bx [_, _, _, _, _, _] true) (S.o q.as (S.end (hK _ ?_))))
  clear hK K
  refine Ev.sr fun K hK => S.o (q.fa 0 am_fi26_0 am_cl24) (S.o (q.fa 1 am_fi24_1 am_cl3) (S.o (q.lv am_ag3) (S.o (q.fa 0 am_fi26_0 am_cl24) (S.o (q.fa 1 am_fi24_1 am_cl3) (S.o (q.lv am_ag3) (S.o q.geq (S.bd q.mv (fun c1 => ?_) (fun c1 => ?_))))))))
  · first
  | (first | omega | contradiction)
  | refine S.o (q.fa 3 am_fi26_1 am_cl24) (S.o (q.fa 4 am_fi24_1 am_cl3) (S.o (q.lv am_ag3) (S.o (q.fa 3 am_fi26_1 am_cl24) (S.o (q.fa 4 am_fi24_1 am_cl3) (S.o (q.lv am_ag3) (S.o q.leq (S.o q.pt (S.bd q.mv (fun c2 => ?_) (fun c2 => ?_)))))))))
    · first
    | (first | omega | contradiction)
    | refine S.o (q.fa 0 am_fi26_0 am_cl24) (S.o (q.fa 2 am_fi24_2 am_cl3) (S.o (q.lv am_ag3) (S.o (q.fa 0 am_fi26_0 am_cl24) (S.o (q.fa 2 am_fi24_2 am_cl3) (S.o (q.lv am_ag3) (S.o q.geq (S.o q.pt (S.bd q.mv (fun c3 => ?_) (fun c3 => ?_)))))))))
      · first
      | (first | omega | contradiction)
      | refine S.o (q.fa 3 am_fi26_1 am_cl24) (S.o (q.fa 5 am_fi24_2 am_cl3) (S.o (q.lv am_ag3) (S.o (q.fa 3 am_fi26_1 am_cl24) (S.o (q.fa 5 am_fi24_2 am_cl3) (S.o (q.lv am_ag3) (S.o q.leq (S.o q.pt (S.o q.as (S.end (hK _ ?_))))))))))
        clear hK K
        refine Ev.ret ?_
        refine Ev.ret1 ?_
        refine ⟨?_, rfl⟩
        first | exact bF (fun h => by have h1 := h.1; have h2 := h.2; omega) | exact dI ⟨fun h => ⟨⟨by omega, by omega⟩, by omega, by omega⟩, fun h => by have h1 := h.1; have h2 := h.2; omega⟩
      · first
      | (first | omega | contradiction)
      | refine S.sk (S.sk (S.sk (S.sk (S.sk (S.sk (S.sk (S.o q.pf (S.o q.as (S.end (hK _ ?_))))))))))
        clear hK K
        refine Ev.ret ?_
        refine Ev.ret1 ?_
        refine ⟨?_, rfl⟩
        first | exact bF (fun h => by have h1 := h.1; have h2 := h.2; omega) | exact dI ⟨fun h => ⟨⟨by omega, by omega⟩, by omega, by omega⟩, fun h => by have h1 := h.1; have h2 := h.2; omega⟩
    · first
    | (first | omega | contradiction)
    | refine S.sk (S.sk (S.sk (S.sk (S.sk (S.sk (S.sk (S.o q.pf (S.o q.mv (S.sk (S.sk (S.sk (S.sk (S.sk (S.sk (S.sk (S.o q.pf (S.o q.as (S.end (hK _ ?_)))))))))))))))))))
      clear hK K
      refine Ev.ret ?_
      refine Ev.ret1 ?_
      refine ⟨?_, rfl⟩
      first | exact bF (fun h => by have h1 := h.1; have h2 := h.2; omega) | exact dI ⟨fun h => ⟨⟨by omega, by omega⟩, by omega, by omega⟩, fun h => by have h1 := h.1; have h2 := h.2; omega⟩
  · first
  | (first | omega | contradiction)
  | refine S.sk (S.sk (S.sk (S.sk (S.sk (S.sk (S.sk (S.o q.pf (S.o q.mv (S.sk (S.sk (S.sk (S.sk (S.sk (S.sk (S.sk (S.o q.pf (S.o q.mv (S.sk (S.sk (S.sk (S.sk (S.sk (S.sk (S.sk (S.o q.pf (S.o q.as (S.end (hK _ ?_))))))))))))))))))))))))))))
    clear hK K
    refine Ev.ret ?_
    refine Ev.ret1 ?_
    refine ⟨?_, rfl⟩
    first | exact bF (fun h => by have h1 := h.1; have h2 := h.2; omega) | exact dI ⟨fun h => ⟨⟨by omega, by omega⟩, by omega, by omega⟩, fun h => by have h1 := h.1; have h2 := h.2; omega⟩
theorem next_fun (l : List Dem) (x : Int) (hlen : l.length ≤ 140737488355328) (hw : demW l) : Fun Tryd.prog 31 [.sh 8 (l.map Dem.c), .lit (.int .i64 x)] (Ret (.tup [.lit (.int .i64 (nextF x (froms l)).1), .lit (.bool (nextF x (froms l)).2)]) []) := by
  refine Fun.of (nt := 51) (rs := [.tmp 4, .tmp 5]) Tryd.func31 rfl rfl rfl rfl rfl ?_
  refine Ev.sr fun K hK => S.o q.as (S.o q.as (S.end (hK _ ?_)))
  clear hK K
  refine Ev.sr fun K hK => S.o q.as (S.end (hK _ ?_))
  clear hK K
  refine Ev.sr fun K hK => S.o q.as (S.end (hK _ ?_))
  clear hK K
  refine Ev.seq ?_
  refine Ev.sr fun K hK => S.o q.as (S.end (hK _ ?_))
  clear hK K
  refine Ev.block ?_
  refine Ev.loopU (ι := {p : List (Dem) × List (Dem) // p.1 ++ p.2 = l ∧ True}) [] [0, 1, 4, 5] (fun ⟨(pre, suf), _⟩ => [(8, .lit (.int .i64 ((pre.length : Int)))), (6, .lit (.int .i64 ((nextF x (froms pre)).1))), (7, .lit (.bool ((nextF x (froms pre)).2)))]) (fun ⟨(pre, suf), _⟩ => []) (fun ⟨(pre, suf), _⟩ => suf.length) ⟨([], l), rfl, trivial⟩ (.c (.c (.c (.c .n)))) keep_n (slots_c (he := (by first | rfl | (congr 2; simp; done))) (h := (slots_c (he := (by first | rfl | (rw [froms_snoc]; done))) (h := (slots_c (he := (by first | rfl | (rw [froms_snoc]; done))) (h := trivial)))))) ?_
  rintro ⟨⟨pre, suf⟩, hp, hinv⟩ R0 hR0
  dsimp only [List.cons_append, List.nil_append, List.length_cons, List.length_nil]
  simp only at hp hinv
  have hpl : pre.length + suf.length = (l).length := by rw [← hp, List.length_append]
  rcases suf with _ | ⟨s, suf⟩
  · rw [List.append_nil] at hp; simp only [List.length_nil] at hpl
    subst hp
    refine Ev.seq ?_
    refine Ev.sr fun K hK => S.o q.mv (S.o q.mv (S.o (q.lens am_el22) (S.o q.lss (S.end (hK _ ?_)))))
    clear hK K
    refine Ev.cd (fun c1 => ?_) (fun c1 => ?_)
    · first | omega | contradiction | (exfalso; simp at *; done)
    · first
    | (first | omega | contradiction)
    | refine Ev.exit ?_
      refine hR0 _ _ ?_
      show Ev _ _ _ _
      refine Ev.sr fun K hK => S.o q.mv (S.o q.mv (S.o q.as (S.o q.as (S.end (hK _ ?_)))))
      clear hK K
      refine Ev.ret ?_
      refine Ev.ret2 ?_
      refine ⟨?_, rfl⟩
      rfl
  · simp only [List.length_cons] at hpl
    have hidx : l[pre.length]? = some s := by rw [← hp]; simp
    have hsw : s.w := hw s (by rw [← hp]; simp)
    have hsw2 := hsw.2
    refine Ev.seq ?_
    refine Ev.sr fun K hK => S.o q.mv (S.o q.mv (S.o (q.lens am_el22) (S.o q.lss (S.end (hK _ ?_)))))
    clear hK K
    refine Ev.cd (fun c2 => ?_) (fun c2 => ?_)
    · first
    | (first | omega | contradiction)
    | refine Ev.skip ?_
      show Ev _ _ _ _
      refine Ev.seq ?_
      refine Ev.block ?_
      refine Ev.sr fun K hK => S.o q.as (S.end (hK _ ?_))
      clear hK K
      refine Ev.block ?_
      refine Ev.loopU (ι := {p : List (Int × Int) × List (Int × Int) // p.1 ++ p.2 = s.steps}) [] [0, 1, 4, 5, 8, 11, 12, 13, 14] (fun ⟨(pre2, suf2), _⟩ => [(9, .lit (.int .i64 ((pre2.length : Int)))), (6, .lit (.int .i64 ((nextF x (froms pre ++ pre2.map (·.1))).1))), (7, .lit (.bool ((nextF x (froms pre ++ pre2.map (·.1))).2)))]) (fun ⟨(pre2, suf2), _⟩ => []) (fun ⟨(pre2, suf2), _⟩ => suf2.length) ⟨([], s.steps), rfl⟩ (.c (.c (.c (.c (.c (.c (.c (.c (.c .n))))))))) keep_n (slots_c (he := (by first | rfl | (congr 2; simp; done))) (h := (slots_c (he := (by first | rfl | (rw [hma]; first | (rw [nx_t1 (x := x) (f := qx) (l := froms pre ++ pre2.map (·.1)) (by assumption) (by assumption)]; done) | (rw [nx_t2 (x := x) (f := qx) (l := froms pre ++ pre2.map (·.1)) (by assumption) (by assumption)]; done) | (rw [nx_n1 (x := x) (f := qx) (l := froms pre ++ pre2.map (·.1)) (by assumption)]; done) | (rw [nx_n2 (x := x) (f := qx) (l := froms pre ++ pre2.map (·.1)) (by assumption) (by assumption)]; done)) | (simp; done))) (h := (slots_c (he := (by first | rfl | (rw [hma]; first | (rw [nx_t1 (x := x) (f := qx) (l := froms pre ++ pre2.map (·.1)) (by assumption) (by assumption)]; done) | (rw [nx_t2 (x := x) (f := qx) (l := froms pre ++ pre2.map (·.1)) (by assumption) (by assumption)]; done) | (rw [nx_n1 (x := x) (f := qx) (l := froms pre ++ pre2.map (·.1)) (by assumption)]; done) | (rw [nx_n2 (x := x) (f := qx) (l := froms pre ++ pre2.map (·.1)) (by assumption) (by assumption)]; done)) | (simp; done))) (h := trivial)))))) ?_
      rintro ⟨⟨pre2, suf2⟩, hp2⟩ R2 hR2
      dsimp only [List.cons_append, List.nil_append, List.length_cons, List.length_nil]
      simp only at hp2
      have hpl2 : pre2.length + suf2.length = s.steps.length := by rw [← hp2, List.length_append]
      rcases suf2 with _ | ⟨⟨qx, qy⟩, suf2⟩
      · rw [List.append_nil] at hp2; simp only [List.length_nil] at hpl2
        subst hp2
        refine Ev.seq ?_
        refine Ev.sr fun K hK => S.o q.mv (S.o q.mv (S.o q.mv (S.o (q.ix am_el22 am_cl48 (hl := (by first | exact ati hidx (by omega) | exact ati hidx (by omega) | exact atig (by omega)))) (S.o (q.fs 7 am_fi48_2 am_cl29) (S.o (q.ls am_ag29) (S.o (q.lens am_el29) (S.o q.lss (S.end (hK _ ?_)))))))))
        clear hK K
        refine Ev.cd (fun c3 => ?_) (fun c3 => ?_)
        · first | omega | contradiction | (exfalso; simp at *; done)
        · first
        | (first | omega | contradiction)
        | refine Ev.exit ?_
          refine hR2 _ _ ?_
          show Ev _ _ _ _
          refine Ev.region_S fun K hK => S.o q.mv (S.o q.add (S.o q.as (S.end (hK _ ?_))))
          clear hK K
          refine hR0 _ _ ?_
          refine roundU [] [0, 1, 4, 5] ⟨(pre ++ [s], suf), by rw [← hp]; simp, ?_⟩ ?_ keep_n (slots_c (he := (by first | rfl | (congr 2; simp; done))) (h := (slots_c (he := (by first | rfl | (rw [froms_snoc]; done))) (h := (slots_c (he := (by first | rfl | (rw [froms_snoc]; done))) (h := trivial)))))) (.c (.c (.c (.c .n))))
          trivial
          all_goals (dsimp only; simp only [List.length_cons]; omega)
      · simp only [List.length_cons] at hpl2
        have hidx2 : s.steps[pre2.length]? = some (qx, qy) := by rw [← hp2]; simp
        have hma : froms pre ++ (pre2 ++ [(qx, qy)]).map (·.1) = (froms pre ++ pre2.map (·.1)) ++ [qx] := by simp
        refine Ev.seq ?_
        refine Ev.sr fun K hK => S.o q.mv (S.o q.mv (S.o q.mv (S.o (q.ix am_el22 am_cl48 (hl := (by first | exact ati hidx (by omega) | exact ati hidx (by omega) | exact ati hidx2 (by omega) | exact atig (by omega)))) (S.o (q.fs 7 am_fi48_2 am_cl29) (S.o (q.ls am_ag29) (S.o (q.lens am_el29) (S.o q.lss (S.end (hK _ ?_)))))))))
        clear hK K
        refine Ev.cd (fun c4 => ?_) (fun c4 => ?_)
        · first
        | (first | omega | contradiction)
        | refine Ev.skip ?_
          show Ev _ _ _ _
          refine Ev.seq ?_
          refine Ev.block ?_
          refine Ev.sr fun K hK => S.o q.mv (S.o q.mv (S.o (q.ix am_el22 am_cl48 (hl := (by first | exact ati hidx (by omega) | exact ati hidx (by omega) | exact ati hidx2 (by omega) | exact atig (by omega)))) (S.o (q.fs 7 am_fi48_2 am_cl29) (S.o (q.ls am_ag29) (S.o q.mv (S.o (q.ix am_el29 am_cl39 (hl := (by first | exact ati hidx (by omega) | exact ati hidx (by omega) | exact ati hidx2 (by omega) | exact atig (by omega)))) (S.o (q.fs 0 am_fi39_0 am_cl3) (S.o (q.ls am_ag3) (S.o q.as (S.end (hK _ ?_)))))))))))
          clear hK K
          refine Ev.sr fun K hK => S.o q.mv (S.o q.mv (S.o q.gtr (S.bd q.mv (fun c5 => ?_) (fun c5 => ?_))))
          · first
          | (first | omega | contradiction)
          | refine S.o q.mv (S.o q.not (S.bb q.mv (fun c6 => ?_) (fun c6 => ?_)))
            · first
            | (first | omega | contradiction)
            | refine S.sk (S.sk (S.sk (S.o q.pt (S.o q.pt (S.end (hK _ ?_))))))
              clear hK K
              refine Ev.ct ?_
              refine Ev.sr fun K hK => S.o q.mv (S.o q.as (S.end (hK _ ?_)))
              clear hK K
              refine Ev.region_S fun K hK => S.o q.as (S.end (hK _ ?_))
              clear hK K
              show Ev _ _ _ _
              refine Ev.region_S fun K hK => S.o q.mv (S.o q.add (S.o q.as (S.end (hK _ ?_))))
              clear hK K
              refine hR2 _ _ ?_
              refine roundU [] [0, 1, 4, 5, 8, 11, 12, 13, 14] ⟨(pre2 ++ [(qx, qy)], suf2), by rw [← hp2]; simp⟩ ?_ keep_n (slots_c (he := (by first | rfl | (congr 2; simp; done))) (h := (slots_c (he := (by first | rfl | (rw [hma]; first | (rw [nx_t1 (x := x) (f := qx) (l := froms pre ++ pre2.map (·.1)) (by assumption) (by assumption)]; done) | (rw [nx_t2 (x := x) (f := qx) (l := froms pre ++ pre2.map (·.1)) (by assumption) (by assumption)]; done) | (rw [nx_n1 (x := x) (f := qx) (l := froms pre ++ pre2.map (·.1)) (by assumption)]; done) | (rw [nx_n2 (x := x) (f := qx) (l := froms pre ++ pre2.map (·.1)) (by assumption) (by assumption)]; done)) | (simp; done))) (h := (slots_c (he := (by first | rfl | (rw [hma]; first | (rw [nx_t1 (x := x) (f := qx) (l := froms pre ++ pre2.map (·.1)) (by assumption) (by assumption)]; done) | (rw [nx_t2 (x := x) (f := qx) (l := froms pre ++ pre2.map (·.1)) (by assumption) (by assumption)]; done) | (rw [nx_n1 (x := x) (f := qx) (l := froms pre ++ pre2.map (·.1)) (by assumption)]; done) | (rw [nx_n2 (x := x) (f := qx) (l := froms pre ++ pre2.map (·.1)) (by assumption) (by assumption)]; done)) | (simp; done))) (h := trivial)))))) (.c (.c (.c (.c (.c (.c (.c (.c (.c .n)))))))))
              skip
              all_goals (dsimp only; simp only [List.length_cons]; omega)
            · first
            | (first | omega | contradiction)
            | refine S.o q.mv (S.o q.mv (S.o q.lss (S.o q.pf (S.o q.pt (S.end (hK _ ?_))))))
              clear hK K
              refine Ev.cd (fun c7 => ?_) (fun c7 => ?_)
              · first
              | (first | omega | contradiction)
              | refine Ev.sr fun K hK => S.o q.mv (S.o q.as (S.end (hK _ ?_)))
                clear hK K
                refine Ev.region_S fun K hK => S.o q.as (S.end (hK _ ?_))
                clear hK K
                show Ev _ _ _ _
                refine Ev.region_S fun K hK => S.o q.mv (S.o q.add (S.o q.as (S.end (hK _ ?_))))
                clear hK K
                refine hR2 _ _ ?_
                refine roundU [] [0, 1, 4, 5, 8, 11, 12, 13, 14] ⟨(pre2 ++ [(qx, qy)], suf2), by rw [← hp2]; simp⟩ ?_ keep_n (slots_c (he := (by first | rfl | (congr 2; simp; done))) (h := (slots_c (he := (by first | rfl | (rw [hma]; first | (rw [nx_t1 (x := x) (f := qx) (l := froms pre ++ pre2.map (·.1)) (by assumption) (by assumption)]; done) | (rw [nx_t2 (x := x) (f := qx) (l := froms pre ++ pre2.map (·.1)) (by assumption) (by assumption)]; done) | (rw [nx_n1 (x := x) (f := qx) (l := froms pre ++ pre2.map (·.1)) (by assumption)]; done) | (rw [nx_n2 (x := x) (f := qx) (l := froms pre ++ pre2.map (·.1)) (by assumption) (by assumption)]; done)) | (simp; done))) (h := (slots_c (he := (by first | rfl | (rw [hma]; first | (rw [nx_t1 (x := x) (f := qx) (l := froms pre ++ pre2.map (·.1)) (by assumption) (by assumption)]; done) | (rw [nx_t2 (x := x) (f := qx) (l := froms pre ++ pre2.map (·.1)) (by assumption) (by assumption)]; done) | (rw [nx_n1 (x := x) (f := qx) (l := froms pre ++ pre2.map (·.1)) (by assumption)]; done) | (rw [nx_n2 (x := x) (f := qx) (l := froms pre ++ pre2.map (·.1)) (by assumption) (by assumption)]; done)) | (simp; done))) (h := trivial)))))) (.c (.c (.c (.c (.c (.c (.c (.c (.c .n)))))))))
                skip
                all_goals (dsimp only; simp only [List.length_cons]; omega)
              · first
              | (first | omega | contradiction)
              | refine Ev.skip ?_
                show Ev _ _ _ _
                refine Ev.region_S fun K hK => S.o q.mv (S.o q.add (S.o q.as (S.end (hK _ ?_))))
                clear hK K
                refine hR2 _ _ ?_
                refine roundU [] [0, 1, 4, 5, 8, 11, 12, 13, 14] ⟨(pre2 ++ [(qx, qy)], suf2), by rw [← hp2]; simp⟩ ?_ keep_n (slots_c (he := (by first | rfl | (congr 2; simp; done))) (h := (slots_c (he := (by first | rfl | (rw [hma]; first | (rw [nx_t1 (x := x) (f := qx) (l := froms pre ++ pre2.map (·.1)) (by assumption) (by assumption)]; done) | (rw [nx_t2 (x := x) (f := qx) (l := froms pre ++ pre2.map (·.1)) (by assumption) (by assumption)]; done) | (rw [nx_n1 (x := x) (f := qx) (l := froms pre ++ pre2.map (·.1)) (by assumption)]; done) | (rw [nx_n2 (x := x) (f := qx) (l := froms pre ++ pre2.map (·.1)) (by assumption) (by assumption)]; done)) | (simp; done))) (h := (slots_c (he := (by first | rfl | (rw [hma]; first | (rw [nx_t1 (x := x) (f := qx) (l := froms pre ++ pre2.map (·.1)) (by assumption) (by assumption)]; done) | (rw [nx_t2 (x := x) (f := qx) (l := froms pre ++ pre2.map (·.1)) (by assumption) (by assumption)]; done) | (rw [nx_n1 (x := x) (f := qx) (l := froms pre ++ pre2.map (·.1)) (by assumption)]; done) | (rw [nx_n2 (x := x) (f := qx) (l := froms pre ++ pre2.map (·.1)) (by assumption) (by assumption)]; done)) | (simp; done))) (h := trivial)))))) (.c (.c (.c (.c (.c (.c (.c (.c (.c .n)))))))))
                skip
                all_goals (dsimp only; simp only [List.length_cons]; omega)
          · first
          | (first | omega | contradiction)
          | refine S.sk (S.sk (S.sk (S.sk (S.sk (S.sk (S.sk (S.o q.pf (S.end (hK _ ?_)))))))))
            clear hK K
            refine Ev.cf ?_
            refine Ev.skip ?_
            show Ev _ _ _ _
            refine Ev.region_S fun K hK => S.o q.mv (S.o q.add (S.o q.as (S.end (hK _ ?_))))
            clear hK K
            refine hR2 _ _ ?_
            refine roundU [] [0, 1, 4, 5, 8, 11, 12, 13, 14] ⟨(pre2 ++ [(qx, qy)], suf2), by rw [← hp2]; simp⟩ ?_ keep_n (slots_c (he := (by first | rfl | (congr 2; simp; done))) (h := (slots_c (he := (by first | rfl | (rw [hma]; first | (rw [nx_t1 (x := x) (f := qx) (l := froms pre ++ pre2.map (·.1)) (by assumption) (by assumption)]; done) | (rw [nx_t2 (x := x) (f := qx) (l := froms pre ++ pre2.map (·.1)) (by assumption) (by assumption)]; done) | (rw [nx_n1 (x := x) (f := qx) (l := froms pre ++ pre2.map (·.1)) (by assumption)]; done) | (rw [nx_n2 (x := x) (f := qx) (l := froms pre ++ pre2.map (·.1)) (by assumption) (by assumption)]; done)) | (simp; done))) (h := (slots_c (he := (by first | rfl | (rw [hma]; first | (rw [nx_t1 (x := x) (f := qx) (l := froms pre ++ pre2.map (·.1)) (by assumption) (by assumption)]; done) | (rw [nx_t2 (x := x) (f := qx) (l := froms pre ++ pre2.map (·.1)) (by assumption) (by assumption)]; done) | (rw [nx_n1 (x := x) (f := qx) (l := froms pre ++ pre2.map (·.1)) (by assumption)]; done) | (rw [nx_n2 (x := x) (f := qx) (l := froms pre ++ pre2.map (·.1)) (by assumption) (by assumption)]; done)) | (simp; done))) (h := trivial)))))) (.c (.c (.c (.c (.c (.c (.c (.c (.c .n)))))))))
            skip
            all_goals (dsimp only; simp only [List.length_cons]; omega)
        · first | omega | contradiction | (exfalso; simp at *; done)
    · first | omega | contradiction | (exfalso; simp at *; done)
theorem topF_fun (l : List Dem) (z : Bx) (x : Int) (hlen : l.length ≤ 140737488355328) (hw : demW l) : Fun Tryd.prog 32 [.sh 8 (l.map Dem.c), .agg z.c, .lit (.int .i64 x)] (Ret (.lit (.int .i64 (topV l z x))) []) := by
  refine Fun.of (nt := 32) (rs := [.tmp 6]) Tryd.func32 rfl rfl rfl rfl rfl ?_
  refine Ev.sr fun K hK => S.nn (q.bx [_, _, _, _, _, _] true) (S.o q.as (S.end (hK _ ?_)))
  clear hK K
  refine Ev.sr fun K hK => S.o q.as (S.end (hK _ ?_))
  clear hK K
  refine Ev.seq ?_
  refine Ev.sr fun K hK => S.o q.as (S.end (hK _ ?_))
  clear hK K
  refine Ev.block ?_
  refine Ev.loopU (ι := {p : List (Dem) × List (Dem) // p.1 ++ p.2 = l ∧ True}) [0] [0, 2, 4, 6] (fun ⟨(pre, suf), _⟩ => [(8, .lit (.int .i64 ((pre.length : Int)))), (7, .lit (.int .i64 (topL (inL pre z) x)))]) (fun ⟨(pre, suf), _⟩ => [(0, ⟨false, 26, 6, [[.lit (.int .i64 (z.lx)), .lit (.int .i64 (z.ly)), .lit (.int .i64 (z.lz)), .lit (.int .i64 (z.hx)), .lit (.int .i64 (z.hy)), .lit (.int .i64 (z.hz))]], true⟩)]) (fun ⟨(pre, suf), _⟩ => suf.length) ⟨([], l), rfl, trivial⟩ (.c (.c (.c (.c .n)))) (keep_c (he := (by first | rfl | (simp; done))) (h := keep_n)) (slots_c (he := (by first | rfl | (congr 2; simp; done))) (h := (slots_c (he := (by first | rfl | (rw [inL_snoc_t ‹inB s.zone z›, topL_snoc]; done) | (rw [inL_snoc_f ‹¬ inB s.zone z›]; done))) (h := trivial)))) ?_
  rintro ⟨⟨pre, suf⟩, hp, hinv⟩ R0 hR0
  dsimp only [List.cons_append, List.nil_append, List.length_cons, List.length_nil]
  simp only at hp hinv
  have hpl : pre.length + suf.length = (l).length := by rw [← hp, List.length_append]
  rcases suf with _ | ⟨s, suf⟩
  · rw [List.append_nil] at hp; simp only [List.length_nil] at hpl
    subst hp
    refine Ev.seq ?_
    refine Ev.sr fun K hK => S.o q.mv (S.o q.mv (S.o (q.lens am_el22) (S.o q.lss (S.end (hK _ ?_)))))
    clear hK K
    refine Ev.cd (fun c1 => ?_) (fun c1 => ?_)
    · first | omega | contradiction | (exfalso; simp at *; done)
    · first
    | (first | omega | contradiction)
    | refine Ev.exit ?_
      refine hR0 _ _ ?_
      show Ev _ _ _ _
      refine Ev.sr fun K hK => S.o q.mv (S.o q.as (S.end (hK _ ?_)))
      clear hK K
      refine Ev.ret ?_
      refine Ev.ret1 ?_
      refine ⟨?_, rfl⟩
      rfl
  · simp only [List.length_cons] at hpl
    have hidx : l[pre.length]? = some s := by rw [← hp]; simp
    have hsw : s.w := hw s (by rw [← hp]; simp)
    have hsw2 := hsw.2
    refine Ev.seq ?_
    refine Ev.sr fun K hK => S.o q.mv (S.o q.mv (S.o (q.lens am_el22) (S.o q.lss (S.end (hK _ ?_)))))
    clear hK K
    refine Ev.cd (fun c2 => ?_) (fun c2 => ?_)
    · first
    | (first | omega | contradiction)
    | refine Ev.skip ?_
      show Ev _ _ _ _
      refine Ev.seq ?_
      refine Ev.block ?_
      refine Ev.sm (tbs [(0, 0), (0, 0), (2, 3), (3, 7), (4, 15), (0, 0), (6, 63)]) 7 fun K hK => M.o q.mv (M.o q.mv (M.o (q.ix am_el22 am_cl48 (hl := (by first | exact ati hidx (by omega) | exact atig (by omega)))) (M.o (q.fs 1 am_fi48_1 am_cl26) (M.o (q.lsA [_, _, _, _, _, _] am_ag26 am_cl26) (M.o (q.lvA [_, _, _, _, _, _] am_ag26 am_cl26) (M.c0 (hF := within23_fun s.zone z) (h := M.end [_] (h := S.end (hK _ ?_)))))))))
      clear hK K
      refine Ev.cd (fun c3 => ?_) (fun c3 => ?_)
      · first
      | (first | omega | contradiction)
      | refine Ev.region_S fun K hK => S.o q.mv (S.o q.mv (S.o q.mv (S.o (q.ix am_el22 am_cl48 (hl := (by first | exact ati hidx (by omega) | exact atig (by omega)))) (S.o (q.fs 7 am_fi48_2 am_cl29) (S.o (q.ls am_ag29) (S.o q.mv (S.c0 (hF := rAt_fun s.steps x (by omega)) (h := S.o q.max (S.o q.as (S.end (hK _ ?_)))))))))))
        clear hK K
        show Ev _ _ _ _
        refine Ev.region_S fun K hK => S.o q.mv (S.o q.add (S.o q.as (S.end (hK _ ?_))))
        clear hK K
        refine hR0 _ _ ?_
        refine roundU [0] [0, 2, 4, 6] ⟨(pre ++ [s], suf), by rw [← hp]; simp, ?_⟩ ?_ (keep_c (he := (by first | rfl | (simp; done))) (h := keep_n)) (slots_c (he := (by first | rfl | (congr 2; simp; done))) (h := (slots_c (he := (by first | rfl | (rw [inL_snoc_t ‹inB s.zone z›, topL_snoc]; done) | (rw [inL_snoc_f ‹¬ inB s.zone z›]; done))) (h := trivial)))) (.c (.c (.c (.c .n))))
        trivial
        all_goals (dsimp only; simp only [List.length_cons]; omega)
      · first
      | (first | omega | contradiction)
      | refine Ev.skip ?_
        show Ev _ _ _ _
        refine Ev.region_S fun K hK => S.o q.mv (S.o q.add (S.o q.as (S.end (hK _ ?_))))
        clear hK K
        refine hR0 _ _ ?_
        refine roundU [0] [0, 2, 4, 6] ⟨(pre ++ [s], suf), by rw [← hp]; simp, ?_⟩ ?_ (keep_c (he := (by first | rfl | (simp; done))) (h := keep_n)) (slots_c (he := (by first | rfl | (congr 2; simp; done))) (h := (slots_c (he := (by first | rfl | (rw [inL_snoc_t ‹inB s.zone z›, topL_snoc]; done) | (rw [inL_snoc_f ‹¬ inB s.zone z›]; done))) (h := trivial)))) (.c (.c (.c (.c .n))))
        trivial
        all_goals (dsimp only; simp only [List.length_cons]; omega)
    · first | omega | contradiction | (exfalso; simp at *; done)
theorem rEnvelope_fun (l : List Dem) (z : Bx) (hlen : l.length ≤ 140737488355328) (hw : demW l) : Fun Tryd.prog 9 [.sh 8 (l.map Dem.c), .agg z.c] (Ret (.tup [.sh 2 ((envV l z).map pairC), .lit (.int .i64 (envE l z))]) []) := by
  refine Fun.of (nt := 49) (rs := [.tmp 4, .tmp 5]) Tryd.func9 rfl rfl rfl rfl rfl ?_
  refine Ev.sr fun K hK => S.nn (q.bx [_, _, _, _, _, _] true) (S.o q.as (S.o q.as (S.end (hK _ ?_))))
  clear hK K
  refine Ev.seq ?_
  refine Ev.sr fun K hK => S.o q.mv (S.c0 (hF := rdemValid_fun _ (by omega) (by assumption)) (h := S.o q.not (S.bn q.mv (fun c1 => ?_) (fun c1 => ?_))))
  · first
  | (first | omega | contradiction)
  | refine S.sk (S.sk (S.sk (S.o q.pt (S.end (hK _ ?_)))))
    clear hK K
    refine Ev.ct ?_
    obtain ⟨e1, e2⟩ := env_arg (l := l) (z := z) (by rintro ⟨h1, h2⟩; first | exact absurd h1 ‹_› | exact absurd h2 ‹_›)
    rw [e1, e2]
    refine Ev.sr fun K hK => S.o q.as (S.o q.as (S.end (hK _ ?_)))
    clear hK K
    refine Ev.weaken (Wk.nsh pairC 4 2) ?_
    refine Ev.ret ?_
    refine Ev.ret2 ?_
    refine ⟨?_, rfl⟩
    first | rfl | (rw [e1, e2]; done) | (rw [e1, e2] <;> rfl)
  · first
  | (first | omega | contradiction)
  | refine S.o (q.lvA [_, _, _, _, _, _] am_ag26 am_cl26) (S.c0 (hF := rboxValid_fun z) (h := S.o q.not (S.o q.pf (S.end (hK _ ?_)))))
    clear hK K
    refine Ev.cn (fun c2 => ?_) (fun c2 => ?_)
    · first
    | (first | omega | contradiction)
    | obtain ⟨e1, e2⟩ := env_arg (l := l) (z := z) (by rintro ⟨h1, h2⟩; first | exact absurd h1 ‹_› | exact absurd h2 ‹_›)
      rw [e1, e2]
      refine Ev.sr fun K hK => S.o q.as (S.o q.as (S.end (hK _ ?_)))
      clear hK K
      refine Ev.weaken (Wk.nsh pairC 4 2) ?_
      refine Ev.ret ?_
      refine Ev.ret2 ?_
      refine ⟨?_, rfl⟩
      first | rfl | (rw [e1, e2]; done) | (rw [e1, e2] <;> rfl)
    · first
    | (first | omega | contradiction)
    | refine Ev.skip ?_
      show Ev _ _ _ _
      have hok : okDems l ∧ okBx z := ⟨‹_›, ‹_›⟩
      have hl20 := hok.1.1
      obtain ⟨m1, m2⟩ := nx_first hok.1
      have hfl := froms_len l hok.1.2.1
      have hpll := plc_len l
      refine Ev.sr fun K hK => S.o q.as (S.end (hK _ ?_))
      clear hK K
      refine Ev.sr fun K hK => S.o q.as (S.end (hK _ ?_))
      clear hK K
      refine Ev.sr fun K hK => S.o q.mv (S.c0 (hF := next_fun _ _ (by omega) (by assumption)) (h := S.o q.mv (S.o q.ex (S.o q.ex (S.o q.as (S.o q.as (S.end (hK _ ?_))))))))
      clear hK K
      refine Ev.seq ?_
      refine Ev.block ?_
      refine Ev.weaken (Wk.nown pairC 6 39 2) ?_
      refine Ev.loopU (ι := {q : List Int × List Int // q.1 ++ q.2 = plc l}) [1, 0] [0, 3, 4, 5] (fun ⟨(pp, ss), _⟩ => [(7, .lit (.int .i64 (endF (topV l z) 0 pp))), (8, .lit (.int .i64 (hdI ss))), (9, .lit (.bool (hdB ss))), (6, .als 0 0 (envL (topV l z) 0 pp).length)]) (fun ⟨(pp, ss), _⟩ => [(0, ⟨true, 39, 2, (envL (topV l z) 0 pp).map pairC, true⟩), (1, ⟨false, 26, 6, [[.lit (.int .i64 (z.lx)), .lit (.int .i64 (z.ly)), .lit (.int .i64 (z.lz)), .lit (.int .i64 (z.hx)), .lit (.int .i64 (z.hy)), .lit (.int .i64 (z.hz))]], true⟩)]) (fun ⟨(pp, ss), _⟩ => ss.length) ⟨([], plc l), rfl⟩ (.c (.c (.c (.c .n)))) (keep_c (he := (by first | rfl | (rw [envL_snoc, if_neg ‹_›]; done) | (rw [envL_snoc, if_pos ‹_›, List.append_nil]; done))) (h := (keep_c (he := (by first | rfl | (simp; done))) (h := keep_n)))) (slots_c (he := (by first | rfl | (rw [endF_snoc]; done))) (h := (slots_c (he := (by first | rfl | (rw [n1]; done) | (rw [m1]; done))) (h := (slots_c (he := (by first | rfl | (rw [n2]; done) | (rw [m2]; done))) (h := (slots_c (he := (by first | rfl | (rw [envL_snoc, if_neg ‹_›]; done) | (rw [envL_snoc, if_pos ‹_›, List.append_nil]; done))) (h := trivial)))))))) ?_
      rintro ⟨⟨pp, ss⟩, hpp⟩ R0 hR0
      dsimp only [List.cons_append, List.nil_append, List.length_cons, List.length_nil]
      simp only at hpp
      have hppl : pp.length + ss.length = (plc l).length := by rw [← hpp, List.length_append]
      have hel := envL_len (topV l z) pp 0
      rcases ss with _ | ⟨s, ss⟩
      · rw [List.append_nil] at hpp; simp only [List.length_nil] at hppl
        subst hpp
        simp only [hdI, hdB]
        refine Ev.seq ?_
        refine Ev.sr fun K hK => S.o q.mv (S.end (hK _ ?_))
        clear hK K
        refine Ev.c (fun c3 => ?_) (fun c3 => ?_)
        · first | omega | contradiction | (exfalso; simp at *; done)
        · first
        | (first | omega | contradiction)
        | refine Ev.exit ?_
          refine hR0 _ _ ?_
          show Ev _ _ _ _
          refine Ev.seq ?_
          have hes : envL (topV l z) 0 (plc l) = envR l z := env_same l z
          refine Ev.sr fun K hK => S.o q.mv (S.o (q.lena am_el29) (S.o q.gtr (S.end (hK _ ?_))))
          clear hK K
          refine Ev.cd (fun c4 => ?_) (fun c4 => ?_)
          · first
          | (first | omega | contradiction)
          | obtain ⟨e1, e2⟩ := env_full (l := l) (z := z) hok (by rw [← hes]; omega)
            rw [e1, e2]
            refine Ev.sr fun K hK => S.o q.as (S.o q.as (S.end (hK _ ?_)))
            clear hK K
            refine Ev.weaken (Wk.nsh pairC 4 2) ?_
            refine Ev.ret ?_
            refine Ev.ret2 ?_
            refine ⟨?_, rfl⟩
            first | rfl | (rw [e1, e2]; done) | (rw [e1, e2] <;> rfl)
          · first
          | (first | omega | contradiction)
          | refine Ev.skip ?_
            show Ev _ _ _ _
            obtain ⟨e1, e2⟩ := env_ok (l := l) (z := z) hok (by rw [← hes]; omega)
            rw [e1, e2, ← hes]
            refine Ev.sr fun K hK => S.o q.mv (S.o q.as (S.o q.as (S.end (hK _ ?_))))
            clear hK K
            refine Ev.weaken (Wk.frz 4 [_]) ?_
            refine Ev.ret ?_
            refine Ev.ret2 ?_
            refine ⟨?_, rfl⟩
            first | rfl | (rw [e1, e2]; done) | (rw [e1, e2] <;> rfl)
      · simp only [List.length_cons] at hppl
        obtain ⟨n1, n2⟩ := nx_hd hpp
        simp only [hdI, hdB]
        refine Ev.seq ?_
        refine Ev.sr fun K hK => S.o q.mv (S.end (hK _ ?_))
        clear hK K
        refine Ev.c (fun c5 => ?_) (fun c5 => ?_)
        · first
        | (first | omega | contradiction)
        | refine Ev.skip ?_
          show Ev _ _ _ _
          refine Ev.block ?_
          refine Ev.sr fun K hK => S.o q.mv (S.o (q.lvA [_, _, _, _, _, _] am_ag26 am_cl26) (S.o q.mv (S.c0 (hF := topF_fun _ _ _ (by omega) (by assumption)) (h := S.o q.as (S.end (hK _ ?_))))))
          clear hK K
          refine Ev.seq ?_
          refine Ev.sr fun K hK => S.o q.mv (S.o q.mv (S.o q.neq (S.end (hK _ ?_))))
          clear hK K
          refine Ev.cn (fun c6 => ?_) (fun c6 => ?_)
          · first
          | (first | omega | contradiction)
          | refine Ev.region_S fun K hK => S.o q.mv (S.o q.mv (S.o q.mv (S.o (q.bd [_, _] am_ze39 am_pl39) (S.nn (q.bs [[_, _]] true am_el29 am_ze39 am_cl39) (S.ap' [_, _] am_el29 am_ze39 am_cl39 am_by39 (hh := head_own') (hr := (rows_lit [(s, topV l z s)])) (h := S.o q.as (S.end (hK _ ?_))))))))
            clear hK K
            show Ev _ _ _ _
            refine Ev.sr fun K hK => S.o q.mv (S.o q.as (S.end (hK _ ?_)))
            clear hK K
            refine Ev.region_S fun K hK => S.o q.mv (S.o q.mv (S.c0 (hF := next_fun _ _ (by omega) (by assumption)) (h := S.o q.mv (S.o q.ex (S.o q.ex (S.o q.as (S.o q.as (S.end (hK _ ?_)))))))))
            clear hK K
            refine hR0 _ _ ?_
            refine roundU [3, 1] [0, 3, 4, 5] ⟨(pp ++ [s], ss), by rw [← hpp]; simp⟩ ?_ (keep_c (he := (by first | rfl | (rw [envL_snoc, if_neg ‹_›]; done) | (rw [envL_snoc, if_pos ‹_›, List.append_nil]; done))) (h := (keep_c (he := (by first | rfl | (simp; done))) (h := keep_n)))) (slots_c (he := (by first | rfl | (rw [endF_snoc]; done))) (h := (slots_c (he := (by first | rfl | (rw [n1]; done) | (rw [m1]; done))) (h := (slots_c (he := (by first | rfl | (rw [n2]; done) | (rw [m2]; done))) (h := (slots_c (he := (by first | rfl | (rw [envL_snoc, if_neg ‹_›]; done) | (rw [envL_snoc, if_pos ‹_›, List.append_nil]; done))) (h := trivial)))))))) (.c (.c (.c (.c .n))))
            skip
            all_goals (dsimp only; simp only [List.length_cons]; omega)
          · first
          | (first | omega | contradiction)
          | refine Ev.skip ?_
            show Ev _ _ _ _
            refine Ev.sr fun K hK => S.o q.mv (S.o q.as (S.end (hK _ ?_)))
            clear hK K
            refine Ev.region_S fun K hK => S.o q.mv (S.o q.mv (S.c0 (hF := next_fun _ _ (by omega) (by assumption)) (h := S.o q.mv (S.o q.ex (S.o q.ex (S.o q.as (S.o q.as (S.end (hK _ ?_)))))))))
            clear hK K
            refine hR0 _ _ ?_
            refine roundU [0, 1] [0, 3, 4, 5] ⟨(pp ++ [s], ss), by rw [← hpp]; simp⟩ ?_ (keep_c (he := (by first | rfl | (rw [envL_snoc, if_neg ‹_›]; done) | (rw [envL_snoc, if_pos ‹_›, List.append_nil]; done))) (h := (keep_c (he := (by first | rfl | (simp; done))) (h := keep_n)))) (slots_c (he := (by first | rfl | (rw [endF_snoc]; done))) (h := (slots_c (he := (by first | rfl | (rw [n1]; done) | (rw [m1]; done))) (h := (slots_c (he := (by first | rfl | (rw [n2]; done) | (rw [m2]; done))) (h := (slots_c (he := (by first | rfl | (rw [envL_snoc, if_neg ‹_›]; done) | (rw [envL_snoc, if_pos ‹_›, List.append_nil]; done))) (h := trivial)))))))) (.c (.c (.c (.c .n))))
            skip
            all_goals (dsimp only; simp only [List.length_cons]; omega)
        · first | omega | contradiction | (exfalso; simp at *; done)
end Go.Proofs.YtdegjlhcchimbaaDoor
