/-
  The law ScheduleCounts, walked.
  Conditions: none.
-/
import Derived.Test.YtddogeicmhbidaaDoorAw1
import Derived.Test.YtddogeicmhbidaaDoorCt1
import Derived.Test.YtddogeicmhbidaaDoorAmLib
import Derived.Shelf.Lay
import Derived.Ground.NamesProg
import Derived.Ground.SlgnProg
namespace Go.Proofs.YtddogeicmhbidaaDoor
open Go Go.AM
set_option linter.unusedSimpArgs false
set_option linter.unusedVariables false
set_option maxRecDepth 100000
set_option maxHeartbeats 1000000

open Go.Shelf in
shelf_lay_g SlLaysE0.n35 Slgn 35 at Tryd 15 as reverseBarLay
theorem reverse_fun (l : List Bar) (hlen : l.length ≤ 1000) : FunR Tryd.prog 15 [.als 0 0 l.length] [(0, ⟨true, 38, 5, l.map Bar.c, true⟩)] 1 (Ret (.tup []) [(0, ⟨true, 38, 5, l.reverse.map Bar.c, true⟩)]) := by
  have h := reverse_R reverseBarLay (el := 38) (sz := 5) ⟨_, Tryd.func15, rfl, rfl⟩ (fun w => run_isAgg am_ag38 w) (fun w => run_cells am_in38 am_cl38 w) (by decide) (l.map Bar.c) (by rw [List.length_map]; omega)
  rw [List.length_map] at h
  rw [List.map_reverse]
  exact h
theorem pcV_eq {l : List Bar} {d : Int} (h : okSched l) (hd : d ∈ sizes) : pcV l d = pcP l d ∧ pcE l d = 0 := ⟨if_pos ⟨h, hd⟩, (if_pos h).trans (if_pos hd)⟩
theorem pcV_rev {l : List Bar} {d : Int} (h : okSched l) (hd : d ∈ sizes) : pcV l.reverse d = pcP l d ∧ pcE l.reverse d = 0 := by
  obtain ⟨h1, h2⟩ := pcV_eq (okSched_rev h) hd
  exact ⟨h1.trans (pcP_perm (List.reverse_perm l).symm h.2.1 d), h2⟩
theorem schedW_rev {l : List Bar} (h : schedW l) : schedW l.reverse := fun b hb => h b (List.mem_reverse.1 hb)
theorem counts_law (l : List Bar) (hlen : l.length ≤ 140737488355328) : Fun Tryd.prog 4 [.sh 5 (l.map Bar.c)] (Ret (.lit (.bool true)) []) := by
  have hs9 : sizes.length = 9 := rfl
  refine Fun.of (nt := 96) (rs := [.tmp 2]) Tryd.func4 rfl rfl rfl rfl rfl ?_
  refine Ev.sr fun K hK => S.o q.as (S.end (hK _ ?_))
  clear hK K
  refine Ev.seq ?_
  refine Ev.sr fun K hK => S.c0 (hF := awake_fun) (h := S.o q.nott (S.end (hK _ ?_)))
  clear hK K
  refine Ev.cf ?_
  refine Ev.skip ?_
  show Ev _ _ _ _
  refine Ev.seq ?_
  refine Ev.sr fun K hK => S.o q.mv (S.nn (q.bs [[_]] true am_el55 am_ze22 am_cl22) (S.c0 (hF := few_fun [l] (by simp) (fun x hx => by rw [List.mem_singleton] at hx; subst hx; exact hlen)) (h := S.o q.not (S.end (hK _ ?_)))))
  clear hK K
  refine Ev.cn (fun c1 => ?_) (fun c1 => ?_)
  · first
  | (first | omega | contradiction)
  | refine Ev.sr fun K hK => S.o q.as (S.end (hK _ ?_))
    clear hK K
    refine Ev.ret ?_
    refine Ev.ret1 ?_
    refine ⟨?_, rfl⟩
    first | rfl | exact lawT rfl | exact lawT (by omega) | (exfalso; omega) | contradiction | (exfalso; have h9 := hdsc (by omega); omega) | (exfalso; simp at *; done)
  · first
  | (first | omega | contradiction)
  | refine Ev.skip ?_
    show Ev _ _ _ _
    have hsm : smallL l 70 := (‹∀ x ∈ [l], smallL x 70› : ∀ x ∈ [l], smallL x 70) l (by simp)
    have hw := small_w hsm
    have hl8 := hsm.1
    have hd12 : ∀ b ∈ l, b.dims.length ≤ 1000000 := fun b hb => by have := hsm.2 b hb; omega
    refine Ev.sr fun K hK => S.o q.mv (S.c0 (hF := stotal_fun _ (by omega) (by assumption)) (h := S.o q.mv (S.o q.ex (S.o q.ex (S.o q.as (S.o q.as (S.end (hK _ ?_))))))))
    clear hK K
    refine Ev.seq ?_
    refine Ev.sr fun K hK => S.o q.mv (S.o q.neq (S.end (hK _ ?_)))
    clear hK K
    refine Ev.cn (fun c2 => ?_) (fun c2 => ?_)
    · first
    | (first | omega | contradiction)
    | have hno : ¬ okSched l := fun h => by have h4 : okS l = 0 := if_pos h; omega
      have e3 : totalV l = 0 := if_neg hno
      refine Ev.sr fun K hK => S.o q.mv (S.o q.eql (S.o q.as (S.end (hK _ ?_))))
      clear hK K
      refine Ev.ret ?_
      refine Ev.ret1 ?_
      refine ⟨?_, rfl⟩
      first | rfl | exact lawT rfl | exact lawT (by omega) | (exfalso; omega) | contradiction | (exfalso; have h9 := hdsc (by omega); omega) | (exfalso; simp at *; done)
    · first
    | (first | omega | contradiction)
    | refine Ev.skip ?_
      show Ev _ _ _ _
      have hok : okSched l := okS_zero (l := l) (show okS l = 0 by omega)
      have hll := hok.1
      have hwr := schedW_rev hw
      obtain ⟨t1, t2⟩ := cntT_bd l hok.2.1
      rw [show totalV l = cntT l from if_pos hok]
      refine Ev.sr fun K hK => S.o q.mv (S.c1 (hF := copy14o_fun l (by omega) hd12) (h := S.o q.as (S.end (hK _ ?_))))
      clear hK K
      refine Ev.sr fun K hK => S.o q.mv (S.cR [1] _ [_, _] (hob := (keep_c (he := rfl) (h := keep_n))) (hF := reverse_fun l (by omega)) (hn' := below1 (by decide)) (h := S.end (hK _ ?_)))
      clear hK K
      refine Ev.seq ?_
      refine Ev.weaken (Wk.frz 5 [_]) ?_
      refine Ev.sr fun K hK => S.c0 (hF := sizes_fun) (h := S.o (q.lens am_el36) (S.o q.mv (S.end (hK _ ?_))))
      clear hK K
      refine Ev.block ?_
      refine Ev.loopU (ι := {p : List (Int) × List (Int) // p.1 ++ p.2 = sizes ∧ True}) [] [0, 5, 33, 34] (fun ⟨(pre, suf), _⟩ => [(35, .lit (.int .i64 ((pre.length : Int)))), (3, .lit (.int .i64 (cntT l - offS l pre)))]) (fun ⟨(pre, suf), _⟩ => []) (fun ⟨(pre, suf), _⟩ => suf.length) ⟨([], sizes), rfl, trivial⟩ (.c (.c (.c (.c .n)))) keep_n (slots_c (he := (by first | rfl | (congr 2; simp; done))) (h := (slots_c (he := (by first | rfl | (refine iE ?_; simp [offS]; done) | (refine iE ?_; rw [offS_snoc, ← pcP_sum hok.2.1 s]; show _ = cntT l - (offS l pre + cntP (pcP l s)); omega))) (h := trivial)))) ?_
      rintro ⟨⟨pre, suf⟩, hp, hinv⟩ R0 hR0
      dsimp only [List.cons_append, List.nil_append, List.length_cons, List.length_nil]
      simp only at hp hinv
      have hpl : pre.length + suf.length = (sizes).length := by rw [← hp, List.length_append]
      rcases suf with _ | ⟨s, suf⟩
      · rw [List.append_nil] at hp; subst pre; simp only [List.length_nil] at hpl
        have hfin : offS l sizes = cntT l := sizes_sum hok.2.1
        refine Ev.sr fun K hK => S.o q.lss (S.end (hK _ ?_))
        clear hK K
        refine Ev.ud (fun c3 => ?_) (fun c3 => ?_)
        · first | omega | contradiction
        · first
        | (first | omega | contradiction)
        | refine Ev.exit ?_
          refine hR0 _ _ ?_
          show Ev _ _ _ _
          refine Ev.sr fun K hK => S.o q.mv (S.o q.eql (S.o q.as (S.end (hK _ ?_))))
          clear hK K
          refine Ev.ret ?_
          refine Ev.ret1 ?_
          refine ⟨?_, rfl⟩
          first | rfl | exact lawT rfl | exact lawT (by omega) | (exfalso; omega) | contradiction | (exfalso; have h9 := hdsc (by omega); omega) | (exfalso; simp at *; done)
      · simp only [List.length_cons] at hpl
        have hidx : sizes[pre.length]? = some s := by rw [← hp]; simp
        have hsz : s ∈ sizes := by rw [← hp]; simp
        obtain ⟨o1, o2⟩ := offS_bd hok.2.1 hll pre
        refine Ev.sr fun K hK => S.o q.lss (S.end (hK _ ?_))
        clear hK K
        refine Ev.ud (fun c4 => ?_) (fun c4 => ?_)
        · first
        | (first | omega | contradiction)
        | refine Ev.seq ?_
          refine Ev.block ?_
          refine Ev.sr fun K hK => S.o (q.ix am_el36 am_cl3 (hl := (by first | exact ati (pre_last hpk (by omega)) (by omega) | exact ati hidx (by omega) | exact atig (by omega)))) (S.o (q.ls am_ag3) (S.o q.as (S.end (hK _ ?_))))
          clear hK K
          obtain ⟨v1, v2⟩ := pcV_eq hok hsz
          obtain ⟨v3, v4⟩ := pcV_rev hok hsz
          have hpl9 := pcP_len hok.2.1 s
          refine Ev.sr fun K hK => S.o q.mv (S.o q.mv (S.c0 (hF := Pieces_fun l s (by omega) hw) (h := S.o q.mv (S.o q.ex (S.o q.ex (S.o q.as (S.o q.as (S.end (hK _ ?_)))))))))
          clear hK K
          rw [v1]
          refine Ev.sr fun K hK => S.o q.mv (S.o q.mv (S.c0 (hF := Pieces_fun l.reverse s (by rw [List.length_reverse]; omega) hwr) (h := S.o q.mv (S.o q.ex (S.o q.ex (S.o q.as (S.o q.as (S.end (hK _ ?_)))))))))
          clear hK K
          refine Ev.seq ?_
          rw [v3]
          refine Ev.sr fun K hK => S.o q.mv (S.o q.neq (S.bn q.mv (fun c5 => ?_) (fun c5 => ?_)))
          · first
          | (first | omega | contradiction)
          | refine S.sk (S.sk (S.o q.pt (S.o q.mv (S.sk (S.sk (S.sk (S.sk (S.o q.pt (S.end (hK _ ?_))))))))))
            clear hK K
            refine Ev.ct ?_
            refine Ev.sr fun K hK => S.o q.as (S.end (hK _ ?_))
            clear hK K
            refine Ev.ret ?_
            refine hR0 _ _ ?_
            refine Ev.ret1 ?_
            refine ⟨?_, rfl⟩
            first | rfl | exact lawT rfl | exact lawT (by omega) | (exfalso; omega) | contradiction | (exfalso; have h9 := hdsc (by omega); omega) | (exfalso; simp at *; done)
          · first
          | (first | omega | contradiction)
          | refine S.o q.mv (S.o q.neq (S.o q.pf (S.bn q.mv (fun c6 => ?_) (fun c6 => ?_))))
            · first
            | (first | omega | contradiction)
            | refine S.sk (S.sk (S.sk (S.sk (S.o q.pt (S.end (hK _ ?_))))))
              clear hK K
              refine Ev.ct ?_
              refine Ev.sr fun K hK => S.o q.as (S.end (hK _ ?_))
              clear hK K
              refine Ev.ret ?_
              refine hR0 _ _ ?_
              refine Ev.ret1 ?_
              refine ⟨?_, rfl⟩
              first | rfl | exact lawT rfl | exact lawT (by omega) | (exfalso; omega) | contradiction | (exfalso; have h9 := hdsc (by omega); omega) | (exfalso; simp at *; done)
            · first
            | (first | omega | contradiction)
            | refine S.o q.mv (S.o q.mv (S.c0 (hF := eqPc_fun (pcP l s) (pcP l s) (by omega) (by omega)) (h := S.o q.not (S.o q.pf (S.end (hK _ ?_))))))
              clear hK K
              refine Ev.cn (fun c7 => ?_) (fun c7 => ?_)
              · first
              | (first | omega | contradiction)
              | refine Ev.sr fun K hK => S.o q.as (S.end (hK _ ?_))
                clear hK K
                refine Ev.ret ?_
                refine hR0 _ _ ?_
                refine Ev.ret1 ?_
                refine ⟨?_, rfl⟩
                first | rfl | exact lawT rfl | exact lawT (by omega) | (exfalso; omega) | contradiction | (exfalso; have h9 := hdsc (by omega); omega) | (exfalso; simp at *; done)
              · first
              | (first | omega | contradiction)
              | refine Ev.skip ?_
                show Ev _ _ _ _
                refine Ev.sr fun K hK => S.o q.mv (S.o (q.lens am_el40) (S.o q.mv (S.end (hK _ ?_))))
                clear hK K
                refine Ev.block ?_
                refine Ev.loopU (ι := {q : List (Int × Int) × List (Int × Int) // q.1 ++ q.2 = pcP l s}) [] [0, 5, 7, 8, 9, 10, 11, 33, 34, 35, 36, 37, 38, 39, 40, 41, 42, 43, 44, 45, 46, 47, 48, 49, 50, 51, 52, 53, 54, 55, 56, 57, 58, 59, 60, 61, 62, 63, 64] (fun ⟨(prek, sufk), _⟩ => [(65, .lit (.int .i64 ((prek.length : Int)))), (3, .lit (.int .i64 (cntT l - offS l pre - cntP prek)))]) (fun ⟨(prek, sufk), _⟩ => []) (fun ⟨(prek, sufk), _⟩ => sufk.length) ⟨([], pcP l s), rfl⟩ (.c (.c (.c (.c (.c (.c (.c (.c (.c (.c (.c (.c (.c (.c (.c (.c (.c (.c (.c (.c (.c (.c (.c (.c (.c (.c (.c (.c (.c (.c (.c (.c (.c (.c (.c (.c (.c (.c (.c .n))))))))))))))))))))))))))))))))))))))) keep_n (slots_c (he := (by first | rfl | (congr 2; simp; done))) (h := (slots_c (he := (by first | rfl | (refine iE ?_; simp [cntP]; done) | (refine iE ?_; rw [cntP_snoc]; omega))) (h := trivial)))) ?_
                rintro ⟨⟨prek, sufk⟩, hpk⟩ R2 hR2
                dsimp only [List.cons_append, List.nil_append, List.length_cons, List.length_nil]
                simp only at hpk
                have hplk : prek.length + sufk.length = (pcP l s).length := by rw [← hpk, List.length_append]
                obtain ⟨c1, c2⟩ := cntP_bd hok.2.1 hll hpk
                rcases sufk with _ | ⟨⟨sk1, sk2⟩, sufk⟩
                · rw [List.append_nil] at hpk; subst prek; simp only [List.length_nil] at hplk
                  refine Ev.sr fun K hK => S.o q.lss (S.end (hK _ ?_))
                  clear hK K
                  refine Ev.ud (fun c8 => ?_) (fun c8 => ?_)
                  · first | omega | contradiction
                  · first
                  | (first | omega | contradiction)
                  | refine Ev.exit ?_
                    refine hR2 _ _ ?_
                    show Ev _ _ _ _
                    refine Ev.region_S fun K hK => S.o q.add (S.o q.mv (S.end (hK _ ?_)))
                    clear hK K
                    refine hR0 _ _ ?_
                    refine roundU [] [0, 5, 33, 34] ⟨(pre ++ [s], suf), by rw [← hp]; simp, ?_⟩ ?_ keep_n (slots_c (he := (by first | rfl | (congr 2; simp; done))) (h := (slots_c (he := (by first | rfl | (refine iE ?_; simp [offS]; done) | (refine iE ?_; rw [offS_snoc, ← pcP_sum hok.2.1 s]; show _ = cntT l - (offS l pre + cntP (pcP l s)); omega))) (h := trivial)))) (.c (.c (.c (.c .n))))
                    trivial
                    all_goals (dsimp only; simp only [List.length_cons]; omega)
                · simp only [List.length_cons] at hplk
                  have hidk : (pcP l s)[prek.length]? = some (sk1, sk2) := by rw [← hpk]; simp
                  obtain ⟨n1, n2⟩ := pc_one hok.2.1 hpk
                  have hdsc := fun h => pc_desc hpk h
                  refine Ev.sr fun K hK => S.o q.lss (S.end (hK _ ?_))
                  clear hK K
                  refine Ev.ud (fun c9 => ?_) (fun c9 => ?_)
                  · first
                  | (first | omega | contradiction)
                  | refine Ev.seq ?_
                    refine Ev.block ?_
                    refine Ev.sr fun K hK => S.o q.mv (S.o (q.ix am_el40 am_cl45 (hl := (by first | exact ati (pre_last hpk (by omega)) (by omega) | exact ati hidx (by omega) | exact ati hidk (by omega) | exact atig (by omega)))) (S.o (q.lsA [_, _] am_ag45 am_cl45) (S.nn (q.al am_ze45) (S.o q.as (S.sv [_, _] true [] am_in45 am_cl45 (h := S.end (hK _ ?_)))))))
                    clear hK K
                    refine Ev.seq ?_
                    refine Ev.sm (tbs [(0, 0), (1, 1), (2, 3), (3, 7), (4, 15), (5, 31), (6, 63), (7, 127), (8, 255), (7, 127), (7, 127), (11, 1151), (12, 3711), (13, 7807), (14, 15999), (15, 32767), (16, 65535), (17, 131071)]) 18 fun K hK => M.o (q.fa 1 am_fi45_1 am_cl3) (M.o (q.lv am_ag3) (M.o q.lss (M.bd q.mv (fun c10 => ?_) (fun c10 => ?_))))
                    · first
                    | (first | omega | contradiction)
                    | refine M.sk (M.sk (M.sk (M.sk (M.sk (M.sk (M.sk (M.sk (M.sk (M.sk (M.sk (M.sk (M.sk (M.o q.pt (M.end [_] (h := S.end (hK _ ?_))))))))))))))))
                      clear hK K
                      refine Ev.ct ?_
                      refine Ev.sr fun K hK => S.o q.as (S.end (hK _ ?_))
                      clear hK K
                      refine Ev.ret ?_
                      refine hR2 _ _ ?_
                      refine hR0 _ _ ?_
                      refine Ev.ret1 ?_
                      refine ⟨?_, rfl⟩
                      first | rfl | exact lawT rfl | exact lawT (by omega) | (exfalso; omega) | contradiction | (exfalso; have h9 := hdsc (by omega); omega) | (exfalso; simp at *; done)
                    · first
                    | (first | omega | contradiction)
                    | refine M.o q.mv (M.o q.gtr (M.bd q.mv (fun c11 => ?_) (fun c11 => ?_)))
                      · first
                      | (first | omega | contradiction)
                      | refine M.o (q.fa 0 am_fi45_0 am_cl3) (M.o (q.lv am_ag3) (M.o q.mv (M.o q.mv (M.o q.sub (M.o (q.ix am_el40 am_cl45 (hl := (by first | exact ati (pre_last hpk (by omega)) (by omega) | exact ati hidx (by omega) | exact ati hidk (by omega) | exact atig (by omega)))) (M.o (q.fs 0 am_fi45_0 am_cl3) (M.o (q.ls am_ag3) (M.o q.geq (M.o q.pt (M.o q.pf (M.end [_] (h := S.end (hK _ ?_)))))))))))))
                        clear hK K
                        refine Ev.cd (fun c12 => ?_) (fun c12 => ?_)
                        · first
                        | (first | omega | contradiction)
                        | refine Ev.sr fun K hK => S.o q.as (S.end (hK _ ?_))
                          clear hK K
                          refine Ev.ret ?_
                          refine hR2 _ _ ?_
                          refine hR0 _ _ ?_
                          refine Ev.ret1 ?_
                          refine ⟨?_, rfl⟩
                          first | rfl | exact lawT rfl | exact lawT (by omega) | (exfalso; omega) | contradiction | (exfalso; have h9 := hdsc (by omega); omega) | (exfalso; simp at *; done)
                        · first
                        | (first | omega | contradiction)
                        | refine Ev.skip ?_
                          show Ev _ _ _ _
                          refine Ev.region_S fun K hK => S.o q.mv (S.o (q.fa 1 am_fi45_1 am_cl3) (S.o (q.lv am_ag3) (S.o q.sub (S.o q.as (S.end (hK _ ?_))))))
                          clear hK K
                          show Ev _ _ _ _
                          refine Ev.region_S fun K hK => S.o q.add (S.o q.mv (S.end (hK _ ?_)))
                          clear hK K
                          refine hR2 _ _ ?_
                          refine roundU [] [0, 5, 7, 8, 9, 10, 11, 33, 34, 35, 36, 37, 38, 39, 40, 41, 42, 43, 44, 45, 46, 47, 48, 49, 50, 51, 52, 53, 54, 55, 56, 57, 58, 59, 60, 61, 62, 63, 64] ⟨(prek ++ [(sk1, sk2)], sufk), by rw [← hpk]; simp⟩ ?_ keep_n (slots_c (he := (by first | rfl | (congr 2; simp; done))) (h := (slots_c (he := (by first | rfl | (refine iE ?_; simp [cntP]; done) | (refine iE ?_; rw [cntP_snoc]; omega))) (h := trivial)))) (.c (.c (.c (.c (.c (.c (.c (.c (.c (.c (.c (.c (.c (.c (.c (.c (.c (.c (.c (.c (.c (.c (.c (.c (.c (.c (.c (.c (.c (.c (.c (.c (.c (.c (.c (.c (.c (.c (.c .n)))))))))))))))))))))))))))))))))))))))
                          skip
                          all_goals (dsimp only; simp only [List.length_cons]; omega)
                      · first
                      | (first | omega | contradiction)
                      | refine M.sk (M.sk (M.sk (M.sk (M.sk (M.sk (M.sk (M.sk (M.sk (M.o q.pf (M.o q.pf (M.end [_] (h := S.end (hK _ ?_)))))))))))))
                        clear hK K
                        refine Ev.cf ?_
                        refine Ev.skip ?_
                        show Ev _ _ _ _
                        refine Ev.region_S fun K hK => S.o q.mv (S.o (q.fa 1 am_fi45_1 am_cl3) (S.o (q.lv am_ag3) (S.o q.sub (S.o q.as (S.end (hK _ ?_))))))
                        clear hK K
                        show Ev _ _ _ _
                        refine Ev.region_S fun K hK => S.o q.add (S.o q.mv (S.end (hK _ ?_)))
                        clear hK K
                        refine hR2 _ _ ?_
                        refine roundU [] [0, 5, 7, 8, 9, 10, 11, 33, 34, 35, 36, 37, 38, 39, 40, 41, 42, 43, 44, 45, 46, 47, 48, 49, 50, 51, 52, 53, 54, 55, 56, 57, 58, 59, 60, 61, 62, 63, 64] ⟨(prek ++ [(sk1, sk2)], sufk), by rw [← hpk]; simp⟩ ?_ keep_n (slots_c (he := (by first | rfl | (congr 2; simp; done))) (h := (slots_c (he := (by first | rfl | (refine iE ?_; simp [cntP]; done) | (refine iE ?_; rw [cntP_snoc]; omega))) (h := trivial)))) (.c (.c (.c (.c (.c (.c (.c (.c (.c (.c (.c (.c (.c (.c (.c (.c (.c (.c (.c (.c (.c (.c (.c (.c (.c (.c (.c (.c (.c (.c (.c (.c (.c (.c (.c (.c (.c (.c (.c .n)))))))))))))))))))))))))))))))))))))))
                        skip
                        all_goals (dsimp only; simp only [List.length_cons]; omega)
                  · first | omega | contradiction
        · first | omega | contradiction
end Go.Proofs.YtddogeicmhbidaaDoor
