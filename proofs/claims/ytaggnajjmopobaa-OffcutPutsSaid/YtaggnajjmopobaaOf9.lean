/-
  Offcut: OffcutPuts, walked.
  Conditions: none.
-/
import Derived.Test.YtaggnajjmopobaaOf8
import Derived.Test.YtaggnajjmopobaaAmHeld
import Derived.Test.YtaggnajjmopobaaAmSet
namespace Go.Proofs.Ytaggnajjmopobaa
open Go Go.AM
set_option linter.unusedSimpArgs false
set_option linter.unusedVariables false
set_option maxRecDepth 100000
set_option maxHeartbeats 2000000
theorem pts1_fun (p : Int × Int) (b : Int) : Fun Try.prog 26 [.agg (pairC p), .sadr [.lit (.int .i64 b)] 0] (Ret (.lit (.bool (decide (p.1 < b)))) []) := by
  obtain ⟨px, py⟩ := p
  refine Fun.of (nt := 8) (rs := [.tmp 3]) Try.func26 rfl rfl rfl rfl rfl ?_
  refine Ev.sr fun K hK => S.nn (q.bx [_, _] true) (S.o q.as (S.end (hK _ ?_)))
  clear hK K
  refine Ev.sr fun K hK => S.o (q.fa 0 am_fi52_0 am_cl3) (S.o (q.lv am_ag3) (S.o (q.ls am_ag3) (S.o q.lss (S.o q.as (S.end (hK _ ?_))))))
  clear hK K
  refine Ev.ret ?_
  refine Ev.ret1 ?_
  refine ⟨?_, rfl⟩
  first | rfl | exact bF (by simp only; omega) | exact bT (by simp only; omega) | exact dI (by simp only; omega)
theorem putsN (least : Int) (l : List Act) (n k : Int) (hlen : l.length ≤ 140737488355328) (hw : ∀ x ∈ l, x.w) (h : ¬ inL least) : Fun Try.prog 6 [.lit (.int .i64 least), .sh 4 (l.map Act.c), .lit (.int .i64 n), .lit (.int .i64 k)] (Ret (.lit (.bool true)) []) := by
  refine Fun.of (nt := 126) (rs := [.tmp 8]) Try.func6 rfl rfl rfl rfl rfl ?_
  refine Ev.sr fun K hK => S.nn (q.bx [_] true) (S.o q.as (S.end (hK _ ?_)))
  clear hK K
  refine Ev.seq ?_
  refine Ev.sr fun K hK => S.c0 (hF := awake_fun) (h := S.o q.nott (S.end (hK _ ?_)))
  clear hK K
  refine Ev.cf ?_
  refine Ev.skip ?_
  show Ev _ _ _ _
  refine Ev.seq ?_
  refine Ev.sr fun K hK => S.o q.mv (S.c0 (hF := few_fun _ (by omega) (by assumption)) (h := S.o q.not (S.end (hK _ ?_))))
  clear hK K
  refine Ev.cn (fun c1 => ?_) (fun c1 => ?_)
  · first
  | (first | omega | contradiction)
  | refine Ev.sr fun K hK => S.o q.as (S.end (hK _ ?_))
    clear hK K
    refine Ev.ret ?_
    refine Ev.ret1 ?_
    refine ⟨?_, rfl⟩
    first | rfl | exact lawT rfl | exact lawT (by assumption) | exact lawT (by omega) | (exfalso; omega) | contradiction | (exfalso; simp at *; done) | exact lawN h
  · first
  | (first | omega | contradiction)
  | refine Ev.skip ?_
    show Ev _ _ _ _
    refine Ev.sr fun K hK => S.o (q.lv am_ag3) (S.o q.mv (S.c0 (hF := madeN_fun least l h (by omega)) (h := S.o q.as (S.end (hK _ ?_)))))
    clear hK K
    refine Ev.seq ?_
    refine Ev.sr fun K hK => S.o q.mv (S.peq (by kernel_rfl : Try.prog.underlying 25 = some (.pointer 47)) (h := S.end (hK _ ?_)))
    clear hK K
    refine Ev.ct ?_
    refine Ev.sr fun K hK => S.o (q.lv am_ag3) (S.c0 (hF := rLen_fun _) (h := S.o q.not (S.o q.as (S.end (hK _ ?_)))))
    clear hK K
    refine Ev.ret ?_
    refine Ev.ret1 ?_
    refine ⟨?_, rfl⟩
    first | rfl | exact lawT rfl | exact lawT (by assumption) | exact lawT (by omega) | (exfalso; omega) | contradiction | (exfalso; simp at *; done) | exact lawN h
theorem putsY (least : Int) (l : List Act) (n k : Int) (hlen : l.length ≤ 140737488355328) (hw : ∀ x ∈ l, x.w) (h : inL least) : Fun Try.prog 6 [.lit (.int .i64 least), .sh 4 (l.map Act.c), .lit (.int .i64 n), .lit (.int .i64 k)] (Ret (.lit (.bool true)) []) := by
  have hle : 1 ≤ least := h.1
  refine Fun.of (nt := 126) (rs := [.tmp 8]) Try.func6 rfl rfl rfl rfl rfl ?_
  refine Ev.sr fun K hK => S.nn (q.bx [_] true) (S.o q.as (S.end (hK _ ?_)))
  clear hK K
  refine Ev.seq ?_
  refine Ev.sr fun K hK => S.c0 (hF := awake_fun) (h := S.o q.nott (S.end (hK _ ?_)))
  clear hK K
  refine Ev.cf ?_
  refine Ev.skip ?_
  show Ev _ _ _ _
  refine Ev.seq ?_
  refine Ev.sr fun K hK => S.o q.mv (S.c0 (hF := few_fun _ (by omega) (by assumption)) (h := S.o q.not (S.end (hK _ ?_))))
  clear hK K
  refine Ev.cn (fun c1 => ?_) (fun c1 => ?_)
  · first
  | (first | omega | contradiction)
  | refine Ev.sr fun K hK => S.o q.as (S.end (hK _ ?_))
    clear hK K
    refine Ev.ret ?_
    refine Ev.ret1 ?_
    refine ⟨?_, rfl⟩
    first | rfl | exact lawT rfl | exact lawT (by assumption) | exact lawT (by omega) | (exfalso; omega) | contradiction | (exfalso; simp at *; done) | (exfalso; simp_all; done)
  · first
  | (first | omega | contradiction)
  | refine Ev.skip ?_
    show Ev _ _ _ _
    refine Ev.sr fun K hK => S.o (q.lv am_ag3) (S.o q.mv (S.cg 2 [_, _] (hF := madeY_fun least l h (by omega) hw) (hn' := belowL rfl rfl) (h := S.o q.as (S.end (hK _ ?_)))))
    clear hK K
    refine Ev.seq ?_
    refine Ev.sr fun K hK => S.o q.mv (S.peqa (by kernel_rfl : Try.prog.underlying 25 = some (.pointer 47)) (h := S.end (hK _ ?_)))
    clear hK K
    refine Ev.cf ?_
    refine Ev.skip ?_
    show Ev _ _ _ _
    have hwm := made_wf least l
    have hml := hwm.len
    have hll := lstV_len (madeM least l)
    obtain ⟨t1, t2⟩ := totP_bd (madeM least l) (fun p hp => (hwm.ok p hp).1)
    refine Ev.sr fun K hK => S.o q.mv (S.cR [1] 2 [_, _] (hob := (keep_c (he := rfl) (h := keep_n))) (hF := sListR least (madeM least l) hwm) (hn' := belowL rfl rfl) (h := S.o q.mv (S.cR [1] 2 [_, _] (hob := (keep_c (he := rfl) (h := keep_n))) (hF := sTotalR least (madeM least l) hwm) (hn' := belowL rfl rfl) (h := S.o q.as (S.o q.as (S.end (hK _ ?_)))))))
    clear hK K
    have hwm2 : WfM least (sPutV least (madeM least l) n k) := sPut_wf hwm
    have hll2 := lstV_len (sPutV least (madeM least l) n k)
    have hml2 := hwm2.len
    obtain ⟨t3, t4⟩ := totP_bd (sPutV least (madeM least l) n k) (fun p hp => (hwm2.ok p hp).1)
    obtain ⟨s1, s2, s3⟩ := lst_short hwm2
    have hno : ¬ ∃ x ∈ lstV (sPutV least (madeM least l) n k), (fun p : Int × Int => decide (p.1 < least)) x = true := fun ⟨x, hx, h2⟩ => by
      have h3 := (hwm2.ok x ((lst_perm hwm2.nd).subset hx)).2
      have h4 := of_decide_eq_true h2
      omega
    refine Ev.sr fun K hK => S.o q.mv (S.o q.mv (S.o q.mv (S.cR [1] 2 [_, _] (hob := (keep_c (he := rfl) (h := keep_n))) (hF := sPutR least n k (madeM least l) hwm) (hn' := belowL rfl rfl) (h := S.o q.as (S.end (hK _ ?_))))))
    clear hK K
    refine Ev.sr fun K hK => S.o q.mv (S.cR [1] 2 [_, _] (hob := (keep_c (he := rfl) (h := keep_n))) (hF := sListR least (sPutV least (madeM least l) n k) hwm2) (hn' := belowL rfl rfl) (h := S.o q.as (S.end (hK _ ?_))))
    clear hK K
    refine Ev.sr fun K hK => S.o q.mv (S.c0 (hF := stShort_fun (lstV (sPutV least (madeM least l) n k)) (by omega)) (h := ?_))
    rw [if_pos s1, if_pos s1, show shV (lstV (sPutV least (madeM least l) n k)) = lstV (sPutV least (madeM least l) n k) from (if_pos s2).trans s3, show shE (lstV (sPutV least (madeM least l) n k)) = 0 from if_pos s2]
    refine S.o q.mv (S.o q.ex (S.o q.ex (S.o q.as (S.o q.as (S.end (hK _ ?_))))))
    clear hK K
    refine Ev.seq ?_
    refine Ev.weaken (Wk.frzv 4 [_]) ?_
    refine Ev.sr fun K hK => S.o q.mv (S.o q.neq (S.bn q.mv (fun c2 => ?_) (fun c2 => ?_)))
    · first
    | (first | omega | contradiction)
    | refine S.sk (S.sk (S.sk (S.sk (S.o q.pt (S.o q.mv (S.sk (S.sk (S.sk (S.o q.pt (S.o q.mv (S.sk (S.sk (S.sk (S.o q.pt (S.end (hK _ ?_))))))))))))))))
      clear hK K
      refine Ev.ct ?_
      refine Ev.sr fun K hK => S.o q.as (S.end (hK _ ?_))
      clear hK K
      refine Ev.ret ?_
      refine Ev.ret1 ?_
      refine ⟨?_, rfl⟩
      first | rfl | exact lawT rfl | exact lawT (by assumption) | exact lawT (by omega) | (exfalso; omega) | contradiction | (exfalso; simp at *; done) | (exfalso; simp_all; done)
    · first
    | (first | omega | contradiction)
    | refine S.o q.mv (S.o q.mv (S.c0 (hF := eqPc_fun (lstV (sPutV least (madeM least l) n k)) (lstV (sPutV least (madeM least l) n k)) (by omega) (by omega)) (h := S.o q.not (S.o q.pf (S.bn q.mv (fun c3 => ?_) (fun c3 => ?_))))))
      · first
      | (first | omega | contradiction)
      | refine S.sk (S.sk (S.sk (S.o q.pt (S.o q.mv (S.sk (S.sk (S.sk (S.o q.pt (S.end (hK _ ?_))))))))))
        clear hK K
        refine Ev.ct ?_
        refine Ev.sr fun K hK => S.o q.as (S.end (hK _ ?_))
        clear hK K
        refine Ev.ret ?_
        refine Ev.ret1 ?_
        refine ⟨?_, rfl⟩
        first | rfl | exact lawT rfl | exact lawT (by assumption) | exact lawT (by omega) | (exfalso; omega) | contradiction | (exfalso; simp at *; done) | (exfalso; simp_all; done)
      · first
      | (first | omega | contradiction)
      | refine S.o q.mv (S.o (q.lens am_el28) (S.o q.gtr (S.o q.pf (S.bd q.mv (fun c4 => ?_) (fun c4 => ?_)))))
        · first
        | (first | omega | contradiction)
        | refine S.sk (S.sk (S.sk (S.o q.pt (S.end (hK _ ?_)))))
          clear hK K
          refine Ev.ct ?_
          refine Ev.sr fun K hK => S.o q.as (S.end (hK _ ?_))
          clear hK K
          refine Ev.ret ?_
          refine Ev.ret1 ?_
          refine ⟨?_, rfl⟩
          first | rfl | exact lawT rfl | exact lawT (by assumption) | exact lawT (by omega) | (exfalso; omega) | contradiction | (exfalso; simp at *; done) | (exfalso; simp_all; done)
        · first
        | (first | omega | contradiction)
        | refine S.o q.mv (S.o q.mf (S.c0 (hF := containsFuncPc1 _ _ (fun p => decide (p.1 < least)) (fun p => pts1_fun p least) (lstV (sPutV least (madeM least l) n k)) (by omega)) (h := S.o q.pf (S.end (hK _ ?_)))))
          clear hK K
          refine Ev.cd (fun c5 => ?_) (fun c5 => ?_)
          · first
          | (first | omega | contradiction)
          | refine Ev.sr fun K hK => S.o q.as (S.end (hK _ ?_))
            clear hK K
            refine Ev.ret ?_
            refine Ev.ret1 ?_
            refine ⟨?_, rfl⟩
            first | rfl | exact lawT rfl | exact lawT (by assumption) | exact lawT (by omega) | (exfalso; omega) | contradiction | (exfalso; simp at *; done) | (exfalso; simp_all; done)
          · first
          | (first | omega | contradiction)
          | refine Ev.skip ?_
            show Ev _ _ _ _
            refine Ev.seq ?_
            refine Ev.sr fun K hK => S.o q.mv (S.o q.neq (S.bn q.mv (fun c6 => ?_) (fun c6 => ?_)))
            · first
            | (first | omega | contradiction)
            | refine S.sk (S.sk (S.sk (S.o q.pt (S.o q.mv (S.sk (S.sk (S.o q.pt (S.end (hK _ ?_)))))))))
              clear hK K
              refine Ev.ct ?_
              have hsame : (sPutV least (madeM least l) n k) = (madeM least l) := sPut_same (by omega)
              rw [hsame]
              refine Ev.sr fun K hK => S.o q.mv (S.o q.mv (S.c0 (hF := eqPc_fun (lstV (madeM least l)) (lstV (madeM least l)) (by omega) (by omega)) (h := S.bd q.mv (fun c7 => ?_) (fun c7 => ?_))))
              · first
              | (first | omega | contradiction)
              | refine S.o q.mv (S.cR [1] 2 [_] (hob := (keep_c (he := rfl) (h := keep_n))) (hF := sTotalR least (madeM least l) hwm) (hn' := belowL rfl rfl) (h := S.o q.mv (S.o q.eql (S.o q.pt (S.o q.as (S.end (hK _ ?_)))))))
                clear hK K
                refine Ev.ret ?_
                refine Ev.ret1 ?_
                refine ⟨?_, rfl⟩
                first | rfl | exact lawT rfl | exact lawT (by assumption) | exact lawT (by omega) | (exfalso; omega) | contradiction | (exfalso; simp at *; done) | (exfalso; simp_all; done)
              · first
              | (first | omega | contradiction)
              | refine S.sk (S.sk (S.sk (S.sk (S.o q.pf (S.o q.as (S.end (hK _ ?_)))))))
                clear hK K
                refine Ev.ret ?_
                refine Ev.ret1 ?_
                refine ⟨?_, rfl⟩
                first | rfl | exact lawT rfl | exact lawT (by assumption) | exact lawT (by omega) | (exfalso; omega) | contradiction | (exfalso; simp at *; done) | (exfalso; simp_all; done)
            · first
            | (first | omega | contradiction)
            | refine S.o q.mv (S.o (q.ls am_ag3) (S.o q.lss (S.o q.pf (S.bd q.mv (fun c8 => ?_) (fun c8 => ?_)))))
              · first
              | (first | omega | contradiction)
              | refine S.sk (S.sk (S.o q.pt (S.end (hK _ ?_))))
                clear hK K
                refine Ev.ct ?_
                have hsame : (sPutV least (madeM least l) n k) = (madeM least l) := sPut_same (by omega)
                rw [hsame]
                refine Ev.sr fun K hK => S.o q.mv (S.o q.mv (S.c0 (hF := eqPc_fun (lstV (madeM least l)) (lstV (madeM least l)) (by omega) (by omega)) (h := S.bd q.mv (fun c9 => ?_) (fun c9 => ?_))))
                · first
                | (first | omega | contradiction)
                | refine S.o q.mv (S.cR [1] 2 [_] (hob := (keep_c (he := rfl) (h := keep_n))) (hF := sTotalR least (madeM least l) hwm) (hn' := belowL rfl rfl) (h := S.o q.mv (S.o q.eql (S.o q.pt (S.o q.as (S.end (hK _ ?_)))))))
                  clear hK K
                  refine Ev.ret ?_
                  refine Ev.ret1 ?_
                  refine ⟨?_, rfl⟩
                  first | rfl | exact lawT rfl | exact lawT (by assumption) | exact lawT (by omega) | (exfalso; omega) | contradiction | (exfalso; simp at *; done) | (exfalso; simp_all; done)
                · first
                | (first | omega | contradiction)
                | refine S.sk (S.sk (S.sk (S.sk (S.o q.pf (S.o q.as (S.end (hK _ ?_)))))))
                  clear hK K
                  refine Ev.ret ?_
                  refine Ev.ret1 ?_
                  refine ⟨?_, rfl⟩
                  first | rfl | exact lawT rfl | exact lawT (by assumption) | exact lawT (by omega) | (exfalso; omega) | contradiction | (exfalso; simp at *; done) | (exfalso; simp_all; done)
              · first
              | (first | omega | contradiction)
              | refine S.o q.mv (S.o q.eql (S.o q.pf (S.end (hK _ ?_))))
                clear hK K
                refine Ev.cd (fun c10 => ?_) (fun c10 => ?_)
                · first
                | (first | omega | contradiction)
                | have hsame : (sPutV least (madeM least l) n k) = (madeM least l) := sPut_same (by omega)
                  rw [hsame]
                  refine Ev.sr fun K hK => S.o q.mv (S.o q.mv (S.c0 (hF := eqPc_fun (lstV (madeM least l)) (lstV (madeM least l)) (by omega) (by omega)) (h := S.bd q.mv (fun c11 => ?_) (fun c11 => ?_))))
                  · first
                  | (first | omega | contradiction)
                  | refine S.o q.mv (S.cR [1] 2 [_] (hob := (keep_c (he := rfl) (h := keep_n))) (hF := sTotalR least (madeM least l) hwm) (hn' := belowL rfl rfl) (h := S.o q.mv (S.o q.eql (S.o q.pt (S.o q.as (S.end (hK _ ?_)))))))
                    clear hK K
                    refine Ev.ret ?_
                    refine Ev.ret1 ?_
                    refine ⟨?_, rfl⟩
                    first | rfl | exact lawT rfl | exact lawT (by assumption) | exact lawT (by omega) | (exfalso; omega) | contradiction | (exfalso; simp at *; done) | (exfalso; simp_all; done)
                  · first
                  | (first | omega | contradiction)
                  | refine S.sk (S.sk (S.sk (S.sk (S.o q.pf (S.o q.as (S.end (hK _ ?_)))))))
                    clear hK K
                    refine Ev.ret ?_
                    refine Ev.ret1 ?_
                    refine ⟨?_, rfl⟩
                    first | rfl | exact lawT rfl | exact lawT (by assumption) | exact lawT (by omega) | (exfalso; omega) | contradiction | (exfalso; simp at *; done) | (exfalso; simp_all; done)
                · first
                | (first | omega | contradiction)
                | refine Ev.skip ?_
                  show Ev _ _ _ _
                  refine Ev.seq ?_
                  have hF := put_facts hwm (by omega : sPutE least (madeM least l) n k = 0) (by omega) (by omega)
                  obtain ⟨⟨n1, n2⟩, n3, n4⟩ := hF.ok
                  have hm1 := Int.mul_nonneg (show 0 ≤ n by omega) n3
                  have hm2 : n * k ≤ 1048576 * 1000000 := Int.mul_le_mul n2 n4 n3 (by decide)
                  have hm3 : n * (k - 1) = n * k - n := by rw [Int.mul_sub, Int.mul_one]
                  have htot := hF.tot
                  have htot2 := hF.tot2
                  have hwm4 : WfM least (sPutV least (cutM (sPutV least (madeM least l) n k) n) n 1) := sPut_wf hF.wf
                  have hll4 := lstV_len (sPutV least (cutM (sPutV least (madeM least l) n k) n) n 1)
                  have hml4 := hwm4.len
                  have hml3 := hF.wf.len
                  refine Ev.sr fun K hK => S.o q.mv (S.cR [1] 2 [_] (hob := (keep_c (he := rfl) (h := keep_n))) (hF := sTotalR least (sPutV least (madeM least l) n k) hwm2) (hn' := belowL rfl rfl) (h := S.o q.mv (S.o q.mv (S.o q.mv (S.o q.mul (S.o q.add (S.o q.neq (S.end (hK _ ?_)))))))))
                  clear hK K
                  refine Ev.cn (fun c12 => ?_) (fun c12 => ?_)
                  · first
                  | (first | omega | contradiction)
                  | refine Ev.sr fun K hK => S.o q.as (S.end (hK _ ?_))
                    clear hK K
                    refine Ev.ret ?_
                    refine Ev.ret1 ?_
                    refine ⟨?_, rfl⟩
                    first | rfl | exact lawT rfl | exact lawT (by assumption) | exact lawT (by omega) | (exfalso; omega) | contradiction | (exfalso; simp at *; done) | (exfalso; simp_all; done)
                  · first
                  | (first | omega | contradiction)
                  | refine Ev.skip ?_
                    show Ev _ _ _ _
                    refine Ev.sr fun K hK => S.o q.mv (S.o q.mv (S.cR [1] 2 [_] (hob := (keep_c (he := rfl) (h := keep_n))) (hF := sTakeR least n (sPutV least (madeM least l) n k) hwm2) (hn' := belowL rfl rfl) (h := ?_)))
                    rw [hF.te, hF.tb, hF.tv]
                    refine S.o q.mv (S.o q.ex (S.o q.ex (S.o q.as (S.o q.as (S.end (hK _ ?_))))))
                    clear hK K
                    refine Ev.seq ?_
                    refine Ev.sr fun K hK => S.o q.mv (S.o q.neq (S.bn q.mv (fun c13 => ?_) (fun c13 => ?_)))
                    · first
                    | (first | omega | contradiction)
                    | refine S.sk (S.sk (S.sk (S.o q.pt (S.o q.mv (S.sk (S.sk (S.sk (S.sk (S.sk (S.sk (S.sk (S.sk (S.sk (S.o q.pt (S.end (hK _ ?_))))))))))))))))
                      clear hK K
                      refine Ev.ct ?_
                      refine Ev.sr fun K hK => S.o q.as (S.end (hK _ ?_))
                      clear hK K
                      refine Ev.ret ?_
                      refine Ev.ret1 ?_
                      refine ⟨?_, rfl⟩
                      first | rfl | exact lawT rfl | exact lawT (by assumption) | exact lawT (by omega) | (exfalso; omega) | contradiction | (exfalso; simp at *; done) | (exfalso; simp_all; done)
                    · first
                    | (first | omega | contradiction)
                    | refine S.o q.mv (S.o q.mv (S.o q.neq (S.o q.pf (S.bn q.mv (fun c14 => ?_) (fun c14 => ?_)))))
                      · first
                      | (first | omega | contradiction)
                      | refine S.sk (S.sk (S.sk (S.sk (S.sk (S.sk (S.sk (S.sk (S.sk (S.o q.pt (S.end (hK _ ?_)))))))))))
                        clear hK K
                        refine Ev.ct ?_
                        refine Ev.sr fun K hK => S.o q.as (S.end (hK _ ?_))
                        clear hK K
                        refine Ev.ret ?_
                        refine Ev.ret1 ?_
                        refine ⟨?_, rfl⟩
                        first | rfl | exact lawT rfl | exact lawT (by assumption) | exact lawT (by omega) | (exfalso; omega) | contradiction | (exfalso; simp at *; done) | (exfalso; simp_all; done)
                      · first
                      | (first | omega | contradiction)
                      | refine S.o q.mv (S.cR [1] 2 [_] (hob := (keep_c (he := rfl) (h := keep_n))) (hF := sTotalR least (cutM (sPutV least (madeM least l) n k) n) hF.wf) (hn' := belowL rfl rfl) (h := S.o q.mv (S.o q.mv (S.o q.mv (S.o q.sub (S.o q.mul (S.o q.add (S.o q.neq (S.o q.pf (S.end (hK _ ?_)))))))))))
                        clear hK K
                        refine Ev.cn (fun c15 => ?_) (fun c15 => ?_)
                        · first
                        | (first | omega | contradiction)
                        | refine Ev.sr fun K hK => S.o q.as (S.end (hK _ ?_))
                          clear hK K
                          refine Ev.ret ?_
                          refine Ev.ret1 ?_
                          refine ⟨?_, rfl⟩
                          first | rfl | exact lawT rfl | exact lawT (by assumption) | exact lawT (by omega) | (exfalso; omega) | contradiction | (exfalso; simp at *; done) | (exfalso; simp_all; done)
                        · first
                        | (first | omega | contradiction)
                        | refine Ev.skip ?_
                          show Ev _ _ _ _
                          refine Ev.sr fun K hK => S.o q.mv (S.o q.mv (S.cR [1] 2 [_] (hob := (keep_c (he := rfl) (h := keep_n))) (hF := sPutR least n 1 (cutM (sPutV least (madeM least l) n k) n) hF.wf) (hn' := belowL rfl rfl) (h := ?_)))
                          rw [hF.ae]
                          refine S.o q.eql (S.bd q.mv (fun c16 => ?_) (fun c16 => ?_))
                          · first
                          | (first | omega | contradiction)
                          | refine S.o q.mv (S.cR [1] 2 [_] (hob := (keep_c (he := rfl) (h := keep_n))) (hF := sListR least (sPutV least (cutM (sPutV least (madeM least l) n k) n) n 1) hwm4) (hn' := belowL rfl rfl) (h := ?_))
                            rw [hF.av]
                            refine S.o q.mv (S.c0 (hF := eqPc_fun (lstV (sPutV least (madeM least l) n k)) (lstV (sPutV least (madeM least l) n k)) (by omega) (by omega)) (h := S.o q.pt (S.o q.as (S.end (hK _ ?_)))))
                            clear hK K
                            refine Ev.ret ?_
                            refine Ev.ret1 ?_
                            refine ⟨?_, rfl⟩
                            first | rfl | exact lawT rfl | exact lawT (by assumption) | exact lawT (by omega) | (exfalso; omega) | contradiction | (exfalso; simp at *; done) | (exfalso; simp_all; done)
                          · first
                          | (first | omega | contradiction)
                          | refine S.sk (S.sk (S.sk (S.sk (S.o q.pf (S.o q.as (S.end (hK _ ?_)))))))
                            clear hK K
                            refine Ev.ret ?_
                            refine Ev.ret1 ?_
                            refine ⟨?_, rfl⟩
                            first | rfl | exact lawT rfl | exact lawT (by assumption) | exact lawT (by omega) | (exfalso; omega) | contradiction | (exfalso; simp at *; done) | (exfalso; simp_all; done)
theorem puts_law (least : Int) (l : List Act) (n k : Int) (hlen : l.length ≤ 140737488355328) (hw : ∀ x ∈ l, x.w) : Fun Try.prog 6 [.lit (.int .i64 least), .sh 4 (l.map Act.c), .lit (.int .i64 n), .lit (.int .i64 k)] (Ret (.lit (.bool true)) []) := by
  by_cases h : inL least
  · exact putsY least l n k hlen hw h
  · exact putsN least l n k hlen hw h
end Go.Proofs.Ytaggnajjmopobaa
