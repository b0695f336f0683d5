/-
  Offcut: OffcutServes, walked.
  Conditions: none.
-/
import Derived.Test.YtaggnajjmopobaaOfa
import Derived.Test.YtaggnajjmopobaaAmHeld
import Derived.Test.YtaggnajjmopobaaAmSet
namespace Go.Proofs.Ytaggnajjmopobaa
open Go Go.AM
set_option linter.unusedSimpArgs false
set_option linter.unusedVariables false
set_option maxRecDepth 100000
set_option maxHeartbeats 2000000
theorem servesN (least : Int) (l : List Act) (o : Mp) (hlen : l.length ≤ 140737488355328) (hw : ∀ x ∈ l, x.w) (hol : o.length ≤ 140737488355328) (h : ¬ inL least) : Fun Try.prog 7 [.lit (.int .i64 least), .sh 4 (l.map Act.c), .sh 2 (o.map pairC)] (Ret (.lit (.bool true)) []) := by
  refine Fun.of (nt := 167) (rs := [.tmp 6]) Try.func7 rfl rfl rfl rfl rfl ?_
  refine Ev.sr fun K hK => S.o q.as (S.end (hK _ ?_))
  clear hK K
  refine Ev.seq ?_
  refine Ev.sr fun K hK => S.c0 (hF := awake_fun) (h := S.o q.nott (S.end (hK _ ?_)))
  clear hK K
  refine Ev.cf ?_
  refine Ev.skip ?_
  show Ev _ _ _ _
  refine Ev.seq ?_
  refine Ev.sr fun K hK => S.o q.mv (S.c0 (hF := few_fun _ (by omega) (by assumption)) (h := S.o q.not (S.bn q.mv (fun c1 => ?_) (fun c1 => ?_))))
  · first
  | (first | omega | contradiction)
  | refine S.sk (S.sk (S.sk (S.o q.pt (S.end (hK _ ?_)))))
    clear hK K
    refine Ev.ct ?_
    refine Ev.sr fun K hK => S.o q.as (S.end (hK _ ?_))
    clear hK K
    refine Ev.ret ?_
    refine Ev.ret1 ?_
    refine ⟨?_, rfl⟩
    first | rfl | exact lawT rfl | exact lawT (by assumption) | exact lawT (by omega) | (exfalso; omega) | contradiction | (exfalso; simp at *; done) | exact lawN h
  · first
  | (first | omega | contradiction)
  | refine S.o q.mv (S.o (q.lens am_el28) (S.o q.gtr (S.o q.pf (S.end (hK _ ?_)))))
    clear hK K
    refine Ev.cd (fun c2 => ?_) (fun c2 => ?_)
    · first
    | (first | omega | contradiction)
    | refine Ev.sr fun K hK => S.o q.as (S.end (hK _ ?_))
      clear hK K
      refine Ev.ret ?_
      refine Ev.ret1 ?_
      refine ⟨?_, rfl⟩
      first | rfl | exact lawT rfl | exact lawT (by assumption) | exact lawT (by omega) | (exfalso; omega) | contradiction | (exfalso; simp at *; done) | exact lawN h
    · first
    | (first | omega | contradiction)
    | refine Ev.skip ?_
      show Ev _ _ _ _
      refine Ev.sr fun K hK => S.o q.mv (S.o q.mv (S.c0 (hF := madeN_fun least l h (by omega)) (h := S.o q.mv (S.o q.mv (S.c0 (hF := madeN_fun least l h (by omega)) (h := S.o q.as (S.o q.as (S.end (hK _ ?_)))))))))
      clear hK K
      refine Ev.seq ?_
      refine Ev.sr fun K hK => S.o q.mv (S.peq (by kernel_rfl : Try.prog.underlying 25 = some (.pointer 47)) (h := S.o q.mv (S.sk (S.sk (S.o q.pt (S.end (hK _ ?_)))))))
      clear hK K
      refine Ev.ct ?_
      refine Ev.sr fun K hK => S.o q.mv (S.c0 (hF := rLen_fun _) (h := S.o q.not (S.bn q.mv (fun c3 => ?_) (fun c3 => ?_))))
      · first
      | (first | omega | contradiction)
      | refine S.o q.mv (S.peq (by kernel_rfl : Try.prog.underlying 25 = some (.pointer 47)) (h := S.o q.pt (S.o q.mv (S.o q.mv (S.peq (by kernel_rfl : Try.prog.underlying 25 = some (.pointer 47)) (h := S.o q.pt (S.o q.as (S.end (hK _ ?_)))))))))
        clear hK K
        refine Ev.ret ?_
        refine Ev.ret1 ?_
        refine ⟨?_, rfl⟩
        first | rfl | exact lawT rfl | exact lawT (by assumption) | exact lawT (by omega) | (exfalso; omega) | contradiction | (exfalso; simp at *; done) | exact lawN h
      · first
      | (first | omega | contradiction)
      | refine S.sk (S.sk (S.o q.pf (S.o q.mv (S.sk (S.sk (S.o q.pf (S.o q.as (S.end (hK _ ?_)))))))))
        clear hK K
        refine Ev.ret ?_
        refine Ev.ret1 ?_
        refine ⟨?_, rfl⟩
        first | rfl | exact lawT rfl | exact lawT (by assumption) | exact lawT (by omega) | (exfalso; omega) | contradiction | (exfalso; simp at *; done) | exact lawN h
theorem servesY (least : Int) (l : List Act) (o : Mp) (hlen : l.length ≤ 140737488355328) (hw : ∀ x ∈ l, x.w) (hol : o.length ≤ 140737488355328) (h : inL least) : Fun Try.prog 7 [.lit (.int .i64 least), .sh 4 (l.map Act.c), .sh 2 (o.map pairC)] (Ret (.lit (.bool true)) []) := by
  have hle : 1 ≤ least := h.1
  refine Fun.of (nt := 167) (rs := [.tmp 6]) Try.func7 rfl rfl rfl rfl rfl ?_
  refine Ev.sr fun K hK => S.o q.as (S.end (hK _ ?_))
  clear hK K
  refine Ev.seq ?_
  refine Ev.sr fun K hK => S.c0 (hF := awake_fun) (h := S.o q.nott (S.end (hK _ ?_)))
  clear hK K
  refine Ev.cf ?_
  refine Ev.skip ?_
  show Ev _ _ _ _
  refine Ev.seq ?_
  refine Ev.sr fun K hK => S.o q.mv (S.c0 (hF := few_fun _ (by omega) (by assumption)) (h := S.o q.not (S.bn q.mv (fun c1 => ?_) (fun c1 => ?_))))
  · first
  | (first | omega | contradiction)
  | refine S.sk (S.sk (S.sk (S.o q.pt (S.end (hK _ ?_)))))
    clear hK K
    refine Ev.ct ?_
    refine Ev.sr fun K hK => S.o q.as (S.end (hK _ ?_))
    clear hK K
    refine Ev.ret ?_
    refine Ev.ret1 ?_
    refine ⟨?_, rfl⟩
    first | rfl | exact lawT rfl | exact lawT (by assumption) | exact lawT (by omega) | (exfalso; omega) | contradiction | (exfalso; simp at *; done) | (exfalso; simp_all; done)
  · first
  | (first | omega | contradiction)
  | refine S.o q.mv (S.o (q.lens am_el28) (S.o q.gtr (S.o q.pf (S.end (hK _ ?_)))))
    clear hK K
    refine Ev.cd (fun c2 => ?_) (fun c2 => ?_)
    · first
    | (first | omega | contradiction)
    | refine Ev.sr fun K hK => S.o q.as (S.end (hK _ ?_))
      clear hK K
      refine Ev.ret ?_
      refine Ev.ret1 ?_
      refine ⟨?_, rfl⟩
      first | rfl | exact lawT rfl | exact lawT (by assumption) | exact lawT (by omega) | (exfalso; omega) | contradiction | (exfalso; simp at *; done) | (exfalso; simp_all; done)
    · first
    | (first | omega | contradiction)
    | refine Ev.skip ?_
      show Ev _ _ _ _
      refine Ev.sr fun K hK => S.o q.mv (S.o q.mv (S.cg 1 [_] (hF := madeY_fun least l h (by omega) hw) (hn' := belowL rfl rfl) (h := S.o q.mv (S.o q.mv (S.cg 2 [_, _] (hF := madeY_fun least l h (by omega) hw) (hn' := belowL rfl rfl) (h := S.o q.as (S.o q.as (S.end (hK _ ?_)))))))))
      clear hK K
      refine Ev.seq ?_
      refine Ev.sr fun K hK => S.o q.mv (S.peqa (by kernel_rfl : Try.prog.underlying 25 = some (.pointer 47)) (h := S.o q.mv (S.o q.mv (S.peqa (by kernel_rfl : Try.prog.underlying 25 = some (.pointer 47)) (h := S.o q.pf (S.end (hK _ ?_)))))))
      clear hK K
      refine Ev.cf ?_
      refine Ev.skip ?_
      show Ev _ _ _ _
      have hwm := made_wf least l
      have hml := hwm.len
      have hll := lstV_len (madeM least l)
      obtain ⟨t1, t2⟩ := totP_bd (madeM least l) (fun p hp => (hwm.ok p hp).1)
      refine Ev.sr fun K hK => S.o q.mv (S.cR [0] 2 [_, _] (hob := (keep_c (he := rfl) (h := keep_n))) (hF := sTotalR least (madeM least l) hwm) (hn' := belowL rfl rfl) (h := S.o q.mv (S.cR [0] 2 [_, _] (hob := (keep_c (he := rfl) (h := keep_n))) (hF := sListR least (madeM least l) hwm) (hn' := belowL rfl rfl) (h := S.o q.as (S.o q.as (S.end (hK _ ?_)))))))
      clear hK K
      refine Ev.sr fun K hK => S.o q.mv (S.o q.mv (S.cR [0] 2 [_, _] (hob := (keep_c (he := rfl) (h := keep_n))) (hF := sServeR least (madeM least l) o hwm hol) (hn' := belowL rfl rfl) (h := S.o q.mv (S.o q.ex (S.o q.ex (S.o q.as (S.o q.as (S.end (hK _ ?_)))))))))
      clear hK K
      refine Ev.seq ?_
      refine Ev.sr fun K hK => S.o q.mv (S.o q.neq (S.end (hK _ ?_)))
      clear hK K
      refine Ev.cn (fun c3 => ?_) (fun c3 => ?_)
      · first
      | (first | omega | contradiction)
      | obtain ⟨e1, e2⟩ := sSv_no (least := least) (m := (madeM least l)) (l := o) (by omega)
        rw [e1, e2]
        refine Ev.sr fun K hK => S.o q.mv (S.o (q.lens am_el28) (S.o q.eql (S.bd q.mv (fun c4 => ?_) (fun c4 => ?_))))
        · first
        | (first | omega | contradiction)
        | refine S.o q.mv (S.cR [0] 2 [_, _] (hob := (keep_c (he := rfl) (h := keep_n))) (hF := sListR least (madeM least l) hwm) (hn' := belowL rfl rfl) (h := S.o q.mv (S.c0 (hF := eqPc_fun (lstV (madeM least l)) (lstV (madeM least l)) (by omega) (by omega)) (h := S.o q.pt (S.o q.as (S.end (hK _ ?_)))))))
          clear hK K
          refine Ev.ret ?_
          refine Ev.ret1 ?_
          refine ⟨?_, rfl⟩
          first | rfl | exact lawT rfl | exact lawT (by assumption) | exact lawT (by omega) | (exfalso; omega) | contradiction | (exfalso; simp at *; done) | (exfalso; simp_all; done)
        · first
        | (first | omega | contradiction)
        | refine S.sk (S.sk (S.sk (S.sk (S.o q.pf (S.o q.as (S.end (hK _ ?_)))))))
          clear hK K
          refine Ev.ret ?_
          refine Ev.ret1 ?_
          refine ⟨?_, rfl⟩
          first | rfl | exact lawT rfl | exact lawT (by assumption) | exact lawT (by omega) | (exfalso; omega) | contradiction | (exfalso; simp at *; done) | (exfalso; simp_all; done)
      · first
      | (first | omega | contradiction)
      | refine Ev.skip ?_
        show Ev _ _ _ _
        obtain ⟨hok, hnm, hgd, hse, e1, e2⟩ := sSv_ok (least := least) (m := (madeM least l)) (l := o) (by omega)
        rw [e1, e2]
        have hko := skP_ok hok hgd
        have hkl := skP_len hok.2
        have hol2 := hok.1
        obtain ⟨hwA, hAl⟩ := svA_good hwm (skP o) hko
        obtain ⟨f1, f2, f3⟩ := svA_facts hwm (skP o) hko (skP_sorted o) hse
        have hokr : okOrd (svA least (madeM least l) (skP o)).out := ⟨by omega, fun q hq => (f3 q hq).1⟩
        rw [skP_tot hok.2] at f1 f2
        have hlA := lstV_len (svA least (madeM least l) (skP o)).m
        have hmA := hwA.len
        obtain ⟨t3, t4⟩ := totP_bd (svA least (madeM least l) (skP o)).m (fun p hp => (hwA.ok p hp).1)
        obtain ⟨t5, t6⟩ := totP_bd o hok.2
        obtain ⟨t7, t8⟩ := totP_bd (svA least (madeM least l) (skP o)).out hokr.2
        have htv : tlV o = totP o := if_pos hok
        have hte : tlE o = 0 := if_pos hok
        have hrv : tlV (svA least (madeM least l) (skP o)).out = totP (svA least (madeM least l) (skP o)).out := if_pos hokr
        have hre : tlE (svA least (madeM least l) (skP o)).out = 0 := if_pos hokr
        refine Ev.sr fun K hK => S.o q.mv (S.c0 (hF := stTotal_fun o (by omega)) (h := ?_))
        rw [htv, hte]
        refine S.o q.mv (S.o q.ex (S.o q.ex (S.o q.as (S.o q.as (S.end (hK _ ?_))))))
        clear hK K
        refine Ev.sr fun K hK => S.o q.mv (S.c0 (hF := stTotal_fun (svA least (madeM least l) (skP o)).out (by omega)) (h := ?_))
        rw [hrv, hre]
        refine S.o q.mv (S.o q.ex (S.o q.ex (S.o q.as (S.o q.as (S.end (hK _ ?_))))))
        clear hK K
        refine Ev.seq ?_
        refine Ev.sr fun K hK => S.o q.mv (S.o q.neq (S.bn q.mv (fun c5 => ?_) (fun c5 => ?_)))
        · first
        | (first | omega | contradiction)
        | refine S.sk (S.sk (S.o q.pt (S.o q.mv (S.sk (S.sk (S.sk (S.o q.pt (S.o q.mv (S.sk (S.sk (S.sk (S.sk (S.sk (S.sk (S.sk (S.sk (S.o q.pt (S.end (hK _ ?_)))))))))))))))))))
          clear hK K
          refine Ev.ct ?_
          refine Ev.sr fun K hK => S.o q.as (S.end (hK _ ?_))
          clear hK K
          refine Ev.ret ?_
          refine Ev.ret1 ?_
          refine ⟨?_, rfl⟩
          first | rfl | exact lawT rfl | exact lawT (by assumption) | exact lawT (by omega) | (exfalso; omega) | contradiction | (exfalso; simp at *; done) | (exfalso; simp_all; done)
        · first
        | (first | omega | contradiction)
        | refine S.o q.mv (S.o q.neq (S.o q.pf (S.bn q.mv (fun c6 => ?_) (fun c6 => ?_))))
          · first
          | (first | omega | contradiction)
          | refine S.sk (S.sk (S.sk (S.o q.pt (S.o q.mv (S.sk (S.sk (S.sk (S.sk (S.sk (S.sk (S.sk (S.sk (S.o q.pt (S.end (hK _ ?_)))))))))))))))
            clear hK K
            refine Ev.ct ?_
            refine Ev.sr fun K hK => S.o q.as (S.end (hK _ ?_))
            clear hK K
            refine Ev.ret ?_
            refine Ev.ret1 ?_
            refine ⟨?_, rfl⟩
            first | rfl | exact lawT rfl | exact lawT (by assumption) | exact lawT (by omega) | (exfalso; omega) | contradiction | (exfalso; simp at *; done) | (exfalso; simp_all; done)
          · first
          | (first | omega | contradiction)
          | refine S.o q.mv (S.o q.mv (S.o q.lss (S.o q.pf (S.bd q.mv (fun c7 => ?_) (fun c7 => ?_)))))
            · first
            | (first | omega | contradiction)
            | refine S.sk (S.sk (S.sk (S.sk (S.sk (S.sk (S.sk (S.sk (S.o q.pt (S.end (hK _ ?_))))))))))
              clear hK K
              refine Ev.ct ?_
              refine Ev.sr fun K hK => S.o q.as (S.end (hK _ ?_))
              clear hK K
              refine Ev.ret ?_
              refine Ev.ret1 ?_
              refine ⟨?_, rfl⟩
              first | rfl | exact lawT rfl | exact lawT (by assumption) | exact lawT (by omega) | (exfalso; omega) | contradiction | (exfalso; simp at *; done) | (exfalso; simp_all; done)
            · first
            | (first | omega | contradiction)
            | refine S.o q.mv (S.cR [0] 2 [_, _] (hob := (keep_c (he := rfl) (h := keep_n))) (hF := sTotalR least (svA least (madeM least l) (skP o)).m hwA) (hn' := belowL rfl rfl) (h := S.o q.mv (S.o q.mv (S.o q.mv (S.o q.sub (S.o q.sub (S.o q.gtr (S.o q.pf (S.end (hK _ ?_))))))))))
              clear hK K
              refine Ev.cd (fun c8 => ?_) (fun c8 => ?_)
              · first
              | (first | omega | contradiction)
              | refine Ev.sr fun K hK => S.o q.as (S.end (hK _ ?_))
                clear hK K
                refine Ev.ret ?_
                refine Ev.ret1 ?_
                refine ⟨?_, rfl⟩
                first | rfl | exact lawT rfl | exact lawT (by assumption) | exact lawT (by omega) | (exfalso; omega) | contradiction | (exfalso; simp at *; done) | (exfalso; simp_all; done)
              · first
              | (first | omega | contradiction)
              | refine Ev.skip ?_
                show Ev _ _ _ _
                refine Ev.sr fun K hK => S.o q.mv (S.c0 (hF := stShort_fun o (by omega)) (h := ?_))
                rw [if_pos hok, if_pos hok, show shV o = skP o from if_pos hgd, show shE o = 0 from if_pos hgd]
                refine S.o q.mv (S.o q.ex (S.o q.ex (S.o q.as (S.o q.as (S.end (hK _ ?_))))))
                clear hK K
                refine Ev.seq ?_
                refine Ev.sr fun K hK => S.o q.mv (S.o q.neq (S.end (hK _ ?_)))
                clear hK K
                refine Ev.cn (fun c9 => ?_) (fun c9 => ?_)
                · first
                | (first | omega | contradiction)
                | refine Ev.sr fun K hK => S.o q.as (S.end (hK _ ?_))
                  clear hK K
                  refine Ev.ret ?_
                  refine Ev.ret1 ?_
                  refine ⟨?_, rfl⟩
                  first | rfl | exact lawT rfl | exact lawT (by assumption) | exact lawT (by omega) | (exfalso; omega) | contradiction | (exfalso; simp at *; done) | (exfalso; simp_all; done)
                · first
                | (first | omega | contradiction)
                | refine Ev.skip ?_
                  show Ev _ _ _ _
                  refine Ev.sr fun K hK => S.o q.as (S.end (hK _ ?_))
                  clear hK K
                  refine Ev.seq ?_
                  refine Ev.sr fun K hK => S.o q.mv (S.o (q.lens am_el28) (S.o q.mv (S.end (hK _ ?_))))
                  clear hK K
                  refine Ev.block ?_
                  refine Ev.weaken (Wk.nown pairC 19 52 2) ?_
                  refine Ev.loopU (ι := {p : List (Int × Int) × List (Int × Int) // p.1 ++ p.2 = (skP o) ∧ True}) [0, 1, 2] [7, 8, 11, 120, 121] (fun ⟨(pre, suf), _⟩ => [(122, .lit (.int .i64 ((pre.length : Int)))), (19, .als 2 0 ((svA least (madeM least l) pre).out).length)]) (fun ⟨(pre, suf), _⟩ => [(0, ⟨false, 47, 2, [[.lit (.int .i64 (least)), .shm 3 (((svA least (madeM least l) (skP o)).m).map (rowK (Value.int .i64) (Value.int .i64)))]], true⟩), (1, ⟨false, 47, 2, [[.lit (.int .i64 (least)), .shm 3 (((svA least (madeM least l) pre).m).map (rowK (Value.int .i64) (Value.int .i64)))]], true⟩), (2, ⟨true, 52, 2, ((svA least (madeM least l) pre).out).map pairC, true⟩)]) (fun ⟨(pre, suf), _⟩ => suf.length) ⟨([], (skP o)), rfl, trivial⟩ (.c (.c (.c (.c (.c .n))))) (keep_c (he := (by first | rfl | (simp; done))) (h := (keep_c (he := (by first | rfl | (simp; done))) (h := (keep_c (he := (by first | rfl | (rw [hadd, List.map_append]; done) | (rw [hadd]; done))) (h := keep_n)))))) (slots_c (he := (by first | rfl | (congr 2; simp; done))) (h := (slots_c (he := (by first | rfl | (rw [hadd, List.length_append]; done) | (rw [hadd]; simp; done))) (h := trivial)))) ?_
                  rintro ⟨⟨pre, suf⟩, hp, hinv⟩ R0 hR0
                  dsimp only [List.cons_append, List.nil_append, List.length_cons, List.length_nil]
                  simp only at hp hinv
                  have hpl : pre.length + suf.length = ((skP o)).length := by rw [← hp, List.length_append]
                  rcases suf with _ | ⟨s, suf⟩
                  · rw [List.append_nil] at hp; simp only [List.length_nil] at hpl
                    subst hp
                    refine Ev.sr fun K hK => S.o q.lss (S.end (hK _ ?_))
                    clear hK K
                    refine Ev.ud (fun c10 => ?_) (fun c10 => ?_)
                    · first | omega | contradiction | (exfalso; simp at *; done)
                    · first
                    | (first | omega | contradiction)
                    | refine Ev.exit ?_
                      refine hR0 _ _ ?_
                      show Ev _ _ _ _
                      refine Ev.seq ?_
                      refine Ev.weaken (Wk.frz 19 [_, _]) ?_
                      refine Ev.sr fun K hK => S.o q.mv (S.o q.mv (S.c0 (hF := eqPc_fun (svA least (madeM least l) (skP o)).out (svA least (madeM least l) (skP o)).out (by omega) (by omega)) (h := S.o q.not (S.bn q.mv (fun c11 => ?_) (fun c11 => ?_)))))
                      · first
                      | (first | omega | contradiction)
                      | refine S.sk (S.sk (S.sk (S.sk (S.sk (S.sk (S.o q.pt (S.end (hK _ ?_))))))))
                        clear hK K
                        refine Ev.ct ?_
                        refine Ev.sr fun K hK => S.o q.as (S.end (hK _ ?_))
                        clear hK K
                        refine Ev.ret ?_
                        refine Ev.ret1 ?_
                        refine ⟨?_, rfl⟩
                        first | rfl | exact lawT rfl | exact lawT (by assumption) | exact lawT (by omega) | (exfalso; omega) | contradiction | (exfalso; simp at *; done) | (exfalso; simp_all; done)
                      · first
                      | (first | omega | contradiction)
                      | refine S.o q.mv (S.cR [0] 3 [_, _] (hob := (keep_c (he := rfl) (h := keep_n))) (hF := sListR least (svA least (madeM least l) (skP o)).m hwA) (hn' := belowL rfl rfl) (h := S.o q.mv (S.cR [1] 3 [_, _] (hob := (keep_c (he := rfl) (h := keep_n))) (hF := sListR least (svA least (madeM least l) (skP o)).m hwA) (hn' := belowL rfl rfl) (h := S.c0 (hF := eqPc_fun (lstV (svA least (madeM least l) (skP o)).m) (lstV (svA least (madeM least l) (skP o)).m) (by omega) (by omega)) (h := S.o q.not (S.o q.pf (S.end (hK _ ?_))))))))
                        clear hK K
                        refine Ev.cn (fun c12 => ?_) (fun c12 => ?_)
                        · first
                        | (first | omega | contradiction)
                        | refine Ev.sr fun K hK => S.o q.as (S.end (hK _ ?_))
                          clear hK K
                          refine Ev.ret ?_
                          refine Ev.ret1 ?_
                          refine ⟨?_, rfl⟩
                          first | rfl | exact lawT rfl | exact lawT (by assumption) | exact lawT (by omega) | (exfalso; omega) | contradiction | (exfalso; simp at *; done) | (exfalso; simp_all; done)
                        · first
                        | (first | omega | contradiction)
                        | refine Ev.skip ?_
                          show Ev _ _ _ _
                          refine Ev.seq ?_
                          refine Ev.sr fun K hK => S.o q.mv (S.o (q.lens am_el28) (S.o q.mv (S.end (hK _ ?_))))
                          clear hK K
                          refine Ev.block ?_
                          refine Ev.loopU (ι := {p : List (Int × Int) × List (Int × Int) // p.1 ++ p.2 = (svA least (madeM least l) (skP o)).out ∧ True}) [0, 1] [7, 8, 11, 19, 120, 121, 122, 123, 139, 140, 141, 142, 143, 144, 145, 146, 147, 148, 149, 150, 151, 152] (fun ⟨(pre, suf), _⟩ => [(153, .lit (.int .i64 ((pre.length : Int))))]) (fun ⟨(pre, suf), _⟩ => [(0, ⟨false, 47, 2, [[.lit (.int .i64 (least)), .shm 3 (((svA least (madeM least l) (skP o)).m).map (rowK (Value.int .i64) (Value.int .i64)))]], true⟩), (1, ⟨false, 47, 2, [[.lit (.int .i64 (least)), .shm 3 (((svA least (madeM least l) (skP o)).m).map (rowK (Value.int .i64) (Value.int .i64)))]], true⟩)]) (fun ⟨(pre, suf), _⟩ => suf.length) ⟨([], (svA least (madeM least l) (skP o)).out), rfl, trivial⟩ (.c (.c (.c (.c (.c (.c (.c (.c (.c (.c (.c (.c (.c (.c (.c (.c (.c (.c (.c (.c (.c (.c .n)))))))))))))))))))))) (keep_c (he := (by first | rfl | (simp; done))) (h := (keep_c (he := (by first | rfl | (simp; done))) (h := keep_n)))) (slots_c (he := (by first | rfl | (congr 2; simp; done))) (h := trivial)) ?_
                          rintro ⟨⟨pre, suf⟩, hp, hinv⟩ R2 hR2
                          dsimp only [List.cons_append, List.nil_append, List.length_cons, List.length_nil]
                          simp only at hp hinv
                          have hpl : pre.length + suf.length = ((svA least (madeM least l) (skP o)).out).length := by rw [← hp, List.length_append]
                          rcases suf with _ | ⟨s, suf⟩
                          · rw [List.append_nil] at hp; simp only [List.length_nil] at hpl
                            refine Ev.sr fun K hK => S.o q.lss (S.end (hK _ ?_))
                            clear hK K
                            refine Ev.ud (fun c13 => ?_) (fun c13 => ?_)
                            · first | omega | contradiction | (exfalso; simp at *; done)
                            · first
                            | (first | omega | contradiction)
                            | refine Ev.exit ?_
                              refine hR2 _ _ ?_
                              show Ev _ _ _ _
                              refine Ev.sr fun K hK => S.o q.as (S.end (hK _ ?_))
                              clear hK K
                              refine Ev.ret ?_
                              refine Ev.ret1 ?_
                              refine ⟨?_, rfl⟩
                              first | rfl | exact lawT rfl | exact lawT (by assumption) | exact lawT (by omega) | (exfalso; omega) | contradiction | (exfalso; simp at *; done) | (exfalso; simp_all; done)
                          · simp only [List.length_cons] at hpl
                            have hidx : (svA least (madeM least l) (skP o)).out[pre.length]? = some s := by rw [← hp]; simp
                            obtain ⟨q1, q2, _⟩ := f3 s (by rw [← hp]; simp)
                            have hin : inL s.1 := ⟨q1.1, q1.2.1⟩
                            have hte2 := sTk_bad (least := least) (m := (svA least (madeM least l) (skP o)).m) hin (by rw [(tk12 hwA).2 q2]; decide)
                            rw [(tk12 hwA).2 q2] at hte2
                            refine Ev.sr fun K hK => S.o q.lss (S.end (hK _ ?_))
                            clear hK K
                            refine Ev.ud (fun c14 => ?_) (fun c14 => ?_)
                            · first
                            | (first | omega | contradiction)
                            | refine Ev.seq ?_
                              refine Ev.block ?_
                              refine Ev.sr fun K hK => S.o (q.ix am_el28 am_cl52 (hl := (by first | exact ati hidx (by omega) | exact atig (by omega)))) (S.o (q.lsA [_, _] am_ag52 am_cl52) (S.nn (q.al am_ze52) (S.sv [_, _] true [_, _] am_in52 am_cl52 (h := S.end (hK _ ?_)))))
                              clear hK K
                              refine Ev.sr fun K hK => S.o q.mv (S.o (q.fa 0 am_fi52_0 am_cl3) (S.o (q.lv am_ag3) (S.cR [0] 3 [_, _, _] (hob := (keep_c (he := rfl) (h := keep_n))) (hF := sTakeR least s.1 (svA least (madeM least l) (skP o)).m hwA) (hn' := belowL rfl rfl) (h := ?_))))
                              rw [hte2.1, hte2.2.1, hte2.2.2]
                              refine S.o q.mv (S.o q.ex (S.o q.ex (S.o q.as (S.o q.as (S.end (hK _ ?_))))))
                              clear hK K
                              refine Ev.sr fun K hK => S.o q.mv (S.o q.neq (S.end (hK _ ?_)))
                              clear hK K
                              refine Ev.cn (fun c15 => ?_) (fun c15 => ?_)
                              · first
                              | (first | omega | contradiction)
                              | refine Ev.sr fun K hK => S.o q.as (S.end (hK _ ?_))
                                clear hK K
                                refine Ev.ret ?_
                                refine hR2 _ _ ?_
                                refine Ev.ret1 ?_
                                refine ⟨?_, rfl⟩
                                first | rfl | exact lawT rfl | exact lawT (by assumption) | exact lawT (by omega) | (exfalso; omega) | contradiction | (exfalso; simp at *; done) | (exfalso; simp_all; done)
                              · first
                              | (first | omega | contradiction)
                              | refine Ev.skip ?_
                                show Ev _ _ _ _
                                refine Ev.region_S fun K hK => S.o q.add (S.o q.mv (S.end (hK _ ?_)))
                                clear hK K
                                refine hR2 _ _ ?_
                                refine roundU [0, 1] [7, 8, 11, 19, 120, 121, 122, 123, 139, 140, 141, 142, 143, 144, 145, 146, 147, 148, 149, 150, 151, 152] ⟨(pre ++ [s], suf), by rw [← hp]; simp, ?_⟩ ?_ (keep_c (he := (by first | rfl | (simp; done))) (h := (keep_c (he := (by first | rfl | (simp; done))) (h := keep_n)))) (slots_c (he := (by first | rfl | (congr 2; simp; done))) (h := trivial)) (.c (.c (.c (.c (.c (.c (.c (.c (.c (.c (.c (.c (.c (.c (.c (.c (.c (.c (.c (.c (.c (.c .n))))))))))))))))))))))
                                trivial
                                all_goals (dsimp only; simp only [List.length_cons]; omega)
                            · first | omega | contradiction | (exfalso; simp at *; done)
                  · simp only [List.length_cons] at hpl
                    have hidx : (skP o)[pre.length]? = some s := by rw [← hp]; simp
                    have hpre : ∀ p ∈ pre, okPc p := fun p h => hko p (by rw [← hp]; simp [h])
                    have hso : okPc s := hko s (by rw [← hp]; simp)
                    have hsn := num_mem hko (p := s) (by rw [← hp]; simp)
                    rw [skP_num hok.2] at hsn
                    obtain ⟨hone, hadd⟩ := serve_one (least := least) (m := (madeM least l)) (pre := pre) (suf := suf) (s := s) (by rw [hp]; exact hse) hso (by omega)
                    have hpl2 := (svA_good hwm pre hpre).2
                    have hgl : (addO [] s.1 (grp least (svA least (madeM least l) pre).m s).left).length ≤ 1 := by unfold addO; split <;> simp
                    refine Ev.sr fun K hK => S.o q.lss (S.end (hK _ ?_))
                    clear hK K
                    refine Ev.ud (fun c16 => ?_) (fun c16 => ?_)
                    · first
                    | (first | omega | contradiction)
                    | refine Ev.seq ?_
                      refine Ev.block ?_
                      refine Ev.sr fun K hK => S.o (q.ix am_el28 am_cl52 (hl := (by first | exact ati hidx (by omega) | exact atig (by omega)))) (S.o (q.lsA [_, _] am_ag52 am_cl52) (S.nn (q.al am_ze52) (S.sv [_, _] true [_, _, _] am_in52 am_cl52 (h := S.end (hK _ ?_)))))
                      clear hK K
                      refine Ev.sr fun K hK => S.o q.mv (S.o (q.lvA [_, _] am_ag52 am_cl52) (S.nn (q.bs [[_, _]] true am_el28 am_ze52 am_cl52) ?_))
                      refine SeqL.weaken (Wk.frzl (f := pairC) [s] 129 [_, _, _, _]) ?_
                      refine S.cR [1] 5 [_, _, _, _] (hob := (keep_c (he := rfl) (h := keep_n))) (hF := sServeR least (svA least (madeM least l) pre).m [s] (svA_good hwm pre hpre).1 (by show (1 : Nat) ≤ 140737488355328; decide)) (hn' := belowL rfl rfl) (h := ?_)
                      rw [hone.e, hone.v, hone.o]
                      refine S.o q.mv (S.o q.ex (S.o q.ex (S.o q.as (S.o q.as (S.end (hK _ ?_))))))
                      clear hK K
                      refine Ev.seq ?_
                      refine Ev.sr fun K hK => S.o q.mv (S.o q.neq (S.end (hK _ ?_)))
                      clear hK K
                      refine Ev.cn (fun c17 => ?_) (fun c17 => ?_)
                      · first
                      | (first | omega | contradiction)
                      | refine Ev.sr fun K hK => S.o q.as (S.end (hK _ ?_))
                        clear hK K
                        refine Ev.ret ?_
                        refine hR0 _ _ ?_
                        refine Ev.ret1 ?_
                        refine ⟨?_, rfl⟩
                        first | rfl | exact lawT rfl | exact lawT (by assumption) | exact lawT (by omega) | (exfalso; omega) | contradiction | (exfalso; simp at *; done) | (exfalso; simp_all; done)
                      · first
                      | (first | omega | contradiction)
                      | refine Ev.skip ?_
                        show Ev _ _ _ _
                        refine Ev.region_S fun K hK => S.o q.mv (S.o q.mv (S.ap' [_, _, _] am_el28 am_ze52 am_cl52 am_by52 (hh := head_own') (hr := rows_sh) (h := S.o q.as (S.end (hK _ ?_)))))
                        clear hK K
                        show Ev _ _ _ _
                        refine Ev.region_S fun K hK => S.o q.add (S.o q.mv (S.end (hK _ ?_)))
                        clear hK K
                        refine hR0 _ _ ?_
                        refine roundU [0, 1, 5] [7, 8, 11, 120, 121] ⟨(pre ++ [s], suf), by rw [← hp]; simp, ?_⟩ ?_ (keep_c (he := (by first | rfl | (simp; done))) (h := (keep_c (he := (by first | rfl | (simp; done))) (h := (keep_c (he := (by first | rfl | (rw [hadd, List.map_append]; done) | (rw [hadd]; done))) (h := keep_n)))))) (slots_c (he := (by first | rfl | (congr 2; simp; done))) (h := (slots_c (he := (by first | rfl | (rw [hadd, List.length_append]; done) | (rw [hadd]; simp; done))) (h := trivial)))) (.c (.c (.c (.c (.c .n)))))
                        trivial
                        all_goals (dsimp only; simp only [List.length_cons]; omega)
                    · first | omega | contradiction | (exfalso; simp at *; done)
theorem serves_law (least : Int) (l : List Act) (o : Mp) (hlen : l.length ≤ 140737488355328) (hw : ∀ x ∈ l, x.w) (hol : o.length ≤ 140737488355328) : Fun Try.prog 7 [.lit (.int .i64 least), .sh 4 (l.map Act.c), .sh 2 (o.map pairC)] (Ret (.lit (.bool true)) []) := by
  by_cases h : inL least
  · exact servesY least l o hlen hw hol h
  · exact servesN least l o hlen hw hol h
end Go.Proofs.Ytaggnajjmopobaa
