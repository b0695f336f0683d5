/-
  Offcut: OffcutTakes, walked.
  Conditions: none.
-/
import Derived.Test.YtaggnajjmopobaaOf6
import Derived.Test.YtaggnajjmopobaaAmHeld
import Derived.Test.YtaggnajjmopobaaAmSet
namespace Go.Proofs.Ytaggnajjmopobaa
open Go Go.AM
set_option linter.unusedSimpArgs false
set_option linter.unusedVariables false
set_option maxRecDepth 100000
set_option maxHeartbeats 2000000
theorem indexFuncPq2 (g : FuncId) (c0 : List AV) (c1 : List AV) (p : Int × Int → Bool) (hg : ∀ s, Fun Try.prog g [.agg (pairC s), .sadr c0 0, .sadr c1 0] (Ret (.lit (.bool (p s))) [])) (l : List (Int × Int)) (hlen : l.length ≤ 140737488355328) :
    Fun Try.prog 43 [.sh 2 (l.map pairC), .fn (.func g) [] [.sadr c0 0, .sadr c1 0]] (Ret (.lit (.int .i64 (idxP p l 0))) []) := by
  refine Fun.of (nt := 19) (rs := [.tmp 4]) Try.func43 rfl rfl rfl rfl rfl ?_
  refine Ev.sr fun K hK => S.o q.as (S.end (hK _ ?_))
  clear hK K
  refine Ev.seq ?_
  refine Ev.sr fun K hK => S.o q.mv (S.o (q.lens am_el28) (S.o q.mv (S.end (hK _ ?_))))
  clear hK K
  refine Ev.block ?_
  refine Ev.loopU (ι := {q : List (Int × Int) × List (Int × Int) // q.1 ++ q.2 = l ∧ ∀ x ∈ q.1, p x = false}) [] [0, 1, 7] (fun ⟨(pre, suf), _⟩ => [(8, .lit (.int .i64 ((pre.length : Int))))]) (fun ⟨(pre, suf), _⟩ => []) (fun ⟨(pre, suf), _⟩ => suf.length) ⟨([], l), rfl, fun x hx => by simp at hx⟩ (.c (.c (.c .n))) keep_n (slots_c (he := (by first | rfl | (simp; done) | (congr 2; omega))) (h := trivial)) ?_
  rintro ⟨⟨pre, suf⟩, hp, hinv⟩ R0 hR0
  dsimp only [List.cons_append, List.nil_append, List.length_cons, List.length_nil]
  simp only at hp hinv
  have hpl : pre.length + suf.length = (l).length := by rw [← hp, List.length_append]
  rcases suf with _ | ⟨s, suf⟩
  · rw [List.append_nil] at hp; subst hp; simp only [List.length_nil] at hpl
    refine Ev.sr fun K hK => S.o q.lss (S.end (hK _ ?_))
    clear hK K
    refine Ev.ud (fun c1 => ?_) (fun c1 => ?_)
    · first
    | (first | omega | contradiction)
    | refine Ev.seq ?_
      refine Ev.block ?_
      refine Ev.sr fun K hK => S.o q.mv (S.o q.as (S.end (hK _ ?_)))
      clear hK K
      refine Ev.sr fun K hK => S.o q.mv (S.o q.mv (S.o q.mv (S.o (q.ix am_el28 am_cl52 (hl := (by first | exact atig (by omega)))) (S.o (q.lsA [_, _] am_ag52 am_cl52) (S.c0 (hF := hg s) (h := S.end (hK _ ?_)))))))
      clear hK K
      refine Ev.c (fun c2 => ?_) (fun c2 => ?_)
      · first
      | (first | omega | contradiction)
      | refine Ev.sr fun K hK => S.o q.mv (S.o q.as (S.end (hK _ ?_)))
        clear hK K
        refine Ev.ret ?_
        refine hR0 _ _ ?_
        refine Ev.ret1 ?_
        refine ⟨?_, rfl⟩
        first | (congr 2; rw [← hp, idxP_append p pre _ 0 hinv, idxP, if_pos ‹_›]; omega) | (congr 2; rw [idxP_none p pre 0 hinv])
      · first
      | (first | omega | contradiction)
      | refine Ev.skip ?_
        show Ev _ _ _ _
        refine Ev.region_S fun K hK => S.o q.add (S.o q.mv (S.end (hK _ ?_)))
        clear hK K
        refine hR0 _ _ ?_
        refine roundU [] [0, 1, 7] ⟨(pre ++ [s], suf), by rw [← hp]; simp, ?_⟩ ?_ keep_n (slots_c (he := (by first | rfl | (simp; done) | (congr 2; omega))) (h := trivial)) (.c (.c (.c .n)))
        intro x hx; simp only [List.mem_append, List.mem_singleton] at hx; rcases hx with hx | rfl
        · exact hinv x hx
        · assumption
        all_goals (dsimp only; simp only [List.length_cons]; omega)
    · first
    | (first | omega | contradiction)
    | refine Ev.exit ?_
      refine hR0 _ _ ?_
      show Ev _ _ _ _
      refine Ev.sr fun K hK => S.o q.as (S.end (hK _ ?_))
      clear hK K
      refine Ev.ret ?_
      refine Ev.ret1 ?_
      refine ⟨?_, rfl⟩
      first | (congr 2; rw [← hp, idxP_append p pre _ 0 hinv, idxP, if_pos ‹_›]; omega) | (congr 2; rw [idxP_none p pre 0 hinv])
  · simp only [List.length_cons] at hpl
    have hidx : (l)[pre.length]? = some s := by rw [← hp]; simp
    refine Ev.sr fun K hK => S.o q.lss (S.end (hK _ ?_))
    clear hK K
    refine Ev.ud (fun c3 => ?_) (fun c3 => ?_)
    · first
    | (first | omega | contradiction)
    | refine Ev.seq ?_
      refine Ev.block ?_
      refine Ev.sr fun K hK => S.o q.mv (S.o q.as (S.end (hK _ ?_)))
      clear hK K
      refine Ev.sr fun K hK => S.o q.mv (S.o q.mv (S.o q.mv (S.o (q.ix am_el28 am_cl52 (hl := (by first | exact ati hidx (by omega) | exact atig (by omega)))) (S.o (q.lsA [_, _] am_ag52 am_cl52) (S.c0 (hF := hg s) (h := S.end (hK _ ?_)))))))
      clear hK K
      refine Ev.c (fun c4 => ?_) (fun c4 => ?_)
      · first
      | (first | omega | contradiction)
      | refine Ev.sr fun K hK => S.o q.mv (S.o q.as (S.end (hK _ ?_)))
        clear hK K
        refine Ev.ret ?_
        refine hR0 _ _ ?_
        refine Ev.ret1 ?_
        refine ⟨?_, rfl⟩
        first | (congr 2; rw [← hp, idxP_append p pre _ 0 hinv, idxP, if_pos ‹_›]; omega) | (congr 2; rw [idxP_none p pre 0 hinv])
      · first
      | (first | omega | contradiction)
      | refine Ev.skip ?_
        show Ev _ _ _ _
        refine Ev.region_S fun K hK => S.o q.add (S.o q.mv (S.end (hK _ ?_)))
        clear hK K
        refine hR0 _ _ ?_
        refine roundU [] [0, 1, 7] ⟨(pre ++ [s], suf), by rw [← hp]; simp, ?_⟩ ?_ keep_n (slots_c (he := (by first | rfl | (simp; done) | (congr 2; omega))) (h := trivial)) (.c (.c (.c .n)))
        intro x hx; simp only [List.mem_append, List.mem_singleton] at hx; rcases hx with hx | rfl
        · exact hinv x hx
        · assumption
        all_goals (dsimp only; simp only [List.length_cons]; omega)
    · first
    | (first | omega | contradiction)
    | refine Ev.exit ?_
      refine hR0 _ _ ?_
      show Ev _ _ _ _
      refine Ev.sr fun K hK => S.o q.as (S.end (hK _ ?_))
      clear hK K
      refine Ev.ret ?_
      refine Ev.ret1 ?_
      refine ⟨?_, rfl⟩
      first | (congr 2; rw [← hp, idxP_append p pre _ 0 hinv, idxP, if_pos ‹_›]; omega) | (congr 2; rw [idxP_none p pre 0 hinv])
theorem containsFuncPq2 (g : FuncId) (c0 : List AV) (c1 : List AV) (p : Int × Int → Bool) (hg : ∀ s, Fun Try.prog g [.agg (pairC s), .sadr c0 0, .sadr c1 0] (Ret (.lit (.bool (p s))) [])) (l : List (Int × Int)) (hlen : l.length ≤ 140737488355328) :
    Fun Try.prog 20 [.sh 2 (l.map pairC), .fn (.func g) [] [.sadr c0 0, .sadr c1 0]] (Ret (.lit (.bool (decide (∃ x ∈ l, p x = true)))) []) := by
  have hd : (decide (∃ x ∈ l, p x = true)) = decide (0 ≤ idxP p l 0) := by simp only [idxP_nonneg p l 0 (Int.le_refl _)]
  rw [hd]
  refine Fun.of (nt := 9) (rs := [.tmp 4]) Try.func20 rfl rfl rfl rfl rfl ?_
  refine Ev.sr fun K hK => S.o q.as (S.end (hK _ ?_))
  clear hK K
  refine Ev.sr fun K hK => S.o q.mv (S.o q.mv (S.c0 (hF := indexFuncPq2 g c0 c1 p hg l hlen) (h := S.o q.geq (S.o q.as (S.end (hK _ ?_))))))
  clear hK K
  refine Ev.ret ?_
  refine Ev.ret1 ?_
  refine ⟨?_, rfl⟩
  rfl
theorem tks1_fun (p : Int × Int) (n : Int) : Fun Try.prog 21 [.agg (pairC p), .sadr [.lit (.int .i64 n)] 0] (Ret (.lit (.bool (decide (p.1 ≥ n)))) []) := by
  obtain ⟨px, py⟩ := p
  refine Fun.of (nt := 8) (rs := [.tmp 3]) Try.func21 rfl rfl rfl rfl rfl ?_
  refine Ev.sr fun K hK => S.nn (q.bx [_, _] true) (S.o q.as (S.end (hK _ ?_)))
  clear hK K
  refine Ev.sr fun K hK => S.o (q.fa 0 am_fi52_0 am_cl3) (S.o (q.lv am_ag3) (S.o (q.ls am_ag3) (S.o q.geq (S.o q.as (S.end (hK _ ?_))))))
  clear hK K
  refine Ev.ret ?_
  refine Ev.ret1 ?_
  refine ⟨?_, rfl⟩
  first | rfl | exact bF (by simp only; omega) | exact bT (by simp only; omega) | exact dI (by simp only; omega)
theorem tks2_fun (p : Int × Int) (b : Int) : Fun Try.prog 23 [.agg (pairC p), .sadr [.lit (.int .i64 b)] 0] (Ret (.lit (.bool (decide (p.1 = b)))) []) := by
  obtain ⟨px, py⟩ := p
  refine Fun.of (nt := 8) (rs := [.tmp 3]) Try.func23 rfl rfl rfl rfl rfl ?_
  refine Ev.sr fun K hK => S.nn (q.bx [_, _] true) (S.o q.as (S.end (hK _ ?_)))
  clear hK K
  refine Ev.sr fun K hK => S.o (q.fa 0 am_fi52_0 am_cl3) (S.o (q.lv am_ag3) (S.o (q.ls am_ag3) (S.o q.eql (S.o q.as (S.end (hK _ ?_))))))
  clear hK K
  refine Ev.ret ?_
  refine Ev.ret1 ?_
  refine ⟨?_, rfl⟩
  first | rfl | exact bF (by simp only; omega) | exact bT (by simp only; omega) | exact dI (by simp only; omega)
theorem tks3_fun (p : Int × Int) (n b : Int) : Fun Try.prog 24 [.agg (pairC p), .sadr [.lit (.int .i64 n)] 0, .sadr [.lit (.int .i64 b)] 0] (Ret (.lit (.bool (decide (p.1 ≥ n ∧ p.1 < b)))) []) := by
  obtain ⟨px, py⟩ := p
  refine Fun.of (nt := 15) (rs := [.tmp 4]) Try.func24 rfl rfl rfl rfl rfl ?_
  refine Ev.sr fun K hK => S.nn (q.bx [_, _] true) (S.o q.as (S.end (hK _ ?_)))
  clear hK K
  refine Ev.sr fun K hK => S.o (q.fa 0 am_fi52_0 am_cl3) (S.o (q.lv am_ag3) (S.o (q.ls am_ag3) (S.o q.geq (S.bd q.mv (fun c1 => ?_) (fun c1 => ?_)))))
  · first
  | (first | omega | contradiction)
  | refine S.o (q.fa 0 am_fi52_0 am_cl3) (S.o (q.lv am_ag3) (S.o (q.ls am_ag3) (S.o q.lss (S.o q.pt (S.o q.as (S.end (hK _ ?_)))))))
    clear hK K
    refine Ev.ret ?_
    refine Ev.ret1 ?_
    refine ⟨?_, rfl⟩
    first | rfl | exact bF (by simp only; omega) | exact bT (by simp only; omega) | exact dI (by simp only; omega)
  · first
  | (first | omega | contradiction)
  | refine S.sk (S.sk (S.sk (S.sk (S.o q.pf (S.o q.as (S.end (hK _ ?_)))))))
    clear hK K
    refine Ev.ret ?_
    refine Ev.ret1 ?_
    refine ⟨?_, rfl⟩
    first | rfl | exact bF (by simp only; omega) | exact bT (by simp only; omega) | exact dI (by simp only; omega)
theorem takesN (least : Int) (l : List Act) (n : Int) (hlen : l.length ≤ 140737488355328) (hw : ∀ x ∈ l, x.w) (h : ¬ inL least) : Fun Try.prog 5 [.lit (.int .i64 least), .sh 4 (l.map Act.c), .lit (.int .i64 n)] (Ret (.lit (.bool true)) []) := by
  refine Fun.of (nt := 106) (rs := [.tmp 6]) Try.func5 rfl rfl rfl rfl rfl ?_
  refine Ev.sr fun K hK => S.nn (q.bx [_] true) (S.o q.as (S.end (hK _ ?_)))
  clear hK K
  refine Ev.seq ?_
  refine Ev.sr fun K hK => S.c0 (hF := awake_fun) (h := S.o q.nott (S.end (hK _ ?_)))
  clear hK K
  refine Ev.cf ?_
  refine Ev.skip ?_
  show Ev _ _ _ _
  refine Ev.seq ?_
  refine Ev.sr fun K hK => S.o q.mv (S.c0 (hF := few_fun _ (by omega) (by assumption)) (h := S.o q.not (S.end (hK _ ?_))))
  clear hK K
  refine Ev.cn (fun c1 => ?_) (fun c1 => ?_)
  · first
  | (first | omega | contradiction)
  | refine Ev.sr fun K hK => S.o q.as (S.end (hK _ ?_))
    clear hK K
    refine Ev.ret ?_
    refine Ev.ret1 ?_
    refine ⟨?_, rfl⟩
    first | rfl | exact lawT rfl | exact lawT (by assumption) | exact lawT (by omega) | (exfalso; omega) | contradiction | (exfalso; simp at *; done) | exact lawN h
  · first
  | (first | omega | contradiction)
  | refine Ev.skip ?_
    show Ev _ _ _ _
    refine Ev.sr fun K hK => S.o q.mv (S.o q.mv (S.c0 (hF := madeN_fun least l h (by omega)) (h := S.o q.as (S.end (hK _ ?_)))))
    clear hK K
    refine Ev.seq ?_
    refine Ev.sr fun K hK => S.o q.mv (S.peq (by kernel_rfl : Try.prog.underlying 25 = some (.pointer 47)) (h := S.end (hK _ ?_)))
    clear hK K
    refine Ev.ct ?_
    refine Ev.sr fun K hK => S.o q.mv (S.c0 (hF := rLen_fun _) (h := S.o q.not (S.o q.as (S.end (hK _ ?_)))))
    clear hK K
    refine Ev.ret ?_
    refine Ev.ret1 ?_
    refine ⟨?_, rfl⟩
    first | rfl | exact lawT rfl | exact lawT (by assumption) | exact lawT (by omega) | (exfalso; omega) | contradiction | (exfalso; simp at *; done) | exact lawN h
theorem takesY (least : Int) (l : List Act) (n : Int) (hlen : l.length ≤ 140737488355328) (hw : ∀ x ∈ l, x.w) (h : inL least) : Fun Try.prog 5 [.lit (.int .i64 least), .sh 4 (l.map Act.c), .lit (.int .i64 n)] (Ret (.lit (.bool true)) []) := by
  have hle : 1 ≤ least := h.1
  refine Fun.of (nt := 106) (rs := [.tmp 6]) Try.func5 rfl rfl rfl rfl rfl ?_
  refine Ev.sr fun K hK => S.nn (q.bx [_] true) (S.o q.as (S.end (hK _ ?_)))
  clear hK K
  refine Ev.seq ?_
  refine Ev.sr fun K hK => S.c0 (hF := awake_fun) (h := S.o q.nott (S.end (hK _ ?_)))
  clear hK K
  refine Ev.cf ?_
  refine Ev.skip ?_
  show Ev _ _ _ _
  refine Ev.seq ?_
  refine Ev.sr fun K hK => S.o q.mv (S.c0 (hF := few_fun _ (by omega) (by assumption)) (h := S.o q.not (S.end (hK _ ?_))))
  clear hK K
  refine Ev.cn (fun c1 => ?_) (fun c1 => ?_)
  · first
  | (first | omega | contradiction)
  | refine Ev.sr fun K hK => S.o q.as (S.end (hK _ ?_))
    clear hK K
    refine Ev.ret ?_
    refine Ev.ret1 ?_
    refine ⟨?_, rfl⟩
    first | rfl | exact lawT rfl | exact lawT (by assumption) | exact lawT (by omega) | (exfalso; omega) | contradiction | (exfalso; simp at *; done) | exact lawN (k5 (by omega)) | (exfalso; simp_all; done) | (exfalso; split at htot <;> omega) | exact lawT (by split at htot <;> omega)
  · first
  | (first | omega | contradiction)
  | refine Ev.skip ?_
    show Ev _ _ _ _
    refine Ev.sr fun K hK => S.o q.mv (S.o q.mv (S.cg 2 [_, _] (hF := madeY_fun least l h (by omega) hw) (hn' := belowL rfl rfl) (h := S.o q.as (S.end (hK _ ?_)))))
    clear hK K
    refine Ev.seq ?_
    refine Ev.sr fun K hK => S.o q.mv (S.peqa (by kernel_rfl : Try.prog.underlying 25 = some (.pointer 47)) (h := S.end (hK _ ?_)))
    clear hK K
    refine Ev.cf ?_
    refine Ev.skip ?_
    show Ev _ _ _ _
    have hwm := made_wf least l
    have hml := hwm.len
    have hll := lstV_len (madeM least l)
    obtain ⟨t1, t2⟩ := totP_bd (madeM least l) (fun p hp => (hwm.ok p hp).1)
    refine Ev.sr fun K hK => S.o q.mv (S.cR [1] 2 [_, _] (hob := (keep_c (he := rfl) (h := keep_n))) (hF := sListR least (madeM least l) hwm) (hn' := belowL rfl rfl) (h := S.o q.mv (S.cR [1] 2 [_, _] (hob := (keep_c (he := rfl) (h := keep_n))) (hF := sTotalR least (madeM least l) hwm) (hn' := belowL rfl rfl) (h := S.o q.as (S.o q.as (S.end (hK _ ?_)))))))
    clear hK K
    have hwm2 := sTk_wf (n := n) hwm
    have hll2 := lstV_len (sTkV least (madeM least l) n)
    have hml2 := hwm2.len
    obtain ⟨t3, t4⟩ := totP_bd (sTkV least (madeM least l) n) (fun p hp => (hwm2.ok p hp).1)
    refine Ev.sr fun K hK => S.o q.mv (S.o (q.lv am_ag3) (S.cR [1] 2 [_, _] (hob := (keep_c (he := rfl) (h := keep_n))) (hF := sTakeR least n (madeM least l) hwm) (hn' := belowL rfl rfl) (h := S.o q.mv (S.o q.ex (S.o q.ex (S.nn (q.al am_ze3) (S.sv [_] true [_, _] am_in3 am_cl3 (h := S.o q.as (S.end (hK _ ?_))))))))))
    clear hK K
    refine Ev.sr fun K hK => S.o q.mv (S.cR [1] 3 [_, _, _] (hob := (keep_c (he := rfl) (h := keep_n))) (hF := sListR least (sTkV least (madeM least l) n) hwm2) (hn' := belowL rfl rfl) (h := S.o q.as (S.end (hK _ ?_))))
    clear hK K
    refine Ev.seq ?_
    refine Ev.sr fun K hK => S.o q.mv (S.o q.neq (S.end (hK _ ?_)))
    clear hK K
    refine Ev.cn (fun c2 => ?_) (fun c2 => ?_)
    · first
    | (first | omega | contradiction)
    | refine Ev.weaken (Wk.frzv 5 [_, _]) ?_
      obtain ⟨⟨k1, k2⟩, k3⟩ := sTk_err hwm ‹¬ sTkE least (madeM least l) n = 0›
      rw [k1, k2]
      refine Ev.sr fun K hK => S.o q.mv (S.o q.mf ?_)
      rcases k3 with ⟨k3, k4⟩ | ⟨k3, k4, k5⟩
      · skip
        refine S.c0 (hF := containsFuncPc1 _ _ (fun p => decide (p.1 ≥ n)) (fun p => tks1_fun p n) (lstV (madeM least l)) (by omega)) (h := S.o q.not (S.o q.as (S.end (hK _ ?_))))
        clear hK K
        refine Ev.sr fun K hK => S.o (q.lv am_ag3) (S.o q.eql (S.bd q.mv (fun c3 => ?_) (fun c3 => ?_)))
        · first
        | (first | omega | contradiction)
        | refine S.o q.mv (S.o q.mv (S.c0 (hF := eqPc_fun (lstV (madeM least l)) (lstV (madeM least l)) (by omega) (by omega)) (h := S.o q.pt (S.bd q.mv (fun c4 => ?_) (fun c4 => ?_)))))
          · first
          | (first | omega | contradiction)
          | refine S.o q.mv (S.o q.eql (S.o (q.ls am_ag3) (S.c0 (hF := rLen_fun n) (h := ?_))))
            first | rw [decide_eq_false k3, k4] | rw [decide_eq_true k3]
            refine S.o q.not (S.o (q.beql am_un4) (S.o q.pt (S.bb q.mv (fun c5 => ?_) (fun c5 => ?_))))
            · first
            | (first | omega | contradiction)
            | refine S.o q.mv (S.o q.neq (S.bn q.mv (fun c6 => ?_) (fun c6 => ?_)))
              · first
              | (first | omega | contradiction)
              | refine S.sk (S.o q.pt (S.o q.pt (S.o q.as (S.end (hK _ ?_)))))
                clear hK K
                refine Ev.ret ?_
                refine Ev.ret1 ?_
                refine ⟨?_, rfl⟩
                first | rfl | exact lawT rfl | exact lawT (by assumption) | exact lawT (by omega) | (exfalso; omega) | contradiction | (exfalso; simp at *; done) | exact lawN (k5 (by omega)) | (exfalso; simp_all; done) | (exfalso; split at htot <;> omega) | exact lawT (by split at htot <;> omega)
              · first
              | (first | omega | contradiction)
              | refine S.o q.mv (S.o q.pf (S.o q.pt (S.o q.as (S.end (hK _ ?_)))))
                clear hK K
                refine Ev.ret ?_
                refine Ev.ret1 ?_
                refine ⟨?_, rfl⟩
                first | rfl | exact lawT rfl | exact lawT (by assumption) | exact lawT (by omega) | (exfalso; omega) | contradiction | (exfalso; simp at *; done) | exact lawN (k5 (by omega)) | (exfalso; simp_all; done) | (exfalso; split at htot <;> omega) | exact lawT (by split at htot <;> omega)
            · first
            | (first | omega | contradiction)
            | refine S.sk (S.sk (S.sk (S.sk (S.sk (S.o q.pf (S.o q.as (S.end (hK _ ?_))))))))
              clear hK K
              refine Ev.ret ?_
              refine Ev.ret1 ?_
              refine ⟨?_, rfl⟩
              first | rfl | exact lawT rfl | exact lawT (by assumption) | exact lawT (by omega) | (exfalso; omega) | contradiction | (exfalso; simp at *; done) | exact lawN (k5 (by omega)) | (exfalso; simp_all; done) | (exfalso; split at htot <;> omega) | exact lawT (by split at htot <;> omega)
          · first
          | (first | omega | contradiction)
          | refine S.sk (S.sk (S.sk (S.sk (S.sk (S.sk (S.o q.pf (S.o q.mv (S.sk (S.sk (S.sk (S.sk (S.sk (S.o q.pf (S.o q.as (S.end (hK _ ?_))))))))))))))))
            clear hK K
            refine Ev.ret ?_
            refine Ev.ret1 ?_
            refine ⟨?_, rfl⟩
            first | rfl | exact lawT rfl | exact lawT (by assumption) | exact lawT (by omega) | (exfalso; omega) | contradiction | (exfalso; simp at *; done) | exact lawN (k5 (by omega)) | (exfalso; simp_all; done) | (exfalso; split at htot <;> omega) | exact lawT (by split at htot <;> omega)
        · first
        | (first | omega | contradiction)
        | refine S.sk (S.sk (S.sk (S.o q.pf (S.o q.mv (S.sk (S.sk (S.sk (S.sk (S.sk (S.sk (S.o q.pf (S.o q.mv (S.sk (S.sk (S.sk (S.sk (S.sk (S.o q.pf (S.o q.as (S.end (hK _ ?_)))))))))))))))))))))
          clear hK K
          refine Ev.ret ?_
          refine Ev.ret1 ?_
          refine ⟨?_, rfl⟩
          first | rfl | exact lawT rfl | exact lawT (by assumption) | exact lawT (by omega) | (exfalso; omega) | contradiction | (exfalso; simp at *; done) | exact lawN (k5 (by omega)) | (exfalso; simp_all; done) | (exfalso; split at htot <;> omega) | exact lawT (by split at htot <;> omega)
      · skip
        refine S.c0 (hF := containsFuncPc1 _ _ (fun p => decide (p.1 ≥ n)) (fun p => tks1_fun p n) (lstV (madeM least l)) (by omega)) (h := S.o q.not (S.o q.as (S.end (hK _ ?_))))
        clear hK K
        refine Ev.sr fun K hK => S.o (q.lv am_ag3) (S.o q.eql (S.bd q.mv (fun c7 => ?_) (fun c7 => ?_)))
        · first
        | (first | omega | contradiction)
        | refine S.o q.mv (S.o q.mv (S.c0 (hF := eqPc_fun (lstV (madeM least l)) (lstV (madeM least l)) (by omega) (by omega)) (h := S.o q.pt (S.bd q.mv (fun c8 => ?_) (fun c8 => ?_)))))
          · first
          | (first | omega | contradiction)
          | refine S.o q.mv (S.o q.eql (S.o (q.ls am_ag3) (S.c0 (hF := rLen_fun n) (h := ?_))))
            first | rw [decide_eq_false k3, k4] | rw [decide_eq_true k3]
            refine S.o q.not (S.o (q.beql am_un4) (S.o q.pt (S.bb q.mv (fun c9 => ?_) (fun c9 => ?_))))
            · first
            | (first | omega | contradiction)
            | refine S.o q.mv (S.o q.neq (S.bn q.mv (fun c10 => ?_) (fun c10 => ?_)))
              · first
              | (first | omega | contradiction)
              | refine S.sk (S.o q.pt (S.o q.pt (S.o q.as (S.end (hK _ ?_)))))
                clear hK K
                refine Ev.ret ?_
                refine Ev.ret1 ?_
                refine ⟨?_, rfl⟩
                first | rfl | exact lawT rfl | exact lawT (by assumption) | exact lawT (by omega) | (exfalso; omega) | contradiction | (exfalso; simp at *; done) | exact lawN (k5 (by omega)) | (exfalso; simp_all; done) | (exfalso; split at htot <;> omega) | exact lawT (by split at htot <;> omega)
              · first
              | (first | omega | contradiction)
              | refine S.o q.mv (S.o q.pf (S.o q.pt (S.o q.as (S.end (hK _ ?_)))))
                clear hK K
                refine Ev.ret ?_
                refine Ev.ret1 ?_
                refine ⟨?_, rfl⟩
                first | rfl | exact lawT rfl | exact lawT (by assumption) | exact lawT (by omega) | (exfalso; omega) | contradiction | (exfalso; simp at *; done) | exact lawN (k5 (by omega)) | (exfalso; simp_all; done) | (exfalso; split at htot <;> omega) | exact lawT (by split at htot <;> omega)
            · first
            | (first | omega | contradiction)
            | refine S.sk (S.sk (S.sk (S.sk (S.sk (S.o q.pf (S.o q.as (S.end (hK _ ?_))))))))
              clear hK K
              refine Ev.ret ?_
              refine Ev.ret1 ?_
              refine ⟨?_, rfl⟩
              first | rfl | exact lawT rfl | exact lawT (by assumption) | exact lawT (by omega) | (exfalso; omega) | contradiction | (exfalso; simp at *; done) | exact lawN (k5 (by omega)) | (exfalso; simp_all; done) | (exfalso; split at htot <;> omega) | exact lawT (by split at htot <;> omega)
          · first
          | (first | omega | contradiction)
          | refine S.sk (S.sk (S.sk (S.sk (S.sk (S.sk (S.o q.pf (S.o q.mv (S.sk (S.sk (S.sk (S.sk (S.sk (S.o q.pf (S.o q.as (S.end (hK _ ?_))))))))))))))))
            clear hK K
            refine Ev.ret ?_
            refine Ev.ret1 ?_
            refine ⟨?_, rfl⟩
            first | rfl | exact lawT rfl | exact lawT (by assumption) | exact lawT (by omega) | (exfalso; omega) | contradiction | (exfalso; simp at *; done) | exact lawN (k5 (by omega)) | (exfalso; simp_all; done) | (exfalso; split at htot <;> omega) | exact lawT (by split at htot <;> omega)
        · first
        | (first | omega | contradiction)
        | refine S.sk (S.sk (S.sk (S.o q.pf (S.o q.mv (S.sk (S.sk (S.sk (S.sk (S.sk (S.sk (S.o q.pf (S.o q.mv (S.sk (S.sk (S.sk (S.sk (S.sk (S.o q.pf (S.o q.as (S.end (hK _ ?_)))))))))))))))))))))
          clear hK K
          refine Ev.ret ?_
          refine Ev.ret1 ?_
          refine ⟨?_, rfl⟩
          first | rfl | exact lawT rfl | exact lawT (by assumption) | exact lawT (by omega) | (exfalso; omega) | contradiction | (exfalso; simp at *; done) | exact lawN (k5 (by omega)) | (exfalso; simp_all; done) | (exfalso; split at htot <;> omega) | exact lawT (by split at htot <;> omega)
    · first
    | (first | omega | contradiction)
    | refine Ev.skip ?_
      show Ev _ _ _ _
      refine Ev.seq ?_
      refine Ev.weaken (Wk.frzv 5 [_, _]) ?_
      refine Ev.weaken (Wk.frzv 10 [_]) ?_
      have hF := tk_facts hwm (by omega : sTkE least (madeM least l) n = 0)
      obtain ⟨n1, n2⟩ := hF.ok
      have hle1 := hF.le.1
      have hle2 := hF.le.2
      have hno := hF.no
      have hmem := hF.mem
      have htot := hF.tot
      rw [← hF.v] at htot
      rw [hF.b]
      refine Ev.sr fun K hK => S.o (q.ls am_ag3) (S.o (q.ls am_ag3) (S.o q.lss (S.bd q.mv (fun c11 => ?_) (fun c11 => ?_))))
      · first
      | (first | omega | contradiction)
      | refine S.sk (S.sk (S.sk (S.sk (S.o q.pt (S.o q.mv (S.sk (S.sk (S.sk (S.o q.pt (S.end (hK _ ?_)))))))))))
        clear hK K
        refine Ev.ct ?_
        refine Ev.sr fun K hK => S.o q.as (S.end (hK _ ?_))
        clear hK K
        refine Ev.ret ?_
        refine Ev.ret1 ?_
        refine ⟨?_, rfl⟩
        first | rfl | exact lawT rfl | exact lawT (by assumption) | exact lawT (by omega) | (exfalso; omega) | contradiction | (exfalso; simp at *; done) | exact lawN (k5 (by omega)) | (exfalso; simp_all; done) | (exfalso; split at htot <;> omega) | exact lawT (by split at htot <;> omega)
      · first
      | (first | omega | contradiction)
      | refine S.o q.mv (S.o q.mf (S.c0 (hF := containsFuncPc1 _ _ (fun p => decide (p.1 = bestK (madeM least l) n)) (fun p => tks2_fun p (bestK (madeM least l) n)) (lstV (madeM least l)) (by omega)) (h := S.o q.not (S.o q.pf (S.bn q.mv (fun c12 => ?_) (fun c12 => ?_))))))
        · first
        | (first | omega | contradiction)
        | refine S.sk (S.sk (S.sk (S.o q.pt (S.end (hK _ ?_)))))
          clear hK K
          refine Ev.ct ?_
          refine Ev.sr fun K hK => S.o q.as (S.end (hK _ ?_))
          clear hK K
          refine Ev.ret ?_
          refine Ev.ret1 ?_
          refine ⟨?_, rfl⟩
          first | rfl | exact lawT rfl | exact lawT (by assumption) | exact lawT (by omega) | (exfalso; omega) | contradiction | (exfalso; simp at *; done) | exact lawN (k5 (by omega)) | (exfalso; simp_all; done) | (exfalso; split at htot <;> omega) | exact lawT (by split at htot <;> omega)
        · first
        | (first | omega | contradiction)
        | refine S.o q.mv (S.o q.mf (S.c0 (hF := containsFuncPq2 _ _ _ (fun p => decide (p.1 ≥ n ∧ p.1 < bestK (madeM least l) n)) (fun p => tks3_fun p n (bestK (madeM least l) n)) (lstV (madeM least l)) (by omega)) (h := S.o q.pf (S.end (hK _ ?_)))))
          clear hK K
          refine Ev.cd (fun c13 => ?_) (fun c13 => ?_)
          · first
          | (first | omega | contradiction)
          | refine Ev.sr fun K hK => S.o q.as (S.end (hK _ ?_))
            clear hK K
            refine Ev.ret ?_
            refine Ev.ret1 ?_
            refine ⟨?_, rfl⟩
            first | rfl | exact lawT rfl | exact lawT (by assumption) | exact lawT (by omega) | (exfalso; omega) | contradiction | (exfalso; simp at *; done) | exact lawN (k5 (by omega)) | (exfalso; simp_all; done) | (exfalso; split at htot <;> omega) | exact lawT (by split at htot <;> omega)
          · first
          | (first | omega | contradiction)
          | refine Ev.skip ?_
            show Ev _ _ _ _
            refine Ev.str (m := 7) (L0 := #[false, false, false, false, false, false, false]) 1000000 rfl (by kernel_rfl) (by exact rfl) fun K hK => ?_
            refine HT.mv (i := 0) #[true, false, false, false, false, false, false] trivial (by kernel_rfl) (by kernel_rfl) rfl (by decide) (h := ?_)
            refine HT.mv (i := 1) #[true, true, false, false, false, false, false] trivial (by kernel_rfl) (by kernel_rfl) rfl (by decide) (h := ?_)
            refine HT.two (i := 2) (j := 4) #[true, true, true, false, false, false, false] #[true, true, false, false, true, false, false] trivial (by kernel_rfl) (by kernel_rfl) (by kernel_rfl) rfl rfl (by decide) (by decide) (S.cR [1] 3 [_] (hob := (keep_c (he := rfl) (h := keep_n))) (hF := sTotalR least (sTkV least (madeM least l) n) hwm2) (hn' := belowL rfl rfl) (h := S.end ?_)) (S.o (q.ls am_ag3) (S.end ?_))
            · skip
              refine HT.two (i := 3) (j := 4) #[true, true, true, true, false, false, false] #[true, true, true, false, true, false, false] trivial (by kernel_rfl) (by kernel_rfl) (by kernel_rfl) rfl rfl (by decide) (by decide) (S.o q.sub (S.end ?_)) (S.o (q.ls am_ag3) (S.end ?_))
              · skip
                refine HT.one (i := 4) #[true, true, true, true, true, false, false] trivial (by kernel_rfl) (by kernel_rfl) rfl (by decide) (S.o (q.ls am_ag3) (S.end ?_))
                refine HT.one (i := 5) #[true, true, true, true, true, true, false] trivial (by kernel_rfl) (by kernel_rfl) rfl (by decide) (S.o q.sub (S.end ?_))
                refine HT.one (i := 6) #[true, true, true, true, true, true, true] trivial (by kernel_rfl) (by kernel_rfl) rfl (by decide) (S.o q.as (S.end ?_))
                refine HT.nil trivial (by kernel_rfl) (hK _ ?_)
                clear hK K
                skip
                refine Ev.sr fun K hK => S.o q.mv (S.o q.geq (S.bd q.mv (fun c14 => ?_) (fun c14 => ?_)))
                · first
                | (first | omega | contradiction)
                | refine S.o q.mv (S.o q.mv (S.o q.lss (S.o q.pt (S.bd q.mv (fun c15 => ?_) (fun c15 => ?_)))))
                  · first
                  | (first | omega | contradiction)
                  | refine S.o q.mv (S.o q.eql (S.bd q.mv (fun c16 => ?_) (fun c16 => ?_)))
                    · first
                    | (first | omega | contradiction)
                    | refine S.sk (S.sk (S.sk (S.sk (S.sk (S.o q.pt (S.o q.pt (S.o q.as (S.end (hK _ ?_)))))))))
                      clear hK K
                      refine Ev.ret ?_
                      refine Ev.ret1 ?_
                      refine ⟨?_, rfl⟩
                      first | rfl | exact lawT rfl | exact lawT (by assumption) | exact lawT (by omega) | (exfalso; omega) | contradiction | (exfalso; simp at *; done) | exact lawN (k5 (by omega)) | (exfalso; simp_all; done) | (exfalso; split at htot <;> omega) | exact lawT (by split at htot <;> omega)
                    · first
                    | (first | omega | contradiction)
                    | refine S.o q.mv (S.o (q.ls am_ag3) (S.o (q.ls am_ag3) (S.o q.sub (S.o q.eql (S.o q.pf (S.o q.pt (S.o q.as (S.end (hK _ ?_)))))))))
                      clear hK K
                      refine Ev.ret ?_
                      refine Ev.ret1 ?_
                      refine ⟨?_, rfl⟩
                      first | rfl | exact lawT rfl | exact lawT (by assumption) | exact lawT (by omega) | (exfalso; omega) | contradiction | (exfalso; simp at *; done) | exact lawN (k5 (by omega)) | (exfalso; simp_all; done) | (exfalso; split at htot <;> omega) | exact lawT (by split at htot <;> omega)
                  · first
                  | (first | omega | contradiction)
                  | refine S.sk (S.sk (S.sk (S.sk (S.sk (S.sk (S.sk (S.sk (S.sk (S.o q.pf (S.o q.as (S.end (hK _ ?_))))))))))))
                    clear hK K
                    refine Ev.ret ?_
                    refine Ev.ret1 ?_
                    refine ⟨?_, rfl⟩
                    first | rfl | exact lawT rfl | exact lawT (by assumption) | exact lawT (by omega) | (exfalso; omega) | contradiction | (exfalso; simp at *; done) | exact lawN (k5 (by omega)) | (exfalso; simp_all; done) | (exfalso; split at htot <;> omega) | exact lawT (by split at htot <;> omega)
                · first
                | (first | omega | contradiction)
                | refine S.sk (S.sk (S.sk (S.o q.pf (S.o q.mv (S.sk (S.sk (S.sk (S.sk (S.sk (S.sk (S.sk (S.sk (S.sk (S.o q.pf (S.o q.as (S.end (hK _ ?_)))))))))))))))))
                  clear hK K
                  refine Ev.ret ?_
                  refine Ev.ret1 ?_
                  refine ⟨?_, rfl⟩
                  first | rfl | exact lawT rfl | exact lawT (by assumption) | exact lawT (by omega) | (exfalso; omega) | contradiction | (exfalso; simp at *; done) | exact lawN (k5 (by omega)) | (exfalso; simp_all; done) | (exfalso; split at htot <;> omega) | exact lawT (by split at htot <;> omega)
              · skip
                refine HT.one (i := 3) #[true, true, true, true, true, false, false] trivial (by kernel_rfl) (by kernel_rfl) rfl (by decide) (S.o q.sub (S.end ?_))
                refine HT.one (i := 5) #[true, true, true, true, true, true, false] trivial (by kernel_rfl) (by kernel_rfl) rfl (by decide) (S.o q.sub (S.end ?_))
                refine HT.one (i := 6) #[true, true, true, true, true, true, true] trivial (by kernel_rfl) (by kernel_rfl) rfl (by decide) (S.o q.as (S.end ?_))
                refine HT.nil trivial (by kernel_rfl) (hK _ ?_)
                clear hK K
                skip
                refine Ev.sr fun K hK => S.o q.mv (S.o q.geq (S.bd q.mv (fun c17 => ?_) (fun c17 => ?_)))
                · first
                | (first | omega | contradiction)
                | refine S.o q.mv (S.o q.mv (S.o q.lss (S.o q.pt (S.bd q.mv (fun c18 => ?_) (fun c18 => ?_)))))
                  · first
                  | (first | omega | contradiction)
                  | refine S.o q.mv (S.o q.eql (S.bd q.mv (fun c19 => ?_) (fun c19 => ?_)))
                    · first
                    | (first | omega | contradiction)
                    | refine S.sk (S.sk (S.sk (S.sk (S.sk (S.o q.pt (S.o q.pt (S.o q.as (S.end (hK _ ?_)))))))))
                      clear hK K
                      refine Ev.ret ?_
                      refine Ev.ret1 ?_
                      refine ⟨?_, rfl⟩
                      first | rfl | exact lawT rfl | exact lawT (by assumption) | exact lawT (by omega) | (exfalso; omega) | contradiction | (exfalso; simp at *; done) | exact lawN (k5 (by omega)) | (exfalso; simp_all; done) | (exfalso; split at htot <;> omega) | exact lawT (by split at htot <;> omega)
                    · first
                    | (first | omega | contradiction)
                    | refine S.o q.mv (S.o (q.ls am_ag3) (S.o (q.ls am_ag3) (S.o q.sub (S.o q.eql (S.o q.pf (S.o q.pt (S.o q.as (S.end (hK _ ?_)))))))))
                      clear hK K
                      refine Ev.ret ?_
                      refine Ev.ret1 ?_
                      refine ⟨?_, rfl⟩
                      first | rfl | exact lawT rfl | exact lawT (by assumption) | exact lawT (by omega) | (exfalso; omega) | contradiction | (exfalso; simp at *; done) | exact lawN (k5 (by omega)) | (exfalso; simp_all; done) | (exfalso; split at htot <;> omega) | exact lawT (by split at htot <;> omega)
                  · first
                  | (first | omega | contradiction)
                  | refine S.sk (S.sk (S.sk (S.sk (S.sk (S.sk (S.sk (S.sk (S.sk (S.o q.pf (S.o q.as (S.end (hK _ ?_))))))))))))
                    clear hK K
                    refine Ev.ret ?_
                    refine Ev.ret1 ?_
                    refine ⟨?_, rfl⟩
                    first | rfl | exact lawT rfl | exact lawT (by assumption) | exact lawT (by omega) | (exfalso; omega) | contradiction | (exfalso; simp at *; done) | exact lawN (k5 (by omega)) | (exfalso; simp_all; done) | (exfalso; split at htot <;> omega) | exact lawT (by split at htot <;> omega)
                · first
                | (first | omega | contradiction)
                | refine S.sk (S.sk (S.sk (S.o q.pf (S.o q.mv (S.sk (S.sk (S.sk (S.sk (S.sk (S.sk (S.sk (S.sk (S.sk (S.o q.pf (S.o q.as (S.end (hK _ ?_)))))))))))))))))
                  clear hK K
                  refine Ev.ret ?_
                  refine Ev.ret1 ?_
                  refine ⟨?_, rfl⟩
                  first | rfl | exact lawT rfl | exact lawT (by assumption) | exact lawT (by omega) | (exfalso; omega) | contradiction | (exfalso; simp at *; done) | exact lawN (k5 (by omega)) | (exfalso; simp_all; done) | (exfalso; split at htot <;> omega) | exact lawT (by split at htot <;> omega)
            · skip
              refine HT.one (i := 2) #[true, true, true, false, true, false, false] trivial (by kernel_rfl) (by kernel_rfl) rfl (by decide) (S.cR [1] 3 [_] (hob := (keep_c (he := rfl) (h := keep_n))) (hF := sTotalR least (sTkV least (madeM least l) n) hwm2) (hn' := belowL rfl rfl) (h := S.end ?_))
              refine HT.one (i := 3) #[true, true, true, true, true, false, false] trivial (by kernel_rfl) (by kernel_rfl) rfl (by decide) (S.o q.sub (S.end ?_))
              refine HT.one (i := 5) #[true, true, true, true, true, true, false] trivial (by kernel_rfl) (by kernel_rfl) rfl (by decide) (S.o q.sub (S.end ?_))
              refine HT.one (i := 6) #[true, true, true, true, true, true, true] trivial (by kernel_rfl) (by kernel_rfl) rfl (by decide) (S.o q.as (S.end ?_))
              refine HT.nil trivial (by kernel_rfl) (hK _ ?_)
              clear hK K
              skip
              refine Ev.sr fun K hK => S.o q.mv (S.o q.geq (S.bd q.mv (fun c20 => ?_) (fun c20 => ?_)))
              · first
              | (first | omega | contradiction)
              | refine S.o q.mv (S.o q.mv (S.o q.lss (S.o q.pt (S.bd q.mv (fun c21 => ?_) (fun c21 => ?_)))))
                · first
                | (first | omega | contradiction)
                | refine S.o q.mv (S.o q.eql (S.bd q.mv (fun c22 => ?_) (fun c22 => ?_)))
                  · first
                  | (first | omega | contradiction)
                  | refine S.sk (S.sk (S.sk (S.sk (S.sk (S.o q.pt (S.o q.pt (S.o q.as (S.end (hK _ ?_)))))))))
                    clear hK K
                    refine Ev.ret ?_
                    refine Ev.ret1 ?_
                    refine ⟨?_, rfl⟩
                    first | rfl | exact lawT rfl | exact lawT (by assumption) | exact lawT (by omega) | (exfalso; omega) | contradiction | (exfalso; simp at *; done) | exact lawN (k5 (by omega)) | (exfalso; simp_all; done) | (exfalso; split at htot <;> omega) | exact lawT (by split at htot <;> omega)
                  · first
                  | (first | omega | contradiction)
                  | refine S.o q.mv (S.o (q.ls am_ag3) (S.o (q.ls am_ag3) (S.o q.sub (S.o q.eql (S.o q.pf (S.o q.pt (S.o q.as (S.end (hK _ ?_)))))))))
                    clear hK K
                    refine Ev.ret ?_
                    refine Ev.ret1 ?_
                    refine ⟨?_, rfl⟩
                    first | rfl | exact lawT rfl | exact lawT (by assumption) | exact lawT (by omega) | (exfalso; omega) | contradiction | (exfalso; simp at *; done) | exact lawN (k5 (by omega)) | (exfalso; simp_all; done) | (exfalso; split at htot <;> omega) | exact lawT (by split at htot <;> omega)
                · first
                | (first | omega | contradiction)
                | refine S.sk (S.sk (S.sk (S.sk (S.sk (S.sk (S.sk (S.sk (S.sk (S.o q.pf (S.o q.as (S.end (hK _ ?_))))))))))))
                  clear hK K
                  refine Ev.ret ?_
                  refine Ev.ret1 ?_
                  refine ⟨?_, rfl⟩
                  first | rfl | exact lawT rfl | exact lawT (by assumption) | exact lawT (by omega) | (exfalso; omega) | contradiction | (exfalso; simp at *; done) | exact lawN (k5 (by omega)) | (exfalso; simp_all; done) | (exfalso; split at htot <;> omega) | exact lawT (by split at htot <;> omega)
              · first
              | (first | omega | contradiction)
              | refine S.sk (S.sk (S.sk (S.o q.pf (S.o q.mv (S.sk (S.sk (S.sk (S.sk (S.sk (S.sk (S.sk (S.sk (S.sk (S.o q.pf (S.o q.as (S.end (hK _ ?_)))))))))))))))))
                clear hK K
                refine Ev.ret ?_
                refine Ev.ret1 ?_
                refine ⟨?_, rfl⟩
                first | rfl | exact lawT rfl | exact lawT (by assumption) | exact lawT (by omega) | (exfalso; omega) | contradiction | (exfalso; simp at *; done) | exact lawN (k5 (by omega)) | (exfalso; simp_all; done) | (exfalso; split at htot <;> omega) | exact lawT (by split at htot <;> omega)
theorem takes_law (least : Int) (l : List Act) (n : Int) (hlen : l.length ≤ 140737488355328) (hw : ∀ x ∈ l, x.w) : Fun Try.prog 5 [.lit (.int .i64 least), .sh 4 (l.map Act.c), .lit (.int .i64 n)] (Ret (.lit (.bool true)) []) := by
  by_cases h : inL least
  · exact takesY least l n hlen hw h
  · exact takesN least l n hlen hw h
end Go.Proofs.Ytaggnajjmopobaa
