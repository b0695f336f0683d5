/-
  Tags: TagsOnce, walked.
  Conditions: none.
-/
import Derived.Test.YthpjfkmhpoeojaaDoorTgh
import Derived.Test.YthpjfkmhpoeojaaDoorAmCompS
import Derived.Shelf.Lay
import Derived.Ground.NamesProg
namespace Go.Proofs.YthpjfkmhpoeojaaDoor
open Go Go.AM
set_option linter.unusedSimpArgs false
set_option linter.unusedVariables false
set_option maxRecDepth 100000
set_option maxHeartbeats 4000000
theorem indexInBundle1 (g : FuncId) (c0 : List AV) (p : Bundle → Bool) (l : List (Bundle)) (hg : ∀ s ∈ l, Fun Tryd.prog g [.agg (Bundle.c s), .sadr c0 0] (Ret (.lit (.bool (p s))) [])) (hlen : l.length ≤ 140737488355328) :
    Fun Tryd.prog 50 [.sh 4 (l.map Bundle.c), .fn (.func g) [] [.sadr c0 0]] (Ret (.lit (.int .i64 (idxP p l 0))) []) := by
  refine Fun.of (nt := 19) (rs := [.tmp 4]) Tryd.func50 rfl rfl rfl rfl rfl ?_
  refine Ev.sr fun K hK => S.o q.as (S.end (hK _ ?_))
  clear hK K
  refine Ev.seq ?_
  refine Ev.sr fun K hK => S.o q.mv (S.o (q.lens am_el31) (S.o q.mv (S.end (hK _ ?_))))
  clear hK K
  refine Ev.block ?_
  refine Ev.loopU (ι := {q : List (Bundle) × List (Bundle) // q.1 ++ q.2 = l ∧ ∀ x ∈ q.1, p x = false}) [] [0, 1, 7] (fun ⟨(pre, suf), _⟩ => [(8, .lit (.int .i64 ((pre.length : Int))))]) (fun ⟨(pre, suf), _⟩ => []) (fun ⟨(pre, suf), _⟩ => suf.length) ⟨([], l), rfl, fun x hx => by simp at hx⟩ (.c (.c (.c .n))) keep_n (slots_c (he := (by first | rfl | (simp; done) | (congr 2; omega))) (h := trivial)) ?_
  rintro ⟨⟨pre, suf⟩, hp, hinv⟩ R0 hR0
  dsimp only [List.cons_append, List.nil_append, List.length_cons, List.length_nil]
  simp only at hp hinv
  have hpl : pre.length + suf.length = (l).length := by rw [← hp, List.length_append]
  rcases suf with _ | ⟨s, suf⟩
  · rw [List.append_nil] at hp; subst hp; simp only [List.length_nil] at hpl
    refine Ev.sr fun K hK => S.o q.lss (S.end (hK _ ?_))
    clear hK K
    refine Ev.ud (fun c1 => ?_) (fun c1 => ?_)
    · first | omega | contradiction | (exfalso; simp at *; done)
    · first
    | (first | omega | contradiction)
    | refine Ev.exit ?_
      refine hR0 _ _ ?_
      show Ev _ _ _ _
      refine Ev.sr fun K hK => S.o q.as (S.end (hK _ ?_))
      clear hK K
      refine Ev.ret ?_
      refine Ev.ret1 ?_
      refine ⟨?_, rfl⟩
      first | (congr 2; rw [← hp, idxP_append p pre _ 0 hinv, idxP, if_pos ‹_›]; omega) | (congr 2; rw [idxP_none p pre 0 hinv])
  · simp only [List.length_cons] at hpl
    have hidx : (l)[pre.length]? = some s := by rw [← hp]; simp
    refine Ev.sr fun K hK => S.o q.lss (S.end (hK _ ?_))
    clear hK K
    refine Ev.ud (fun c2 => ?_) (fun c2 => ?_)
    · first
    | (first | omega | contradiction)
    | refine Ev.seq ?_
      refine Ev.block ?_
      refine Ev.sr fun K hK => S.o q.mv (S.o q.as (S.end (hK _ ?_)))
      clear hK K
      refine Ev.sr fun K hK => S.o q.mv (S.o q.mv (S.o q.mv (S.o (q.ix am_el31 am_cl38 (hl := (by first | exact ati hidx (by omega) | exact atig (by omega)))) (S.o (q.lsA [_, _, _, _] am_ag38 am_cl38) (S.c0 (hF := hg s (by rw [← hp]; simp)) (h := S.end (hK _ ?_)))))))
      clear hK K
      refine Ev.c (fun c3 => ?_) (fun c3 => ?_)
      · first
      | (first | omega | contradiction)
      | refine Ev.sr fun K hK => S.o q.mv (S.o q.as (S.end (hK _ ?_)))
        clear hK K
        refine Ev.ret ?_
        refine hR0 _ _ ?_
        refine Ev.ret1 ?_
        refine ⟨?_, rfl⟩
        first | (congr 2; rw [← hp, idxP_append p pre _ 0 hinv, idxP, if_pos ‹_›]; omega) | (congr 2; rw [idxP_none p pre 0 hinv])
      · first
      | (first | omega | contradiction)
      | refine Ev.skip ?_
        show Ev _ _ _ _
        refine Ev.region_S fun K hK => S.o q.add (S.o q.mv (S.end (hK _ ?_)))
        clear hK K
        refine hR0 _ _ ?_
        refine roundU [] [0, 1, 7] ⟨(pre ++ [s], suf), by rw [← hp]; simp, ?_⟩ ?_ keep_n (slots_c (he := (by first | rfl | (simp; done) | (congr 2; omega))) (h := trivial)) (.c (.c (.c .n)))
        intro x hx; simp only [List.mem_append, List.mem_singleton] at hx; rcases hx with hx | rfl
        · exact hinv x hx
        · assumption
        all_goals (dsimp only; simp only [List.length_cons]; omega)
    · first | omega | contradiction | (exfalso; simp at *; done)
theorem containsInBundle1 (g : FuncId) (c0 : List AV) (p : Bundle → Bool) (l : List (Bundle)) (hg : ∀ s ∈ l, Fun Tryd.prog g [.agg (Bundle.c s), .sadr c0 0] (Ret (.lit (.bool (p s))) [])) (hlen : l.length ≤ 140737488355328) :
    Fun Tryd.prog 27 [.sh 4 (l.map Bundle.c), .fn (.func g) [] [.sadr c0 0]] (Ret (.lit (.bool (decide (∃ x ∈ l, p x = true)))) []) := by
  have hd : (decide (∃ x ∈ l, p x = true)) = decide (0 ≤ idxP p l 0) := by simp only [idxP_nonneg p l 0 (Int.le_refl _)]
  rw [hd]
  refine Fun.of (nt := 9) (rs := [.tmp 4]) Tryd.func27 rfl rfl rfl rfl rfl ?_
  refine Ev.sr fun K hK => S.o q.as (S.end (hK _ ?_))
  clear hK K
  refine Ev.sr fun K hK => S.o q.mv (S.o q.mv (S.c0 (hF := indexInBundle1 g c0 p l hg hlen) (h := S.o q.geq (S.o q.as (S.end (hK _ ?_))))))
  clear hK K
  refine Ev.ret ?_
  refine Ev.ret1 ?_
  refine ⟨?_, rfl⟩
  rfl
theorem cloneStr_fun (l : List (List UInt8)) (hlen : l.length ≤ 1000000) : Fun Tryd.prog 23 [.sh 1 (l.map strC)] (Ret (.als 0 0 l.length) [(0, ⟨true, 9, 1, l.map strC, true⟩)]) := by
  refine Fun.of (nt := 8) (rs := [.tmp 2]) Tryd.func23 rfl rfl rfl rfl rfl ?_
  refine Ev.sr fun K hK => S.o q.as (S.end (hK _ ?_))
  clear hK K
  refine Ev.seq ?_
  refine Ev.sr fun K hK => S.o q.mv (S.eqn am_el28 (fun c1 c2 => (S.end (hK _ ?_))))
  clear hK K
  refine Ev.c (fun c3 => ?_) (fun c3 => ?_)
  · first
  | (first | omega | contradiction)
  | refine Ev.sr fun K hK => S.o q.as (S.end (hK _ ?_))
    clear hK K
    refine Ev.weaken (Wk.nown strC 2 9 1) ?_
    refine Ev.ret ?_
    refine Ev.own1 ?_
    refine ⟨?_, ?_⟩
    all_goals first
     | rfl
     | (rw [List.map_eq_nil_iff.1 (c2 c3)]; done) | (rw [List.map_eq_nil_iff.1 (c2 c3)] <;> rfl)
     | (congr 1; simp; done)
     | (simp; done)
  · first
  | (first | omega | contradiction)
  | refine Ev.skip ?_
    show Ev _ _ _ _
    refine Ev.sr fun K hK => S.nn (v := .als 0 0 ([] : List (List UInt8)).length) (o := ⟨true, 9, 1, ([] : List (List UInt8)).map strC, true⟩) (q.bs [] true am_el28 am_ze9 am_cl9) (S.o q.mv (S.ap' [] am_el28 am_ze9 am_cl9 am_by9 (hh := head_own') (hr := rows_sh) (h := S.o q.as (S.end (hK _ ?_)))))
    clear hK K
    refine Ev.ret ?_
    refine Ev.own1 ?_
    refine ⟨?_, ?_⟩
    all_goals first
     | rfl
     | (rw [List.map_eq_nil_iff.1 (c2 c3)]; done) | (rw [List.map_eq_nil_iff.1 (c2 c3)] <;> rfl)
     | (congr 1; simp; done)
     | (simp; done)

open Go.Shelf in
shelf_lay Lays.n190 Nm 190 at Tryd as lays190
open Go.Shelf in
shelf_lay Lays.n194 Nm 194 at Tryd as lays194
theorem sortS2 (l : List (List UInt8)) (n : Nat) (hn : n = l.length) (hl : l.length ≤ 1000000) : FunR Tryd.prog 24 [.als 0 0 n] [(0, ⟨true, 9, 1, l.map strC, true⟩)] 1 (Ret (.tup []) [(0, ⟨true, 9, 1, (l.mergeSort fun x y => decide (x ≤ y)).map strC, true⟩)]) := by
  subst hn
  exact (sortS_R lays190 ⟨_, Tryd.func24, rfl, rfl⟩ l hl).mono fun v objs ⟨l', h, h1, h2⟩ => by subst h; exact ⟨h1, h2⟩
theorem compactS2 (l : List (List UInt8)) (n k : Nat) (hn : n = l.length) (hk : (Go.Lib.compact l).length = k) (hl : l.length ≤ 1000000) : FunR Tryd.prog 25 [.als 0 0 n] [(0, ⟨true, 9, 1, l.map strC, true⟩)] 1 (Ret (.als 0 0 k) [(0, ⟨true, 9, 1, (cmpS l).map strC, true⟩)]) := by
  subst hn hk
  exact (compactS_R lays194 ⟨_, Tryd.func25, rfl, rfl⟩ l hl).mono fun v objs ⟨l', h, h1, h2⟩ => by subst h; exact ⟨h1, h2⟩
theorem comp_all {l : List (List UInt8)} (h : l.Nodup) : Go.Lib.compact l = l := by
  refine Go.Lib.compact_all _ fun j hj => ?_
  by_cases h0 : j = 0
  · subst h0; exact Go.Lib.keeps_lt_one _ _ (by decide)
  · refine Go.Lib.keeps_pos fun e => ?_
    have e1 : l.toArray[j]! = l[j] := by rw [getElem!_pos l.toArray j (by simpa using hj)]; simp
    have e2 : l.toArray[j - 1]! = l[j - 1] := by rw [getElem!_pos l.toArray (j - 1) (by simp; omega)]; simp
    rw [e1, e2] at e
    exact (List.pairwise_iff_getElem.1 h (j - 1) j (by omega) hj (by omega)) e.symm
theorem comp_len {l : List (List UInt8)} (h : l.Nodup) : (Go.Lib.compact (l.mergeSort fun x y => decide (x ≤ y))).length = l.length := by
  have hp := List.mergeSort_perm l fun x y => decide (x ≤ y)
  rw [comp_all (hp.nodup_iff.2 h), hp.length_eq]
theorem once1_fun (b : Bundle) (t : List UInt8) : Fun Tryd.prog 28 [.agg b.c, .sadr [.lit (str t)] 0] (Ret (.lit (.bool (decide (b.tag = t)))) []) := by
  refine Fun.of (nt := 8) (rs := [.tmp 3]) Tryd.func28 rfl rfl rfl rfl rfl ?_
  refine Ev.sr fun K hK => S.nn (q.bx [_, _, _, _] true) (S.o q.as (S.end (hK _ ?_)))
  clear hK K
  refine Ev.sr fun K hK => S.o (q.fa 0 am_fi38_0 am_cl9) (S.o (q.lv am_ag9) (S.o (q.ls am_ag9) (S.o q.seqs (S.o q.as (S.end (hK _ ?_))))))
  clear hK K
  refine Ev.ret ?_
  refine Ev.ret1 ?_
  refine ⟨?_, rfl⟩
  rfl
theorem once_law (l : List Act) (v : Int) (hlen : l.length ≤ 140737488355328) (hw : ∀ x ∈ l, x.w) (hi : (Lit.int .u8 v).wf = true) : Fun Tryd.prog 5 [.sh 6 (l.map Act.c), .lit (.int .u8 v)] (Ret (.lit (.bool true)) []) := by
  obtain ⟨hv0, hv1⟩ := wf_u8 hi
  refine Fun.of (nt := 167) (rs := [.tmp 4]) Tryd.func5 rfl rfl rfl rfl rfl ?_
  refine Ev.sr fun K hK => S.o q.as (S.end (hK _ ?_))
  clear hK K
  refine Ev.seq ?_
  refine Ev.sr fun K hK => S.c0 (hF := awake_fun) (h := S.o q.nott (S.end (hK _ ?_)))
  clear hK K
  refine Ev.cf ?_
  refine Ev.skip ?_
  show Ev _ _ _ _
  refine Ev.seq ?_
  refine Ev.sr fun K hK => S.o q.mv (S.c0 (hF := few_fun _ (by omega) (by assumption)) (h := S.o q.not (S.end (hK _ ?_))))
  clear hK K
  refine Ev.cn (fun c1 => ?_) (fun c1 => ?_)
  · first
  | (first | omega | contradiction)
  | refine Ev.sr fun K hK => S.o q.as (S.end (hK _ ?_))
    clear hK K
    refine Ev.ret ?_
    refine Ev.ret1 ?_
    refine ⟨?_, rfl⟩
    first | rfl | exact lawT rfl | (exfalso; omega) | contradiction | (exfalso; simp at *; done)
  · first
  | (first | omega | contradiction)
  | refine Ev.skip ?_
    show Ev _ _ _ _
    have hf : fewP l := by first | assumption | exact Decidable.not_not.1 ‹_›
    have hl10 := hf.1
    refine Ev.sr fun K hK => S.o q.mv (S.cg 2 [_, _] (hF := made_fun _ (by assumption) (by omega)) (hn' := belowL rfl rfl) (h := S.o q.mv (S.o q.ex (S.o q.ex (S.o q.as (S.o q.as (S.end (hK _ ?_))))))))
    clear hK K
    refine Ev.seq ?_
    obtain ⟨hG, hT⟩ := made_good l
    have hel := hG.len
    have hol := openL_len (madeE l)
    have htl : (madeT l).length = (madeE l).length := by rw [hT]; exact tgs_len _
    have hob := hG.open
    have hbw := hG.bw
    have hml : ((madeT l).mergeSort fun x y => decide (x ≤ y)).length = (madeT l).length := List.length_mergeSort _
    have hcl : (Go.Lib.compact ((madeT l).mergeSort fun x y => decide (x ≤ y))).length = (madeT l).length := comp_len (by rw [hT]; exact tgs_nodup hG)
    refine Ev.sr fun K hK => S.o q.mv (S.peqa (by kernel_rfl : Tryd.prog.underlying 27 = some (.pointer 76)) (h := S.end (hK _ ?_)))
    clear hK K
    refine Ev.cf ?_
    refine Ev.skip ?_
    show Ev _ _ _ _
    refine Ev.sr fun K hK => S.o q.mv (S.cR [0, 1] 2 [_, _] (hob := (keep_d (he := rfl) (h := (keep_c (he := rfl) (h := keep_n))))) (hF := openR (madeE l) (by omega)) (hn' := belowL rfl rfl) (h := S.o q.as (S.end (hK _ ?_))))
    clear hK K
    refine Ev.sr fun K hK => S.o q.mv (S.cR [0, 1] 2 [_, _] (hob := (keep_d (he := rfl) (h := (keep_c (he := rfl) (h := keep_n))))) (hF := accountR _ (by omega)) (hn' := belowL rfl rfl) (h := S.o q.mv (S.o q.ex (S.o q.ex (S.o q.ex (S.o q.as (S.o q.as (S.o q.as (S.end (hK _ ?_))))))))))
    clear hK K
    refine Ev.seq ?_
    refine Ev.sr fun K hK => S.o q.mv (S.o q.mv (S.o (q.lens am_el28) (S.o q.neq (S.bn q.mv (fun c2 => ?_) (fun c2 => ?_)))))
    · first
    | (first | omega | contradiction)
    | refine S.sk (S.sk (S.sk (S.sk (S.o q.pt (S.o q.mv (S.sk (S.sk (S.sk (S.sk (S.sk (S.o q.pt (S.o q.mv (S.sk (S.sk (S.sk (S.o q.pt (S.end (hK _ ?_))))))))))))))))))
      clear hK K
      refine Ev.ct ?_
      refine Ev.sr fun K hK => S.o q.as (S.end (hK _ ?_))
      clear hK K
      refine Ev.ret ?_
      refine Ev.ret1 ?_
      refine ⟨?_, rfl⟩
      first | rfl | exact lawT rfl | (exfalso; omega) | contradiction | (exfalso; simp at *; done)
    · first
    | (first | omega | contradiction)
    | refine S.o q.mv (S.o q.mv (S.o (q.lens am_el31) (S.o q.neq (S.o q.pf (S.bn q.mv (fun c3 => ?_) (fun c3 => ?_))))))
      · first
      | (first | omega | contradiction)
      | refine S.sk (S.sk (S.sk (S.sk (S.sk (S.o q.pt (S.o q.mv (S.sk (S.sk (S.sk (S.o q.pt (S.end (hK _ ?_))))))))))))
        clear hK K
        refine Ev.ct ?_
        refine Ev.sr fun K hK => S.o q.as (S.end (hK _ ?_))
        clear hK K
        refine Ev.ret ?_
        refine Ev.ret1 ?_
        refine ⟨?_, rfl⟩
        first | rfl | exact lawT rfl | (exfalso; omega) | contradiction | (exfalso; simp at *; done)
      · first
      | (first | omega | contradiction)
      | refine S.o q.mv (S.o q.mv (S.o q.mv (S.o q.add (S.o q.neq (S.o q.pf (S.bn q.mv (fun c4 => ?_) (fun c4 => ?_)))))))
        · first
        | (first | omega | contradiction)
        | refine S.sk (S.sk (S.sk (S.o q.pt (S.end (hK _ ?_)))))
          clear hK K
          refine Ev.ct ?_
          refine Ev.sr fun K hK => S.o q.as (S.end (hK _ ?_))
          clear hK K
          refine Ev.ret ?_
          refine Ev.ret1 ?_
          refine ⟨?_, rfl⟩
          first | rfl | exact lawT rfl | (exfalso; omega) | contradiction | (exfalso; simp at *; done)
        · first
        | (first | omega | contradiction)
        | refine S.o q.mv (S.c0 (hF := bvalid_fun (openL (madeE l)) (by omega) hbw) (h := S.o q.not (S.o q.pf (S.end (hK _ ?_)))))
          clear hK K
          refine Ev.cn (fun c5 => ?_) (fun c5 => ?_)
          · first
          | (first | omega | contradiction)
          | refine Ev.sr fun K hK => S.o q.as (S.end (hK _ ?_))
            clear hK K
            refine Ev.ret ?_
            refine Ev.ret1 ?_
            refine ⟨?_, rfl⟩
            first | rfl | exact lawT rfl | (exfalso; omega) | contradiction | (exfalso; simp at *; done)
          · first
          | (first | omega | contradiction)
          | refine Ev.skip ?_
            show Ev _ _ _ _
            refine Ev.sr fun K hK => S.o q.mv (S.c1 (hF := cloneStr_fun (madeT l) (by omega)) (h := S.o q.as (S.end (hK _ ?_))))
            clear hK K
            refine Ev.sr fun K hK => S.o q.mv (S.cR [2] _ [_, _, _] (hob := (keep_c (he := rfl) (h := keep_n))) (hF := sortS2 (madeT l) _ rfl (by omega)) (hn' := below1 (by decide)) (h := S.end (hK _ ?_)))
            clear hK K
            refine Ev.seq ?_
            refine Ev.sr fun K hK => S.o q.mv (S.cR [2] _ [_, _, _] (hob := (keep_c (he := rfl) (h := keep_n))) (hF := compactS2 ((madeT l).mergeSort fun x y => decide (x ≤ y)) _ _ (by omega) hcl (by omega)) (hn' := below1 (by decide)) (h := S.o (q.lena am_el28) (S.o q.mv (S.o q.neq (S.end (hK _ ?_))))))
            clear hK K
            refine Ev.cn (fun c6 => ?_) (fun c6 => ?_)
            · first
            | (first | omega | contradiction)
            | refine Ev.sr fun K hK => S.o q.as (S.end (hK _ ?_))
              clear hK K
              refine Ev.ret ?_
              refine Ev.ret1 ?_
              refine ⟨?_, rfl⟩
              first | rfl | exact lawT rfl | (exfalso; omega) | contradiction | (exfalso; simp at *; done)
            · first
            | (first | omega | contradiction)
            | refine Ev.skip ?_
              show Ev _ _ _ _
              refine Ev.seq ?_
              refine Ev.sr fun K hK => S.o q.mv (S.o (q.lens am_el28) (S.o q.mv (S.end (hK _ ?_))))
              clear hK K
              refine Ev.block ?_
              refine Ev.loopU (ι := {p : List (List UInt8) × List (List UInt8) // p.1 ++ p.2 = (madeT l) ∧ True}) [0, 1] [1, 5, 6, 7, 8, 75, 76] (fun ⟨(pre, suf), _⟩ => [(77, .lit (.int .i64 ((pre.length : Int))))]) (fun ⟨(pre, suf), _⟩ => [(0, ⟨false, 76, 1, [[.als 1 0 (madeE l).length]], false⟩), (1, ⟨true, 78, 5, (madeE l).map Ent.c, true⟩)]) (fun ⟨(pre, suf), _⟩ => suf.length) ⟨([], (madeT l)), rfl, trivial⟩ (.c (.c (.c (.c (.c (.c (.c .n))))))) (keep_d (he := (by first | rfl | (simp; done))) (h := (keep_c (he := (by first | rfl | (simp; done))) (h := keep_n)))) (slots_c (he := (by first | rfl | (congr 2; simp; done))) (h := trivial)) ?_
              rintro ⟨⟨pre, suf⟩, hp, hinv⟩ R0 hR0
              dsimp only [List.cons_append, List.nil_append, List.length_cons, List.length_nil]
              simp only at hp hinv
              have hpl : pre.length + suf.length = ((madeT l)).length := by rw [← hp, List.length_append]
              rcases suf with _ | ⟨s, suf⟩
              · rw [List.append_nil] at hp; simp only [List.length_nil] at hpl
                refine Ev.sr fun K hK => S.o q.lss (S.end (hK _ ?_))
                clear hK K
                refine Ev.ud (fun c7 => ?_) (fun c7 => ?_)
                · first | omega | contradiction | (exfalso; simp at *; done)
                · first
                | (first | omega | contradiction)
                | refine Ev.exit ?_
                  refine hR0 _ _ ?_
                  show Ev _ _ _ _
                  refine Ev.seq ?_
                  refine Ev.sr fun K hK => S.o q.mv (S.o q.eql (S.end (hK _ ?_)))
                  clear hK K
                  refine Ev.cd (fun c8 => ?_) (fun c8 => ?_)
                  · first
                  | (first | omega | contradiction)
                  | refine Ev.sr fun K hK => S.o q.as (S.end (hK _ ?_))
                    clear hK K
                    refine Ev.ret ?_
                    refine Ev.ret1 ?_
                    refine ⟨?_, rfl⟩
                    first | rfl | exact lawT rfl | (exfalso; omega) | contradiction | (exfalso; simp at *; done)
                  · first
                  | (first | omega | contradiction)
                  | refine Ev.skip ?_
                    show Ev _ _ _ _
                    have hz0 := Int.emod_nonneg v (show ((madeE l).length : Int) ≠ 0 by omega)
                    have hz1 := Int.emod_lt_of_pos v (show 0 < ((madeE l).length : Int) by omega)
                    obtain ⟨t, hidt⟩ : ∃ t, (madeT l)[(v % ((madeE l).length : Int)).toNat]? = some t := ⟨_, List.getElem?_eq_getElem (by omega)⟩
                    have hO := once_end hG (t := t) (by rw [← hT]; exact List.mem_of_getElem? hidt)
                    have hcn := canV_len (madeE l) t
                    refine Ev.sr fun K hK => S.o q.mv (S.o q.mv (S.o (q.cvi am_un3 am_us5) (S.o q.mv (S.o q.rem (S.o (q.ix am_el28 am_cl9 (hl := (by first | exact ati hidt (by omega) | exact atig (by omega)))) (S.o (q.ls am_ag9) (S.o q.as (S.end (hK _ ?_)))))))))
                    clear hK K
                    refine Ev.sr fun K hK => S.o q.mv (S.o q.mv ?_)
                    rcases hO.c with ⟨k1, k2⟩ | ⟨k1, k2⟩
                    · skip
                      refine S.cR [0, 1] 2 [_, _] (hob := (keep_d (he := rfl) (h := (keep_c (he := rfl) (h := keep_n))))) (hF := stateR (madeE l) t (by omega)) (hn' := belowL rfl rfl) (h := ?_)
                      rw [k1]
                      refine S.o q.mv (S.o q.ex (S.o q.ex (S.o q.as (S.o q.as (S.end (hK _ ?_))))))
                      clear hK K
                      refine Ev.sr fun K hK => S.o q.mv (S.o q.mv (S.cR [0, 1] 2 [_, _] (hob := (keep_d (he := rfl) (h := (keep_c (he := rfl) (h := keep_n))))) (hF := cancelR (madeE l) t (by omega)) (hn' := belowL rfl rfl) (h := ?_)))
                      rw [k2]
                      refine S.o q.as (S.end (hK _ ?_))
                      clear hK K
                      refine Ev.sr fun K hK => S.o q.mv (S.o q.mv (S.cR [0, 1] 2 [_, _] (hob := (keep_d (he := rfl) (h := (keep_c (he := rfl) (h := keep_n))))) (hF := stateR (canV (madeE l) t) t (by omega)) (hn' := belowL rfl rfl) (h := ?_)))
                      rw [hO.v, hO.e]
                      refine S.o q.mv (S.o q.ex (S.o q.ex (S.o q.as (S.o q.as (S.end (hK _ ?_))))))
                      clear hK K
                      refine Ev.sr fun K hK => S.o q.mv (S.o q.mv (S.o (q.bd [_, _, _, _] am_ze38 am_pl38) (S.nn (q.bs [[_, _, _, _]] true am_el31 am_ze38 am_cl38) ?_)))
                      refine SeqL.weaken (Wk.frzl (f := Bundle.c) [⟨t, [97], 1, 0⟩] 134 [_, _]) ?_
                      refine S.cR [0, 1] 4 [_, _] (hob := (keep_d (he := rfl) (h := (keep_c (he := rfl) (h := keep_n))))) (hF := issueR (canV (madeE l) t) [⟨t, [97], 1, 0⟩] (by omega) (by show (1 : Nat) ≤ 140737488355328; decide) hO.w) (hn' := belowL rfl rfl) (h := ?_)
                      rw [hO.ie, hO.iv]
                      refine S.o q.as (S.end (hK _ ?_))
                      clear hK K
                      refine Ev.sr fun K hK => S.o q.mv (S.o q.eql (S.o q.mv (S.o q.eql (S.o (q.beql am_un4) (S.bb q.mv (fun c9 => ?_) (fun c9 => ?_))))))
                      · first
                      | (first | omega | contradiction)
                      | refine S.o q.mv (S.o q.eql (S.bd q.mv (fun c10 => ?_) (fun c10 => ?_)))
                        · first
                        | (first | omega | contradiction)
                        | refine S.sk (S.sk (S.o q.pt (S.o q.pt (S.o q.mv (S.o q.mv (S.o q.eql (S.o q.pt (S.bd q.mv (fun c11 => ?_) (fun c11 => ?_)))))))))
                          · first
                          | (first | omega | contradiction)
                          | refine S.o q.mv (S.o q.eql (S.o q.pt (S.bd q.mv (fun c12 => ?_) (fun c12 => ?_))))
                            · first
                            | (first | omega | contradiction)
                            | refine S.o q.mv (S.o q.eql (S.o q.pt (S.bd q.mv (fun c13 => ?_) (fun c13 => ?_))))
                              · first
                              | (first | omega | contradiction)
                              | refine S.o q.mv (S.o q.mv (S.cR [0, 3] 4 [_, _] (hob := (keep_d (he := rfl) (h := (keep_c (he := rfl) (h := keep_n))))) (hF := cancelR (canV (madeE l) t) t (by omega)) (hn' := belowL rfl rfl) (h := ?_)))
                                rw [hO.k]
                                refine S.o q.eql (S.o q.pt (S.o q.as (S.end (hK _ ?_))))
                                clear hK K
                                refine Ev.ret ?_
                                refine Ev.ret1 ?_
                                refine ⟨?_, rfl⟩
                                first | rfl | exact lawT rfl | (exfalso; omega) | contradiction | (exfalso; simp at *; done)
                              · first
                              | (first | omega | contradiction)
                              | refine S.sk (S.sk (S.sk (S.sk (S.o q.pf (S.o q.as (S.end (hK _ ?_)))))))
                                clear hK K
                                refine Ev.ret ?_
                                refine Ev.ret1 ?_
                                refine ⟨?_, rfl⟩
                                first | rfl | exact lawT rfl | (exfalso; omega) | contradiction | (exfalso; simp at *; done)
                            · first
                            | (first | omega | contradiction)
                            | refine S.sk (S.sk (S.o q.pf (S.o q.mv (S.sk (S.sk (S.sk (S.sk (S.o q.pf (S.o q.as (S.end (hK _ ?_)))))))))))
                              clear hK K
                              refine Ev.ret ?_
                              refine Ev.ret1 ?_
                              refine ⟨?_, rfl⟩
                              first | rfl | exact lawT rfl | (exfalso; omega) | contradiction | (exfalso; simp at *; done)
                          · first
                          | (first | omega | contradiction)
                          | refine S.sk (S.sk (S.o q.pf (S.o q.mv (S.sk (S.sk (S.o q.pf (S.o q.mv (S.sk (S.sk (S.sk (S.sk (S.o q.pf (S.o q.as (S.end (hK _ ?_)))))))))))))))
                            clear hK K
                            refine Ev.ret ?_
                            refine Ev.ret1 ?_
                            refine ⟨?_, rfl⟩
                            first | rfl | exact lawT rfl | (exfalso; omega) | contradiction | (exfalso; simp at *; done)
                        · first
                        | (first | omega | contradiction)
                        | refine S.o q.mv (S.o q.eql (S.o q.pf (S.o q.pt (S.bd q.mv (fun c14 => ?_) (fun c14 => ?_)))))
                          · first
                          | (first | omega | contradiction)
                          | refine S.o q.mv (S.o q.eql (S.o q.pt (S.bd q.mv (fun c15 => ?_) (fun c15 => ?_))))
                            · first
                            | (first | omega | contradiction)
                            | refine S.o q.mv (S.o q.eql (S.o q.pt (S.bd q.mv (fun c16 => ?_) (fun c16 => ?_))))
                              · first
                              | (first | omega | contradiction)
                              | refine S.o q.mv (S.o q.eql (S.o q.pt (S.bd q.mv (fun c17 => ?_) (fun c17 => ?_))))
                                · first
                                | (first | omega | contradiction)
                                | refine S.o q.mv (S.o q.mv (S.cR [0, 3] 4 [_, _] (hob := (keep_d (he := rfl) (h := (keep_c (he := rfl) (h := keep_n))))) (hF := cancelR (canV (madeE l) t) t (by omega)) (hn' := belowL rfl rfl) (h := ?_)))
                                  rw [hO.k]
                                  refine S.o q.eql (S.o q.pt (S.o q.as (S.end (hK _ ?_))))
                                  clear hK K
                                  refine Ev.ret ?_
                                  refine Ev.ret1 ?_
                                  refine ⟨?_, rfl⟩
                                  first | rfl | exact lawT rfl | (exfalso; omega) | contradiction | (exfalso; simp at *; done)
                                · first
                                | (first | omega | contradiction)
                                | refine S.sk (S.sk (S.sk (S.sk (S.o q.pf (S.o q.as (S.end (hK _ ?_)))))))
                                  clear hK K
                                  refine Ev.ret ?_
                                  refine Ev.ret1 ?_
                                  refine ⟨?_, rfl⟩
                                  first | rfl | exact lawT rfl | (exfalso; omega) | contradiction | (exfalso; simp at *; done)
                              · first
                              | (first | omega | contradiction)
                              | refine S.sk (S.sk (S.o q.pf (S.o q.mv (S.sk (S.sk (S.sk (S.sk (S.o q.pf (S.o q.as (S.end (hK _ ?_)))))))))))
                                clear hK K
                                refine Ev.ret ?_
                                refine Ev.ret1 ?_
                                refine ⟨?_, rfl⟩
                                first | rfl | exact lawT rfl | (exfalso; omega) | contradiction | (exfalso; simp at *; done)
                            · first
                            | (first | omega | contradiction)
                            | refine S.sk (S.sk (S.o q.pf (S.o q.mv (S.sk (S.sk (S.o q.pf (S.o q.mv (S.sk (S.sk (S.sk (S.sk (S.o q.pf (S.o q.as (S.end (hK _ ?_)))))))))))))))
                              clear hK K
                              refine Ev.ret ?_
                              refine Ev.ret1 ?_
                              refine ⟨?_, rfl⟩
                              first | rfl | exact lawT rfl | (exfalso; omega) | contradiction | (exfalso; simp at *; done)
                          · first
                          | (first | omega | contradiction)
                          | refine S.sk (S.sk (S.o q.pf (S.o q.mv (S.sk (S.sk (S.o q.pf (S.o q.mv (S.sk (S.sk (S.o q.pf (S.o q.mv (S.sk (S.sk (S.sk (S.sk (S.o q.pf (S.o q.as (S.end (hK _ ?_)))))))))))))))))))
                            clear hK K
                            refine Ev.ret ?_
                            refine Ev.ret1 ?_
                            refine ⟨?_, rfl⟩
                            first | rfl | exact lawT rfl | (exfalso; omega) | contradiction | (exfalso; simp at *; done)
                      · first
                      | (first | omega | contradiction)
                      | refine S.sk (S.sk (S.sk (S.sk (S.sk (S.sk (S.o q.pf (S.o q.mv (S.sk (S.sk (S.o q.pf (S.o q.mv (S.sk (S.sk (S.o q.pf (S.o q.mv (S.sk (S.sk (S.o q.pf (S.o q.mv (S.sk (S.sk (S.sk (S.sk (S.o q.pf (S.o q.as (S.end (hK _ ?_)))))))))))))))))))))))))))
                        clear hK K
                        refine Ev.ret ?_
                        refine Ev.ret1 ?_
                        refine ⟨?_, rfl⟩
                        first | rfl | exact lawT rfl | (exfalso; omega) | contradiction | (exfalso; simp at *; done)
                    · skip
                      refine S.cR [0, 1] 2 [_, _] (hob := (keep_d (he := rfl) (h := (keep_c (he := rfl) (h := keep_n))))) (hF := stateR (madeE l) t (by omega)) (hn' := belowL rfl rfl) (h := ?_)
                      rw [k1]
                      refine S.o q.mv (S.o q.ex (S.o q.ex (S.o q.as (S.o q.as (S.end (hK _ ?_))))))
                      clear hK K
                      refine Ev.sr fun K hK => S.o q.mv (S.o q.mv (S.cR [0, 1] 2 [_, _] (hob := (keep_d (he := rfl) (h := (keep_c (he := rfl) (h := keep_n))))) (hF := cancelR (madeE l) t (by omega)) (hn' := belowL rfl rfl) (h := ?_)))
                      rw [k2]
                      refine S.o q.as (S.end (hK _ ?_))
                      clear hK K
                      refine Ev.sr fun K hK => S.o q.mv (S.o q.mv (S.cR [0, 1] 2 [_, _] (hob := (keep_d (he := rfl) (h := (keep_c (he := rfl) (h := keep_n))))) (hF := stateR (canV (madeE l) t) t (by omega)) (hn' := belowL rfl rfl) (h := ?_)))
                      rw [hO.v, hO.e]
                      refine S.o q.mv (S.o q.ex (S.o q.ex (S.o q.as (S.o q.as (S.end (hK _ ?_))))))
                      clear hK K
                      refine Ev.sr fun K hK => S.o q.mv (S.o q.mv (S.o (q.bd [_, _, _, _] am_ze38 am_pl38) (S.nn (q.bs [[_, _, _, _]] true am_el31 am_ze38 am_cl38) ?_)))
                      refine SeqL.weaken (Wk.frzl (f := Bundle.c) [⟨t, [97], 1, 0⟩] 134 [_, _]) ?_
                      refine S.cR [0, 1] 4 [_, _] (hob := (keep_d (he := rfl) (h := (keep_c (he := rfl) (h := keep_n))))) (hF := issueR (canV (madeE l) t) [⟨t, [97], 1, 0⟩] (by omega) (by show (1 : Nat) ≤ 140737488355328; decide) hO.w) (hn' := belowL rfl rfl) (h := ?_)
                      rw [hO.ie, hO.iv]
                      refine S.o q.as (S.end (hK _ ?_))
                      clear hK K
                      refine Ev.sr fun K hK => S.o q.mv (S.o q.eql (S.o q.mv (S.o q.eql (S.o (q.beql am_un4) (S.bb q.mv (fun c18 => ?_) (fun c18 => ?_))))))
                      · first
                      | (first | omega | contradiction)
                      | refine S.o q.mv (S.o q.eql (S.bd q.mv (fun c19 => ?_) (fun c19 => ?_)))
                        · first
                        | (first | omega | contradiction)
                        | refine S.sk (S.sk (S.o q.pt (S.o q.pt (S.o q.mv (S.o q.mv (S.o q.eql (S.o q.pt (S.bd q.mv (fun c20 => ?_) (fun c20 => ?_)))))))))
                          · first
                          | (first | omega | contradiction)
                          | refine S.o q.mv (S.o q.eql (S.o q.pt (S.bd q.mv (fun c21 => ?_) (fun c21 => ?_))))
                            · first
                            | (first | omega | contradiction)
                            | refine S.o q.mv (S.o q.eql (S.o q.pt (S.bd q.mv (fun c22 => ?_) (fun c22 => ?_))))
                              · first
                              | (first | omega | contradiction)
                              | refine S.o q.mv (S.o q.mv (S.cR [0, 3] 4 [_, _] (hob := (keep_d (he := rfl) (h := (keep_c (he := rfl) (h := keep_n))))) (hF := cancelR (canV (madeE l) t) t (by omega)) (hn' := belowL rfl rfl) (h := ?_)))
                                rw [hO.k]
                                refine S.o q.eql (S.o q.pt (S.o q.as (S.end (hK _ ?_))))
                                clear hK K
                                refine Ev.ret ?_
                                refine Ev.ret1 ?_
                                refine ⟨?_, rfl⟩
                                first | rfl | exact lawT rfl | (exfalso; omega) | contradiction | (exfalso; simp at *; done)
                              · first
                              | (first | omega | contradiction)
                              | refine S.sk (S.sk (S.sk (S.sk (S.o q.pf (S.o q.as (S.end (hK _ ?_)))))))
                                clear hK K
                                refine Ev.ret ?_
                                refine Ev.ret1 ?_
                                refine ⟨?_, rfl⟩
                                first | rfl | exact lawT rfl | (exfalso; omega) | contradiction | (exfalso; simp at *; done)
                            · first
                            | (first | omega | contradiction)
                            | refine S.sk (S.sk (S.o q.pf (S.o q.mv (S.sk (S.sk (S.sk (S.sk (S.o q.pf (S.o q.as (S.end (hK _ ?_)))))))))))
                              clear hK K
                              refine Ev.ret ?_
                              refine Ev.ret1 ?_
                              refine ⟨?_, rfl⟩
                              first | rfl | exact lawT rfl | (exfalso; omega) | contradiction | (exfalso; simp at *; done)
                          · first
                          | (first | omega | contradiction)
                          | refine S.sk (S.sk (S.o q.pf (S.o q.mv (S.sk (S.sk (S.o q.pf (S.o q.mv (S.sk (S.sk (S.sk (S.sk (S.o q.pf (S.o q.as (S.end (hK _ ?_)))))))))))))))
                            clear hK K
                            refine Ev.ret ?_
                            refine Ev.ret1 ?_
                            refine ⟨?_, rfl⟩
                            first | rfl | exact lawT rfl | (exfalso; omega) | contradiction | (exfalso; simp at *; done)
                        · first
                        | (first | omega | contradiction)
                        | refine S.o q.mv (S.o q.eql (S.o q.pf (S.o q.pt (S.bd q.mv (fun c23 => ?_) (fun c23 => ?_)))))
                          · first
                          | (first | omega | contradiction)
                          | refine S.o q.mv (S.o q.eql (S.o q.pt (S.bd q.mv (fun c24 => ?_) (fun c24 => ?_))))
                            · first
                            | (first | omega | contradiction)
                            | refine S.o q.mv (S.o q.eql (S.o q.pt (S.bd q.mv (fun c25 => ?_) (fun c25 => ?_))))
                              · first
                              | (first | omega | contradiction)
                              | refine S.o q.mv (S.o q.eql (S.o q.pt (S.bd q.mv (fun c26 => ?_) (fun c26 => ?_))))
                                · first
                                | (first | omega | contradiction)
                                | refine S.o q.mv (S.o q.mv (S.cR [0, 3] 4 [_, _] (hob := (keep_d (he := rfl) (h := (keep_c (he := rfl) (h := keep_n))))) (hF := cancelR (canV (madeE l) t) t (by omega)) (hn' := belowL rfl rfl) (h := ?_)))
                                  rw [hO.k]
                                  refine S.o q.eql (S.o q.pt (S.o q.as (S.end (hK _ ?_))))
                                  clear hK K
                                  refine Ev.ret ?_
                                  refine Ev.ret1 ?_
                                  refine ⟨?_, rfl⟩
                                  first | rfl | exact lawT rfl | (exfalso; omega) | contradiction | (exfalso; simp at *; done)
                                · first
                                | (first | omega | contradiction)
                                | refine S.sk (S.sk (S.sk (S.sk (S.o q.pf (S.o q.as (S.end (hK _ ?_)))))))
                                  clear hK K
                                  refine Ev.ret ?_
                                  refine Ev.ret1 ?_
                                  refine ⟨?_, rfl⟩
                                  first | rfl | exact lawT rfl | (exfalso; omega) | contradiction | (exfalso; simp at *; done)
                              · first
                              | (first | omega | contradiction)
                              | refine S.sk (S.sk (S.o q.pf (S.o q.mv (S.sk (S.sk (S.sk (S.sk (S.o q.pf (S.o q.as (S.end (hK _ ?_)))))))))))
                                clear hK K
                                refine Ev.ret ?_
                                refine Ev.ret1 ?_
                                refine ⟨?_, rfl⟩
                                first | rfl | exact lawT rfl | (exfalso; omega) | contradiction | (exfalso; simp at *; done)
                            · first
                            | (first | omega | contradiction)
                            | refine S.sk (S.sk (S.o q.pf (S.o q.mv (S.sk (S.sk (S.o q.pf (S.o q.mv (S.sk (S.sk (S.sk (S.sk (S.o q.pf (S.o q.as (S.end (hK _ ?_)))))))))))))))
                              clear hK K
                              refine Ev.ret ?_
                              refine Ev.ret1 ?_
                              refine ⟨?_, rfl⟩
                              first | rfl | exact lawT rfl | (exfalso; omega) | contradiction | (exfalso; simp at *; done)
                          · first
                          | (first | omega | contradiction)
                          | refine S.sk (S.sk (S.o q.pf (S.o q.mv (S.sk (S.sk (S.o q.pf (S.o q.mv (S.sk (S.sk (S.o q.pf (S.o q.mv (S.sk (S.sk (S.sk (S.sk (S.o q.pf (S.o q.as (S.end (hK _ ?_)))))))))))))))))))
                            clear hK K
                            refine Ev.ret ?_
                            refine Ev.ret1 ?_
                            refine ⟨?_, rfl⟩
                            first | rfl | exact lawT rfl | (exfalso; omega) | contradiction | (exfalso; simp at *; done)
                      · first
                      | (first | omega | contradiction)
                      | refine S.sk (S.sk (S.sk (S.sk (S.sk (S.sk (S.o q.pf (S.o q.mv (S.sk (S.sk (S.o q.pf (S.o q.mv (S.sk (S.sk (S.o q.pf (S.o q.mv (S.sk (S.sk (S.o q.pf (S.o q.mv (S.sk (S.sk (S.sk (S.sk (S.o q.pf (S.o q.as (S.end (hK _ ?_)))))))))))))))))))))))))))
                        clear hK K
                        refine Ev.ret ?_
                        refine Ev.ret1 ?_
                        refine ⟨?_, rfl⟩
                        first | rfl | exact lawT rfl | (exfalso; omega) | contradiction | (exfalso; simp at *; done)
              · simp only [List.length_cons] at hpl
                have hidx : (madeT l)[pre.length]? = some s := by rw [← hp]; simp
                obtain ⟨hs1, hs2⟩ := once_at hG (t := s) (by rw [← hT, ← hp]; simp)
                have hd5 : decide (∃ x ∈ openL (madeE l), (fun b : Bundle => decide (b.tag = s)) x = true) = decide (staV (madeE l) s = 1) := by
                  rw [decide_eq_decide]
                  rcases hs2 with ⟨g1, g2⟩ | ⟨g1, g2⟩
                  · exact ⟨fun _ => g1, fun _ => g2⟩
                  · exact ⟨fun h => absurd h g2, fun h => by omega⟩
                have hs3 : staV (madeE l) s = 1 ∨ staV (madeE l) s = 2 := hs2.imp (·.1) (·.1)
                refine Ev.sr fun K hK => S.o q.lss (S.end (hK _ ?_))
                clear hK K
                refine Ev.ud (fun c27 => ?_) (fun c27 => ?_)
                · first
                | (first | omega | contradiction)
                | refine Ev.seq ?_
                  refine Ev.block ?_
                  refine Ev.sr fun K hK => S.o (q.ix am_el28 am_cl9 (hl := (by first | exact ati hidt (by omega) | exact ati hidx (by omega) | exact atig (by omega)))) (S.o (q.ls am_ag9) (S.nn (q.al am_ze9) (S.sv [_] true [_, _] am_in9 am_cl9 (h := S.end (hK _ ?_)))))
                  clear hK K
                  refine Ev.sr fun K hK => S.o q.mv (S.o (q.lv am_ag9) (S.cR [0, 1] 3 [_, _, _] (hob := (keep_d (he := rfl) (h := (keep_c (he := rfl) (h := keep_n))))) (hF := stateR (madeE l) s (by omega)) (hn' := belowL rfl rfl) (h := S.o q.mv (S.o q.ex (S.o q.ex (S.o q.as (S.o q.as (S.end (hK _ ?_)))))))))
                  clear hK K
                  refine Ev.weaken (Wk.frzv 13 [_, _]) ?_
                  refine Ev.sr fun K hK => S.o q.mv (S.o q.mf (S.c0 (hF := containsInBundle1 _ _ (fun b => decide (b.tag = s)) (openL (madeE l)) (fun b hb => once1_fun b s) (by omega)) (h := ?_)))
                  rw [hd5]
                  refine S.o q.as (S.end (hK _ ?_))
                  clear hK K
                  refine Ev.sr fun K hK => S.o q.mv (S.o q.neq (S.bn q.mv (fun c28 => ?_) (fun c28 => ?_)))
                  · first
                  | (first | omega | contradiction)
                  | refine S.sk (S.sk (S.sk (S.sk (S.sk (S.sk (S.o q.pt (S.o q.mv (S.sk (S.sk (S.sk (S.sk (S.o q.pt (S.end (hK _ ?_))))))))))))))
                    clear hK K
                    refine Ev.ct ?_
                    refine Ev.sr fun K hK => S.o q.as (S.end (hK _ ?_))
                    clear hK K
                    refine Ev.ret ?_
                    refine hR0 _ _ ?_
                    refine Ev.ret1 ?_
                    refine ⟨?_, rfl⟩
                    first | rfl | exact lawT rfl | (exfalso; omega) | contradiction | (exfalso; simp at *; done)
                  · first
                  | (first | omega | contradiction)
                  | refine S.o q.mv (S.o q.neq (S.bn q.mv (fun c29 => ?_) (fun c29 => ?_)))
                    · first
                    | (first | omega | contradiction)
                    | refine S.o q.mv (S.o q.neq (S.o q.pt (S.o q.pf (S.bn q.mv (fun c30 => ?_) (fun c30 => ?_)))))
                      · first
                      | (first | omega | contradiction)
                      | refine S.sk (S.sk (S.sk (S.sk (S.o q.pt (S.end (hK _ ?_))))))
                        clear hK K
                        refine Ev.ct ?_
                        refine Ev.sr fun K hK => S.o q.as (S.end (hK _ ?_))
                        clear hK K
                        refine Ev.ret ?_
                        refine hR0 _ _ ?_
                        refine Ev.ret1 ?_
                        refine ⟨?_, rfl⟩
                        first | rfl | exact lawT rfl | (exfalso; omega) | contradiction | (exfalso; simp at *; done)
                      · first
                      | (first | omega | contradiction)
                      | refine S.o q.mv (S.o q.mv (S.o q.eql (S.o (q.bneq am_un4) (S.o q.pf (S.end (hK _ ?_))))))
                        clear hK K
                        refine Ev.c (fun c31 => ?_) (fun c31 => ?_)
                        · first
                        | (first | omega | contradiction)
                        | refine Ev.sr fun K hK => S.o q.as (S.end (hK _ ?_))
                          clear hK K
                          refine Ev.ret ?_
                          refine hR0 _ _ ?_
                          refine Ev.ret1 ?_
                          refine ⟨?_, rfl⟩
                          first | rfl | exact lawT rfl | (exfalso; omega) | contradiction | (exfalso; simp at *; done)
                        · first
                        | (first | omega | contradiction)
                        | refine Ev.skip ?_
                          show Ev _ _ _ _
                          refine Ev.region_S fun K hK => S.o q.add (S.o q.mv (S.end (hK _ ?_)))
                          clear hK K
                          refine hR0 _ _ ?_
                          refine roundU [0, 1] [1, 5, 6, 7, 8, 75, 76] ⟨(pre ++ [s], suf), by rw [← hp]; simp, ?_⟩ ?_ (keep_d (he := (by first | rfl | (simp; done))) (h := (keep_c (he := (by first | rfl | (simp; done))) (h := keep_n)))) (slots_c (he := (by first | rfl | (congr 2; simp; done))) (h := trivial)) (.c (.c (.c (.c (.c (.c (.c .n)))))))
                          trivial
                          all_goals (dsimp only; simp only [List.length_cons]; omega)
                    · first
                    | (first | omega | contradiction)
                    | refine S.sk (S.sk (S.o q.pf (S.o q.pf (S.o q.mv (S.o q.mv (S.o q.mv (S.o q.eql (S.o (q.bneq am_un4) (S.o q.pf (S.end (hK _ ?_)))))))))))
                      clear hK K
                      refine Ev.c (fun c32 => ?_) (fun c32 => ?_)
                      · first
                      | (first | omega | contradiction)
                      | refine Ev.sr fun K hK => S.o q.as (S.end (hK _ ?_))
                        clear hK K
                        refine Ev.ret ?_
                        refine hR0 _ _ ?_
                        refine Ev.ret1 ?_
                        refine ⟨?_, rfl⟩
                        first | rfl | exact lawT rfl | (exfalso; omega) | contradiction | (exfalso; simp at *; done)
                      · first
                      | (first | omega | contradiction)
                      | refine Ev.skip ?_
                        show Ev _ _ _ _
                        refine Ev.region_S fun K hK => S.o q.add (S.o q.mv (S.end (hK _ ?_)))
                        clear hK K
                        refine hR0 _ _ ?_
                        refine roundU [0, 1] [1, 5, 6, 7, 8, 75, 76] ⟨(pre ++ [s], suf), by rw [← hp]; simp, ?_⟩ ?_ (keep_d (he := (by first | rfl | (simp; done))) (h := (keep_c (he := (by first | rfl | (simp; done))) (h := keep_n)))) (slots_c (he := (by first | rfl | (congr 2; simp; done))) (h := trivial)) (.c (.c (.c (.c (.c (.c (.c .n)))))))
                        trivial
                        all_goals (dsimp only; simp only [List.length_cons]; omega)
                · first | omega | contradiction | (exfalso; simp at *; done)
end Go.Proofs.YthpjfkmhpoeojaaDoor
