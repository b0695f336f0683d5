/-
  Chapter 23: valid demands.
  Conditions: none.
-/
import Derived.Test.YtdegjlhcchimbaaDoorDm2
namespace Go.Proofs.YtdegjlhcchimbaaDoor
open Go Go.AM
set_option linter.unusedSimpArgs false
set_option linter.unusedVariables false
set_option maxRecDepth 100000
set_option maxHeartbeats 1000000
theorem right_fun (d : Dem) (hw : d.w) : Fun Tryd.prog 42 [.agg d.c] (Ret (.lit (.bool (decide (okDem d)))) []) := by
  obtain ⟨n, b, s⟩ := d
  obtain ⟨hw1, hw2⟩ := hw
  simp only at hw1 hw2
  have hok : okDem ⟨n, b, s⟩ ↔ IsName n ∧ okBx b ∧ okSteps s := Iff.rfl
  refine Fun.of (nt := 16) (rs := [.tmp 2]) Tryd.func42 rfl rfl rfl rfl rfl ?_
  refine Ev.sr fun K hK => S.nn (q.bx [_, _, _, _, _, _, _, _] true) (S.o q.as (S.end (hK _ ?_)))
  clear hK K
  refine Ev.sr fun K hK => S.o (q.fa 0 am_fi48_0 am_cl9) (S.o (q.lv am_ag9) (S.c0 (hF := isName_fun _ (by omega)) (h := S.bd q.mv (fun c1 => ?_) (fun c1 => ?_))))
  · first
  | (first | omega | contradiction)
  | refine S.o (q.fa 1 am_fi48_1 am_cl26) (S.o (q.lvA [_, _, _, _, _, _] am_ag26 am_cl26) (S.c0 (hF := boxValid_fun b) (h := S.o q.pt (S.bd q.mv (fun c2 => ?_) (fun c2 => ?_)))))
    · first
    | (first | omega | contradiction)
    | refine S.o (q.fa 7 am_fi48_2 am_cl29) (S.o (q.lv am_ag29) (S.c0 (hF := stepsValid_fun _ (by omega)) (h := S.o q.pt (S.o q.as (S.end (hK _ ?_))))))
      clear hK K
      refine Ev.ret ?_
      refine Ev.ret1 ?_
      refine ⟨?_, rfl⟩
      first | exact dI ⟨fun h => hok.2 ⟨‹_›, ‹_›, h⟩, fun h => (hok.1 h).2.2⟩ | exact bF (fun h => absurd (hok.1 h).1 ‹_›) | exact bF (fun h => absurd (hok.1 h).2.1 ‹_›)
    · first
    | (first | omega | contradiction)
    | refine S.sk (S.sk (S.sk (S.o q.pf (S.o q.as (S.end (hK _ ?_))))))
      clear hK K
      refine Ev.ret ?_
      refine Ev.ret1 ?_
      refine ⟨?_, rfl⟩
      first | exact dI ⟨fun h => hok.2 ⟨‹_›, ‹_›, h⟩, fun h => (hok.1 h).2.2⟩ | exact bF (fun h => absurd (hok.1 h).1 ‹_›) | exact bF (fun h => absurd (hok.1 h).2.1 ‹_›)
  · first
  | (first | omega | contradiction)
  | refine S.sk (S.sk (S.sk (S.o q.pf (S.o q.mv (S.sk (S.sk (S.sk (S.o q.pf (S.o q.as (S.end (hK _ ?_)))))))))))
    clear hK K
    refine Ev.ret ?_
    refine Ev.ret1 ?_
    refine ⟨?_, rfl⟩
    first | exact dI ⟨fun h => hok.2 ⟨‹_›, ‹_›, h⟩, fun h => (hok.1 h).2.2⟩ | exact bF (fun h => absurd (hok.1 h).1 ‹_›) | exact bF (fun h => absurd (hok.1 h).2.1 ‹_›)
theorem indexFuncDem1 (g : FuncId) (c0 : List AV) (p : Dem → Bool) (hg : ∀ s, Fun Tryd.prog g [.agg (Dem.c s), .sadr c0 0] (Ret (.lit (.bool (p s))) [])) (l : List (Dem)) (hlen : l.length ≤ 140737488355328) :
    Fun Tryd.prog 62 [.sh 8 (l.map Dem.c), .fn (.func g) [] [.sadr c0 0]] (Ret (.lit (.int .i64 (idxP p l 0))) []) := by
  refine Fun.of (nt := 19) (rs := [.tmp 4]) Tryd.func62 rfl rfl rfl rfl rfl ?_
  refine Ev.sr fun K hK => S.o q.as (S.end (hK _ ?_))
  clear hK K
  refine Ev.seq ?_
  refine Ev.sr fun K hK => S.o q.mv (S.o (q.lens am_el22) (S.o q.mv (S.end (hK _ ?_))))
  clear hK K
  refine Ev.block ?_
  refine Ev.loopU (ι := {q : List (Dem) × List (Dem) // q.1 ++ q.2 = l ∧ ∀ x ∈ q.1, p x = false}) [] [0, 1, 7] (fun ⟨(pre, suf), _⟩ => [(8, .lit (.int .i64 ((pre.length : Int))))]) (fun ⟨(pre, suf), _⟩ => []) (fun ⟨(pre, suf), _⟩ => suf.length) ⟨([], l), rfl, fun x hx => by simp at hx⟩ (.c (.c (.c .n))) keep_n (slots_c (he := (by first | rfl | (simp; done) | (congr 2; omega))) (h := trivial)) ?_
  rintro ⟨⟨pre, suf⟩, hp, hinv⟩ R0 hR0
  dsimp only [List.cons_append, List.nil_append, List.length_cons, List.length_nil]
  simp only at hp hinv
  have hpl : pre.length + suf.length = (l).length := by rw [← hp, List.length_append]
  rcases suf with _ | ⟨s, suf⟩
  · rw [List.append_nil] at hp; subst hp; simp only [List.length_nil] at hpl
    refine Ev.sr fun K hK => S.o q.lss (S.end (hK _ ?_))
    clear hK K
    refine Ev.ud (fun c1 => ?_) (fun c1 => ?_)
    · first
    | (first | omega | contradiction)
    | refine Ev.seq ?_
      refine Ev.block ?_
      refine Ev.sr fun K hK => S.o q.mv (S.o q.as (S.end (hK _ ?_)))
      clear hK K
      refine Ev.sr fun K hK => S.o q.mv (S.o q.mv (S.o q.mv (S.o (q.ix am_el22 am_cl48 (hl := (by first | exact atig (by omega)))) (S.o (q.lsA [_, _, _, _, _, _, _, _] am_ag48 am_cl48) (S.c0 (hF := hg s) (h := S.end (hK _ ?_)))))))
      clear hK K
      refine Ev.c (fun c2 => ?_) (fun c2 => ?_)
      · first
      | (first | omega | contradiction)
      | refine Ev.sr fun K hK => S.o q.mv (S.o q.as (S.end (hK _ ?_)))
        clear hK K
        refine Ev.ret ?_
        refine hR0 _ _ ?_
        refine Ev.ret1 ?_
        refine ⟨?_, rfl⟩
        first | (congr 2; rw [← hp, idxP_append p pre _ 0 hinv, idxP, if_pos ‹_›]; omega) | (congr 2; rw [idxP_none p pre 0 hinv])
      · first
      | (first | omega | contradiction)
      | refine Ev.skip ?_
        show Ev _ _ _ _
        refine Ev.region_S fun K hK => S.o q.add (S.o q.mv (S.end (hK _ ?_)))
        clear hK K
        refine hR0 _ _ ?_
        refine roundU [] [0, 1, 7] ⟨(pre ++ [s], suf), by rw [← hp]; simp, ?_⟩ ?_ keep_n (slots_c (he := (by first | rfl | (simp; done) | (congr 2; omega))) (h := trivial)) (.c (.c (.c .n)))
        intro x hx; simp only [List.mem_append, List.mem_singleton] at hx; rcases hx with hx | rfl
        · exact hinv x hx
        · assumption
        all_goals (dsimp only; simp only [List.length_cons]; omega)
    · first
    | (first | omega | contradiction)
    | refine Ev.exit ?_
      refine hR0 _ _ ?_
      show Ev _ _ _ _
      refine Ev.sr fun K hK => S.o q.as (S.end (hK _ ?_))
      clear hK K
      refine Ev.ret ?_
      refine Ev.ret1 ?_
      refine ⟨?_, rfl⟩
      first | (congr 2; rw [← hp, idxP_append p pre _ 0 hinv, idxP, if_pos ‹_›]; omega) | (congr 2; rw [idxP_none p pre 0 hinv])
  · simp only [List.length_cons] at hpl
    have hidx : (l)[pre.length]? = some s := by rw [← hp]; simp
    refine Ev.sr fun K hK => S.o q.lss (S.end (hK _ ?_))
    clear hK K
    refine Ev.ud (fun c3 => ?_) (fun c3 => ?_)
    · first
    | (first | omega | contradiction)
    | refine Ev.seq ?_
      refine Ev.block ?_
      refine Ev.sr fun K hK => S.o q.mv (S.o q.as (S.end (hK _ ?_)))
      clear hK K
      refine Ev.sr fun K hK => S.o q.mv (S.o q.mv (S.o q.mv (S.o (q.ix am_el22 am_cl48 (hl := (by first | exact ati hidx (by omega) | exact atig (by omega)))) (S.o (q.lsA [_, _, _, _, _, _, _, _] am_ag48 am_cl48) (S.c0 (hF := hg s) (h := S.end (hK _ ?_)))))))
      clear hK K
      refine Ev.c (fun c4 => ?_) (fun c4 => ?_)
      · first
      | (first | omega | contradiction)
      | refine Ev.sr fun K hK => S.o q.mv (S.o q.as (S.end (hK _ ?_)))
        clear hK K
        refine Ev.ret ?_
        refine hR0 _ _ ?_
        refine Ev.ret1 ?_
        refine ⟨?_, rfl⟩
        first | (congr 2; rw [← hp, idxP_append p pre _ 0 hinv, idxP, if_pos ‹_›]; omega) | (congr 2; rw [idxP_none p pre 0 hinv])
      · first
      | (first | omega | contradiction)
      | refine Ev.skip ?_
        show Ev _ _ _ _
        refine Ev.region_S fun K hK => S.o q.add (S.o q.mv (S.end (hK _ ?_)))
        clear hK K
        refine hR0 _ _ ?_
        refine roundU [] [0, 1, 7] ⟨(pre ++ [s], suf), by rw [← hp]; simp, ?_⟩ ?_ keep_n (slots_c (he := (by first | rfl | (simp; done) | (congr 2; omega))) (h := trivial)) (.c (.c (.c .n)))
        intro x hx; simp only [List.mem_append, List.mem_singleton] at hx; rcases hx with hx | rfl
        · exact hinv x hx
        · assumption
        all_goals (dsimp only; simp only [List.length_cons]; omega)
    · first
    | (first | omega | contradiction)
    | refine Ev.exit ?_
      refine hR0 _ _ ?_
      show Ev _ _ _ _
      refine Ev.sr fun K hK => S.o q.as (S.end (hK _ ?_))
      clear hK K
      refine Ev.ret ?_
      refine Ev.ret1 ?_
      refine ⟨?_, rfl⟩
      first | (congr 2; rw [← hp, idxP_append p pre _ 0 hinv, idxP, if_pos ‹_›]; omega) | (congr 2; rw [idxP_none p pre 0 hinv])
theorem containsFuncDem1 (g : FuncId) (c0 : List AV) (p : Dem → Bool) (hg : ∀ s, Fun Tryd.prog g [.agg (Dem.c s), .sadr c0 0] (Ret (.lit (.bool (p s))) [])) (l : List (Dem)) (hlen : l.length ≤ 140737488355328) :
    Fun Tryd.prog 47 [.sh 8 (l.map Dem.c), .fn (.func g) [] [.sadr c0 0]] (Ret (.lit (.bool (decide (∃ x ∈ l, p x = true)))) []) := by
  have hd : (decide (∃ x ∈ l, p x = true)) = decide (0 ≤ idxP p l 0) := by simp only [idxP_nonneg p l 0 (Int.le_refl _)]
  rw [hd]
  refine Fun.of (nt := 9) (rs := [.tmp 4]) Tryd.func47 rfl rfl rfl rfl rfl ?_
  refine Ev.sr fun K hK => S.o q.as (S.end (hK _ ?_))
  clear hK K
  refine Ev.sr fun K hK => S.o q.mv (S.o q.mv (S.c0 (hF := indexFuncDem1 g c0 p hg l hlen) (h := S.o q.geq (S.o q.as (S.end (hK _ ?_))))))
  clear hK K
  refine Ev.ret ?_
  refine Ev.ret1 ?_
  refine ⟨?_, rfl⟩
  rfl
theorem named_fun (d : Dem) (x : Dem) : Fun Tryd.prog 48 [.agg x.c, .sadr d.c 0] (Ret (.lit (.bool (decide (x.name = d.name)))) []) := by
  refine Fun.of (nt := 9) (rs := [.tmp 3]) Tryd.func48 rfl rfl rfl rfl rfl ?_
  refine Ev.sr fun K hK => S.nn (q.bx [_, _, _, _, _, _, _, _] true) (S.o q.as (S.end (hK _ ?_)))
  clear hK K
  refine Ev.sr fun K hK => S.o (q.fa 0 am_fi48_0 am_cl9) (S.o (q.lv am_ag9) (S.o (q.fs 0 am_fi48_0 am_cl9) (S.o (q.ls am_ag9) (S.o q.seqs (S.o q.as (S.end (hK _ ?_)))))))
  clear hK K
  refine Ev.ret ?_
  refine Ev.ret1 ?_
  refine ⟨?_, rfl⟩
  rfl
theorem demValid_fun (l : List Dem) (hlen : l.length ≤ 140737488355328) (hw : demW l) : Fun Tryd.prog 24 [.sh 8 (l.map Dem.c)] (Ret (.lit (.bool (decide (okDems l)))) []) := by
  refine Fun.of (nt := 26) (rs := [.tmp 2]) Tryd.func24 rfl rfl rfl rfl rfl ?_
  refine Ev.sr fun K hK => S.o q.as (S.end (hK _ ?_))
  clear hK K
  refine Ev.seq ?_
  refine Ev.sr fun K hK => S.o q.mv (S.o (q.lens am_el22) (S.o q.gtr (S.end (hK _ ?_))))
  clear hK K
  refine Ev.cd (fun c1 => ?_) (fun c1 => ?_)
  · first
  | (first | omega | contradiction)
  | refine Ev.sr fun K hK => S.o q.as (S.end (hK _ ?_))
    clear hK K
    refine Ev.ret ?_
    refine Ev.ret1 ?_
    refine ⟨?_, rfl⟩
    first
     | exact bF (fun h => by have h1 := h.1; omega)
     | exact bF (fun h => absurd (dems_cut hp h).1 ‹_›)
     | exact bF (fun h => by obtain ⟨x, hx, hn⟩ := ‹∃ x ∈ pre, _›; exact (dems_cut hp h).2 x hx (by simpa using hn))
     | exact bF (fun h => by have h1 := (demI_at hp).2 (dems_cut hp h).2; omega)
     | exact bF (fun h => absurd (dems_cut hp h).1.1 ‹_›)
     | exact bF (fun h => absurd (dems_cut hp h).1.2.1 ‹_›)
     | exact bF (fun h => absurd (dems_cut hp h).1.2.2 ‹_›)
     | exact bT ⟨by omega, by rw [← hp]; exact hinv⟩
  · first
  | (first | omega | contradiction)
  | refine Ev.skip ?_
    show Ev _ _ _ _
    refine Ev.seq ?_
    refine Ev.sr fun K hK => S.o q.mv (S.o (q.lens am_el22) (S.o q.mv (S.end (hK _ ?_))))
    clear hK K
    refine Ev.block ?_
    refine Ev.loopU (ι := {q : List Dem × List Dem // q.1 ++ q.2 = l ∧ (∀ b ∈ q.1, okDem b) ∧ q.1.Pairwise (fun a b => a.name ≠ b.name)}) [] [0, 8, 9] (fun ⟨(pre, suf), _⟩ => [(10, .lit (.int .i64 ((pre.length : Int))))]) (fun ⟨(pre, suf), _⟩ => []) (fun ⟨(pre, suf), _⟩ => suf.length) ⟨([], l), rfl, ⟨fun b hb => by simp at hb, by simp⟩⟩ (.c (.c (.c .n))) keep_n (slots_c (he := (by first | rfl | (simp; done) | (congr 2; omega))) (h := trivial)) ?_
    rintro ⟨⟨pre, suf⟩, hp, hinv⟩ R0 hR0
    dsimp only [List.cons_append, List.nil_append, List.length_cons, List.length_nil]
    simp only at hp hinv
    have hpl : pre.length + suf.length = (l).length := by rw [← hp, List.length_append]
    rcases suf with _ | ⟨s, suf⟩
    · rw [List.append_nil] at hp; simp only [List.length_nil] at hpl
      refine Ev.sr fun K hK => S.o q.lss (S.end (hK _ ?_))
      clear hK K
      refine Ev.ud (fun c2 => ?_) (fun c2 => ?_)
      · first
      | (first | omega | contradiction)
      | refine Ev.seq ?_
        refine Ev.block ?_
        refine Ev.sr fun K hK => S.o q.mv (S.o (q.ix am_el22 am_cl48 (hl := (by first | exact atig (by omega)))) (S.o (q.lsA [_, _, _, _, _, _, _, _] am_ag48 am_cl48) (S.nn (q.al am_ze48) (S.o q.as (S.sv [_, _, _, _, _, _, _, _] true [] am_in48 am_cl48 (h := S.end (hK _ ?_)))))))
        clear hK K
        refine Ev.sr fun K hK => S.o (q.lvA [_, _, _, _, _, _, _, _] am_ag48 am_cl48) (S.c0 (hF := right_fun _ (by assumption)) (h := S.o q.not (S.bn q.mv (fun c3 => ?_) (fun c3 => ?_))))
        · first
        | (first | omega | contradiction)
        | refine S.sk (S.sk (S.sk (S.sk (S.sk (S.o q.pt (S.end (hK _ ?_)))))))
          clear hK K
          refine Ev.ct ?_
          refine Ev.sr fun K hK => S.o q.as (S.end (hK _ ?_))
          clear hK K
          refine Ev.ret ?_
          refine hR0 _ _ ?_
          refine Ev.ret1 ?_
          refine ⟨?_, rfl⟩
          first
           | exact bF (fun h => by have h1 := h.1; omega)
           | exact bF (fun h => absurd (dems_cut hp h).1 ‹_›)
           | exact bF (fun h => by obtain ⟨x, hx, hn⟩ := ‹∃ x ∈ pre, _›; exact (dems_cut hp h).2 x hx (by simpa using hn))
           | exact bF (fun h => by have h1 := (demI_at hp).2 (dems_cut hp h).2; omega)
           | exact bF (fun h => absurd (dems_cut hp h).1.1 ‹_›)
           | exact bF (fun h => absurd (dems_cut hp h).1.2.1 ‹_›)
           | exact bF (fun h => absurd (dems_cut hp h).1.2.2 ‹_›)
           | exact bT ⟨by omega, by rw [← hp]; exact hinv⟩
        · first
        | (first | omega | contradiction)
        | refine S.o q.mv (S.o q.mv (S.o (q.sh am_el22 am_cl48) (S.o q.mf ?_)))
          rw [htk]
          refine S.c0 (hF := containsFuncDem1 _ _ _ (named_fun s) pre (by omega)) (h := S.o q.pf (S.end (hK _ ?_)))
          clear hK K
          refine Ev.cd (fun c4 => ?_) (fun c4 => ?_)
          · first
          | (first | omega | contradiction)
          | refine Ev.sr fun K hK => S.o q.as (S.end (hK _ ?_))
            clear hK K
            refine Ev.ret ?_
            refine hR0 _ _ ?_
            refine Ev.ret1 ?_
            refine ⟨?_, rfl⟩
            first
             | exact bF (fun h => by have h1 := h.1; omega)
             | exact bF (fun h => absurd (dems_cut hp h).1 ‹_›)
             | exact bF (fun h => by obtain ⟨x, hx, hn⟩ := ‹∃ x ∈ pre, _›; exact (dems_cut hp h).2 x hx (by simpa using hn))
             | exact bF (fun h => by have h1 := (demI_at hp).2 (dems_cut hp h).2; omega)
             | exact bF (fun h => absurd (dems_cut hp h).1.1 ‹_›)
             | exact bF (fun h => absurd (dems_cut hp h).1.2.1 ‹_›)
             | exact bF (fun h => absurd (dems_cut hp h).1.2.2 ‹_›)
             | exact bT ⟨by omega, by rw [← hp]; exact hinv⟩
          · first
          | (first | omega | contradiction)
          | refine Ev.skip ?_
            show Ev _ _ _ _
            refine Ev.region_S fun K hK => S.o q.add (S.o q.mv (S.end (hK _ ?_)))
            clear hK K
            refine hR0 _ _ ?_
            refine roundU [] [0, 8, 9] ⟨(pre ++ [s], suf), by rw [← hp]; simp, ?_⟩ ?_ keep_n (slots_c (he := (by first | rfl | (simp; done) | (congr 2; omega))) (h := trivial)) (.c (.c (.c .n)))
            exact dems_snoc hinv ‹_› (fun a ha he => by have h := ‹¬ ∃ x ∈ pre, _›; exact h ⟨a, ha, by simpa using he⟩)
            all_goals (dsimp only; simp only [List.length_cons]; omega)
      · first
      | (first | omega | contradiction)
      | refine Ev.exit ?_
        refine hR0 _ _ ?_
        show Ev _ _ _ _
        refine Ev.sr fun K hK => S.o q.as (S.end (hK _ ?_))
        clear hK K
        refine Ev.ret ?_
        refine Ev.ret1 ?_
        refine ⟨?_, rfl⟩
        first
         | exact bF (fun h => by have h1 := h.1; omega)
         | exact bF (fun h => absurd (dems_cut hp h).1 ‹_›)
         | exact bF (fun h => by obtain ⟨x, hx, hn⟩ := ‹∃ x ∈ pre, _›; exact (dems_cut hp h).2 x hx (by simpa using hn))
         | exact bF (fun h => by have h1 := (demI_at hp).2 (dems_cut hp h).2; omega)
         | exact bF (fun h => absurd (dems_cut hp h).1.1 ‹_›)
         | exact bF (fun h => absurd (dems_cut hp h).1.2.1 ‹_›)
         | exact bF (fun h => absurd (dems_cut hp h).1.2.2 ‹_›)
         | exact bT ⟨by omega, by rw [← hp]; exact hinv⟩
    · simp only [List.length_cons] at hpl
      have hidx : l[pre.length]? = some s := by rw [← hp]; simp
      have hsw : s.w := hw s (by rw [← hp]; simp)
      have htk : List.take ((pre.length : Int).toNat - ((0 : Nat) : Int).toNat) (List.drop ((0 : Nat) : Int).toNat l) = pre := by simpa using take_pre hp
      refine Ev.sr fun K hK => S.o q.lss (S.end (hK _ ?_))
      clear hK K
      refine Ev.ud (fun c5 => ?_) (fun c5 => ?_)
      · first
      | (first | omega | contradiction)
      | refine Ev.seq ?_
        refine Ev.block ?_
        refine Ev.sr fun K hK => S.o q.mv (S.o (q.ix am_el22 am_cl48 (hl := (by first | exact ati hidx (by omega) | exact atig (by omega)))) (S.o (q.lsA [_, _, _, _, _, _, _, _] am_ag48 am_cl48) (S.nn (q.al am_ze48) (S.o q.as (S.sv [_, _, _, _, _, _, _, _] true [] am_in48 am_cl48 (h := S.end (hK _ ?_)))))))
        clear hK K
        refine Ev.sr fun K hK => S.o (q.lvA [_, _, _, _, _, _, _, _] am_ag48 am_cl48) (S.c0 (hF := right_fun _ (by assumption)) (h := S.o q.not (S.bn q.mv (fun c6 => ?_) (fun c6 => ?_))))
        · first
        | (first | omega | contradiction)
        | refine S.sk (S.sk (S.sk (S.sk (S.sk (S.o q.pt (S.end (hK _ ?_)))))))
          clear hK K
          refine Ev.ct ?_
          refine Ev.sr fun K hK => S.o q.as (S.end (hK _ ?_))
          clear hK K
          refine Ev.ret ?_
          refine hR0 _ _ ?_
          refine Ev.ret1 ?_
          refine ⟨?_, rfl⟩
          first
           | exact bF (fun h => by have h1 := h.1; omega)
           | exact bF (fun h => absurd (dems_cut hp h).1 ‹_›)
           | exact bF (fun h => by obtain ⟨x, hx, hn⟩ := ‹∃ x ∈ pre, _›; exact (dems_cut hp h).2 x hx (by simpa using hn))
           | exact bF (fun h => by have h1 := (demI_at hp).2 (dems_cut hp h).2; omega)
           | exact bF (fun h => absurd (dems_cut hp h).1.1 ‹_›)
           | exact bF (fun h => absurd (dems_cut hp h).1.2.1 ‹_›)
           | exact bF (fun h => absurd (dems_cut hp h).1.2.2 ‹_›)
           | exact bT ⟨by omega, by rw [← hp]; exact hinv⟩
        · first
        | (first | omega | contradiction)
        | refine S.o q.mv (S.o q.mv (S.o (q.sh am_el22 am_cl48) (S.o q.mf ?_)))
          rw [htk]
          refine S.c0 (hF := containsFuncDem1 _ _ _ (named_fun s) pre (by omega)) (h := S.o q.pf (S.end (hK _ ?_)))
          clear hK K
          refine Ev.cd (fun c7 => ?_) (fun c7 => ?_)
          · first
          | (first | omega | contradiction)
          | refine Ev.sr fun K hK => S.o q.as (S.end (hK _ ?_))
            clear hK K
            refine Ev.ret ?_
            refine hR0 _ _ ?_
            refine Ev.ret1 ?_
            refine ⟨?_, rfl⟩
            first
             | exact bF (fun h => by have h1 := h.1; omega)
             | exact bF (fun h => absurd (dems_cut hp h).1 ‹_›)
             | exact bF (fun h => by obtain ⟨x, hx, hn⟩ := ‹∃ x ∈ pre, _›; exact (dems_cut hp h).2 x hx (by simpa using hn))
             | exact bF (fun h => by have h1 := (demI_at hp).2 (dems_cut hp h).2; omega)
             | exact bF (fun h => absurd (dems_cut hp h).1.1 ‹_›)
             | exact bF (fun h => absurd (dems_cut hp h).1.2.1 ‹_›)
             | exact bF (fun h => absurd (dems_cut hp h).1.2.2 ‹_›)
             | exact bT ⟨by omega, by rw [← hp]; exact hinv⟩
          · first
          | (first | omega | contradiction)
          | refine Ev.skip ?_
            show Ev _ _ _ _
            refine Ev.region_S fun K hK => S.o q.add (S.o q.mv (S.end (hK _ ?_)))
            clear hK K
            refine hR0 _ _ ?_
            refine roundU [] [0, 8, 9] ⟨(pre ++ [s], suf), by rw [← hp]; simp, ?_⟩ ?_ keep_n (slots_c (he := (by first | rfl | (simp; done) | (congr 2; omega))) (h := trivial)) (.c (.c (.c .n)))
            exact dems_snoc hinv ‹_› (fun a ha he => by have h := ‹¬ ∃ x ∈ pre, _›; exact h ⟨a, ha, by simpa using he⟩)
            all_goals (dsimp only; simp only [List.length_cons]; omega)
      · first
      | (first | omega | contradiction)
      | refine Ev.exit ?_
        refine hR0 _ _ ?_
        show Ev _ _ _ _
        refine Ev.sr fun K hK => S.o q.as (S.end (hK _ ?_))
        clear hK K
        refine Ev.ret ?_
        refine Ev.ret1 ?_
        refine ⟨?_, rfl⟩
        first
         | exact bF (fun h => by have h1 := h.1; omega)
         | exact bF (fun h => absurd (dems_cut hp h).1 ‹_›)
         | exact bF (fun h => by obtain ⟨x, hx, hn⟩ := ‹∃ x ∈ pre, _›; exact (dems_cut hp h).2 x hx (by simpa using hn))
         | exact bF (fun h => by have h1 := (demI_at hp).2 (dems_cut hp h).2; omega)
         | exact bF (fun h => absurd (dems_cut hp h).1.1 ‹_›)
         | exact bF (fun h => absurd (dems_cut hp h).1.2.1 ‹_›)
         | exact bF (fun h => absurd (dems_cut hp h).1.2.2 ‹_›)
         | exact bT ⟨by omega, by rw [← hp]; exact hinv⟩
theorem rfindD_fun (l : List Dem) (nm : List UInt8) (hlen : l.length ≤ 140737488355328) : Fun Tryd.prog 34 [.sh 8 (l.map Dem.c), .lit (str nm)] (Ret (.lit (.int .i64 (demI l nm))) []) := by
  unfold demI
  refine Fun.of (nt := 20) (rs := [.tmp 4]) Tryd.func34 rfl rfl rfl rfl rfl ?_
  refine Ev.sr fun K hK => S.o q.as (S.end (hK _ ?_))
  clear hK K
  refine Ev.seq ?_
  refine Ev.sr fun K hK => S.o q.as (S.end (hK _ ?_))
  clear hK K
  refine Ev.block ?_
  refine Ev.loopU (ι := {q : List Dem × List Dem // q.1 ++ q.2 = l ∧ ∀ x ∈ q.1, decide (x.name = nm) = false}) [] [0, 1] (fun ⟨(pre, suf), _⟩ => [(5, .lit (.int .i64 ((pre.length : Int))))]) (fun ⟨(pre, suf), _⟩ => []) (fun ⟨(pre, suf), _⟩ => suf.length) ⟨([], l), rfl, fun x hx => by simp at hx⟩ (.c (.c .n)) keep_n (slots_c (he := (by first | rfl | (simp; done) | (congr 2; omega))) (h := trivial)) ?_
  rintro ⟨⟨pre, suf⟩, hp, hinv⟩ R0 hR0
  dsimp only [List.cons_append, List.nil_append, List.length_cons, List.length_nil]
  simp only at hp hinv
  have hpl : pre.length + suf.length = (l).length := by rw [← hp, List.length_append]
  rcases suf with _ | ⟨s, suf⟩
  · rw [List.append_nil] at hp; subst hp; simp only [List.length_nil] at hpl
    refine Ev.seq ?_
    refine Ev.sr fun K hK => S.o q.mv (S.o q.mv (S.o (q.lens am_el22) (S.o q.lss (S.end (hK _ ?_)))))
    clear hK K
    refine Ev.cd (fun c1 => ?_) (fun c1 => ?_)
    · first
    | (first | omega | contradiction)
    | refine Ev.skip ?_
      show Ev _ _ _ _
      refine Ev.seq ?_
      refine Ev.block ?_
      refine Ev.sr fun K hK => S.o q.mv (S.o q.mv (S.o (q.ix am_el22 am_cl48 (hl := (by first | exact atig (by omega)))) (S.o (q.fs 0 am_fi48_0 am_cl9) (S.o (q.ls am_ag9) (S.o q.mv (S.o q.seqs (S.end (hK _ ?_))))))))
      clear hK K
      refine Ev.cd (fun c2 => ?_) (fun c2 => ?_)
      · first
      | (first | omega | contradiction)
      | refine Ev.sr fun K hK => S.o q.mv (S.o q.as (S.end (hK _ ?_)))
        clear hK K
        refine Ev.ret ?_
        refine hR0 _ _ ?_
        refine Ev.ret1 ?_
        refine ⟨?_, rfl⟩
        first | (congr 2; rw [← hp, idxP_append _ pre _ 0 hinv, idxP, if_pos (decide_eq_true ‹_›)]; omega) | (congr 2; rw [idxP_none _ pre 0 hinv])
      · first
      | (first | omega | contradiction)
      | refine Ev.skip ?_
        show Ev _ _ _ _
        refine Ev.region_S fun K hK => S.o q.mv (S.o q.add (S.o q.as (S.end (hK _ ?_))))
        clear hK K
        refine hR0 _ _ ?_
        refine roundU [] [0, 1] ⟨(pre ++ [s], suf), by rw [← hp]; simp, ?_⟩ ?_ keep_n (slots_c (he := (by first | rfl | (simp; done) | (congr 2; omega))) (h := trivial)) (.c (.c .n))
        intro x hx; simp only [List.mem_append, List.mem_singleton] at hx; rcases hx with hx | rfl
        · exact hinv x hx
        · exact decide_eq_false ‹_›
        all_goals (dsimp only; simp only [List.length_cons]; omega)
    · first
    | (first | omega | contradiction)
    | refine Ev.exit ?_
      refine hR0 _ _ ?_
      show Ev _ _ _ _
      refine Ev.sr fun K hK => S.o q.as (S.end (hK _ ?_))
      clear hK K
      refine Ev.ret ?_
      refine Ev.ret1 ?_
      refine ⟨?_, rfl⟩
      first | (congr 2; rw [← hp, idxP_append _ pre _ 0 hinv, idxP, if_pos (decide_eq_true ‹_›)]; omega) | (congr 2; rw [idxP_none _ pre 0 hinv])
  · simp only [List.length_cons] at hpl
    have hidx : (l)[pre.length]? = some s := by rw [← hp]; simp
    refine Ev.seq ?_
    refine Ev.sr fun K hK => S.o q.mv (S.o q.mv (S.o (q.lens am_el22) (S.o q.lss (S.end (hK _ ?_)))))
    clear hK K
    refine Ev.cd (fun c3 => ?_) (fun c3 => ?_)
    · first
    | (first | omega | contradiction)
    | refine Ev.skip ?_
      show Ev _ _ _ _
      refine Ev.seq ?_
      refine Ev.block ?_
      refine Ev.sr fun K hK => S.o q.mv (S.o q.mv (S.o (q.ix am_el22 am_cl48 (hl := (by first | exact ati hidx (by omega) | exact atig (by omega)))) (S.o (q.fs 0 am_fi48_0 am_cl9) (S.o (q.ls am_ag9) (S.o q.mv (S.o q.seqs (S.end (hK _ ?_))))))))
      clear hK K
      refine Ev.cd (fun c4 => ?_) (fun c4 => ?_)
      · first
      | (first | omega | contradiction)
      | refine Ev.sr fun K hK => S.o q.mv (S.o q.as (S.end (hK _ ?_)))
        clear hK K
        refine Ev.ret ?_
        refine hR0 _ _ ?_
        refine Ev.ret1 ?_
        refine ⟨?_, rfl⟩
        first | (congr 2; rw [← hp, idxP_append _ pre _ 0 hinv, idxP, if_pos (decide_eq_true ‹_›)]; omega) | (congr 2; rw [idxP_none _ pre 0 hinv])
      · first
      | (first | omega | contradiction)
      | refine Ev.skip ?_
        show Ev _ _ _ _
        refine Ev.region_S fun K hK => S.o q.mv (S.o q.add (S.o q.as (S.end (hK _ ?_))))
        clear hK K
        refine hR0 _ _ ?_
        refine roundU [] [0, 1] ⟨(pre ++ [s], suf), by rw [← hp]; simp, ?_⟩ ?_ keep_n (slots_c (he := (by first | rfl | (simp; done) | (congr 2; omega))) (h := trivial)) (.c (.c .n))
        intro x hx; simp only [List.mem_append, List.mem_singleton] at hx; rcases hx with hx | rfl
        · exact hinv x hx
        · exact decide_eq_false ‹_›
        all_goals (dsimp only; simp only [List.length_cons]; omega)
    · first
    | (first | omega | contradiction)
    | refine Ev.exit ?_
      refine hR0 _ _ ?_
      show Ev _ _ _ _
      refine Ev.sr fun K hK => S.o q.as (S.end (hK _ ?_))
      clear hK K
      refine Ev.ret ?_
      refine Ev.ret1 ?_
      refine ⟨?_, rfl⟩
      first | (congr 2; rw [← hp, idxP_append _ pre _ 0 hinv, idxP, if_pos (decide_eq_true ‹_›)]; omega) | (congr 2; rw [idxP_none _ pre 0 hinv])
theorem rdemValid_fun (l : List Dem) (hlen : l.length ≤ 140737488355328) (hw : demW l) : Fun Tryd.prog 11 [.sh 8 (l.map Dem.c)] (Ret (.lit (.bool (decide (okDems l)))) []) := by
  refine Fun.of (nt := 49) (rs := [.tmp 2]) Tryd.func11 rfl rfl rfl rfl rfl ?_
  refine Ev.sr fun K hK => S.o q.as (S.end (hK _ ?_))
  clear hK K
  refine Ev.seq ?_
  refine Ev.sr fun K hK => S.o q.mv (S.o (q.lens am_el22) (S.o q.gtr (S.end (hK _ ?_))))
  clear hK K
  refine Ev.cd (fun c1 => ?_) (fun c1 => ?_)
  · first
  | (first | omega | contradiction)
  | refine Ev.sr fun K hK => S.o q.as (S.end (hK _ ?_))
    clear hK K
    refine Ev.ret ?_
    refine Ev.ret1 ?_
    refine ⟨?_, rfl⟩
    first
     | exact bF (fun h => by have h1 := h.1; omega)
     | exact bF (fun h => absurd (dems_cut hp h).1 ‹_›)
     | exact bF (fun h => by obtain ⟨x, hx, hn⟩ := ‹∃ x ∈ pre, _›; exact (dems_cut hp h).2 x hx (by simpa using hn))
     | exact bF (fun h => by have h1 := (demI_at hp).2 (dems_cut hp h).2; omega)
     | exact bF (fun h => absurd (dems_cut hp h).1.1 ‹_›)
     | exact bF (fun h => absurd (dems_cut hp h).1.2.1 ‹_›)
     | exact bF (fun h => absurd (dems_cut hp h).1.2.2 ‹_›)
     | exact bT ⟨by omega, by rw [← hp]; exact hinv⟩
  · first
  | (first | omega | contradiction)
  | refine Ev.skip ?_
    show Ev _ _ _ _
    refine Ev.seq ?_
    refine Ev.sr fun K hK => S.o q.as (S.end (hK _ ?_))
    clear hK K
    refine Ev.block ?_
    refine Ev.loopU (ι := {q : List Dem × List Dem // q.1 ++ q.2 = l ∧ (∀ b ∈ q.1, okDem b) ∧ q.1.Pairwise (fun a b => a.name ≠ b.name)}) [] [0] (fun ⟨(pre, suf), _⟩ => [(3, .lit (.int .i64 ((pre.length : Int))))]) (fun ⟨(pre, suf), _⟩ => []) (fun ⟨(pre, suf), _⟩ => suf.length) ⟨([], l), rfl, ⟨fun b hb => by simp at hb, by simp⟩⟩ (.c .n) keep_n (slots_c (he := (by first | rfl | (simp; done) | (congr 2; omega))) (h := trivial)) ?_
    rintro ⟨⟨pre, suf⟩, hp, hinv⟩ R0 hR0
    dsimp only [List.cons_append, List.nil_append, List.length_cons, List.length_nil]
    simp only at hp hinv
    have hpl : pre.length + suf.length = (l).length := by rw [← hp, List.length_append]
    rcases suf with _ | ⟨s, suf⟩
    · rw [List.append_nil] at hp; simp only [List.length_nil] at hpl
      refine Ev.seq ?_
      refine Ev.sr fun K hK => S.o q.mv (S.o q.mv (S.o (q.lens am_el22) (S.o q.lss (S.end (hK _ ?_)))))
      clear hK K
      refine Ev.cd (fun c2 => ?_) (fun c2 => ?_)
      · first
      | (first | omega | contradiction)
      | refine Ev.skip ?_
        show Ev _ _ _ _
        refine Ev.seq ?_
        refine Ev.block ?_
        refine Ev.sr fun K hK => S.o q.mv (S.o q.mv (S.o (q.ix am_el22 am_cl48 (hl := (by first | exact atig (by omega)))) (S.o (q.fs 0 am_fi48_0 am_cl9) (S.o (q.ls am_ag9) (S.c0 (hF := risName_fun _ (by omega)) (h := S.o q.not (S.bn q.mv (fun c3 => ?_) (fun c3 => ?_))))))))
        · first
        | (first | omega | contradiction)
        | refine S.sk (S.sk (S.sk (S.sk (S.sk (S.sk (S.sk (S.sk (S.sk (S.o q.pt (S.o q.mv (S.sk (S.sk (S.sk (S.sk (S.sk (S.sk (S.sk (S.o q.pt (S.o q.mv (S.sk (S.sk (S.sk (S.sk (S.sk (S.sk (S.sk (S.o q.pt (S.end (hK _ ?_)))))))))))))))))))))))))))))
          clear hK K
          refine Ev.ct ?_
          refine Ev.sr fun K hK => S.o q.as (S.end (hK _ ?_))
          clear hK K
          refine Ev.ret ?_
          refine hR0 _ _ ?_
          refine Ev.ret1 ?_
          refine ⟨?_, rfl⟩
          first
           | exact bF (fun h => by have h1 := h.1; omega)
           | exact bF (fun h => absurd (dems_cut hp h).1 ‹_›)
           | exact bF (fun h => by obtain ⟨x, hx, hn⟩ := ‹∃ x ∈ pre, _›; exact (dems_cut hp h).2 x hx (by simpa using hn))
           | exact bF (fun h => by have h1 := (demI_at hp).2 (dems_cut hp h).2; omega)
           | exact bF (fun h => absurd (dems_cut hp h).1.1 ‹_›)
           | exact bF (fun h => absurd (dems_cut hp h).1.2.1 ‹_›)
           | exact bF (fun h => absurd (dems_cut hp h).1.2.2 ‹_›)
           | exact bT ⟨by omega, by rw [← hp]; exact hinv⟩
        · first
        | (first | omega | contradiction)
        | refine S.o q.mv (S.o q.mv (S.o q.mv (S.o (q.ix am_el22 am_cl48 (hl := (by first | exact atig (by omega)))) (S.o (q.fs 0 am_fi48_0 am_cl9) (S.o (q.ls am_ag9) (S.c0 (hF := rfindD_fun _ _ (by omega)) (h := S.o q.mv (S.o q.neq (S.o q.pf (S.bn q.mv (fun c4 => ?_) (fun c4 => ?_)))))))))))
          · first
          | (first | omega | contradiction)
          | refine S.sk (S.sk (S.sk (S.sk (S.sk (S.sk (S.sk (S.o q.pt (S.o q.mv (S.sk (S.sk (S.sk (S.sk (S.sk (S.sk (S.sk (S.o q.pt (S.end (hK _ ?_))))))))))))))))))
            clear hK K
            refine Ev.ct ?_
            refine Ev.sr fun K hK => S.o q.as (S.end (hK _ ?_))
            clear hK K
            refine Ev.ret ?_
            refine hR0 _ _ ?_
            refine Ev.ret1 ?_
            refine ⟨?_, rfl⟩
            first
             | exact bF (fun h => by have h1 := h.1; omega)
             | exact bF (fun h => absurd (dems_cut hp h).1 ‹_›)
             | exact bF (fun h => by obtain ⟨x, hx, hn⟩ := ‹∃ x ∈ pre, _›; exact (dems_cut hp h).2 x hx (by simpa using hn))
             | exact bF (fun h => by have h1 := (demI_at hp).2 (dems_cut hp h).2; omega)
             | exact bF (fun h => absurd (dems_cut hp h).1.1 ‹_›)
             | exact bF (fun h => absurd (dems_cut hp h).1.2.1 ‹_›)
             | exact bF (fun h => absurd (dems_cut hp h).1.2.2 ‹_›)
             | exact bT ⟨by omega, by rw [← hp]; exact hinv⟩
          · first
          | (first | omega | contradiction)
          | refine S.o q.mv (S.o q.mv (S.o (q.ix am_el22 am_cl48 (hl := (by first | exact atig (by omega)))) (S.o (q.fs 1 am_fi48_1 am_cl26) (S.o (q.lsA [_, _, _, _, _, _] am_ag26 am_cl26) (S.c0 (hF := rboxValid_fun s.zone) (h := S.o q.not (S.o q.pf (S.bn q.mv (fun c5 => ?_) (fun c5 => ?_)))))))))
            · first
            | (first | omega | contradiction)
            | refine S.sk (S.sk (S.sk (S.sk (S.sk (S.sk (S.sk (S.o q.pt (S.end (hK _ ?_)))))))))
              clear hK K
              refine Ev.ct ?_
              refine Ev.sr fun K hK => S.o q.as (S.end (hK _ ?_))
              clear hK K
              refine Ev.ret ?_
              refine hR0 _ _ ?_
              refine Ev.ret1 ?_
              refine ⟨?_, rfl⟩
              first
               | exact bF (fun h => by have h1 := h.1; omega)
               | exact bF (fun h => absurd (dems_cut hp h).1 ‹_›)
               | exact bF (fun h => by obtain ⟨x, hx, hn⟩ := ‹∃ x ∈ pre, _›; exact (dems_cut hp h).2 x hx (by simpa using hn))
               | exact bF (fun h => by have h1 := (demI_at hp).2 (dems_cut hp h).2; omega)
               | exact bF (fun h => absurd (dems_cut hp h).1.1 ‹_›)
               | exact bF (fun h => absurd (dems_cut hp h).1.2.1 ‹_›)
               | exact bF (fun h => absurd (dems_cut hp h).1.2.2 ‹_›)
               | exact bT ⟨by omega, by rw [← hp]; exact hinv⟩
            · first
            | (first | omega | contradiction)
            | refine S.o q.mv (S.o q.mv (S.o (q.ix am_el22 am_cl48 (hl := (by first | exact atig (by omega)))) (S.o (q.fs 7 am_fi48_2 am_cl29) (S.o (q.ls am_ag29) (S.c0 (hF := rstepsValid_fun _ (by omega)) (h := S.o q.not (S.o q.pf (S.end (hK _ ?_)))))))))
              clear hK K
              refine Ev.cn (fun c6 => ?_) (fun c6 => ?_)
              · first
              | (first | omega | contradiction)
              | refine Ev.sr fun K hK => S.o q.as (S.end (hK _ ?_))
                clear hK K
                refine Ev.ret ?_
                refine hR0 _ _ ?_
                refine Ev.ret1 ?_
                refine ⟨?_, rfl⟩
                first
                 | exact bF (fun h => by have h1 := h.1; omega)
                 | exact bF (fun h => absurd (dems_cut hp h).1 ‹_›)
                 | exact bF (fun h => by obtain ⟨x, hx, hn⟩ := ‹∃ x ∈ pre, _›; exact (dems_cut hp h).2 x hx (by simpa using hn))
                 | exact bF (fun h => by have h1 := (demI_at hp).2 (dems_cut hp h).2; omega)
                 | exact bF (fun h => absurd (dems_cut hp h).1.1 ‹_›)
                 | exact bF (fun h => absurd (dems_cut hp h).1.2.1 ‹_›)
                 | exact bF (fun h => absurd (dems_cut hp h).1.2.2 ‹_›)
                 | exact bT ⟨by omega, by rw [← hp]; exact hinv⟩
              · first
              | (first | omega | contradiction)
              | refine Ev.skip ?_
                show Ev _ _ _ _
                refine Ev.region_S fun K hK => S.o q.mv (S.o q.add (S.o q.as (S.end (hK _ ?_))))
                clear hK K
                refine hR0 _ _ ?_
                refine roundU [] [0] ⟨(pre ++ [s], suf), by rw [← hp]; simp, ?_⟩ ?_ keep_n (slots_c (he := (by first | rfl | (simp; done) | (congr 2; omega))) (h := trivial)) (.c .n)
                exact dems_snoc hinv ⟨‹_›, ‹_›, ‹_›⟩ ((demI_at hp).1 (by omega))
                all_goals (dsimp only; simp only [List.length_cons]; omega)
      · first
      | (first | omega | contradiction)
      | refine Ev.exit ?_
        refine hR0 _ _ ?_
        show Ev _ _ _ _
        refine Ev.sr fun K hK => S.o q.as (S.end (hK _ ?_))
        clear hK K
        refine Ev.ret ?_
        refine Ev.ret1 ?_
        refine ⟨?_, rfl⟩
        first
         | exact bF (fun h => by have h1 := h.1; omega)
         | exact bF (fun h => absurd (dems_cut hp h).1 ‹_›)
         | exact bF (fun h => by obtain ⟨x, hx, hn⟩ := ‹∃ x ∈ pre, _›; exact (dems_cut hp h).2 x hx (by simpa using hn))
         | exact bF (fun h => by have h1 := (demI_at hp).2 (dems_cut hp h).2; omega)
         | exact bF (fun h => absurd (dems_cut hp h).1.1 ‹_›)
         | exact bF (fun h => absurd (dems_cut hp h).1.2.1 ‹_›)
         | exact bF (fun h => absurd (dems_cut hp h).1.2.2 ‹_›)
         | exact bT ⟨by omega, by rw [← hp]; exact hinv⟩
    · simp only [List.length_cons] at hpl
      have hidx : l[pre.length]? = some s := by rw [← hp]; simp
      have hsw : s.w := hw s (by rw [← hp]; simp)
      obtain ⟨hsw1, hsw2⟩ := hsw
      refine Ev.seq ?_
      refine Ev.sr fun K hK => S.o q.mv (S.o q.mv (S.o (q.lens am_el22) (S.o q.lss (S.end (hK _ ?_)))))
      clear hK K
      refine Ev.cd (fun c7 => ?_) (fun c7 => ?_)
      · first
      | (first | omega | contradiction)
      | refine Ev.skip ?_
        show Ev _ _ _ _
        refine Ev.seq ?_
        refine Ev.block ?_
        refine Ev.sr fun K hK => S.o q.mv (S.o q.mv (S.o (q.ix am_el22 am_cl48 (hl := (by first | exact ati hidx (by omega) | exact atig (by omega)))) (S.o (q.fs 0 am_fi48_0 am_cl9) (S.o (q.ls am_ag9) (S.c0 (hF := risName_fun _ (by omega)) (h := S.o q.not (S.bn q.mv (fun c8 => ?_) (fun c8 => ?_))))))))
        · first
        | (first | omega | contradiction)
        | refine S.sk (S.sk (S.sk (S.sk (S.sk (S.sk (S.sk (S.sk (S.sk (S.o q.pt (S.o q.mv (S.sk (S.sk (S.sk (S.sk (S.sk (S.sk (S.sk (S.o q.pt (S.o q.mv (S.sk (S.sk (S.sk (S.sk (S.sk (S.sk (S.sk (S.o q.pt (S.end (hK _ ?_)))))))))))))))))))))))))))))
          clear hK K
          refine Ev.ct ?_
          refine Ev.sr fun K hK => S.o q.as (S.end (hK _ ?_))
          clear hK K
          refine Ev.ret ?_
          refine hR0 _ _ ?_
          refine Ev.ret1 ?_
          refine ⟨?_, rfl⟩
          first
           | exact bF (fun h => by have h1 := h.1; omega)
           | exact bF (fun h => absurd (dems_cut hp h).1 ‹_›)
           | exact bF (fun h => by obtain ⟨x, hx, hn⟩ := ‹∃ x ∈ pre, _›; exact (dems_cut hp h).2 x hx (by simpa using hn))
           | exact bF (fun h => by have h1 := (demI_at hp).2 (dems_cut hp h).2; omega)
           | exact bF (fun h => absurd (dems_cut hp h).1.1 ‹_›)
           | exact bF (fun h => absurd (dems_cut hp h).1.2.1 ‹_›)
           | exact bF (fun h => absurd (dems_cut hp h).1.2.2 ‹_›)
           | exact bT ⟨by omega, by rw [← hp]; exact hinv⟩
        · first
        | (first | omega | contradiction)
        | refine S.o q.mv (S.o q.mv (S.o q.mv (S.o (q.ix am_el22 am_cl48 (hl := (by first | exact ati hidx (by omega) | exact atig (by omega)))) (S.o (q.fs 0 am_fi48_0 am_cl9) (S.o (q.ls am_ag9) (S.c0 (hF := rfindD_fun _ _ (by omega)) (h := S.o q.mv (S.o q.neq (S.o q.pf (S.bn q.mv (fun c9 => ?_) (fun c9 => ?_)))))))))))
          · first
          | (first | omega | contradiction)
          | refine S.sk (S.sk (S.sk (S.sk (S.sk (S.sk (S.sk (S.o q.pt (S.o q.mv (S.sk (S.sk (S.sk (S.sk (S.sk (S.sk (S.sk (S.o q.pt (S.end (hK _ ?_))))))))))))))))))
            clear hK K
            refine Ev.ct ?_
            refine Ev.sr fun K hK => S.o q.as (S.end (hK _ ?_))
            clear hK K
            refine Ev.ret ?_
            refine hR0 _ _ ?_
            refine Ev.ret1 ?_
            refine ⟨?_, rfl⟩
            first
             | exact bF (fun h => by have h1 := h.1; omega)
             | exact bF (fun h => absurd (dems_cut hp h).1 ‹_›)
             | exact bF (fun h => by obtain ⟨x, hx, hn⟩ := ‹∃ x ∈ pre, _›; exact (dems_cut hp h).2 x hx (by simpa using hn))
             | exact bF (fun h => by have h1 := (demI_at hp).2 (dems_cut hp h).2; omega)
             | exact bF (fun h => absurd (dems_cut hp h).1.1 ‹_›)
             | exact bF (fun h => absurd (dems_cut hp h).1.2.1 ‹_›)
             | exact bF (fun h => absurd (dems_cut hp h).1.2.2 ‹_›)
             | exact bT ⟨by omega, by rw [← hp]; exact hinv⟩
          · first
          | (first | omega | contradiction)
          | refine S.o q.mv (S.o q.mv (S.o (q.ix am_el22 am_cl48 (hl := (by first | exact ati hidx (by omega) | exact atig (by omega)))) (S.o (q.fs 1 am_fi48_1 am_cl26) (S.o (q.lsA [_, _, _, _, _, _] am_ag26 am_cl26) (S.c0 (hF := rboxValid_fun s.zone) (h := S.o q.not (S.o q.pf (S.bn q.mv (fun c10 => ?_) (fun c10 => ?_)))))))))
            · first
            | (first | omega | contradiction)
            | refine S.sk (S.sk (S.sk (S.sk (S.sk (S.sk (S.sk (S.o q.pt (S.end (hK _ ?_)))))))))
              clear hK K
              refine Ev.ct ?_
              refine Ev.sr fun K hK => S.o q.as (S.end (hK _ ?_))
              clear hK K
              refine Ev.ret ?_
              refine hR0 _ _ ?_
              refine Ev.ret1 ?_
              refine ⟨?_, rfl⟩
              first
               | exact bF (fun h => by have h1 := h.1; omega)
               | exact bF (fun h => absurd (dems_cut hp h).1 ‹_›)
               | exact bF (fun h => by obtain ⟨x, hx, hn⟩ := ‹∃ x ∈ pre, _›; exact (dems_cut hp h).2 x hx (by simpa using hn))
               | exact bF (fun h => by have h1 := (demI_at hp).2 (dems_cut hp h).2; omega)
               | exact bF (fun h => absurd (dems_cut hp h).1.1 ‹_›)
               | exact bF (fun h => absurd (dems_cut hp h).1.2.1 ‹_›)
               | exact bF (fun h => absurd (dems_cut hp h).1.2.2 ‹_›)
               | exact bT ⟨by omega, by rw [← hp]; exact hinv⟩
            · first
            | (first | omega | contradiction)
            | refine S.o q.mv (S.o q.mv (S.o (q.ix am_el22 am_cl48 (hl := (by first | exact ati hidx (by omega) | exact atig (by omega)))) (S.o (q.fs 7 am_fi48_2 am_cl29) (S.o (q.ls am_ag29) (S.c0 (hF := rstepsValid_fun _ (by omega)) (h := S.o q.not (S.o q.pf (S.end (hK _ ?_)))))))))
              clear hK K
              refine Ev.cn (fun c11 => ?_) (fun c11 => ?_)
              · first
              | (first | omega | contradiction)
              | refine Ev.sr fun K hK => S.o q.as (S.end (hK _ ?_))
                clear hK K
                refine Ev.ret ?_
                refine hR0 _ _ ?_
                refine Ev.ret1 ?_
                refine ⟨?_, rfl⟩
                first
                 | exact bF (fun h => by have h1 := h.1; omega)
                 | exact bF (fun h => absurd (dems_cut hp h).1 ‹_›)
                 | exact bF (fun h => by obtain ⟨x, hx, hn⟩ := ‹∃ x ∈ pre, _›; exact (dems_cut hp h).2 x hx (by simpa using hn))
                 | exact bF (fun h => by have h1 := (demI_at hp).2 (dems_cut hp h).2; omega)
                 | exact bF (fun h => absurd (dems_cut hp h).1.1 ‹_›)
                 | exact bF (fun h => absurd (dems_cut hp h).1.2.1 ‹_›)
                 | exact bF (fun h => absurd (dems_cut hp h).1.2.2 ‹_›)
                 | exact bT ⟨by omega, by rw [← hp]; exact hinv⟩
              · first
              | (first | omega | contradiction)
              | refine Ev.skip ?_
                show Ev _ _ _ _
                refine Ev.region_S fun K hK => S.o q.mv (S.o q.add (S.o q.as (S.end (hK _ ?_))))
                clear hK K
                refine hR0 _ _ ?_
                refine roundU [] [0] ⟨(pre ++ [s], suf), by rw [← hp]; simp, ?_⟩ ?_ keep_n (slots_c (he := (by first | rfl | (simp; done) | (congr 2; omega))) (h := trivial)) (.c .n)
                exact dems_snoc hinv ⟨‹_›, ‹_›, ‹_›⟩ ((demI_at hp).1 (by omega))
                all_goals (dsimp only; simp only [List.length_cons]; omega)
      · first
      | (first | omega | contradiction)
      | refine Ev.exit ?_
        refine hR0 _ _ ?_
        show Ev _ _ _ _
        refine Ev.sr fun K hK => S.o q.as (S.end (hK _ ?_))
        clear hK K
        refine Ev.ret ?_
        refine Ev.ret1 ?_
        refine ⟨?_, rfl⟩
        first
         | exact bF (fun h => by have h1 := h.1; omega)
         | exact bF (fun h => absurd (dems_cut hp h).1 ‹_›)
         | exact bF (fun h => by obtain ⟨x, hx, hn⟩ := ‹∃ x ∈ pre, _›; exact (dems_cut hp h).2 x hx (by simpa using hn))
         | exact bF (fun h => by have h1 := (demI_at hp).2 (dems_cut hp h).2; omega)
         | exact bF (fun h => absurd (dems_cut hp h).1.1 ‹_›)
         | exact bF (fun h => absurd (dems_cut hp h).1.2.1 ‹_›)
         | exact bF (fun h => absurd (dems_cut hp h).1.2.2 ‹_›)
         | exact bT ⟨by omega, by rw [← hp]; exact hinv⟩
theorem okOne (d : Dem) : okDems [d] ↔ okDem d := ⟨fun h => h.2.1 d (by simp), fun h => ⟨by simp, by simpa using h, by simp⟩⟩
theorem demW_one {d : Dem} (h : d.w) : demW [d] := fun x hx => by rw [List.mem_singleton] at hx; subst hx; exact h
theorem smD_fun (l : List Dem) (most : Int) (h0 : 0 ≤ most) (h1 : most ≤ 1000) (hlen : l.length ≤ 140737488355328) : Fun Tryd.prog 23 [.sh 8 (l.map Dem.c), .lit (.int .i64 most)] (Ret (.lit (.bool (decide (smD l most)))) []) := by
  refine Fun.of (nt := 54) (rs := [.tmp 4]) Tryd.func23 rfl rfl rfl rfl rfl ?_
  refine Ev.sr fun K hK => S.o q.as (S.end (hK _ ?_))
  clear hK K
  refine Ev.seq ?_
  refine Ev.sr fun K hK => S.o q.mv (S.o (q.lens am_el22) (S.o q.mv (S.o q.gtr (S.bd q.mv (fun c1 => ?_) (fun c1 => ?_)))))
  · first
  | (first | omega | contradiction)
  | refine S.o q.mv (S.o (q.lens am_el22) (S.o q.leq (S.o q.pt (S.bd q.mv (fun c2 => ?_) (fun c2 => ?_)))))
    · first
    | (first | omega | contradiction)
    | refine S.sk (S.sk (S.sk (S.o q.pt (S.end (hK _ ?_)))))
      clear hK K
      refine Ev.ct ?_
      refine Ev.sr fun K hK => S.o q.as (S.end (hK _ ?_))
      clear hK K
      refine Ev.ret ?_
      refine Ev.ret1 ?_
      refine ⟨?_, rfl⟩
      first
       | exact bF (fun h => by have h1 := h.1; omega)
       | exact bF (fun h => by have h1 := h.2 s (by rw [← hp]; simp); omega)
       | exact bT ⟨by omega, by rw [← hp]; exact hinv⟩
    · first
    | (first | omega | contradiction)
    | refine S.o q.mv (S.o (q.lens am_el22) (S.o q.gtr (S.o q.pf (S.end (hK _ ?_)))))
      clear hK K
      refine Ev.cd (fun c3 => ?_) (fun c3 => ?_)
      · first
      | (first | omega | contradiction)
      | refine Ev.sr fun K hK => S.o q.as (S.end (hK _ ?_))
        clear hK K
        refine Ev.ret ?_
        refine Ev.ret1 ?_
        refine ⟨?_, rfl⟩
        first
         | exact bF (fun h => by have h1 := h.1; omega)
         | exact bF (fun h => by have h1 := h.2 s (by rw [← hp]; simp); omega)
         | exact bT ⟨by omega, by rw [← hp]; exact hinv⟩
      · first
      | (first | omega | contradiction)
      | refine Ev.skip ?_
        show Ev _ _ _ _
        refine Ev.seq ?_
        refine Ev.sr fun K hK => S.o q.as (S.end (hK _ ?_))
        clear hK K
        refine Ev.block ?_
        refine Ev.loopU (ι := {q : List Dem × List Dem // q.1 ++ q.2 = l ∧ ∀ d ∈ q.1, ¬ (d.name.length > 60 ∨ (d.steps.length : Int) > 2 * most ∧ d.steps.length ≤ 200 ∨ d.steps.length > 205)}) [] [0, 1] (fun ⟨(pre, suf), _⟩ => [(5, .lit (.int .i64 ((pre.length : Int))))]) (fun ⟨(pre, suf), _⟩ => []) (fun ⟨(pre, suf), _⟩ => suf.length) ⟨([], l), rfl, fun x hx => by simp at hx⟩ (.c (.c .n)) keep_n (slots_c (he := (by first | rfl | (simp; done) | (congr 2; omega))) (h := trivial)) ?_
        rintro ⟨⟨pre, suf⟩, hp, hinv⟩ R0 hR0
        dsimp only [List.cons_append, List.nil_append, List.length_cons, List.length_nil]
        simp only at hp hinv
        have hpl : pre.length + suf.length = (l).length := by rw [← hp, List.length_append]
        rcases suf with _ | ⟨s, suf⟩
        · rw [List.append_nil] at hp; simp only [List.length_nil] at hpl
          refine Ev.seq ?_
          refine Ev.sr fun K hK => S.o q.mv (S.o q.mv (S.o (q.lens am_el22) (S.o q.lss (S.end (hK _ ?_)))))
          clear hK K
          refine Ev.cd (fun c4 => ?_) (fun c4 => ?_)
          · first
          | (first | omega | contradiction)
          | refine Ev.skip ?_
            show Ev _ _ _ _
            refine Ev.seq ?_
            refine Ev.block ?_
            refine Ev.sr fun K hK => S.o q.mv (S.o q.mv (S.o (q.ix am_el22 am_cl48 (hl := (by first | exact atig (by omega)))) (S.o (q.fs 7 am_fi48_2 am_cl29) (S.o (q.ls am_ag29) (S.o (q.lens am_el29) (S.o q.as (S.end (hK _ ?_))))))))
            clear hK K
            refine Ev.sr fun K hK => S.o q.mv (S.o q.mv (S.o (q.ix am_el22 am_cl48 (hl := (by first | exact atig (by omega)))) (S.o (q.fs 0 am_fi48_0 am_cl9) (S.o (q.ls am_ag9) (S.o (q.slen am_el9 am_un9) (S.o q.gtr (S.bd q.mv (fun c5 => ?_) (fun c5 => ?_))))))))
            · first
            | (first | omega | contradiction)
            | refine S.sk (S.sk (S.sk (S.sk (S.sk (S.sk (S.sk (S.sk (S.o q.pt (S.o q.mv (S.sk (S.sk (S.o q.pt (S.end (hK _ ?_))))))))))))))
              clear hK K
              refine Ev.ct ?_
              refine Ev.sr fun K hK => S.o q.as (S.end (hK _ ?_))
              clear hK K
              refine Ev.ret ?_
              refine hR0 _ _ ?_
              refine Ev.ret1 ?_
              refine ⟨?_, rfl⟩
              first
               | exact bF (fun h => by have h1 := h.1; omega)
               | exact bF (fun h => by have h1 := h.2 s (by rw [← hp]; simp); omega)
               | exact bT ⟨by omega, by rw [← hp]; exact hinv⟩
            · first
            | (first | omega | contradiction)
            | refine S.o q.mv (S.o q.mv (S.o q.mul (S.o q.gtr (S.bd q.mv (fun c6 => ?_) (fun c6 => ?_)))))
              · first
              | (first | omega | contradiction)
              | refine S.o q.mv (S.o q.leq (S.o q.pt (S.o q.pf (S.bd q.mv (fun c7 => ?_) (fun c7 => ?_)))))
                · first
                | (first | omega | contradiction)
                | refine S.sk (S.sk (S.o q.pt (S.end (hK _ ?_))))
                  clear hK K
                  refine Ev.ct ?_
                  refine Ev.sr fun K hK => S.o q.as (S.end (hK _ ?_))
                  clear hK K
                  refine Ev.ret ?_
                  refine hR0 _ _ ?_
                  refine Ev.ret1 ?_
                  refine ⟨?_, rfl⟩
                  first
                   | exact bF (fun h => by have h1 := h.1; omega)
                   | exact bF (fun h => by have h1 := h.2 s (by rw [← hp]; simp); omega)
                   | exact bT ⟨by omega, by rw [← hp]; exact hinv⟩
                · first
                | (first | omega | contradiction)
                | refine S.o q.mv (S.o q.gtr (S.o q.pf (S.end (hK _ ?_))))
                  clear hK K
                  refine Ev.cd (fun c8 => ?_) (fun c8 => ?_)
                  · first
                  | (first | omega | contradiction)
                  | refine Ev.sr fun K hK => S.o q.as (S.end (hK _ ?_))
                    clear hK K
                    refine Ev.ret ?_
                    refine hR0 _ _ ?_
                    refine Ev.ret1 ?_
                    refine ⟨?_, rfl⟩
                    first
                     | exact bF (fun h => by have h1 := h.1; omega)
                     | exact bF (fun h => by have h1 := h.2 s (by rw [← hp]; simp); omega)
                     | exact bT ⟨by omega, by rw [← hp]; exact hinv⟩
                  · first
                  | (first | omega | contradiction)
                  | refine Ev.skip ?_
                    show Ev _ _ _ _
                    refine Ev.region_S fun K hK => S.o q.mv (S.o q.add (S.o q.as (S.end (hK _ ?_))))
                    clear hK K
                    refine hR0 _ _ ?_
                    refine roundU [] [0, 1] ⟨(pre ++ [s], suf), by rw [← hp]; simp, ?_⟩ ?_ keep_n (slots_c (he := (by first | rfl | (simp; done) | (congr 2; omega))) (h := trivial)) (.c (.c .n))
                    intro x hx; simp only [List.mem_append, List.mem_singleton] at hx; rcases hx with hx | rfl
                    · exact hinv x hx
                    · omega
                    all_goals (dsimp only; simp only [List.length_cons]; omega)
              · first
              | (first | omega | contradiction)
              | refine S.sk (S.sk (S.o q.pf (S.o q.pf (S.o q.mv (S.o q.mv (S.o q.gtr (S.o q.pf (S.end (hK _ ?_)))))))))
                clear hK K
                refine Ev.cd (fun c9 => ?_) (fun c9 => ?_)
                · first
                | (first | omega | contradiction)
                | refine Ev.sr fun K hK => S.o q.as (S.end (hK _ ?_))
                  clear hK K
                  refine Ev.ret ?_
                  refine hR0 _ _ ?_
                  refine Ev.ret1 ?_
                  refine ⟨?_, rfl⟩
                  first
                   | exact bF (fun h => by have h1 := h.1; omega)
                   | exact bF (fun h => by have h1 := h.2 s (by rw [← hp]; simp); omega)
                   | exact bT ⟨by omega, by rw [← hp]; exact hinv⟩
                · first
                | (first | omega | contradiction)
                | refine Ev.skip ?_
                  show Ev _ _ _ _
                  refine Ev.region_S fun K hK => S.o q.mv (S.o q.add (S.o q.as (S.end (hK _ ?_))))
                  clear hK K
                  refine hR0 _ _ ?_
                  refine roundU [] [0, 1] ⟨(pre ++ [s], suf), by rw [← hp]; simp, ?_⟩ ?_ keep_n (slots_c (he := (by first | rfl | (simp; done) | (congr 2; omega))) (h := trivial)) (.c (.c .n))
                  intro x hx; simp only [List.mem_append, List.mem_singleton] at hx; rcases hx with hx | rfl
                  · exact hinv x hx
                  · omega
                  all_goals (dsimp only; simp only [List.length_cons]; omega)
          · first
          | (first | omega | contradiction)
          | refine Ev.exit ?_
            refine hR0 _ _ ?_
            show Ev _ _ _ _
            refine Ev.sr fun K hK => S.o q.as (S.end (hK _ ?_))
            clear hK K
            refine Ev.ret ?_
            refine Ev.ret1 ?_
            refine ⟨?_, rfl⟩
            first
             | exact bF (fun h => by have h1 := h.1; omega)
             | exact bF (fun h => by have h1 := h.2 s (by rw [← hp]; simp); omega)
             | exact bT ⟨by omega, by rw [← hp]; exact hinv⟩
        · simp only [List.length_cons] at hpl
          have hidx : l[pre.length]? = some s := by rw [← hp]; simp
          refine Ev.seq ?_
          refine Ev.sr fun K hK => S.o q.mv (S.o q.mv (S.o (q.lens am_el22) (S.o q.lss (S.end (hK _ ?_)))))
          clear hK K
          refine Ev.cd (fun c10 => ?_) (fun c10 => ?_)
          · first
          | (first | omega | contradiction)
          | refine Ev.skip ?_
            show Ev _ _ _ _
            refine Ev.seq ?_
            refine Ev.block ?_
            refine Ev.sr fun K hK => S.o q.mv (S.o q.mv (S.o (q.ix am_el22 am_cl48 (hl := (by first | exact ati hidx (by omega) | exact atig (by omega)))) (S.o (q.fs 7 am_fi48_2 am_cl29) (S.o (q.ls am_ag29) (S.o (q.lens am_el29) (S.o q.as (S.end (hK _ ?_))))))))
            clear hK K
            refine Ev.sr fun K hK => S.o q.mv (S.o q.mv (S.o (q.ix am_el22 am_cl48 (hl := (by first | exact ati hidx (by omega) | exact atig (by omega)))) (S.o (q.fs 0 am_fi48_0 am_cl9) (S.o (q.ls am_ag9) (S.o (q.slen am_el9 am_un9) (S.o q.gtr (S.bd q.mv (fun c11 => ?_) (fun c11 => ?_))))))))
            · first
            | (first | omega | contradiction)
            | refine S.sk (S.sk (S.sk (S.sk (S.sk (S.sk (S.sk (S.sk (S.o q.pt (S.o q.mv (S.sk (S.sk (S.o q.pt (S.end (hK _ ?_))))))))))))))
              clear hK K
              refine Ev.ct ?_
              refine Ev.sr fun K hK => S.o q.as (S.end (hK _ ?_))
              clear hK K
              refine Ev.ret ?_
              refine hR0 _ _ ?_
              refine Ev.ret1 ?_
              refine ⟨?_, rfl⟩
              first
               | exact bF (fun h => by have h1 := h.1; omega)
               | exact bF (fun h => by have h1 := h.2 s (by rw [← hp]; simp); omega)
               | exact bT ⟨by omega, by rw [← hp]; exact hinv⟩
            · first
            | (first | omega | contradiction)
            | refine S.o q.mv (S.o q.mv (S.o q.mul (S.o q.gtr (S.bd q.mv (fun c12 => ?_) (fun c12 => ?_)))))
              · first
              | (first | omega | contradiction)
              | refine S.o q.mv (S.o q.leq (S.o q.pt (S.o q.pf (S.bd q.mv (fun c13 => ?_) (fun c13 => ?_)))))
                · first
                | (first | omega | contradiction)
                | refine S.sk (S.sk (S.o q.pt (S.end (hK _ ?_))))
                  clear hK K
                  refine Ev.ct ?_
                  refine Ev.sr fun K hK => S.o q.as (S.end (hK _ ?_))
                  clear hK K
                  refine Ev.ret ?_
                  refine hR0 _ _ ?_
                  refine Ev.ret1 ?_
                  refine ⟨?_, rfl⟩
                  first
                   | exact bF (fun h => by have h1 := h.1; omega)
                   | exact bF (fun h => by have h1 := h.2 s (by rw [← hp]; simp); omega)
                   | exact bT ⟨by omega, by rw [← hp]; exact hinv⟩
                · first
                | (first | omega | contradiction)
                | refine S.o q.mv (S.o q.gtr (S.o q.pf (S.end (hK _ ?_))))
                  clear hK K
                  refine Ev.cd (fun c14 => ?_) (fun c14 => ?_)
                  · first
                  | (first | omega | contradiction)
                  | refine Ev.sr fun K hK => S.o q.as (S.end (hK _ ?_))
                    clear hK K
                    refine Ev.ret ?_
                    refine hR0 _ _ ?_
                    refine Ev.ret1 ?_
                    refine ⟨?_, rfl⟩
                    first
                     | exact bF (fun h => by have h1 := h.1; omega)
                     | exact bF (fun h => by have h1 := h.2 s (by rw [← hp]; simp); omega)
                     | exact bT ⟨by omega, by rw [← hp]; exact hinv⟩
                  · first
                  | (first | omega | contradiction)
                  | refine Ev.skip ?_
                    show Ev _ _ _ _
                    refine Ev.region_S fun K hK => S.o q.mv (S.o q.add (S.o q.as (S.end (hK _ ?_))))
                    clear hK K
                    refine hR0 _ _ ?_
                    refine roundU [] [0, 1] ⟨(pre ++ [s], suf), by rw [← hp]; simp, ?_⟩ ?_ keep_n (slots_c (he := (by first | rfl | (simp; done) | (congr 2; omega))) (h := trivial)) (.c (.c .n))
                    intro x hx; simp only [List.mem_append, List.mem_singleton] at hx; rcases hx with hx | rfl
                    · exact hinv x hx
                    · omega
                    all_goals (dsimp only; simp only [List.length_cons]; omega)
              · first
              | (first | omega | contradiction)
              | refine S.sk (S.sk (S.o q.pf (S.o q.pf (S.o q.mv (S.o q.mv (S.o q.gtr (S.o q.pf (S.end (hK _ ?_)))))))))
                clear hK K
                refine Ev.cd (fun c15 => ?_) (fun c15 => ?_)
                · first
                | (first | omega | contradiction)
                | refine Ev.sr fun K hK => S.o q.as (S.end (hK _ ?_))
                  clear hK K
                  refine Ev.ret ?_
                  refine hR0 _ _ ?_
                  refine Ev.ret1 ?_
                  refine ⟨?_, rfl⟩
                  first
                   | exact bF (fun h => by have h1 := h.1; omega)
                   | exact bF (fun h => by have h1 := h.2 s (by rw [← hp]; simp); omega)
                   | exact bT ⟨by omega, by rw [← hp]; exact hinv⟩
                · first
                | (first | omega | contradiction)
                | refine Ev.skip ?_
                  show Ev _ _ _ _
                  refine Ev.region_S fun K hK => S.o q.mv (S.o q.add (S.o q.as (S.end (hK _ ?_))))
                  clear hK K
                  refine hR0 _ _ ?_
                  refine roundU [] [0, 1] ⟨(pre ++ [s], suf), by rw [← hp]; simp, ?_⟩ ?_ keep_n (slots_c (he := (by first | rfl | (simp; done) | (congr 2; omega))) (h := trivial)) (.c (.c .n))
                  intro x hx; simp only [List.mem_append, List.mem_singleton] at hx; rcases hx with hx | rfl
                  · exact hinv x hx
                  · omega
                  all_goals (dsimp only; simp only [List.length_cons]; omega)
          · first
          | (first | omega | contradiction)
          | refine Ev.exit ?_
            refine hR0 _ _ ?_
            show Ev _ _ _ _
            refine Ev.sr fun K hK => S.o q.as (S.end (hK _ ?_))
            clear hK K
            refine Ev.ret ?_
            refine Ev.ret1 ?_
            refine ⟨?_, rfl⟩
            first
             | exact bF (fun h => by have h1 := h.1; omega)
             | exact bF (fun h => by have h1 := h.2 s (by rw [← hp]; simp); omega)
             | exact bT ⟨by omega, by rw [← hp]; exact hinv⟩
  · first
  | (first | omega | contradiction)
  | refine S.sk (S.sk (S.sk (S.o q.pf (S.o q.mv (S.o q.mv (S.o (q.lens am_el22) (S.o q.gtr (S.o q.pf (S.end (hK _ ?_))))))))))
    clear hK K
    refine Ev.cd (fun c16 => ?_) (fun c16 => ?_)
    · first
    | (first | omega | contradiction)
    | refine Ev.sr fun K hK => S.o q.as (S.end (hK _ ?_))
      clear hK K
      refine Ev.ret ?_
      refine Ev.ret1 ?_
      refine ⟨?_, rfl⟩
      first
       | exact bF (fun h => by have h1 := h.1; omega)
       | exact bF (fun h => by have h1 := h.2 s (by rw [← hp]; simp); omega)
       | exact bT ⟨by omega, by rw [← hp]; exact hinv⟩
    · first
    | (first | omega | contradiction)
    | refine Ev.skip ?_
      show Ev _ _ _ _
      refine Ev.seq ?_
      refine Ev.sr fun K hK => S.o q.as (S.end (hK _ ?_))
      clear hK K
      refine Ev.block ?_
      refine Ev.loopU (ι := {q : List Dem × List Dem // q.1 ++ q.2 = l ∧ ∀ d ∈ q.1, ¬ (d.name.length > 60 ∨ (d.steps.length : Int) > 2 * most ∧ d.steps.length ≤ 200 ∨ d.steps.length > 205)}) [] [0, 1] (fun ⟨(pre, suf), _⟩ => [(5, .lit (.int .i64 ((pre.length : Int))))]) (fun ⟨(pre, suf), _⟩ => []) (fun ⟨(pre, suf), _⟩ => suf.length) ⟨([], l), rfl, fun x hx => by simp at hx⟩ (.c (.c .n)) keep_n (slots_c (he := (by first | rfl | (simp; done) | (congr 2; omega))) (h := trivial)) ?_
      rintro ⟨⟨pre, suf⟩, hp, hinv⟩ R0 hR0
      dsimp only [List.cons_append, List.nil_append, List.length_cons, List.length_nil]
      simp only at hp hinv
      have hpl : pre.length + suf.length = (l).length := by rw [← hp, List.length_append]
      rcases suf with _ | ⟨s, suf⟩
      · rw [List.append_nil] at hp; simp only [List.length_nil] at hpl
        refine Ev.seq ?_
        refine Ev.sr fun K hK => S.o q.mv (S.o q.mv (S.o (q.lens am_el22) (S.o q.lss (S.end (hK _ ?_)))))
        clear hK K
        refine Ev.cd (fun c17 => ?_) (fun c17 => ?_)
        · first
        | (first | omega | contradiction)
        | refine Ev.skip ?_
          show Ev _ _ _ _
          refine Ev.seq ?_
          refine Ev.block ?_
          refine Ev.sr fun K hK => S.o q.mv (S.o q.mv (S.o (q.ix am_el22 am_cl48 (hl := (by first | exact atig (by omega)))) (S.o (q.fs 7 am_fi48_2 am_cl29) (S.o (q.ls am_ag29) (S.o (q.lens am_el29) (S.o q.as (S.end (hK _ ?_))))))))
          clear hK K
          refine Ev.sr fun K hK => S.o q.mv (S.o q.mv (S.o (q.ix am_el22 am_cl48 (hl := (by first | exact atig (by omega)))) (S.o (q.fs 0 am_fi48_0 am_cl9) (S.o (q.ls am_ag9) (S.o (q.slen am_el9 am_un9) (S.o q.gtr (S.bd q.mv (fun c18 => ?_) (fun c18 => ?_))))))))
          · first
          | (first | omega | contradiction)
          | refine S.sk (S.sk (S.sk (S.sk (S.sk (S.sk (S.sk (S.sk (S.o q.pt (S.o q.mv (S.sk (S.sk (S.o q.pt (S.end (hK _ ?_))))))))))))))
            clear hK K
            refine Ev.ct ?_
            refine Ev.sr fun K hK => S.o q.as (S.end (hK _ ?_))
            clear hK K
            refine Ev.ret ?_
            refine hR0 _ _ ?_
            refine Ev.ret1 ?_
            refine ⟨?_, rfl⟩
            first
             | exact bF (fun h => by have h1 := h.1; omega)
             | exact bF (fun h => by have h1 := h.2 s (by rw [← hp]; simp); omega)
             | exact bT ⟨by omega, by rw [← hp]; exact hinv⟩
          · first
          | (first | omega | contradiction)
          | refine S.o q.mv (S.o q.mv (S.o q.mul (S.o q.gtr (S.bd q.mv (fun c19 => ?_) (fun c19 => ?_)))))
            · first
            | (first | omega | contradiction)
            | refine S.o q.mv (S.o q.leq (S.o q.pt (S.o q.pf (S.bd q.mv (fun c20 => ?_) (fun c20 => ?_)))))
              · first
              | (first | omega | contradiction)
              | refine S.sk (S.sk (S.o q.pt (S.end (hK _ ?_))))
                clear hK K
                refine Ev.ct ?_
                refine Ev.sr fun K hK => S.o q.as (S.end (hK _ ?_))
                clear hK K
                refine Ev.ret ?_
                refine hR0 _ _ ?_
                refine Ev.ret1 ?_
                refine ⟨?_, rfl⟩
                first
                 | exact bF (fun h => by have h1 := h.1; omega)
                 | exact bF (fun h => by have h1 := h.2 s (by rw [← hp]; simp); omega)
                 | exact bT ⟨by omega, by rw [← hp]; exact hinv⟩
              · first
              | (first | omega | contradiction)
              | refine S.o q.mv (S.o q.gtr (S.o q.pf (S.end (hK _ ?_))))
                clear hK K
                refine Ev.cd (fun c21 => ?_) (fun c21 => ?_)
                · first
                | (first | omega | contradiction)
                | refine Ev.sr fun K hK => S.o q.as (S.end (hK _ ?_))
                  clear hK K
                  refine Ev.ret ?_
                  refine hR0 _ _ ?_
                  refine Ev.ret1 ?_
                  refine ⟨?_, rfl⟩
                  first
                   | exact bF (fun h => by have h1 := h.1; omega)
                   | exact bF (fun h => by have h1 := h.2 s (by rw [← hp]; simp); omega)
                   | exact bT ⟨by omega, by rw [← hp]; exact hinv⟩
                · first
                | (first | omega | contradiction)
                | refine Ev.skip ?_
                  show Ev _ _ _ _
                  refine Ev.region_S fun K hK => S.o q.mv (S.o q.add (S.o q.as (S.end (hK _ ?_))))
                  clear hK K
                  refine hR0 _ _ ?_
                  refine roundU [] [0, 1] ⟨(pre ++ [s], suf), by rw [← hp]; simp, ?_⟩ ?_ keep_n (slots_c (he := (by first | rfl | (simp; done) | (congr 2; omega))) (h := trivial)) (.c (.c .n))
                  intro x hx; simp only [List.mem_append, List.mem_singleton] at hx; rcases hx with hx | rfl
                  · exact hinv x hx
                  · omega
                  all_goals (dsimp only; simp only [List.length_cons]; omega)
            · first
            | (first | omega | contradiction)
            | refine S.sk (S.sk (S.o q.pf (S.o q.pf (S.o q.mv (S.o q.mv (S.o q.gtr (S.o q.pf (S.end (hK _ ?_)))))))))
              clear hK K
              refine Ev.cd (fun c22 => ?_) (fun c22 => ?_)
              · first
              | (first | omega | contradiction)
              | refine Ev.sr fun K hK => S.o q.as (S.end (hK _ ?_))
                clear hK K
                refine Ev.ret ?_
                refine hR0 _ _ ?_
                refine Ev.ret1 ?_
                refine ⟨?_, rfl⟩
                first
                 | exact bF (fun h => by have h1 := h.1; omega)
                 | exact bF (fun h => by have h1 := h.2 s (by rw [← hp]; simp); omega)
                 | exact bT ⟨by omega, by rw [← hp]; exact hinv⟩
              · first
              | (first | omega | contradiction)
              | refine Ev.skip ?_
                show Ev _ _ _ _
                refine Ev.region_S fun K hK => S.o q.mv (S.o q.add (S.o q.as (S.end (hK _ ?_))))
                clear hK K
                refine hR0 _ _ ?_
                refine roundU [] [0, 1] ⟨(pre ++ [s], suf), by rw [← hp]; simp, ?_⟩ ?_ keep_n (slots_c (he := (by first | rfl | (simp; done) | (congr 2; omega))) (h := trivial)) (.c (.c .n))
                intro x hx; simp only [List.mem_append, List.mem_singleton] at hx; rcases hx with hx | rfl
                · exact hinv x hx
                · omega
                all_goals (dsimp only; simp only [List.length_cons]; omega)
        · first
        | (first | omega | contradiction)
        | refine Ev.exit ?_
          refine hR0 _ _ ?_
          show Ev _ _ _ _
          refine Ev.sr fun K hK => S.o q.as (S.end (hK _ ?_))
          clear hK K
          refine Ev.ret ?_
          refine Ev.ret1 ?_
          refine ⟨?_, rfl⟩
          first
           | exact bF (fun h => by have h1 := h.1; omega)
           | exact bF (fun h => by have h1 := h.2 s (by rw [← hp]; simp); omega)
           | exact bT ⟨by omega, by rw [← hp]; exact hinv⟩
      · simp only [List.length_cons] at hpl
        have hidx : l[pre.length]? = some s := by rw [← hp]; simp
        refine Ev.seq ?_
        refine Ev.sr fun K hK => S.o q.mv (S.o q.mv (S.o (q.lens am_el22) (S.o q.lss (S.end (hK _ ?_)))))
        clear hK K
        refine Ev.cd (fun c23 => ?_) (fun c23 => ?_)
        · first
        | (first | omega | contradiction)
        | refine Ev.skip ?_
          show Ev _ _ _ _
          refine Ev.seq ?_
          refine Ev.block ?_
          refine Ev.sr fun K hK => S.o q.mv (S.o q.mv (S.o (q.ix am_el22 am_cl48 (hl := (by first | exact ati hidx (by omega) | exact atig (by omega)))) (S.o (q.fs 7 am_fi48_2 am_cl29) (S.o (q.ls am_ag29) (S.o (q.lens am_el29) (S.o q.as (S.end (hK _ ?_))))))))
          clear hK K
          refine Ev.sr fun K hK => S.o q.mv (S.o q.mv (S.o (q.ix am_el22 am_cl48 (hl := (by first | exact ati hidx (by omega) | exact atig (by omega)))) (S.o (q.fs 0 am_fi48_0 am_cl9) (S.o (q.ls am_ag9) (S.o (q.slen am_el9 am_un9) (S.o q.gtr (S.bd q.mv (fun c24 => ?_) (fun c24 => ?_))))))))
          · first
          | (first | omega | contradiction)
          | refine S.sk (S.sk (S.sk (S.sk (S.sk (S.sk (S.sk (S.sk (S.o q.pt (S.o q.mv (S.sk (S.sk (S.o q.pt (S.end (hK _ ?_))))))))))))))
            clear hK K
            refine Ev.ct ?_
            refine Ev.sr fun K hK => S.o q.as (S.end (hK _ ?_))
            clear hK K
            refine Ev.ret ?_
            refine hR0 _ _ ?_
            refine Ev.ret1 ?_
            refine ⟨?_, rfl⟩
            first
             | exact bF (fun h => by have h1 := h.1; omega)
             | exact bF (fun h => by have h1 := h.2 s (by rw [← hp]; simp); omega)
             | exact bT ⟨by omega, by rw [← hp]; exact hinv⟩
          · first
          | (first | omega | contradiction)
          | refine S.o q.mv (S.o q.mv (S.o q.mul (S.o q.gtr (S.bd q.mv (fun c25 => ?_) (fun c25 => ?_)))))
            · first
            | (first | omega | contradiction)
            | refine S.o q.mv (S.o q.leq (S.o q.pt (S.o q.pf (S.bd q.mv (fun c26 => ?_) (fun c26 => ?_)))))
              · first
              | (first | omega | contradiction)
              | refine S.sk (S.sk (S.o q.pt (S.end (hK _ ?_))))
                clear hK K
                refine Ev.ct ?_
                refine Ev.sr fun K hK => S.o q.as (S.end (hK _ ?_))
                clear hK K
                refine Ev.ret ?_
                refine hR0 _ _ ?_
                refine Ev.ret1 ?_
                refine ⟨?_, rfl⟩
                first
                 | exact bF (fun h => by have h1 := h.1; omega)
                 | exact bF (fun h => by have h1 := h.2 s (by rw [← hp]; simp); omega)
                 | exact bT ⟨by omega, by rw [← hp]; exact hinv⟩
              · first
              | (first | omega | contradiction)
              | refine S.o q.mv (S.o q.gtr (S.o q.pf (S.end (hK _ ?_))))
                clear hK K
                refine Ev.cd (fun c27 => ?_) (fun c27 => ?_)
                · first
                | (first | omega | contradiction)
                | refine Ev.sr fun K hK => S.o q.as (S.end (hK _ ?_))
                  clear hK K
                  refine Ev.ret ?_
                  refine hR0 _ _ ?_
                  refine Ev.ret1 ?_
                  refine ⟨?_, rfl⟩
                  first
                   | exact bF (fun h => by have h1 := h.1; omega)
                   | exact bF (fun h => by have h1 := h.2 s (by rw [← hp]; simp); omega)
                   | exact bT ⟨by omega, by rw [← hp]; exact hinv⟩
                · first
                | (first | omega | contradiction)
                | refine Ev.skip ?_
                  show Ev _ _ _ _
                  refine Ev.region_S fun K hK => S.o q.mv (S.o q.add (S.o q.as (S.end (hK _ ?_))))
                  clear hK K
                  refine hR0 _ _ ?_
                  refine roundU [] [0, 1] ⟨(pre ++ [s], suf), by rw [← hp]; simp, ?_⟩ ?_ keep_n (slots_c (he := (by first | rfl | (simp; done) | (congr 2; omega))) (h := trivial)) (.c (.c .n))
                  intro x hx; simp only [List.mem_append, List.mem_singleton] at hx; rcases hx with hx | rfl
                  · exact hinv x hx
                  · omega
                  all_goals (dsimp only; simp only [List.length_cons]; omega)
            · first
            | (first | omega | contradiction)
            | refine S.sk (S.sk (S.o q.pf (S.o q.pf (S.o q.mv (S.o q.mv (S.o q.gtr (S.o q.pf (S.end (hK _ ?_)))))))))
              clear hK K
              refine Ev.cd (fun c28 => ?_) (fun c28 => ?_)
              · first
              | (first | omega | contradiction)
              | refine Ev.sr fun K hK => S.o q.as (S.end (hK _ ?_))
                clear hK K
                refine Ev.ret ?_
                refine hR0 _ _ ?_
                refine Ev.ret1 ?_
                refine ⟨?_, rfl⟩
                first
                 | exact bF (fun h => by have h1 := h.1; omega)
                 | exact bF (fun h => by have h1 := h.2 s (by rw [← hp]; simp); omega)
                 | exact bT ⟨by omega, by rw [← hp]; exact hinv⟩
              · first
              | (first | omega | contradiction)
              | refine Ev.skip ?_
                show Ev _ _ _ _
                refine Ev.region_S fun K hK => S.o q.mv (S.o q.add (S.o q.as (S.end (hK _ ?_))))
                clear hK K
                refine hR0 _ _ ?_
                refine roundU [] [0, 1] ⟨(pre ++ [s], suf), by rw [← hp]; simp, ?_⟩ ?_ keep_n (slots_c (he := (by first | rfl | (simp; done) | (congr 2; omega))) (h := trivial)) (.c (.c .n))
                intro x hx; simp only [List.mem_append, List.mem_singleton] at hx; rcases hx with hx | rfl
                · exact hinv x hx
                · omega
                all_goals (dsimp only; simp only [List.length_cons]; omega)
        · first
        | (first | omega | contradiction)
        | refine Ev.exit ?_
          refine hR0 _ _ ?_
          show Ev _ _ _ _
          refine Ev.sr fun K hK => S.o q.as (S.end (hK _ ?_))
          clear hK K
          refine Ev.ret ?_
          refine Ev.ret1 ?_
          refine ⟨?_, rfl⟩
          first
           | exact bF (fun h => by have h1 := h.1; omega)
           | exact bF (fun h => by have h1 := h.2 s (by rw [← hp]; simp); omega)
           | exact bT ⟨by omega, by rw [← hp]; exact hinv⟩
theorem small_fun (l : List Dem) (hlen : l.length ≤ 140737488355328) : Fun Tryd.prog 6 [.sh 8 (l.map Dem.c)] (Ret (.lit (.bool (decide (smD l 8)))) []) := by
  refine Fun.of (nt := 5) (rs := [.tmp 2]) Tryd.func6 rfl rfl rfl rfl rfl ?_
  refine Ev.sr fun K hK => S.o q.as (S.end (hK _ ?_))
  clear hK K
  refine Ev.sr fun K hK => S.o q.mv (S.c0 (hF := smD_fun _ _ (by decide) (by decide) (by omega)) (h := S.o q.as (S.end (hK _ ?_))))
  clear hK K
  refine Ev.ret ?_
  refine Ev.ret1 ?_
  refine ⟨?_, rfl⟩
  rfl
end Go.Proofs.YtdegjlhcchimbaaDoor
