/-
  Layer 41: the reference, part 1.
  Conditions: none.
-/
import Derived.Test.YtccddakkegelkaaRev7
namespace Go.Proofs.Ytccddakkegelkaa
open Go Go.AM
set_option linter.unusedSimpArgs false
set_option linter.unusedVariables false
set_option maxRecDepth 100000
set_option maxHeartbeats 1000000

theorem rFind41_fun (l : List Chg) (mk : List UInt8) (hlen : l.length ≤ 140737488355328) : Fun Try.prog 56 [.sh 2 (l.map findC), .lit (str mk)] (Ret (.lit (.int .i64 (chgI l mk))) []) := by
  unfold chgI
  refine Fun.of (nt := 20) (rs := [.tmp 4]) Try.func56 rfl rfl rfl rfl rfl ?_
  refine Ev.sr fun K hK => S.o q.as (S.end (hK _ ?_))
  clear hK K
  refine Ev.seq ?_
  refine Ev.sr fun K hK => S.o q.as (S.end (hK _ ?_))
  clear hK K
  refine Ev.block ?_
  refine Ev.loopU (ι := {q : List Chg × List Chg // q.1 ++ q.2 = l ∧ ∀ x ∈ q.1, decide (x.2 = mk) = false}) [] [0, 1] (fun ⟨(pre, suf), _⟩ => [(5, .lit (.int .i64 ((pre.length : Int))))]) (fun ⟨(pre, suf), _⟩ => []) (fun ⟨(pre, suf), _⟩ => suf.length) ⟨([], l), rfl, fun x hx => by simp at hx⟩ (.c (.c .n)) keep_n (slots_c (he := (by first | rfl | (simp; done) | (congr 2; omega))) (h := trivial)) ?_
  rintro ⟨⟨pre, suf⟩, hp, hinv⟩ R0 hR0
  dsimp only [List.cons_append, List.nil_append, List.length_cons, List.length_nil]
  simp only at hp hinv
  have hpl : pre.length + suf.length = (l).length := by rw [← hp, List.length_append]
  rcases suf with _ | ⟨s, suf⟩
  · rw [List.append_nil] at hp; subst hp; simp only [List.length_nil] at hpl
    refine Ev.seq ?_
    refine Ev.sr fun K hK => S.o q.mv (S.o q.mv (S.o (q.lens am_el25) (S.o q.lss (S.end (hK _ ?_)))))
    clear hK K
    refine Ev.cd (fun c1 => ?_) (fun c1 => ?_)
    · first
    | (first | omega | contradiction)
    | refine Ev.skip ?_
      show Ev _ _ _ _
      refine Ev.seq ?_
      refine Ev.block ?_
      refine Ev.sr fun K hK => S.o q.mv (S.o q.mv (S.o (q.ix am_el25 am_cl36 (hl := (by first | exact atig (by omega)))) (S.o (q.fs 1 am_fi36_1 am_cl9) (S.o (q.ls am_ag9) (S.o q.mv (S.o q.seqs (S.end (hK _ ?_))))))))
      clear hK K
      refine Ev.cd (fun c2 => ?_) (fun c2 => ?_)
      · first
      | (first | omega | contradiction)
      | refine Ev.sr fun K hK => S.o q.mv (S.o q.as (S.end (hK _ ?_)))
        clear hK K
        refine Ev.ret ?_
        refine hR0 _ _ ?_
        refine Ev.ret1 ?_
        refine ⟨?_, rfl⟩
        first | (congr 2; rw [← hp, idxP_append _ pre _ 0 hinv, idxP, if_pos (decide_eq_true ‹_›)]; omega) | (congr 2; rw [idxP_none _ pre 0 hinv])
      · first
      | (first | omega | contradiction)
      | refine Ev.skip ?_
        show Ev _ _ _ _
        refine Ev.region_S fun K hK => S.o q.mv (S.o q.add (S.o q.as (S.end (hK _ ?_))))
        clear hK K
        refine hR0 _ _ ?_
        refine roundU [] [0, 1] ⟨(pre ++ [s], suf), by rw [← hp]; simp, ?_⟩ ?_ keep_n (slots_c (he := (by first | rfl | (simp; done) | (congr 2; omega))) (h := trivial)) (.c (.c .n))
        intro x hx; simp only [List.mem_append, List.mem_singleton] at hx; rcases hx with hx | rfl
        · exact hinv x hx
        · exact decide_eq_false ‹_›
        all_goals (dsimp only; simp only [List.length_cons]; omega)
    · first
    | (first | omega | contradiction)
    | refine Ev.exit ?_
      refine hR0 _ _ ?_
      show Ev _ _ _ _
      refine Ev.sr fun K hK => S.o q.as (S.end (hK _ ?_))
      clear hK K
      refine Ev.ret ?_
      refine Ev.ret1 ?_
      refine ⟨?_, rfl⟩
      first | (congr 2; rw [← hp, idxP_append _ pre _ 0 hinv, idxP, if_pos (decide_eq_true ‹_›)]; omega) | (congr 2; rw [idxP_none _ pre 0 hinv])
  · simp only [List.length_cons] at hpl
    have hidx : (l)[pre.length]? = some s := by rw [← hp]; simp
    refine Ev.seq ?_
    refine Ev.sr fun K hK => S.o q.mv (S.o q.mv (S.o (q.lens am_el25) (S.o q.lss (S.end (hK _ ?_)))))
    clear hK K
    refine Ev.cd (fun c3 => ?_) (fun c3 => ?_)
    · first
    | (first | omega | contradiction)
    | refine Ev.skip ?_
      show Ev _ _ _ _
      refine Ev.seq ?_
      refine Ev.block ?_
      refine Ev.sr fun K hK => S.o q.mv (S.o q.mv (S.o (q.ix am_el25 am_cl36 (hl := (by first | exact ati hidx (by omega) | exact atig (by omega)))) (S.o (q.fs 1 am_fi36_1 am_cl9) (S.o (q.ls am_ag9) (S.o q.mv (S.o q.seqs (S.end (hK _ ?_))))))))
      clear hK K
      refine Ev.cd (fun c4 => ?_) (fun c4 => ?_)
      · first
      | (first | omega | contradiction)
      | refine Ev.sr fun K hK => S.o q.mv (S.o q.as (S.end (hK _ ?_)))
        clear hK K
        refine Ev.ret ?_
        refine hR0 _ _ ?_
        refine Ev.ret1 ?_
        refine ⟨?_, rfl⟩
        first | (congr 2; rw [← hp, idxP_append _ pre _ 0 hinv, idxP, if_pos (decide_eq_true ‹_›)]; omega) | (congr 2; rw [idxP_none _ pre 0 hinv])
      · first
      | (first | omega | contradiction)
      | refine Ev.skip ?_
        show Ev _ _ _ _
        refine Ev.region_S fun K hK => S.o q.mv (S.o q.add (S.o q.as (S.end (hK _ ?_))))
        clear hK K
        refine hR0 _ _ ?_
        refine roundU [] [0, 1] ⟨(pre ++ [s], suf), by rw [← hp]; simp, ?_⟩ ?_ keep_n (slots_c (he := (by first | rfl | (simp; done) | (congr 2; omega))) (h := trivial)) (.c (.c .n))
        intro x hx; simp only [List.mem_append, List.mem_singleton] at hx; rcases hx with hx | rfl
        · exact hinv x hx
        · exact decide_eq_false ‹_›
        all_goals (dsimp only; simp only [List.length_cons]; omega)
    · first
    | (first | omega | contradiction)
    | refine Ev.exit ?_
      refine hR0 _ _ ?_
      show Ev _ _ _ _
      refine Ev.sr fun K hK => S.o q.as (S.end (hK _ ?_))
      clear hK K
      refine Ev.ret ?_
      refine Ev.ret1 ?_
      refine ⟨?_, rfl⟩
      first | (congr 2; rw [← hp, idxP_append _ pre _ 0 hinv, idxP, if_pos (decide_eq_true ‹_›)]; omega) | (congr 2; rw [idxP_none _ pre 0 hinv])

theorem chgI_at {pre suf l : List Chg} {s : Chg} (hp : pre ++ s :: suf = l) : chgI l s.2 = pre.length ↔ ∀ a ∈ pre, a.2 ≠ s.2 := by
  constructor
  · intro h a ha hm
    obtain ⟨p1, p2, rfl⟩ := List.append_of_mem ha
    have hle : chgI l s.2 ≤ p1.length := by
      rw [← hp, chgI, List.append_assoc]
      have : ∀ (q : List Chg) (k : Int) (r : List Chg), a.2 = s.2 → idxP (fun b : Chg => decide (b.2 = s.2)) (q ++ a :: r) k ≤ k + q.length := by
        intro q
        induction q with
        | nil => intro k r hm; rw [List.nil_append, idxP, if_pos (by simp [hm])]; simp
        | cons x q ih =>
          intro k r hm
          rw [List.cons_append, idxP]
          split
          · simp only [List.length_cons]; omega
          · have := ih (k + 1) r hm
            simp only [List.length_cons]; omega
      have := this p1 0 (p2 ++ s :: suf) hm
      simpa using this
    rw [h] at hle
    simp only [List.length_append, List.length_cons] at hle
    omega
  · intro h
    rw [chgI, ← hp, idxP_append _ pre _ 0 (fun a ha => by simp [h a ha]), idxP, if_pos (by simp)]
    omega
theorem chg_no {l : List Chg} {mk : List UInt8} (h : chgI l mk < 0) : ofK l mk = 0 := ofK_none l 0 (Int.le_refl _) h
theorem chg_of {l : List Chg} {mk : List UInt8} (hok : ∀ c ∈ l, okChg c) (h : 0 ≤ chgI l mk) : l[(chgI l mk).toNat]? = some (ofK l mk, mk) ∧ 1 ≤ ofK l mk ∧ ofK l mk ≤ 4 := by
  obtain ⟨_, h2⟩ := ofK_some (mk := mk) l 0 (Int.le_refl _) h
  rw [Int.sub_zero] at h2
  have h3 := hok _ (List.mem_of_getElem? h2)
  exact ⟨h2, h3.1, h3.2.1⟩
theorem chg_in {l : List Chg} {mk : List UInt8} (h : ofK l mk ≠ 0) : 0 ≤ chgI l mk := by
  rcases Int.lt_or_le (chgI l mk) 0 with h1 | h1
  · exact absurd (chg_no h1) h
  · exact h1
theorem rchgValid_fun (l : List Chg) (hlen : l.length ≤ 140737488355328) (hw : chgW l) : Fun Try.prog 23 [.sh 2 (l.map findC)] (Ret (.lit (.bool (decide (okChgs l)))) []) := by
  refine Fun.of (nt := 47) (rs := [.tmp 2]) Try.func23 rfl rfl rfl rfl rfl ?_
  refine Ev.sr fun K hK => S.o q.as (S.end (hK _ ?_))
  clear hK K
  refine Ev.seq ?_
  refine Ev.sr fun K hK => S.o q.mv (S.o (q.lens am_el25) (S.o q.gtr (S.end (hK _ ?_))))
  clear hK K
  refine Ev.cd (fun c1 => ?_) (fun c1 => ?_)
  · first
  | (first | omega | contradiction)
  | refine Ev.sr fun K hK => S.o q.as (S.end (hK _ ?_))
    clear hK K
    refine Ev.ret ?_
    refine Ev.ret1 ?_
    refine ⟨?_, rfl⟩
    first
     | exact bF (fun h => by have h1 := h.1; omega)
     | exact bF (fun h => by have h1 := (chg_cut hp h).1.1; have h2 := (chg_cut hp h).1.2.1; omega)
     | exact bF (fun h => absurd (chg_cut hp h).1.2.2 ‹_›)
     | exact bF (fun h => by have h1 := (chgI_at hp).2 (chg_cut hp h).2; omega)
     | exact bT ⟨by omega, by rw [← hp]; exact hinv⟩
  · first
  | (first | omega | contradiction)
  | refine Ev.skip ?_
    show Ev _ _ _ _
    refine Ev.seq ?_
    refine Ev.sr fun K hK => S.o q.as (S.end (hK _ ?_))
    clear hK K
    refine Ev.block ?_
    refine Ev.loopU (ι := {q : List Chg × List Chg // q.1 ++ q.2 = l ∧ (∀ c ∈ q.1, okChg c) ∧ q.1.Pairwise (fun a b => a.2 ≠ b.2)}) [] [0] (fun ⟨(pre, suf), _⟩ => [(3, .lit (.int .i64 ((pre.length : Int))))]) (fun ⟨(pre, suf), _⟩ => []) (fun ⟨(pre, suf), _⟩ => suf.length) ⟨([], l), rfl, ⟨fun b hb => by simp at hb, by simp⟩⟩ (.c .n) keep_n (slots_c (he := (by first | rfl | (simp; done) | (congr 2; omega))) (h := trivial)) ?_
    rintro ⟨⟨pre, suf⟩, hp, hinv⟩ R0 hR0
    dsimp only [List.cons_append, List.nil_append, List.length_cons, List.length_nil]
    simp only at hp hinv
    have hpl : pre.length + suf.length = (l).length := by rw [← hp, List.length_append]
    rcases suf with _ | ⟨s, suf⟩
    · rw [List.append_nil] at hp; simp only [List.length_nil] at hpl
      refine Ev.seq ?_
      refine Ev.sr fun K hK => S.o q.mv (S.o q.mv (S.o (q.lens am_el25) (S.o q.lss (S.end (hK _ ?_)))))
      clear hK K
      refine Ev.cd (fun c2 => ?_) (fun c2 => ?_)
      · first
      | (first | omega | contradiction)
      | refine Ev.skip ?_
        show Ev _ _ _ _
        refine Ev.seq ?_
        refine Ev.block ?_
        refine Ev.sr fun K hK => S.o q.mv (S.o q.mv (S.o (q.ix am_el25 am_cl36 (hl := (by first | exact atig (by omega)))) (S.o (q.fs 0 am_fi36_0 am_cl3) (S.o (q.ls am_ag3) (S.o q.lss (S.bd q.mv (fun c3 => ?_) (fun c3 => ?_)))))))
        · first
        | (first | omega | contradiction)
        | refine S.sk (S.sk (S.sk (S.sk (S.sk (S.sk (S.o q.pt (S.o q.mv (S.sk (S.sk (S.sk (S.sk (S.sk (S.sk (S.sk (S.o q.pt (S.o q.mv (S.sk (S.sk (S.sk (S.sk (S.sk (S.sk (S.sk (S.sk (S.sk (S.o q.pt (S.end (hK _ ?_))))))))))))))))))))))))))))
          clear hK K
          refine Ev.ct ?_
          refine Ev.sr fun K hK => S.o q.as (S.end (hK _ ?_))
          clear hK K
          refine Ev.ret ?_
          refine hR0 _ _ ?_
          refine Ev.ret1 ?_
          refine ⟨?_, rfl⟩
          first
           | exact bF (fun h => by have h1 := h.1; omega)
           | exact bF (fun h => by have h1 := (chg_cut hp h).1.1; have h2 := (chg_cut hp h).1.2.1; omega)
           | exact bF (fun h => absurd (chg_cut hp h).1.2.2 ‹_›)
           | exact bF (fun h => by have h1 := (chgI_at hp).2 (chg_cut hp h).2; omega)
           | exact bT ⟨by omega, by rw [← hp]; exact hinv⟩
        · first
        | (first | omega | contradiction)
        | refine S.o q.mv (S.o q.mv (S.o (q.ix am_el25 am_cl36 (hl := (by first | exact atig (by omega)))) (S.o (q.fs 0 am_fi36_0 am_cl3) (S.o (q.ls am_ag3) (S.o q.gtr (S.o q.pf (S.bd q.mv (fun c4 => ?_) (fun c4 => ?_))))))))
          · first
          | (first | omega | contradiction)
          | refine S.sk (S.sk (S.sk (S.sk (S.sk (S.sk (S.sk (S.o q.pt (S.o q.mv (S.sk (S.sk (S.sk (S.sk (S.sk (S.sk (S.sk (S.sk (S.sk (S.o q.pt (S.end (hK _ ?_))))))))))))))))))))
            clear hK K
            refine Ev.ct ?_
            refine Ev.sr fun K hK => S.o q.as (S.end (hK _ ?_))
            clear hK K
            refine Ev.ret ?_
            refine hR0 _ _ ?_
            refine Ev.ret1 ?_
            refine ⟨?_, rfl⟩
            first
             | exact bF (fun h => by have h1 := h.1; omega)
             | exact bF (fun h => by have h1 := (chg_cut hp h).1.1; have h2 := (chg_cut hp h).1.2.1; omega)
             | exact bF (fun h => absurd (chg_cut hp h).1.2.2 ‹_›)
             | exact bF (fun h => by have h1 := (chgI_at hp).2 (chg_cut hp h).2; omega)
             | exact bT ⟨by omega, by rw [← hp]; exact hinv⟩
          · first
          | (first | omega | contradiction)
          | refine S.o q.mv (S.o q.mv (S.o (q.ix am_el25 am_cl36 (hl := (by first | exact atig (by omega)))) (S.o (q.fs 1 am_fi36_1 am_cl9) (S.o (q.ls am_ag9) (S.c0 (hF := risName_fun _ (by omega)) (h := S.o q.not (S.o q.pf (S.bn q.mv (fun c5 => ?_) (fun c5 => ?_)))))))))
            · first
            | (first | omega | contradiction)
            | refine S.sk (S.sk (S.sk (S.sk (S.sk (S.sk (S.sk (S.sk (S.sk (S.o q.pt (S.end (hK _ ?_)))))))))))
              clear hK K
              refine Ev.ct ?_
              refine Ev.sr fun K hK => S.o q.as (S.end (hK _ ?_))
              clear hK K
              refine Ev.ret ?_
              refine hR0 _ _ ?_
              refine Ev.ret1 ?_
              refine ⟨?_, rfl⟩
              first
               | exact bF (fun h => by have h1 := h.1; omega)
               | exact bF (fun h => by have h1 := (chg_cut hp h).1.1; have h2 := (chg_cut hp h).1.2.1; omega)
               | exact bF (fun h => absurd (chg_cut hp h).1.2.2 ‹_›)
               | exact bF (fun h => by have h1 := (chgI_at hp).2 (chg_cut hp h).2; omega)
               | exact bT ⟨by omega, by rw [← hp]; exact hinv⟩
            · first
            | (first | omega | contradiction)
            | refine S.o q.mv (S.o q.mv (S.o q.mv (S.o (q.ix am_el25 am_cl36 (hl := (by first | exact atig (by omega)))) (S.o (q.fs 1 am_fi36_1 am_cl9) (S.o (q.ls am_ag9) (S.c0 (hF := rFind41_fun _ _ (by omega)) (h := S.o q.mv (S.o q.neq (S.o q.pf (S.end (hK _ ?_)))))))))))
              clear hK K
              refine Ev.cn (fun c6 => ?_) (fun c6 => ?_)
              · first
              | (first | omega | contradiction)
              | refine Ev.sr fun K hK => S.o q.as (S.end (hK _ ?_))
                clear hK K
                refine Ev.ret ?_
                refine hR0 _ _ ?_
                refine Ev.ret1 ?_
                refine ⟨?_, rfl⟩
                first
                 | exact bF (fun h => by have h1 := h.1; omega)
                 | exact bF (fun h => by have h1 := (chg_cut hp h).1.1; have h2 := (chg_cut hp h).1.2.1; omega)
                 | exact bF (fun h => absurd (chg_cut hp h).1.2.2 ‹_›)
                 | exact bF (fun h => by have h1 := (chgI_at hp).2 (chg_cut hp h).2; omega)
                 | exact bT ⟨by omega, by rw [← hp]; exact hinv⟩
              · first
              | (first | omega | contradiction)
              | refine Ev.skip ?_
                show Ev _ _ _ _
                refine Ev.region_S fun K hK => S.o q.mv (S.o q.add (S.o q.as (S.end (hK _ ?_))))
                clear hK K
                refine hR0 _ _ ?_
                refine roundU [] [0] ⟨(pre ++ [s], suf), by rw [← hp]; simp, ?_⟩ ?_ keep_n (slots_c (he := (by first | rfl | (simp; done) | (congr 2; omega))) (h := trivial)) (.c .n)
                exact chg_snoc hinv ⟨by omega, by omega, ‹_›⟩ ((chgI_at hp).1 (by omega))
                all_goals (dsimp only; simp only [List.length_cons]; omega)
      · first
      | (first | omega | contradiction)
      | refine Ev.exit ?_
        refine hR0 _ _ ?_
        show Ev _ _ _ _
        refine Ev.sr fun K hK => S.o q.as (S.end (hK _ ?_))
        clear hK K
        refine Ev.ret ?_
        refine Ev.ret1 ?_
        refine ⟨?_, rfl⟩
        first
         | exact bF (fun h => by have h1 := h.1; omega)
         | exact bF (fun h => by have h1 := (chg_cut hp h).1.1; have h2 := (chg_cut hp h).1.2.1; omega)
         | exact bF (fun h => absurd (chg_cut hp h).1.2.2 ‹_›)
         | exact bF (fun h => by have h1 := (chgI_at hp).2 (chg_cut hp h).2; omega)
         | exact bT ⟨by omega, by rw [← hp]; exact hinv⟩
    · simp only [List.length_cons] at hpl
      have hidx : l[pre.length]? = some s := by rw [← hp]; simp
      have hsw : s.2.length ≤ 140737488355328 := hw s (by rw [← hp]; simp)
      refine Ev.seq ?_
      refine Ev.sr fun K hK => S.o q.mv (S.o q.mv (S.o (q.lens am_el25) (S.o q.lss (S.end (hK _ ?_)))))
      clear hK K
      refine Ev.cd (fun c7 => ?_) (fun c7 => ?_)
      · first
      | (first | omega | contradiction)
      | refine Ev.skip ?_
        show Ev _ _ _ _
        refine Ev.seq ?_
        refine Ev.block ?_
        refine Ev.sr fun K hK => S.o q.mv (S.o q.mv (S.o (q.ix am_el25 am_cl36 (hl := (by first | exact ati hidx (by omega) | exact atig (by omega)))) (S.o (q.fs 0 am_fi36_0 am_cl3) (S.o (q.ls am_ag3) (S.o q.lss (S.bd q.mv (fun c8 => ?_) (fun c8 => ?_)))))))
        · first
        | (first | omega | contradiction)
        | refine S.sk (S.sk (S.sk (S.sk (S.sk (S.sk (S.o q.pt (S.o q.mv (S.sk (S.sk (S.sk (S.sk (S.sk (S.sk (S.sk (S.o q.pt (S.o q.mv (S.sk (S.sk (S.sk (S.sk (S.sk (S.sk (S.sk (S.sk (S.sk (S.o q.pt (S.end (hK _ ?_))))))))))))))))))))))))))))
          clear hK K
          refine Ev.ct ?_
          refine Ev.sr fun K hK => S.o q.as (S.end (hK _ ?_))
          clear hK K
          refine Ev.ret ?_
          refine hR0 _ _ ?_
          refine Ev.ret1 ?_
          refine ⟨?_, rfl⟩
          first
           | exact bF (fun h => by have h1 := h.1; omega)
           | exact bF (fun h => by have h1 := (chg_cut hp h).1.1; have h2 := (chg_cut hp h).1.2.1; omega)
           | exact bF (fun h => absurd (chg_cut hp h).1.2.2 ‹_›)
           | exact bF (fun h => by have h1 := (chgI_at hp).2 (chg_cut hp h).2; omega)
           | exact bT ⟨by omega, by rw [← hp]; exact hinv⟩
        · first
        | (first | omega | contradiction)
        | refine S.o q.mv (S.o q.mv (S.o (q.ix am_el25 am_cl36 (hl := (by first | exact ati hidx (by omega) | exact atig (by omega)))) (S.o (q.fs 0 am_fi36_0 am_cl3) (S.o (q.ls am_ag3) (S.o q.gtr (S.o q.pf (S.bd q.mv (fun c9 => ?_) (fun c9 => ?_))))))))
          · first
          | (first | omega | contradiction)
          | refine S.sk (S.sk (S.sk (S.sk (S.sk (S.sk (S.sk (S.o q.pt (S.o q.mv (S.sk (S.sk (S.sk (S.sk (S.sk (S.sk (S.sk (S.sk (S.sk (S.o q.pt (S.end (hK _ ?_))))))))))))))))))))
            clear hK K
            refine Ev.ct ?_
            refine Ev.sr fun K hK => S.o q.as (S.end (hK _ ?_))
            clear hK K
            refine Ev.ret ?_
            refine hR0 _ _ ?_
            refine Ev.ret1 ?_
            refine ⟨?_, rfl⟩
            first
             | exact bF (fun h => by have h1 := h.1; omega)
             | exact bF (fun h => by have h1 := (chg_cut hp h).1.1; have h2 := (chg_cut hp h).1.2.1; omega)
             | exact bF (fun h => absurd (chg_cut hp h).1.2.2 ‹_›)
             | exact bF (fun h => by have h1 := (chgI_at hp).2 (chg_cut hp h).2; omega)
             | exact bT ⟨by omega, by rw [← hp]; exact hinv⟩
          · first
          | (first | omega | contradiction)
          | refine S.o q.mv (S.o q.mv (S.o (q.ix am_el25 am_cl36 (hl := (by first | exact ati hidx (by omega) | exact atig (by omega)))) (S.o (q.fs 1 am_fi36_1 am_cl9) (S.o (q.ls am_ag9) (S.c0 (hF := risName_fun _ (by omega)) (h := S.o q.not (S.o q.pf (S.bn q.mv (fun c10 => ?_) (fun c10 => ?_)))))))))
            · first
            | (first | omega | contradiction)
            | refine S.sk (S.sk (S.sk (S.sk (S.sk (S.sk (S.sk (S.sk (S.sk (S.o q.pt (S.end (hK _ ?_)))))))))))
              clear hK K
              refine Ev.ct ?_
              refine Ev.sr fun K hK => S.o q.as (S.end (hK _ ?_))
              clear hK K
              refine Ev.ret ?_
              refine hR0 _ _ ?_
              refine Ev.ret1 ?_
              refine ⟨?_, rfl⟩
              first
               | exact bF (fun h => by have h1 := h.1; omega)
               | exact bF (fun h => by have h1 := (chg_cut hp h).1.1; have h2 := (chg_cut hp h).1.2.1; omega)
               | exact bF (fun h => absurd (chg_cut hp h).1.2.2 ‹_›)
               | exact bF (fun h => by have h1 := (chgI_at hp).2 (chg_cut hp h).2; omega)
               | exact bT ⟨by omega, by rw [← hp]; exact hinv⟩
            · first
            | (first | omega | contradiction)
            | refine S.o q.mv (S.o q.mv (S.o q.mv (S.o (q.ix am_el25 am_cl36 (hl := (by first | exact ati hidx (by omega) | exact atig (by omega)))) (S.o (q.fs 1 am_fi36_1 am_cl9) (S.o (q.ls am_ag9) (S.c0 (hF := rFind41_fun _ _ (by omega)) (h := S.o q.mv (S.o q.neq (S.o q.pf (S.end (hK _ ?_)))))))))))
              clear hK K
              refine Ev.cn (fun c11 => ?_) (fun c11 => ?_)
              · first
              | (first | omega | contradiction)
              | refine Ev.sr fun K hK => S.o q.as (S.end (hK _ ?_))
                clear hK K
                refine Ev.ret ?_
                refine hR0 _ _ ?_
                refine Ev.ret1 ?_
                refine ⟨?_, rfl⟩
                first
                 | exact bF (fun h => by have h1 := h.1; omega)
                 | exact bF (fun h => by have h1 := (chg_cut hp h).1.1; have h2 := (chg_cut hp h).1.2.1; omega)
                 | exact bF (fun h => absurd (chg_cut hp h).1.2.2 ‹_›)
                 | exact bF (fun h => by have h1 := (chgI_at hp).2 (chg_cut hp h).2; omega)
                 | exact bT ⟨by omega, by rw [← hp]; exact hinv⟩
              · first
              | (first | omega | contradiction)
              | refine Ev.skip ?_
                show Ev _ _ _ _
                refine Ev.region_S fun K hK => S.o q.mv (S.o q.add (S.o q.as (S.end (hK _ ?_))))
                clear hK K
                refine hR0 _ _ ?_
                refine roundU [] [0] ⟨(pre ++ [s], suf), by rw [← hp]; simp, ?_⟩ ?_ keep_n (slots_c (he := (by first | rfl | (simp; done) | (congr 2; omega))) (h := trivial)) (.c .n)
                exact chg_snoc hinv ⟨by omega, by omega, ‹_›⟩ ((chgI_at hp).1 (by omega))
                all_goals (dsimp only; simp only [List.length_cons]; omega)
      · first
      | (first | omega | contradiction)
      | refine Ev.exit ?_
        refine hR0 _ _ ?_
        show Ev _ _ _ _
        refine Ev.sr fun K hK => S.o q.as (S.end (hK _ ?_))
        clear hK K
        refine Ev.ret ?_
        refine Ev.ret1 ?_
        refine ⟨?_, rfl⟩
        first
         | exact bF (fun h => by have h1 := h.1; omega)
         | exact bF (fun h => by have h1 := (chg_cut hp h).1.1; have h2 := (chg_cut hp h).1.2.1; omega)
         | exact bF (fun h => absurd (chg_cut hp h).1.2.2 ‹_›)
         | exact bF (fun h => by have h1 := (chgI_at hp).2 (chg_cut hp h).2; omega)
         | exact bT ⟨by omega, by rw [← hp]; exact hinv⟩

theorem rCount_fun (l : List Chg) (k : Int) (hl : l.length ≤ 140737488355328) : Fun Try.prog 25 [.sh 2 (l.map findC), .lit (.int .i64 k)] (Ret (.lit (.int .i64 (cnt l k))) []) := by
  refine Fun.of (nt := 23) (rs := [.tmp 4]) Try.func25 rfl rfl rfl rfl rfl ?_
  refine Ev.sr fun K hK => S.o q.as (S.end (hK _ ?_))
  clear hK K
  refine Ev.sr fun K hK => S.o q.as (S.end (hK _ ?_))
  clear hK K
  refine Ev.seq ?_
  refine Ev.sr fun K hK => S.o q.as (S.end (hK _ ?_))
  clear hK K
  refine Ev.block ?_
  refine Ev.loopU (ι := {p : List (Chg) × List (Chg) // p.1 ++ p.2 = l ∧ True}) [] [0, 1, 4] (fun ⟨(pre, suf), _⟩ => [(6, .lit (.int .i64 ((pre.length : Int)))), (5, .lit (.int .i64 (cnt pre k)))]) (fun ⟨(pre, suf), _⟩ => []) (fun ⟨(pre, suf), _⟩ => suf.length) ⟨([], l), rfl, trivial⟩ (.c (.c (.c .n))) keep_n (slots_c (he := (by first | rfl | (congr 2; simp; done))) (h := (slots_c (he := (by first | rfl | exact iE (by rw [cnt_snoc, if_pos (by omega)]) | exact iE (by rw [cnt_snoc, if_neg (by omega)]))) (h := trivial)))) ?_
  rintro ⟨⟨pre, suf⟩, hp, hinv⟩ R0 hR0
  dsimp only [List.cons_append, List.nil_append, List.length_cons, List.length_nil]
  simp only at hp hinv
  have hpl : pre.length + suf.length = (l).length := by rw [← hp, List.length_append]
  rcases suf with _ | ⟨s, suf⟩
  · rw [List.append_nil] at hp; subst pre; simp only [List.length_nil] at hpl
    refine Ev.seq ?_
    refine Ev.sr fun K hK => S.o q.mv (S.o q.mv (S.o (q.lens am_el25) (S.o q.lss (S.end (hK _ ?_)))))
    clear hK K
    refine Ev.cd (fun c1 => ?_) (fun c1 => ?_)
    · first
    | (first | omega | contradiction)
    | refine Ev.skip ?_
      show Ev _ _ _ _
      refine Ev.seq ?_
      refine Ev.block ?_
      refine Ev.sr fun K hK => S.o q.mv (S.o q.mv (S.o (q.ix am_el25 am_cl36 (hl := (by first | exact atig (by omega)))) (S.o (q.fs 0 am_fi36_0 am_cl3) (S.o (q.ls am_ag3) (S.o q.mv (S.o q.eql (S.end (hK _ ?_))))))))
      clear hK K
      refine Ev.cd (fun c2 => ?_) (fun c2 => ?_)
      · first
      | (first | omega | contradiction)
      | refine Ev.region_S fun K hK => S.o q.mv (S.o q.add (S.o q.as (S.end (hK _ ?_))))
        clear hK K
        show Ev _ _ _ _
        refine Ev.region_S fun K hK => S.o q.mv (S.o q.add (S.o q.as (S.end (hK _ ?_))))
        clear hK K
        refine hR0 _ _ ?_
        refine roundU [] [0, 1, 4] ⟨(pre ++ [s], suf), by rw [← hp]; simp, ?_⟩ ?_ keep_n (slots_c (he := (by first | rfl | (congr 2; simp; done))) (h := (slots_c (he := (by first | rfl | exact iE (by rw [cnt_snoc, if_pos (by omega)]) | exact iE (by rw [cnt_snoc, if_neg (by omega)]))) (h := trivial)))) (.c (.c (.c .n)))
        trivial
        all_goals (dsimp only; simp only [List.length_cons]; omega)
      · first
      | (first | omega | contradiction)
      | refine Ev.skip ?_
        show Ev _ _ _ _
        refine Ev.region_S fun K hK => S.o q.mv (S.o q.add (S.o q.as (S.end (hK _ ?_))))
        clear hK K
        refine hR0 _ _ ?_
        refine roundU [] [0, 1, 4] ⟨(pre ++ [s], suf), by rw [← hp]; simp, ?_⟩ ?_ keep_n (slots_c (he := (by first | rfl | (congr 2; simp; done))) (h := (slots_c (he := (by first | rfl | exact iE (by rw [cnt_snoc, if_pos (by omega)]) | exact iE (by rw [cnt_snoc, if_neg (by omega)]))) (h := trivial)))) (.c (.c (.c .n)))
        trivial
        all_goals (dsimp only; simp only [List.length_cons]; omega)
    · first
    | (first | omega | contradiction)
    | refine Ev.exit ?_
      refine hR0 _ _ ?_
      show Ev _ _ _ _
      refine Ev.sr fun K hK => S.o q.mv (S.o q.as (S.end (hK _ ?_)))
      clear hK K
      refine Ev.ret ?_
      refine Ev.ret1 ?_
      refine ⟨?_, rfl⟩
      rfl
  · simp only [List.length_cons] at hpl
    have hidx : (l)[pre.length]? = some s := by rw [← hp]; simp
    have hcb := cnt_bd pre k
    refine Ev.seq ?_
    refine Ev.sr fun K hK => S.o q.mv (S.o q.mv (S.o (q.lens am_el25) (S.o q.lss (S.end (hK _ ?_)))))
    clear hK K
    refine Ev.cd (fun c3 => ?_) (fun c3 => ?_)
    · first
    | (first | omega | contradiction)
    | refine Ev.skip ?_
      show Ev _ _ _ _
      refine Ev.seq ?_
      refine Ev.block ?_
      refine Ev.sr fun K hK => S.o q.mv (S.o q.mv (S.o (q.ix am_el25 am_cl36 (hl := (by first | exact ati hidx (by omega) | exact atig (by omega)))) (S.o (q.fs 0 am_fi36_0 am_cl3) (S.o (q.ls am_ag3) (S.o q.mv (S.o q.eql (S.end (hK _ ?_))))))))
      clear hK K
      refine Ev.cd (fun c4 => ?_) (fun c4 => ?_)
      · first
      | (first | omega | contradiction)
      | refine Ev.region_S fun K hK => S.o q.mv (S.o q.add (S.o q.as (S.end (hK _ ?_))))
        clear hK K
        show Ev _ _ _ _
        refine Ev.region_S fun K hK => S.o q.mv (S.o q.add (S.o q.as (S.end (hK _ ?_))))
        clear hK K
        refine hR0 _ _ ?_
        refine roundU [] [0, 1, 4] ⟨(pre ++ [s], suf), by rw [← hp]; simp, ?_⟩ ?_ keep_n (slots_c (he := (by first | rfl | (congr 2; simp; done))) (h := (slots_c (he := (by first | rfl | exact iE (by rw [cnt_snoc, if_pos (by omega)]) | exact iE (by rw [cnt_snoc, if_neg (by omega)]))) (h := trivial)))) (.c (.c (.c .n)))
        trivial
        all_goals (dsimp only; simp only [List.length_cons]; omega)
      · first
      | (first | omega | contradiction)
      | refine Ev.skip ?_
        show Ev _ _ _ _
        refine Ev.region_S fun K hK => S.o q.mv (S.o q.add (S.o q.as (S.end (hK _ ?_))))
        clear hK K
        refine hR0 _ _ ?_
        refine roundU [] [0, 1, 4] ⟨(pre ++ [s], suf), by rw [← hp]; simp, ?_⟩ ?_ keep_n (slots_c (he := (by first | rfl | (congr 2; simp; done))) (h := (slots_c (he := (by first | rfl | exact iE (by rw [cnt_snoc, if_pos (by omega)]) | exact iE (by rw [cnt_snoc, if_neg (by omega)]))) (h := trivial)))) (.c (.c (.c .n)))
        trivial
        all_goals (dsimp only; simp only [List.length_cons]; omega)
    · first
    | (first | omega | contradiction)
    | refine Ev.exit ?_
      refine hR0 _ _ ?_
      show Ev _ _ _ _
      refine Ev.sr fun K hK => S.o q.mv (S.o q.as (S.end (hK _ ?_)))
      clear hK K
      refine Ev.ret ?_
      refine Ev.ret1 ?_
      refine ⟨?_, rfl⟩
      rfl

theorem kname_1 {k : Int} (h : k = 1) : kname k = [107, 101, 112, 116] := by rw [h]; rfl
theorem kname_2 {k : Int} (h : k = 2) : kname k = [99, 104, 97, 110, 103, 101, 100] := by rw [h]; rfl
theorem kname_3 {k : Int} (h : k = 3) : kname k = [97, 100, 100, 101, 100] := by rw [h]; rfl
theorem kname_4 {k : Int} (h1 : ¬ k = 1) (h2 : ¬ k = 2) (h3 : ¬ k = 3) : kname k = [99, 97, 110, 99, 101, 108, 108, 101, 100] := by rw [kname, if_neg h1, if_neg h2, if_neg h3]
theorem rText_fun (l : List Chg) (hok : okChgs l) : Fun Try.prog 26 [.sh 2 (l.map findC)] (Ret (.lit (str (textP l))) []) := by
  have hll := hok.1
  refine Fun.of (nt := 39) (rs := [.tmp 2]) Try.func26 rfl rfl rfl rfl rfl ?_
  refine Ev.sr fun K hK => S.o q.as (S.end (hK _ ?_))
  clear hK K
  refine Ev.sr fun K hK => S.o q.as (S.end (hK _ ?_))
  clear hK K
  refine Ev.seq ?_
  refine Ev.sr fun K hK => S.o q.as (S.end (hK _ ?_))
  clear hK K
  refine Ev.block ?_
  refine Ev.loopU (ι := {p : List (Chg) × List (Chg) // p.1 ++ p.2 = l ∧ True}) [] [0, 2] (fun ⟨(pre, suf), _⟩ => [(4, .lit (.int .i64 ((pre.length : Int)))), (3, .lit (str (textP pre)))]) (fun ⟨(pre, suf), _⟩ => []) (fun ⟨(pre, suf), _⟩ => suf.length) ⟨([], l), rfl, trivial⟩ (.c (.c .n)) keep_n (slots_c (he := (by first | rfl | (congr 2; simp; done))) (h := (slots_c (he := (by first | rfl | (rw [textP_snoc, lineT, kname_1 (by omega)]; simp; done) | (rw [textP_snoc, lineT, kname_2 (by omega)]; simp; done) | (rw [textP_snoc, lineT, kname_3 (by omega)]; simp; done) | (rw [textP_snoc, lineT, kname_4 (by omega) (by omega) (by omega)]; simp; done))) (h := trivial)))) ?_
  rintro ⟨⟨pre, suf⟩, hp, hinv⟩ R0 hR0
  dsimp only [List.cons_append, List.nil_append, List.length_cons, List.length_nil]
  simp only at hp hinv
  have hpl : pre.length + suf.length = (l).length := by rw [← hp, List.length_append]
  rcases suf with _ | ⟨s, suf⟩
  · rw [List.append_nil] at hp; subst pre; simp only [List.length_nil] at hpl
    refine Ev.seq ?_
    refine Ev.sr fun K hK => S.o q.mv (S.o q.mv (S.o (q.lens am_el25) (S.o q.lss (S.end (hK _ ?_)))))
    clear hK K
    refine Ev.cd (fun c1 => ?_) (fun c1 => ?_)
    · first
    | (first | omega | contradiction)
    | refine Ev.skip ?_
      show Ev _ _ _ _
      refine Ev.seq ?_
      refine Ev.block ?_
      refine Ev.seq ?_
      refine Ev.sr fun K hK => S.o q.mv (S.o q.mv (S.o (q.ix am_el25 am_cl36 (hl := (by first | exact atig (by omega)))) (S.o (q.fs 0 am_fi36_0 am_cl3) (S.o (q.ls am_ag3) (S.end (hK _ ?_))))))
      clear hK K
      refine Ev.block ?_
      refine Ev.sr fun K hK => S.o q.eql (S.o q.as (S.end (hK _ ?_)))
      clear hK K
      refine Ev.cd (fun c2 => ?_) (fun c2 => ?_)
      · first
      | (first | omega | contradiction)
      | refine Ev.region_S fun K hK => S.o q.mv (S.o q.sadd (S.o q.as (S.end (hK _ ?_))))
        clear hK K
        show Ev _ _ _ _
        refine Ev.region_S fun K hK => S.o q.mv (S.o q.mv (S.o q.mv (S.o (q.ix am_el25 am_cl36 (hl := (by first | exact atig (by omega)))) (S.o (q.fs 1 am_fi36_1 am_cl9) (S.o (q.ls am_ag9) (S.o q.sadd (S.o q.sadd (S.o q.as (S.end (hK _ ?_))))))))))
        clear hK K
        show Ev _ _ _ _
        refine Ev.region_S fun K hK => S.o q.mv (S.o q.add (S.o q.as (S.end (hK _ ?_))))
        clear hK K
        refine hR0 _ _ ?_
        refine roundU [] [0, 2] ⟨(pre ++ [s], suf), by rw [← hp]; simp, ?_⟩ ?_ keep_n (slots_c (he := (by first | rfl | (congr 2; simp; done))) (h := (slots_c (he := (by first | rfl | (rw [textP_snoc, lineT, kname_1 (by omega)]; simp; done) | (rw [textP_snoc, lineT, kname_2 (by omega)]; simp; done) | (rw [textP_snoc, lineT, kname_3 (by omega)]; simp; done) | (rw [textP_snoc, lineT, kname_4 (by omega) (by omega) (by omega)]; simp; done))) (h := trivial)))) (.c (.c .n))
        trivial
        all_goals (dsimp only; simp only [List.length_cons]; omega)
      · first
      | (first | omega | contradiction)
      | refine Ev.sr fun K hK => S.o q.eql (S.o q.as (S.end (hK _ ?_)))
        clear hK K
        refine Ev.cd (fun c3 => ?_) (fun c3 => ?_)
        · first
        | (first | omega | contradiction)
        | refine Ev.region_S fun K hK => S.o q.mv (S.o q.sadd (S.o q.as (S.end (hK _ ?_))))
          clear hK K
          show Ev _ _ _ _
          refine Ev.region_S fun K hK => S.o q.mv (S.o q.mv (S.o q.mv (S.o (q.ix am_el25 am_cl36 (hl := (by first | exact atig (by omega)))) (S.o (q.fs 1 am_fi36_1 am_cl9) (S.o (q.ls am_ag9) (S.o q.sadd (S.o q.sadd (S.o q.as (S.end (hK _ ?_))))))))))
          clear hK K
          show Ev _ _ _ _
          refine Ev.region_S fun K hK => S.o q.mv (S.o q.add (S.o q.as (S.end (hK _ ?_))))
          clear hK K
          refine hR0 _ _ ?_
          refine roundU [] [0, 2] ⟨(pre ++ [s], suf), by rw [← hp]; simp, ?_⟩ ?_ keep_n (slots_c (he := (by first | rfl | (congr 2; simp; done))) (h := (slots_c (he := (by first | rfl | (rw [textP_snoc, lineT, kname_1 (by omega)]; simp; done) | (rw [textP_snoc, lineT, kname_2 (by omega)]; simp; done) | (rw [textP_snoc, lineT, kname_3 (by omega)]; simp; done) | (rw [textP_snoc, lineT, kname_4 (by omega) (by omega) (by omega)]; simp; done))) (h := trivial)))) (.c (.c .n))
          trivial
          all_goals (dsimp only; simp only [List.length_cons]; omega)
        · first
        | (first | omega | contradiction)
        | refine Ev.sr fun K hK => S.o q.eql (S.o q.as (S.end (hK _ ?_)))
          clear hK K
          refine Ev.cd (fun c4 => ?_) (fun c4 => ?_)
          · first
          | (first | omega | contradiction)
          | refine Ev.region_S fun K hK => S.o q.mv (S.o q.sadd (S.o q.as (S.end (hK _ ?_))))
            clear hK K
            show Ev _ _ _ _
            refine Ev.region_S fun K hK => S.o q.mv (S.o q.mv (S.o q.mv (S.o (q.ix am_el25 am_cl36 (hl := (by first | exact atig (by omega)))) (S.o (q.fs 1 am_fi36_1 am_cl9) (S.o (q.ls am_ag9) (S.o q.sadd (S.o q.sadd (S.o q.as (S.end (hK _ ?_))))))))))
            clear hK K
            show Ev _ _ _ _
            refine Ev.region_S fun K hK => S.o q.mv (S.o q.add (S.o q.as (S.end (hK _ ?_))))
            clear hK K
            refine hR0 _ _ ?_
            refine roundU [] [0, 2] ⟨(pre ++ [s], suf), by rw [← hp]; simp, ?_⟩ ?_ keep_n (slots_c (he := (by first | rfl | (congr 2; simp; done))) (h := (slots_c (he := (by first | rfl | (rw [textP_snoc, lineT, kname_1 (by omega)]; simp; done) | (rw [textP_snoc, lineT, kname_2 (by omega)]; simp; done) | (rw [textP_snoc, lineT, kname_3 (by omega)]; simp; done) | (rw [textP_snoc, lineT, kname_4 (by omega) (by omega) (by omega)]; simp; done))) (h := trivial)))) (.c (.c .n))
            trivial
            all_goals (dsimp only; simp only [List.length_cons]; omega)
          · first
          | (first | omega | contradiction)
          | refine Ev.region_S fun K hK => S.o q.mv (S.o q.sadd (S.o q.as (S.end (hK _ ?_))))
            clear hK K
            show Ev _ _ _ _
            refine Ev.region_S fun K hK => S.o q.mv (S.o q.mv (S.o q.mv (S.o (q.ix am_el25 am_cl36 (hl := (by first | exact atig (by omega)))) (S.o (q.fs 1 am_fi36_1 am_cl9) (S.o (q.ls am_ag9) (S.o q.sadd (S.o q.sadd (S.o q.as (S.end (hK _ ?_))))))))))
            clear hK K
            show Ev _ _ _ _
            refine Ev.region_S fun K hK => S.o q.mv (S.o q.add (S.o q.as (S.end (hK _ ?_))))
            clear hK K
            refine hR0 _ _ ?_
            refine roundU [] [0, 2] ⟨(pre ++ [s], suf), by rw [← hp]; simp, ?_⟩ ?_ keep_n (slots_c (he := (by first | rfl | (congr 2; simp; done))) (h := (slots_c (he := (by first | rfl | (rw [textP_snoc, lineT, kname_1 (by omega)]; simp; done) | (rw [textP_snoc, lineT, kname_2 (by omega)]; simp; done) | (rw [textP_snoc, lineT, kname_3 (by omega)]; simp; done) | (rw [textP_snoc, lineT, kname_4 (by omega) (by omega) (by omega)]; simp; done))) (h := trivial)))) (.c (.c .n))
            trivial
            all_goals (dsimp only; simp only [List.length_cons]; omega)
    · first
    | (first | omega | contradiction)
    | refine Ev.exit ?_
      refine hR0 _ _ ?_
      show Ev _ _ _ _
      refine Ev.sr fun K hK => S.o q.mv (S.o q.as (S.end (hK _ ?_)))
      clear hK K
      refine Ev.ret ?_
      refine Ev.ret1 ?_
      refine ⟨?_, rfl⟩
      rfl
  · simp only [List.length_cons] at hpl
    have hidx : (l)[pre.length]? = some s := by rw [← hp]; simp
    have hsk : okChg s := hok.2.1 s (by rw [← hp]; simp)
    have hsn := isName_len hsk.2.2
    have hpt := textP_len pre (fun c hc => hok.2.1 c (by rw [← hp]; simp [hc]))
    refine Ev.seq ?_
    refine Ev.sr fun K hK => S.o q.mv (S.o q.mv (S.o (q.lens am_el25) (S.o q.lss (S.end (hK _ ?_)))))
    clear hK K
    refine Ev.cd (fun c5 => ?_) (fun c5 => ?_)
    · first
    | (first | omega | contradiction)
    | refine Ev.skip ?_
      show Ev _ _ _ _
      refine Ev.seq ?_
      refine Ev.block ?_
      refine Ev.seq ?_
      refine Ev.sr fun K hK => S.o q.mv (S.o q.mv (S.o (q.ix am_el25 am_cl36 (hl := (by first | exact ati hidx (by omega) | exact atig (by omega)))) (S.o (q.fs 0 am_fi36_0 am_cl3) (S.o (q.ls am_ag3) (S.end (hK _ ?_))))))
      clear hK K
      refine Ev.block ?_
      refine Ev.sr fun K hK => S.o q.eql (S.o q.as (S.end (hK _ ?_)))
      clear hK K
      refine Ev.cd (fun c6 => ?_) (fun c6 => ?_)
      · first
      | (first | omega | contradiction)
      | refine Ev.region_S fun K hK => S.o q.mv (S.o q.sadd (S.o q.as (S.end (hK _ ?_))))
        clear hK K
        show Ev _ _ _ _
        refine Ev.region_S fun K hK => S.o q.mv (S.o q.mv (S.o q.mv (S.o (q.ix am_el25 am_cl36 (hl := (by first | exact ati hidx (by omega) | exact atig (by omega)))) (S.o (q.fs 1 am_fi36_1 am_cl9) (S.o (q.ls am_ag9) (S.o q.sadd (S.o q.sadd (S.o q.as (S.end (hK _ ?_))))))))))
        clear hK K
        show Ev _ _ _ _
        refine Ev.region_S fun K hK => S.o q.mv (S.o q.add (S.o q.as (S.end (hK _ ?_))))
        clear hK K
        refine hR0 _ _ ?_
        refine roundU [] [0, 2] ⟨(pre ++ [s], suf), by rw [← hp]; simp, ?_⟩ ?_ keep_n (slots_c (he := (by first | rfl | (congr 2; simp; done))) (h := (slots_c (he := (by first | rfl | (rw [textP_snoc, lineT, kname_1 (by omega)]; simp; done) | (rw [textP_snoc, lineT, kname_2 (by omega)]; simp; done) | (rw [textP_snoc, lineT, kname_3 (by omega)]; simp; done) | (rw [textP_snoc, lineT, kname_4 (by omega) (by omega) (by omega)]; simp; done))) (h := trivial)))) (.c (.c .n))
        trivial
        all_goals (dsimp only; simp only [List.length_cons]; omega)
      · first
      | (first | omega | contradiction)
      | refine Ev.sr fun K hK => S.o q.eql (S.o q.as (S.end (hK _ ?_)))
        clear hK K
        refine Ev.cd (fun c7 => ?_) (fun c7 => ?_)
        · first
        | (first | omega | contradiction)
        | refine Ev.region_S fun K hK => S.o q.mv (S.o q.sadd (S.o q.as (S.end (hK _ ?_))))
          clear hK K
          show Ev _ _ _ _
          refine Ev.region_S fun K hK => S.o q.mv (S.o q.mv (S.o q.mv (S.o (q.ix am_el25 am_cl36 (hl := (by first | exact ati hidx (by omega) | exact atig (by omega)))) (S.o (q.fs 1 am_fi36_1 am_cl9) (S.o (q.ls am_ag9) (S.o q.sadd (S.o q.sadd (S.o q.as (S.end (hK _ ?_))))))))))
          clear hK K
          show Ev _ _ _ _
          refine Ev.region_S fun K hK => S.o q.mv (S.o q.add (S.o q.as (S.end (hK _ ?_))))
          clear hK K
          refine hR0 _ _ ?_
          refine roundU [] [0, 2] ⟨(pre ++ [s], suf), by rw [← hp]; simp, ?_⟩ ?_ keep_n (slots_c (he := (by first | rfl | (congr 2; simp; done))) (h := (slots_c (he := (by first | rfl | (rw [textP_snoc, lineT, kname_1 (by omega)]; simp; done) | (rw [textP_snoc, lineT, kname_2 (by omega)]; simp; done) | (rw [textP_snoc, lineT, kname_3 (by omega)]; simp; done) | (rw [textP_snoc, lineT, kname_4 (by omega) (by omega) (by omega)]; simp; done))) (h := trivial)))) (.c (.c .n))
          trivial
          all_goals (dsimp only; simp only [List.length_cons]; omega)
        · first
        | (first | omega | contradiction)
        | refine Ev.sr fun K hK => S.o q.eql (S.o q.as (S.end (hK _ ?_)))
          clear hK K
          refine Ev.cd (fun c8 => ?_) (fun c8 => ?_)
          · first
          | (first | omega | contradiction)
          | refine Ev.region_S fun K hK => S.o q.mv (S.o q.sadd (S.o q.as (S.end (hK _ ?_))))
            clear hK K
            show Ev _ _ _ _
            refine Ev.region_S fun K hK => S.o q.mv (S.o q.mv (S.o q.mv (S.o (q.ix am_el25 am_cl36 (hl := (by first | exact ati hidx (by omega) | exact atig (by omega)))) (S.o (q.fs 1 am_fi36_1 am_cl9) (S.o (q.ls am_ag9) (S.o q.sadd (S.o q.sadd (S.o q.as (S.end (hK _ ?_))))))))))
            clear hK K
            show Ev _ _ _ _
            refine Ev.region_S fun K hK => S.o q.mv (S.o q.add (S.o q.as (S.end (hK _ ?_))))
            clear hK K
            refine hR0 _ _ ?_
            refine roundU [] [0, 2] ⟨(pre ++ [s], suf), by rw [← hp]; simp, ?_⟩ ?_ keep_n (slots_c (he := (by first | rfl | (congr 2; simp; done))) (h := (slots_c (he := (by first | rfl | (rw [textP_snoc, lineT, kname_1 (by omega)]; simp; done) | (rw [textP_snoc, lineT, kname_2 (by omega)]; simp; done) | (rw [textP_snoc, lineT, kname_3 (by omega)]; simp; done) | (rw [textP_snoc, lineT, kname_4 (by omega) (by omega) (by omega)]; simp; done))) (h := trivial)))) (.c (.c .n))
            trivial
            all_goals (dsimp only; simp only [List.length_cons]; omega)
          · first
          | (first | omega | contradiction)
          | refine Ev.region_S fun K hK => S.o q.mv (S.o q.sadd (S.o q.as (S.end (hK _ ?_))))
            clear hK K
            show Ev _ _ _ _
            refine Ev.region_S fun K hK => S.o q.mv (S.o q.mv (S.o q.mv (S.o (q.ix am_el25 am_cl36 (hl := (by first | exact ati hidx (by omega) | exact atig (by omega)))) (S.o (q.fs 1 am_fi36_1 am_cl9) (S.o (q.ls am_ag9) (S.o q.sadd (S.o q.sadd (S.o q.as (S.end (hK _ ?_))))))))))
            clear hK K
            show Ev _ _ _ _
            refine Ev.region_S fun K hK => S.o q.mv (S.o q.add (S.o q.as (S.end (hK _ ?_))))
            clear hK K
            refine hR0 _ _ ?_
            refine roundU [] [0, 2] ⟨(pre ++ [s], suf), by rw [← hp]; simp, ?_⟩ ?_ keep_n (slots_c (he := (by first | rfl | (congr 2; simp; done))) (h := (slots_c (he := (by first | rfl | (rw [textP_snoc, lineT, kname_1 (by omega)]; simp; done) | (rw [textP_snoc, lineT, kname_2 (by omega)]; simp; done) | (rw [textP_snoc, lineT, kname_3 (by omega)]; simp; done) | (rw [textP_snoc, lineT, kname_4 (by omega) (by omega) (by omega)]; simp; done))) (h := trivial)))) (.c (.c .n))
            trivial
            all_goals (dsimp only; simp only [List.length_cons]; omega)
    · first
    | (first | omega | contradiction)
    | refine Ev.exit ?_
      refine hR0 _ _ ?_
      show Ev _ _ _ _
      refine Ev.sr fun K hK => S.o q.mv (S.o q.as (S.end (hK _ ?_)))
      clear hK K
      refine Ev.ret ?_
      refine Ev.ret1 ?_
      refine ⟨?_, rfl⟩
      rfl
end Go.Proofs.Ytccddakkegelkaa
