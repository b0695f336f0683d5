/-
  The law CurtailLeast, walked.
  Conditions: none.
-/
import Derived.Test.YtigjoaejncfmdaaLb3
import Derived.Test.YtigjoaejncfmdaaB15
namespace Go.Proofs.Ytigjoaejncfmdaa
open Go Go.AM
set_option linter.unusedSimpArgs false
set_option linter.unusedVariables false
set_option maxRecDepth 100000
set_option maxHeartbeats 1000000
theorem nb_t {b : Bool} (h : (!b) = false) : b = true := by simpa using h
theorem nb_f {b : Bool} (h : (!b) = true) (h2 : b = true) : False := by rw [h2] at h; cases h

theorem cover_len (l : List (Int × Int)) (d a : Int) : (coverV l d a).length ≤ 1000 := by
  unfold coverV coverE
  by_cases h : givenE l d a = 0
  · by_cases h2 : leastN l d ≤ 1000
    · by_cases h3 : (coverN l d a (leastN l d).toNat).length ≤ 1000
      · rw [if_pos h, if_pos h2, if_pos h3, if_pos rfl]; exact h3
      · rw [if_pos h, if_pos h2, if_neg h3, if_neg (by decide)]; simp
    · rw [if_pos h, if_neg h2, if_neg (by decide)]; simp
  · rw [if_neg h, if_neg h]; simp
theorem bound_bad {l : List (Int × Int)} {d a : Int} (h : ¬ boundE l d a = 0) : coverE l d a = boundE l d a ∧ (coverV l d a).length = 0 ∧ boundV l d a = 0 := by
  by_cases hg : givenE l d a = 0
  · by_cases h2 : leastN l d ≤ 1000
    · exact absurd (bars_t hg h2).2 h
    · obtain ⟨e1, e2, e3, e4⟩ := bars_full hg h2
      exact ⟨e3.trans e2.symm, e4, e1⟩
  · obtain ⟨e1, e2, e3, e4⟩ := bars_bad hg
    exact ⟨e3.trans e2.symm, e4, e1⟩
theorem bound_good {l : List (Int × Int)} {d a : Int} (h : boundE l d a = 0) : givenE l d a = 0 ∧ leastN l d ≤ 1000 := by
  by_cases hg : givenE l d a = 0
  · by_cases h2 : leastN l d ≤ 1000
    · exact ⟨hg, h2⟩
    · have := (bars_full hg h2).2.1; omega
  · have := (bars_bad hg).2.1; omega
theorem given_0 {l : List (Int × Int)} {d a : Int} (h : givenE l d a = 0) : givenE l d 0 = 0 := by
  obtain ⟨h1, h2, h3⟩ := givenE_zero h
  exact givenE4 h1 ⟨h2.1, by omega, by omega⟩ h3
theorem cover_state {l : List (Int × Int)} {d a : Int} (h : givenE l d a = 0) (h2 : leastN l d ≤ 1000) : (coverE l d a = 4 ∧ coverV l d a = []) ∨ (coverE l d a = 0 ∧ coverV l d a = coverN l d a (leastN l d).toNat) := by
  by_cases h3 : (coverN l d a (leastN l d).toNat).length ≤ 1000
  · exact .inr (coverE4 h h2 h3)
  · exact .inl (coverE3 h h2 h3)
/-- What the demand's own bars answer. -/
theorem cover_own {l : List (Int × Int)} {d a : Int} (h : givenE l d a = 0) (h2 : leastN l d ≤ 1000) (he : coverE l d a = 0) : leastN l d ≤ (coverV l d a).length ∧ ((chkE l d a (coverV l d a) = 2) ∨ (chkE l d a (coverV l d a) = 0 ∧ chkV l d a (coverV l d a) = true ∧ barsE (coverV l d a) = 0 ∧ totV (coverV l d a) = boundV l d a)) := by
  obtain ⟨e1, e2⟩ : coverE l d a = 0 ∧ coverV l d a = coverN l d a (leastN l d).toNat := by
    rcases cover_state h h2 with ⟨e1, _⟩ | e
    · omega
    · exact e
  have hn : ((leastN l d).toNat : Int) ≤ max 0 (leastN l d) := by omega
  have hfac : spanS (coverV l d a) = boundN l d a (leastN l d).toNat ∧ (leastN l d).toNat ≤ (coverV l d a).length := by
    rw [e2]
    rcases Int.lt_or_le 0 (leastN l d) with hp | hp
    · exact coverN_facts h _ (by omega)
    · rw [show (leastN l d).toNat = 0 by omega]; exact ⟨rfl, Nat.zero_le _⟩
  have hlen := cover_len l d a
  refine ⟨by omega, ?_⟩
  by_cases hb : ∀ s ∈ coverV l d a, barOk s
  · obtain ⟨b1, b2⟩ := bars_0 (by omega) hb
    obtain ⟨c1, c2⟩ := chk_0 h b1
    refine .inr ⟨c1, ?_, b1, ?_⟩
    · rw [c2]
      refine decide_eq_true ((checkP_iff (by have := (givenZ h).2.2.2.2.2.2.1; omega)).2 fun x => ?_)
      rw [e2]; exact cover_ok h x
    · rw [b2, hfac.1]; exact (bars_t h h2).1.symm
  · obtain ⟨b1, b2⟩ := bars_2 (by omega) hb
    exact .inl ((chk_2 h (by omega)).1.trans b1)
/-- No bars that satisfy the demand have less. -/
theorem any_low {l bars : List (Int × Int)} {d a : Int} (h2 : leastN l d ≤ 1000) (he : chkE l d a bars = 0) (hv : chkV l d a bars = true) : barsE bars = 0 ∧ boundV l d a ≤ totV bars ∧ leastN l d ≤ bars.length := by
  obtain ⟨hg, hb⟩ : givenE l d a = 0 ∧ barsE bars = 0 := by
    unfold chkE at he
    by_cases hg : givenE l d a = 0
    · rw [if_pos hg] at he; exact ⟨hg, he⟩
    · rw [if_neg hg] at he; exact absurd he hg
  obtain ⟨hl, hbo, ht⟩ := bars_ok hb
  have hok := (checkP_iff (by have := (givenZ hg).2.2.2.2.2.2.1; omega)).1 (of_decide_eq_true hv).2
  refine ⟨hb, ?_, count_low hg hok⟩
  rw [ht, (bars_t hg h2).1]
  rcases Int.lt_or_le 0 (leastN l d) with hp | hp
  · exact bound_low hg hbo hok _ (by omega)
  · rw [show (leastN l d).toNat = 0 by omega]
    exact (spanS_bd bars hbo).1
theorem cs_state {l : List (Int × Int)} {d a : Int} (hg : givenE l d a = 0) (hln : leastN l d ≤ 1000) (h0 : ¬ coverE l d a = 0) (h4 : ¬ coverE l d a = 4) : False := by
  rcases cover_state hg hln with ⟨e1, _⟩ | ⟨e1, _⟩ <;> omega
theorem cs_own {A : Prop} {e : Int} {B : Prop} (h : A ∧ (e = 2 ∨ B)) (h2 : ¬ e = 2) (hB : B → False) : False := h.2.elim h2 hB
theorem least_law (l : List (Int × Int)) (d a : Int) (bars : List (Int × Int)) (hl0 : l.length ≤ 140737488355328) (hb0 : bars.length ≤ 140737488355328) : Fun Try.prog 8 [.sh 2 (l.map stepC), .lit (.int .i64 d), .lit (.int .i64 a), .sh 2 (bars.map stepC)] (Ret (.lit (.bool true)) []) := by
  have hcl := cover_len l d a
  refine Fun.of (nt := 148) (rs := [.tmp 8]) Try.func8 rfl rfl rfl rfl rfl ?_
  refine Ev.sr fun K hK => S.o q.as (S.end (hK _ ?_))
  clear hK K
  refine Ev.seq ?_
  refine Ev.sr fun K hK => S.c0 (hF := awake_fun) (h := S.o q.nott (S.end (hK _ ?_)))
  clear hK K
  refine Ev.cf ?_
  refine Ev.skip ?_
  show Ev _ _ _ _
  refine Ev.seq ?_
  refine Ev.sr fun K hK => S.o q.mv (S.c0 (hF := large_fun _ (by omega)) (h := S.bd q.mv (fun c1 => ?_) (fun c1 => ?_)))
  · first
  | (first | omega | contradiction)
  | refine S.sk (S.sk (S.o q.pt (S.o q.mv (S.sk (S.sk (S.sk (S.o q.pt (S.end (hK _ ?_)))))))))
    clear hK K
    refine Ev.ct ?_
    refine Ev.sr fun K hK => S.o q.as (S.end (hK _ ?_))
    clear hK K
    refine Ev.ret ?_
    refine Ev.ret1 ?_
    refine ⟨?_, rfl⟩
    first
     | rfl
     | exact lawT (by omega)
     | (exfalso; omega)
     | (exfalso; exact cs_state hg hln (by omega) (by omega))
     | (exfalso; exact absurd (any_low (l := l) (bars := bars) (d := d) (a := a) hln (by omega) (nb_t ‹_›)).1 (by omega))
     | (exfalso; exact absurd (any_low (l := l) (bars := bars) (d := d) (a := a) hln (by omega) (nb_t ‹_›)).2.1 (by omega))
     | (exfalso; exact absurd (any_low (l := l) (bars := bars) (d := d) (a := a) hln (by omega) (nb_t ‹_›)).2.2 (by omega))
     | exact lawT (by rw [hlv]; exact (any_low (l := l) (bars := bars) (d := d) (a := a) hln (by omega) (nb_t ‹_›)).2.2)
     | (exfalso; exact cs_own hco (by omega) (fun h => absurd h.1 (by omega)))
     | (exfalso; exact cs_own hco (by omega) (fun h => absurd h.2.2.1 (by omega)))
     | (exfalso; exact cs_own hco (by omega) (fun h => absurd h.2.2.2 (by omega)))
     | (exfalso; exact cs_own hco (by omega) (fun h => nb_f ‹_› h.2.1))
  · first
  | (first | omega | contradiction)
  | refine S.o q.mv (S.c0 (hF := high_fun _ (by omega)) (h := S.o q.pf (S.bd q.mv (fun c2 => ?_) (fun c2 => ?_))))
    · first
    | (first | omega | contradiction)
    | refine S.sk (S.sk (S.sk (S.o q.pt (S.end (hK _ ?_)))))
      clear hK K
      refine Ev.ct ?_
      refine Ev.sr fun K hK => S.o q.as (S.end (hK _ ?_))
      clear hK K
      refine Ev.ret ?_
      refine Ev.ret1 ?_
      refine ⟨?_, rfl⟩
      first
       | rfl
       | exact lawT (by omega)
       | (exfalso; omega)
       | (exfalso; exact cs_state hg hln (by omega) (by omega))
       | (exfalso; exact absurd (any_low (l := l) (bars := bars) (d := d) (a := a) hln (by omega) (nb_t ‹_›)).1 (by omega))
       | (exfalso; exact absurd (any_low (l := l) (bars := bars) (d := d) (a := a) hln (by omega) (nb_t ‹_›)).2.1 (by omega))
       | (exfalso; exact absurd (any_low (l := l) (bars := bars) (d := d) (a := a) hln (by omega) (nb_t ‹_›)).2.2 (by omega))
       | exact lawT (by rw [hlv]; exact (any_low (l := l) (bars := bars) (d := d) (a := a) hln (by omega) (nb_t ‹_›)).2.2)
       | (exfalso; exact cs_own hco (by omega) (fun h => absurd h.1 (by omega)))
       | (exfalso; exact cs_own hco (by omega) (fun h => absurd h.2.2.1 (by omega)))
       | (exfalso; exact cs_own hco (by omega) (fun h => absurd h.2.2.2 (by omega)))
       | (exfalso; exact cs_own hco (by omega) (fun h => nb_f ‹_› h.2.1))
    · first
    | (first | omega | contradiction)
    | refine S.o q.mv (S.o (q.lens am_el25) (S.o q.gtr (S.o q.pf (S.end (hK _ ?_)))))
      clear hK K
      refine Ev.cd (fun c3 => ?_) (fun c3 => ?_)
      · first
      | (first | omega | contradiction)
      | refine Ev.sr fun K hK => S.o q.as (S.end (hK _ ?_))
        clear hK K
        refine Ev.ret ?_
        refine Ev.ret1 ?_
        refine ⟨?_, rfl⟩
        first
         | rfl
         | exact lawT (by omega)
         | (exfalso; omega)
         | (exfalso; exact cs_state hg hln (by omega) (by omega))
         | (exfalso; exact absurd (any_low (l := l) (bars := bars) (d := d) (a := a) hln (by omega) (nb_t ‹_›)).1 (by omega))
         | (exfalso; exact absurd (any_low (l := l) (bars := bars) (d := d) (a := a) hln (by omega) (nb_t ‹_›)).2.1 (by omega))
         | (exfalso; exact absurd (any_low (l := l) (bars := bars) (d := d) (a := a) hln (by omega) (nb_t ‹_›)).2.2 (by omega))
         | exact lawT (by rw [hlv]; exact (any_low (l := l) (bars := bars) (d := d) (a := a) hln (by omega) (nb_t ‹_›)).2.2)
         | (exfalso; exact cs_own hco (by omega) (fun h => absurd h.1 (by omega)))
         | (exfalso; exact cs_own hco (by omega) (fun h => absurd h.2.2.1 (by omega)))
         | (exfalso; exact cs_own hco (by omega) (fun h => absurd h.2.2.2 (by omega)))
         | (exfalso; exact cs_own hco (by omega) (fun h => nb_f ‹_› h.2.1))
      · first
      | (first | omega | contradiction)
      | refine Ev.skip ?_
        show Ev _ _ _ _
        refine Ev.sr fun K hK => S.o q.mv (S.o q.mv (S.o q.mv (S.c0 (hF := cover_fun _ _ _) (h := S.o q.mv (S.o q.ex (S.o q.ex (S.o q.as (S.o q.as (S.end (hK _ ?_))))))))))
        clear hK K
        refine Ev.sr fun K hK => S.o q.mv (S.o q.mv (S.o q.mv (S.c0 (hF := bound_fun _ _ _) (h := S.o q.mv (S.o q.ex (S.o q.ex (S.o q.as (S.o q.as (S.end (hK _ ?_))))))))))
        clear hK K
        refine Ev.seq ?_
        refine Ev.sr fun K hK => S.o q.mv (S.o q.neq (S.end (hK _ ?_)))
        clear hK K
        refine Ev.cn (fun c4 => ?_) (fun c4 => ?_)
        · first
        | (first | omega | contradiction)
        | obtain ⟨e1, e2, e3⟩ := bound_bad (l := l) (d := d) (a := a) (by omega)
          rw [e1, e3]
          refine Ev.sr fun K hK => S.o q.mv (S.o q.mv (S.o q.eql (S.bd q.mv (fun c5 => ?_) (fun c5 => ?_))))
          · first
          | (first | omega | contradiction)
          | refine S.o q.mv (S.o (q.lens am_el25) (S.o q.eql (S.o q.pt (S.bd q.mv (fun c6 => ?_) (fun c6 => ?_)))))
            · first
            | (first | omega | contradiction)
            | refine S.o q.mv (S.o q.eql (S.o q.pt (S.o q.as (S.end (hK _ ?_)))))
              clear hK K
              refine Ev.ret ?_
              refine Ev.ret1 ?_
              refine ⟨?_, rfl⟩
              first
               | rfl
               | exact lawT (by omega)
               | (exfalso; omega)
               | (exfalso; exact cs_state hg hln (by omega) (by omega))
               | (exfalso; exact absurd (any_low (l := l) (bars := bars) (d := d) (a := a) hln (by omega) (nb_t ‹_›)).1 (by omega))
               | (exfalso; exact absurd (any_low (l := l) (bars := bars) (d := d) (a := a) hln (by omega) (nb_t ‹_›)).2.1 (by omega))
               | (exfalso; exact absurd (any_low (l := l) (bars := bars) (d := d) (a := a) hln (by omega) (nb_t ‹_›)).2.2 (by omega))
               | exact lawT (by rw [hlv]; exact (any_low (l := l) (bars := bars) (d := d) (a := a) hln (by omega) (nb_t ‹_›)).2.2)
               | (exfalso; exact cs_own hco (by omega) (fun h => absurd h.1 (by omega)))
               | (exfalso; exact cs_own hco (by omega) (fun h => absurd h.2.2.1 (by omega)))
               | (exfalso; exact cs_own hco (by omega) (fun h => absurd h.2.2.2 (by omega)))
               | (exfalso; exact cs_own hco (by omega) (fun h => nb_f ‹_› h.2.1))
            · first
            | (first | omega | contradiction)
            | refine S.sk (S.sk (S.o q.pf (S.o q.as (S.end (hK _ ?_)))))
              clear hK K
              refine Ev.ret ?_
              refine Ev.ret1 ?_
              refine ⟨?_, rfl⟩
              first
               | rfl
               | exact lawT (by omega)
               | (exfalso; omega)
               | (exfalso; exact cs_state hg hln (by omega) (by omega))
               | (exfalso; exact absurd (any_low (l := l) (bars := bars) (d := d) (a := a) hln (by omega) (nb_t ‹_›)).1 (by omega))
               | (exfalso; exact absurd (any_low (l := l) (bars := bars) (d := d) (a := a) hln (by omega) (nb_t ‹_›)).2.1 (by omega))
               | (exfalso; exact absurd (any_low (l := l) (bars := bars) (d := d) (a := a) hln (by omega) (nb_t ‹_›)).2.2 (by omega))
               | exact lawT (by rw [hlv]; exact (any_low (l := l) (bars := bars) (d := d) (a := a) hln (by omega) (nb_t ‹_›)).2.2)
               | (exfalso; exact cs_own hco (by omega) (fun h => absurd h.1 (by omega)))
               | (exfalso; exact cs_own hco (by omega) (fun h => absurd h.2.2.1 (by omega)))
               | (exfalso; exact cs_own hco (by omega) (fun h => absurd h.2.2.2 (by omega)))
               | (exfalso; exact cs_own hco (by omega) (fun h => nb_f ‹_› h.2.1))
          · first
          | (first | omega | contradiction)
          | refine S.sk (S.sk (S.sk (S.o q.pf (S.o q.mv (S.sk (S.sk (S.o q.pf (S.o q.as (S.end (hK _ ?_))))))))))
            clear hK K
            refine Ev.ret ?_
            refine Ev.ret1 ?_
            refine ⟨?_, rfl⟩
            first
             | rfl
             | exact lawT (by omega)
             | (exfalso; omega)
             | (exfalso; exact cs_state hg hln (by omega) (by omega))
             | (exfalso; exact absurd (any_low (l := l) (bars := bars) (d := d) (a := a) hln (by omega) (nb_t ‹_›)).1 (by omega))
             | (exfalso; exact absurd (any_low (l := l) (bars := bars) (d := d) (a := a) hln (by omega) (nb_t ‹_›)).2.1 (by omega))
             | (exfalso; exact absurd (any_low (l := l) (bars := bars) (d := d) (a := a) hln (by omega) (nb_t ‹_›)).2.2 (by omega))
             | exact lawT (by rw [hlv]; exact (any_low (l := l) (bars := bars) (d := d) (a := a) hln (by omega) (nb_t ‹_›)).2.2)
             | (exfalso; exact cs_own hco (by omega) (fun h => absurd h.1 (by omega)))
             | (exfalso; exact cs_own hco (by omega) (fun h => absurd h.2.2.1 (by omega)))
             | (exfalso; exact cs_own hco (by omega) (fun h => absurd h.2.2.2 (by omega)))
             | (exfalso; exact cs_own hco (by omega) (fun h => nb_f ‹_› h.2.1))
        · first
        | (first | omega | contradiction)
        | refine Ev.skip ?_
          show Ev _ _ _ _
          obtain ⟨hg, hln⟩ := bound_good (l := l) (d := d) (a := a) (by omega)
          have hg0 := given_0 hg
          have hlv : leastV l d = leastN l d := if_pos hg0
          refine Ev.sr fun K hK => S.o q.mv (S.o q.mv (S.c0 (hF := Least_fun _ _) (h := S.o q.mv (S.o q.ex (S.o q.ex (S.o q.as (S.o q.as (S.end (hK _ ?_)))))))))
          clear hK K
          refine Ev.seq ?_
          refine Ev.sr fun K hK => S.o q.mv (S.o q.eql (S.end (hK _ ?_)))
          clear hK K
          refine Ev.cd (fun c7 => ?_) (fun c7 => ?_)
          · first
          | (first | omega | contradiction)
          | have hco := cover_own hg hln (by omega)
            refine Ev.sr fun K hK => S.o q.mv (S.o q.mv (S.o q.mv (S.o q.mv (S.c0 (hF := Check_fun _ _ _ _ (by omega)) (h := S.o q.mv (S.o q.ex (S.o q.ex (S.o q.as (S.o q.as (S.end (hK _ ?_)))))))))))
            clear hK K
            refine Ev.sr fun K hK => S.o q.mv (S.c0 (hF := Total_fun _ (by omega)) (h := S.o q.mv (S.o q.ex (S.o q.ex (S.o q.as (S.o q.as (S.end (hK _ ?_))))))))
            clear hK K
            refine Ev.sr fun K hK => S.o q.mv (S.o q.neq (S.bn q.mv (fun c8 => ?_) (fun c8 => ?_)))
            · first
            | (first | omega | contradiction)
            | refine S.o q.mv (S.o q.neq (S.bn q.mv (fun c9 => ?_) (fun c9 => ?_)))
              · first
              | (first | omega | contradiction)
              | refine S.sk (S.sk (S.o q.pt (S.o q.mv (S.sk (S.sk (S.o q.pt (S.o q.mv (S.sk (S.sk (S.sk (S.o q.pt (S.o q.pt (S.o q.mv (S.sk (S.sk (S.o q.pt (S.o q.mv (S.sk (S.sk (S.sk (S.sk (S.o q.pt (S.end (hK _ ?_))))))))))))))))))))))))
                clear hK K
                refine Ev.ct ?_
                refine Ev.sr fun K hK => S.o q.as (S.end (hK _ ?_))
                clear hK K
                refine Ev.ret ?_
                refine Ev.ret1 ?_
                refine ⟨?_, rfl⟩
                first
                 | rfl
                 | exact lawT (by omega)
                 | (exfalso; omega)
                 | (exfalso; exact cs_state hg hln (by omega) (by omega))
                 | (exfalso; exact absurd (any_low (l := l) (bars := bars) (d := d) (a := a) hln (by omega) (nb_t ‹_›)).1 (by omega))
                 | (exfalso; exact absurd (any_low (l := l) (bars := bars) (d := d) (a := a) hln (by omega) (nb_t ‹_›)).2.1 (by omega))
                 | (exfalso; exact absurd (any_low (l := l) (bars := bars) (d := d) (a := a) hln (by omega) (nb_t ‹_›)).2.2 (by omega))
                 | exact lawT (by rw [hlv]; exact (any_low (l := l) (bars := bars) (d := d) (a := a) hln (by omega) (nb_t ‹_›)).2.2)
                 | (exfalso; exact cs_own hco (by omega) (fun h => absurd h.1 (by omega)))
                 | (exfalso; exact cs_own hco (by omega) (fun h => absurd h.2.2.1 (by omega)))
                 | (exfalso; exact cs_own hco (by omega) (fun h => absurd h.2.2.2 (by omega)))
                 | (exfalso; exact cs_own hco (by omega) (fun h => nb_f ‹_› h.2.1))
              · first
              | (first | omega | contradiction)
              | refine S.o q.mv (S.o q.not (S.o q.pf (S.bb q.mv (fun c10 => ?_) (fun c10 => ?_))))
                · first
                | (first | omega | contradiction)
                | refine S.sk (S.sk (S.o q.pt (S.o q.mv (S.sk (S.sk (S.sk (S.o q.pt (S.o q.pt (S.o q.mv (S.sk (S.sk (S.o q.pt (S.o q.mv (S.sk (S.sk (S.sk (S.sk (S.o q.pt (S.end (hK _ ?_))))))))))))))))))))
                  clear hK K
                  refine Ev.ct ?_
                  refine Ev.sr fun K hK => S.o q.as (S.end (hK _ ?_))
                  clear hK K
                  refine Ev.ret ?_
                  refine Ev.ret1 ?_
                  refine ⟨?_, rfl⟩
                  first
                   | rfl
                   | exact lawT (by omega)
                   | (exfalso; omega)
                   | (exfalso; exact cs_state hg hln (by omega) (by omega))
                   | (exfalso; exact absurd (any_low (l := l) (bars := bars) (d := d) (a := a) hln (by omega) (nb_t ‹_›)).1 (by omega))
                   | (exfalso; exact absurd (any_low (l := l) (bars := bars) (d := d) (a := a) hln (by omega) (nb_t ‹_›)).2.1 (by omega))
                   | (exfalso; exact absurd (any_low (l := l) (bars := bars) (d := d) (a := a) hln (by omega) (nb_t ‹_›)).2.2 (by omega))
                   | exact lawT (by rw [hlv]; exact (any_low (l := l) (bars := bars) (d := d) (a := a) hln (by omega) (nb_t ‹_›)).2.2)
                   | (exfalso; exact cs_own hco (by omega) (fun h => absurd h.1 (by omega)))
                   | (exfalso; exact cs_own hco (by omega) (fun h => absurd h.2.2.1 (by omega)))
                   | (exfalso; exact cs_own hco (by omega) (fun h => absurd h.2.2.2 (by omega)))
                   | (exfalso; exact cs_own hco (by omega) (fun h => nb_f ‹_› h.2.1))
                · first
                | (first | omega | contradiction)
                | refine S.o q.mv (S.o q.neq (S.o q.pf (S.bn q.mv (fun c11 => ?_) (fun c11 => ?_))))
                  · first
                  | (first | omega | contradiction)
                  | refine S.sk (S.sk (S.sk (S.o q.pt (S.o q.pt (S.o q.mv (S.sk (S.sk (S.o q.pt (S.o q.mv (S.sk (S.sk (S.sk (S.sk (S.o q.pt (S.end (hK _ ?_))))))))))))))))
                    clear hK K
                    refine Ev.ct ?_
                    refine Ev.sr fun K hK => S.o q.as (S.end (hK _ ?_))
                    clear hK K
                    refine Ev.ret ?_
                    refine Ev.ret1 ?_
                    refine ⟨?_, rfl⟩
                    first
                     | rfl
                     | exact lawT (by omega)
                     | (exfalso; omega)
                     | (exfalso; exact cs_state hg hln (by omega) (by omega))
                     | (exfalso; exact absurd (any_low (l := l) (bars := bars) (d := d) (a := a) hln (by omega) (nb_t ‹_›)).1 (by omega))
                     | (exfalso; exact absurd (any_low (l := l) (bars := bars) (d := d) (a := a) hln (by omega) (nb_t ‹_›)).2.1 (by omega))
                     | (exfalso; exact absurd (any_low (l := l) (bars := bars) (d := d) (a := a) hln (by omega) (nb_t ‹_›)).2.2 (by omega))
                     | exact lawT (by rw [hlv]; exact (any_low (l := l) (bars := bars) (d := d) (a := a) hln (by omega) (nb_t ‹_›)).2.2)
                     | (exfalso; exact cs_own hco (by omega) (fun h => absurd h.1 (by omega)))
                     | (exfalso; exact cs_own hco (by omega) (fun h => absurd h.2.2.1 (by omega)))
                     | (exfalso; exact cs_own hco (by omega) (fun h => absurd h.2.2.2 (by omega)))
                     | (exfalso; exact cs_own hco (by omega) (fun h => nb_f ‹_› h.2.1))
                  · first
                  | (first | omega | contradiction)
                  | refine S.o q.mv (S.o q.mv (S.o q.neq (S.o q.pf (S.o q.pt (S.bn q.mv (fun c12 => ?_) (fun c12 => ?_))))))
                    · first
                    | (first | omega | contradiction)
                    | refine S.sk (S.sk (S.o q.pt (S.o q.mv (S.sk (S.sk (S.sk (S.sk (S.o q.pt (S.end (hK _ ?_))))))))))
                      clear hK K
                      refine Ev.ct ?_
                      refine Ev.sr fun K hK => S.o q.as (S.end (hK _ ?_))
                      clear hK K
                      refine Ev.ret ?_
                      refine Ev.ret1 ?_
                      refine ⟨?_, rfl⟩
                      first
                       | rfl
                       | exact lawT (by omega)
                       | (exfalso; omega)
                       | (exfalso; exact cs_state hg hln (by omega) (by omega))
                       | (exfalso; exact absurd (any_low (l := l) (bars := bars) (d := d) (a := a) hln (by omega) (nb_t ‹_›)).1 (by omega))
                       | (exfalso; exact absurd (any_low (l := l) (bars := bars) (d := d) (a := a) hln (by omega) (nb_t ‹_›)).2.1 (by omega))
                       | (exfalso; exact absurd (any_low (l := l) (bars := bars) (d := d) (a := a) hln (by omega) (nb_t ‹_›)).2.2 (by omega))
                       | exact lawT (by rw [hlv]; exact (any_low (l := l) (bars := bars) (d := d) (a := a) hln (by omega) (nb_t ‹_›)).2.2)
                       | (exfalso; exact cs_own hco (by omega) (fun h => absurd h.1 (by omega)))
                       | (exfalso; exact cs_own hco (by omega) (fun h => absurd h.2.2.1 (by omega)))
                       | (exfalso; exact cs_own hco (by omega) (fun h => absurd h.2.2.2 (by omega)))
                       | (exfalso; exact cs_own hco (by omega) (fun h => nb_f ‹_› h.2.1))
                    · first
                    | (first | omega | contradiction)
                    | refine S.o q.mv (S.o q.neq (S.o q.pf (S.bn q.mv (fun c13 => ?_) (fun c13 => ?_))))
                      · first
                      | (first | omega | contradiction)
                      | refine S.sk (S.sk (S.sk (S.sk (S.o q.pt (S.end (hK _ ?_))))))
                        clear hK K
                        refine Ev.ct ?_
                        refine Ev.sr fun K hK => S.o q.as (S.end (hK _ ?_))
                        clear hK K
                        refine Ev.ret ?_
                        refine Ev.ret1 ?_
                        refine ⟨?_, rfl⟩
                        first
                         | rfl
                         | exact lawT (by omega)
                         | (exfalso; omega)
                         | (exfalso; exact cs_state hg hln (by omega) (by omega))
                         | (exfalso; exact absurd (any_low (l := l) (bars := bars) (d := d) (a := a) hln (by omega) (nb_t ‹_›)).1 (by omega))
                         | (exfalso; exact absurd (any_low (l := l) (bars := bars) (d := d) (a := a) hln (by omega) (nb_t ‹_›)).2.1 (by omega))
                         | (exfalso; exact absurd (any_low (l := l) (bars := bars) (d := d) (a := a) hln (by omega) (nb_t ‹_›)).2.2 (by omega))
                         | exact lawT (by rw [hlv]; exact (any_low (l := l) (bars := bars) (d := d) (a := a) hln (by omega) (nb_t ‹_›)).2.2)
                         | (exfalso; exact cs_own hco (by omega) (fun h => absurd h.1 (by omega)))
                         | (exfalso; exact cs_own hco (by omega) (fun h => absurd h.2.2.1 (by omega)))
                         | (exfalso; exact cs_own hco (by omega) (fun h => absurd h.2.2.2 (by omega)))
                         | (exfalso; exact cs_own hco (by omega) (fun h => nb_f ‹_› h.2.1))
                      · first
                      | (first | omega | contradiction)
                      | refine S.o q.mv (S.o (q.lens am_el25) (S.o q.mv (S.o q.lss (S.o q.pf (S.end (hK _ ?_))))))
                        clear hK K
                        refine Ev.cd (fun c14 => ?_) (fun c14 => ?_)
                        · first
                        | (first | omega | contradiction)
                        | refine Ev.sr fun K hK => S.o q.as (S.end (hK _ ?_))
                          clear hK K
                          refine Ev.ret ?_
                          refine Ev.ret1 ?_
                          refine ⟨?_, rfl⟩
                          first
                           | rfl
                           | exact lawT (by omega)
                           | (exfalso; omega)
                           | (exfalso; exact cs_state hg hln (by omega) (by omega))
                           | (exfalso; exact absurd (any_low (l := l) (bars := bars) (d := d) (a := a) hln (by omega) (nb_t ‹_›)).1 (by omega))
                           | (exfalso; exact absurd (any_low (l := l) (bars := bars) (d := d) (a := a) hln (by omega) (nb_t ‹_›)).2.1 (by omega))
                           | (exfalso; exact absurd (any_low (l := l) (bars := bars) (d := d) (a := a) hln (by omega) (nb_t ‹_›)).2.2 (by omega))
                           | exact lawT (by rw [hlv]; exact (any_low (l := l) (bars := bars) (d := d) (a := a) hln (by omega) (nb_t ‹_›)).2.2)
                           | (exfalso; exact cs_own hco (by omega) (fun h => absurd h.1 (by omega)))
                           | (exfalso; exact cs_own hco (by omega) (fun h => absurd h.2.2.1 (by omega)))
                           | (exfalso; exact cs_own hco (by omega) (fun h => absurd h.2.2.2 (by omega)))
                           | (exfalso; exact cs_own hco (by omega) (fun h => nb_f ‹_› h.2.1))
                        · first
                        | (first | omega | contradiction)
                        | refine Ev.skip ?_
                          show Ev _ _ _ _
                          refine Ev.sr fun K hK => S.o q.mv (S.o q.mv (S.o q.mv (S.o q.mv (S.c0 (hF := Check_fun _ _ _ _ (by omega)) (h := S.o q.mv (S.o q.ex (S.o q.ex (S.o q.as (S.o q.as (S.end (hK _ ?_)))))))))))
                          clear hK K
                          refine Ev.seq ?_
                          refine Ev.sr fun K hK => S.o q.mv (S.o q.neq (S.bn q.mv (fun c15 => ?_) (fun c15 => ?_)))
                          · first
                          | (first | omega | contradiction)
                          | refine S.sk (S.sk (S.o q.pt (S.end (hK _ ?_))))
                            clear hK K
                            refine Ev.ct ?_
                            refine Ev.sr fun K hK => S.o q.as (S.end (hK _ ?_))
                            clear hK K
                            refine Ev.ret ?_
                            refine Ev.ret1 ?_
                            refine ⟨?_, rfl⟩
                            first
                             | rfl
                             | exact lawT (by omega)
                             | (exfalso; omega)
                             | (exfalso; exact cs_state hg hln (by omega) (by omega))
                             | (exfalso; exact absurd (any_low (l := l) (bars := bars) (d := d) (a := a) hln (by omega) (nb_t ‹_›)).1 (by omega))
                             | (exfalso; exact absurd (any_low (l := l) (bars := bars) (d := d) (a := a) hln (by omega) (nb_t ‹_›)).2.1 (by omega))
                             | (exfalso; exact absurd (any_low (l := l) (bars := bars) (d := d) (a := a) hln (by omega) (nb_t ‹_›)).2.2 (by omega))
                             | exact lawT (by rw [hlv]; exact (any_low (l := l) (bars := bars) (d := d) (a := a) hln (by omega) (nb_t ‹_›)).2.2)
                             | (exfalso; exact cs_own hco (by omega) (fun h => absurd h.1 (by omega)))
                             | (exfalso; exact cs_own hco (by omega) (fun h => absurd h.2.2.1 (by omega)))
                             | (exfalso; exact cs_own hco (by omega) (fun h => absurd h.2.2.2 (by omega)))
                             | (exfalso; exact cs_own hco (by omega) (fun h => nb_f ‹_› h.2.1))
                          · first
                          | (first | omega | contradiction)
                          | refine S.o q.mv (S.o q.not (S.o q.pf (S.end (hK _ ?_))))
                            clear hK K
                            refine Ev.c (fun c16 => ?_) (fun c16 => ?_)
                            · first
                            | (first | omega | contradiction)
                            | refine Ev.sr fun K hK => S.o q.as (S.end (hK _ ?_))
                              clear hK K
                              refine Ev.ret ?_
                              refine Ev.ret1 ?_
                              refine ⟨?_, rfl⟩
                              first
                               | rfl
                               | exact lawT (by omega)
                               | (exfalso; omega)
                               | (exfalso; exact cs_state hg hln (by omega) (by omega))
                               | (exfalso; exact absurd (any_low (l := l) (bars := bars) (d := d) (a := a) hln (by omega) (nb_t ‹_›)).1 (by omega))
                               | (exfalso; exact absurd (any_low (l := l) (bars := bars) (d := d) (a := a) hln (by omega) (nb_t ‹_›)).2.1 (by omega))
                               | (exfalso; exact absurd (any_low (l := l) (bars := bars) (d := d) (a := a) hln (by omega) (nb_t ‹_›)).2.2 (by omega))
                               | exact lawT (by rw [hlv]; exact (any_low (l := l) (bars := bars) (d := d) (a := a) hln (by omega) (nb_t ‹_›)).2.2)
                               | (exfalso; exact cs_own hco (by omega) (fun h => absurd h.1 (by omega)))
                               | (exfalso; exact cs_own hco (by omega) (fun h => absurd h.2.2.1 (by omega)))
                               | (exfalso; exact cs_own hco (by omega) (fun h => absurd h.2.2.2 (by omega)))
                               | (exfalso; exact cs_own hco (by omega) (fun h => nb_f ‹_› h.2.1))
                            · first
                            | (first | omega | contradiction)
                            | refine Ev.skip ?_
                              show Ev _ _ _ _
                              refine Ev.sr fun K hK => S.o q.mv (S.c0 (hF := Total_fun _ (by omega)) (h := S.o q.mv (S.o q.ex (S.o q.ex (S.o q.as (S.o q.as (S.end (hK _ ?_))))))))
                              clear hK K
                              refine Ev.sr fun K hK => S.o q.mv (S.o q.eql (S.bd q.mv (fun c17 => ?_) (fun c17 => ?_)))
                              · first
                              | (first | omega | contradiction)
                              | refine S.o q.mv (S.o q.mv (S.o q.geq (S.o q.pt (S.bd q.mv (fun c18 => ?_) (fun c18 => ?_)))))
                                · first
                                | (first | omega | contradiction)
                                | refine S.o q.mv (S.o (q.lens am_el25) (S.o q.mv (S.o q.geq (S.o q.pt (S.o q.as (S.end (hK _ ?_)))))))
                                  clear hK K
                                  refine Ev.ret ?_
                                  refine Ev.ret1 ?_
                                  refine ⟨?_, rfl⟩
                                  first
                                   | rfl
                                   | exact lawT (by omega)
                                   | (exfalso; omega)
                                   | (exfalso; exact cs_state hg hln (by omega) (by omega))
                                   | (exfalso; exact absurd (any_low (l := l) (bars := bars) (d := d) (a := a) hln (by omega) (nb_t ‹_›)).1 (by omega))
                                   | (exfalso; exact absurd (any_low (l := l) (bars := bars) (d := d) (a := a) hln (by omega) (nb_t ‹_›)).2.1 (by omega))
                                   | (exfalso; exact absurd (any_low (l := l) (bars := bars) (d := d) (a := a) hln (by omega) (nb_t ‹_›)).2.2 (by omega))
                                   | exact lawT (by rw [hlv]; exact (any_low (l := l) (bars := bars) (d := d) (a := a) hln (by omega) (nb_t ‹_›)).2.2)
                                   | (exfalso; exact cs_own hco (by omega) (fun h => absurd h.1 (by omega)))
                                   | (exfalso; exact cs_own hco (by omega) (fun h => absurd h.2.2.1 (by omega)))
                                   | (exfalso; exact cs_own hco (by omega) (fun h => absurd h.2.2.2 (by omega)))
                                   | (exfalso; exact cs_own hco (by omega) (fun h => nb_f ‹_› h.2.1))
                                · first
                                | (first | omega | contradiction)
                                | refine S.sk (S.sk (S.sk (S.sk (S.o q.pf (S.o q.as (S.end (hK _ ?_)))))))
                                  clear hK K
                                  refine Ev.ret ?_
                                  refine Ev.ret1 ?_
                                  refine ⟨?_, rfl⟩
                                  first
                                   | rfl
                                   | exact lawT (by omega)
                                   | (exfalso; omega)
                                   | (exfalso; exact cs_state hg hln (by omega) (by omega))
                                   | (exfalso; exact absurd (any_low (l := l) (bars := bars) (d := d) (a := a) hln (by omega) (nb_t ‹_›)).1 (by omega))
                                   | (exfalso; exact absurd (any_low (l := l) (bars := bars) (d := d) (a := a) hln (by omega) (nb_t ‹_›)).2.1 (by omega))
                                   | (exfalso; exact absurd (any_low (l := l) (bars := bars) (d := d) (a := a) hln (by omega) (nb_t ‹_›)).2.2 (by omega))
                                   | exact lawT (by rw [hlv]; exact (any_low (l := l) (bars := bars) (d := d) (a := a) hln (by omega) (nb_t ‹_›)).2.2)
                                   | (exfalso; exact cs_own hco (by omega) (fun h => absurd h.1 (by omega)))
                                   | (exfalso; exact cs_own hco (by omega) (fun h => absurd h.2.2.1 (by omega)))
                                   | (exfalso; exact cs_own hco (by omega) (fun h => absurd h.2.2.2 (by omega)))
                                   | (exfalso; exact cs_own hco (by omega) (fun h => nb_f ‹_› h.2.1))
                              · first
                              | (first | omega | contradiction)
                              | refine S.sk (S.sk (S.sk (S.o q.pf (S.o q.mv (S.sk (S.sk (S.sk (S.sk (S.o q.pf (S.o q.as (S.end (hK _ ?_))))))))))))
                                clear hK K
                                refine Ev.ret ?_
                                refine Ev.ret1 ?_
                                refine ⟨?_, rfl⟩
                                first
                                 | rfl
                                 | exact lawT (by omega)
                                 | (exfalso; omega)
                                 | (exfalso; exact cs_state hg hln (by omega) (by omega))
                                 | (exfalso; exact absurd (any_low (l := l) (bars := bars) (d := d) (a := a) hln (by omega) (nb_t ‹_›)).1 (by omega))
                                 | (exfalso; exact absurd (any_low (l := l) (bars := bars) (d := d) (a := a) hln (by omega) (nb_t ‹_›)).2.1 (by omega))
                                 | (exfalso; exact absurd (any_low (l := l) (bars := bars) (d := d) (a := a) hln (by omega) (nb_t ‹_›)).2.2 (by omega))
                                 | exact lawT (by rw [hlv]; exact (any_low (l := l) (bars := bars) (d := d) (a := a) hln (by omega) (nb_t ‹_›)).2.2)
                                 | (exfalso; exact cs_own hco (by omega) (fun h => absurd h.1 (by omega)))
                                 | (exfalso; exact cs_own hco (by omega) (fun h => absurd h.2.2.1 (by omega)))
                                 | (exfalso; exact cs_own hco (by omega) (fun h => absurd h.2.2.2 (by omega)))
                                 | (exfalso; exact cs_own hco (by omega) (fun h => nb_f ‹_› h.2.1))
            · first
            | (first | omega | contradiction)
            | refine S.sk (S.sk (S.sk (S.sk (S.sk (S.sk (S.sk (S.sk (S.sk (S.sk (S.sk (S.sk (S.sk (S.sk (S.sk (S.o q.pf (S.o q.mv (S.o q.mv (S.o q.neq (S.o q.pf (S.bn q.mv (fun c19 => ?_) (fun c19 => ?_)))))))))))))))))))))
              · first
              | (first | omega | contradiction)
              | refine S.sk (S.sk (S.sk (S.sk (S.o q.pt (S.end (hK _ ?_))))))
                clear hK K
                refine Ev.ct ?_
                refine Ev.sr fun K hK => S.o q.as (S.end (hK _ ?_))
                clear hK K
                refine Ev.ret ?_
                refine Ev.ret1 ?_
                refine ⟨?_, rfl⟩
                first
                 | rfl
                 | exact lawT (by omega)
                 | (exfalso; omega)
                 | (exfalso; exact cs_state hg hln (by omega) (by omega))
                 | (exfalso; exact absurd (any_low (l := l) (bars := bars) (d := d) (a := a) hln (by omega) (nb_t ‹_›)).1 (by omega))
                 | (exfalso; exact absurd (any_low (l := l) (bars := bars) (d := d) (a := a) hln (by omega) (nb_t ‹_›)).2.1 (by omega))
                 | (exfalso; exact absurd (any_low (l := l) (bars := bars) (d := d) (a := a) hln (by omega) (nb_t ‹_›)).2.2 (by omega))
                 | exact lawT (by rw [hlv]; exact (any_low (l := l) (bars := bars) (d := d) (a := a) hln (by omega) (nb_t ‹_›)).2.2)
                 | (exfalso; exact cs_own hco (by omega) (fun h => absurd h.1 (by omega)))
                 | (exfalso; exact cs_own hco (by omega) (fun h => absurd h.2.2.1 (by omega)))
                 | (exfalso; exact cs_own hco (by omega) (fun h => absurd h.2.2.2 (by omega)))
                 | (exfalso; exact cs_own hco (by omega) (fun h => nb_f ‹_› h.2.1))
              · first
              | (first | omega | contradiction)
              | refine S.o q.mv (S.o (q.lens am_el25) (S.o q.mv (S.o q.lss (S.o q.pf (S.end (hK _ ?_))))))
                clear hK K
                refine Ev.cd (fun c20 => ?_) (fun c20 => ?_)
                · first
                | (first | omega | contradiction)
                | refine Ev.sr fun K hK => S.o q.as (S.end (hK _ ?_))
                  clear hK K
                  refine Ev.ret ?_
                  refine Ev.ret1 ?_
                  refine ⟨?_, rfl⟩
                  first
                   | rfl
                   | exact lawT (by omega)
                   | (exfalso; omega)
                   | (exfalso; exact cs_state hg hln (by omega) (by omega))
                   | (exfalso; exact absurd (any_low (l := l) (bars := bars) (d := d) (a := a) hln (by omega) (nb_t ‹_›)).1 (by omega))
                   | (exfalso; exact absurd (any_low (l := l) (bars := bars) (d := d) (a := a) hln (by omega) (nb_t ‹_›)).2.1 (by omega))
                   | (exfalso; exact absurd (any_low (l := l) (bars := bars) (d := d) (a := a) hln (by omega) (nb_t ‹_›)).2.2 (by omega))
                   | exact lawT (by rw [hlv]; exact (any_low (l := l) (bars := bars) (d := d) (a := a) hln (by omega) (nb_t ‹_›)).2.2)
                   | (exfalso; exact cs_own hco (by omega) (fun h => absurd h.1 (by omega)))
                   | (exfalso; exact cs_own hco (by omega) (fun h => absurd h.2.2.1 (by omega)))
                   | (exfalso; exact cs_own hco (by omega) (fun h => absurd h.2.2.2 (by omega)))
                   | (exfalso; exact cs_own hco (by omega) (fun h => nb_f ‹_› h.2.1))
                · first
                | (first | omega | contradiction)
                | refine Ev.skip ?_
                  show Ev _ _ _ _
                  refine Ev.sr fun K hK => S.o q.mv (S.o q.mv (S.o q.mv (S.o q.mv (S.c0 (hF := Check_fun _ _ _ _ (by omega)) (h := S.o q.mv (S.o q.ex (S.o q.ex (S.o q.as (S.o q.as (S.end (hK _ ?_)))))))))))
                  clear hK K
                  refine Ev.seq ?_
                  refine Ev.sr fun K hK => S.o q.mv (S.o q.neq (S.bn q.mv (fun c21 => ?_) (fun c21 => ?_)))
                  · first
                  | (first | omega | contradiction)
                  | refine S.sk (S.sk (S.o q.pt (S.end (hK _ ?_))))
                    clear hK K
                    refine Ev.ct ?_
                    refine Ev.sr fun K hK => S.o q.as (S.end (hK _ ?_))
                    clear hK K
                    refine Ev.ret ?_
                    refine Ev.ret1 ?_
                    refine ⟨?_, rfl⟩
                    first
                     | rfl
                     | exact lawT (by omega)
                     | (exfalso; omega)
                     | (exfalso; exact cs_state hg hln (by omega) (by omega))
                     | (exfalso; exact absurd (any_low (l := l) (bars := bars) (d := d) (a := a) hln (by omega) (nb_t ‹_›)).1 (by omega))
                     | (exfalso; exact absurd (any_low (l := l) (bars := bars) (d := d) (a := a) hln (by omega) (nb_t ‹_›)).2.1 (by omega))
                     | (exfalso; exact absurd (any_low (l := l) (bars := bars) (d := d) (a := a) hln (by omega) (nb_t ‹_›)).2.2 (by omega))
                     | exact lawT (by rw [hlv]; exact (any_low (l := l) (bars := bars) (d := d) (a := a) hln (by omega) (nb_t ‹_›)).2.2)
                     | (exfalso; exact cs_own hco (by omega) (fun h => absurd h.1 (by omega)))
                     | (exfalso; exact cs_own hco (by omega) (fun h => absurd h.2.2.1 (by omega)))
                     | (exfalso; exact cs_own hco (by omega) (fun h => absurd h.2.2.2 (by omega)))
                     | (exfalso; exact cs_own hco (by omega) (fun h => nb_f ‹_› h.2.1))
                  · first
                  | (first | omega | contradiction)
                  | refine S.o q.mv (S.o q.not (S.o q.pf (S.end (hK _ ?_))))
                    clear hK K
                    refine Ev.c (fun c22 => ?_) (fun c22 => ?_)
                    · first
                    | (first | omega | contradiction)
                    | refine Ev.sr fun K hK => S.o q.as (S.end (hK _ ?_))
                      clear hK K
                      refine Ev.ret ?_
                      refine Ev.ret1 ?_
                      refine ⟨?_, rfl⟩
                      first
                       | rfl
                       | exact lawT (by omega)
                       | (exfalso; omega)
                       | (exfalso; exact cs_state hg hln (by omega) (by omega))
                       | (exfalso; exact absurd (any_low (l := l) (bars := bars) (d := d) (a := a) hln (by omega) (nb_t ‹_›)).1 (by omega))
                       | (exfalso; exact absurd (any_low (l := l) (bars := bars) (d := d) (a := a) hln (by omega) (nb_t ‹_›)).2.1 (by omega))
                       | (exfalso; exact absurd (any_low (l := l) (bars := bars) (d := d) (a := a) hln (by omega) (nb_t ‹_›)).2.2 (by omega))
                       | exact lawT (by rw [hlv]; exact (any_low (l := l) (bars := bars) (d := d) (a := a) hln (by omega) (nb_t ‹_›)).2.2)
                       | (exfalso; exact cs_own hco (by omega) (fun h => absurd h.1 (by omega)))
                       | (exfalso; exact cs_own hco (by omega) (fun h => absurd h.2.2.1 (by omega)))
                       | (exfalso; exact cs_own hco (by omega) (fun h => absurd h.2.2.2 (by omega)))
                       | (exfalso; exact cs_own hco (by omega) (fun h => nb_f ‹_› h.2.1))
                    · first
                    | (first | omega | contradiction)
                    | refine Ev.skip ?_
                      show Ev _ _ _ _
                      refine Ev.sr fun K hK => S.o q.mv (S.c0 (hF := Total_fun _ (by omega)) (h := S.o q.mv (S.o q.ex (S.o q.ex (S.o q.as (S.o q.as (S.end (hK _ ?_))))))))
                      clear hK K
                      refine Ev.sr fun K hK => S.o q.mv (S.o q.eql (S.bd q.mv (fun c23 => ?_) (fun c23 => ?_)))
                      · first
                      | (first | omega | contradiction)
                      | refine S.o q.mv (S.o q.mv (S.o q.geq (S.o q.pt (S.bd q.mv (fun c24 => ?_) (fun c24 => ?_)))))
                        · first
                        | (first | omega | contradiction)
                        | refine S.o q.mv (S.o (q.lens am_el25) (S.o q.mv (S.o q.geq (S.o q.pt (S.o q.as (S.end (hK _ ?_)))))))
                          clear hK K
                          refine Ev.ret ?_
                          refine Ev.ret1 ?_
                          refine ⟨?_, rfl⟩
                          first
                           | rfl
                           | exact lawT (by omega)
                           | (exfalso; omega)
                           | (exfalso; exact cs_state hg hln (by omega) (by omega))
                           | (exfalso; exact absurd (any_low (l := l) (bars := bars) (d := d) (a := a) hln (by omega) (nb_t ‹_›)).1 (by omega))
                           | (exfalso; exact absurd (any_low (l := l) (bars := bars) (d := d) (a := a) hln (by omega) (nb_t ‹_›)).2.1 (by omega))
                           | (exfalso; exact absurd (any_low (l := l) (bars := bars) (d := d) (a := a) hln (by omega) (nb_t ‹_›)).2.2 (by omega))
                           | exact lawT (by rw [hlv]; exact (any_low (l := l) (bars := bars) (d := d) (a := a) hln (by omega) (nb_t ‹_›)).2.2)
                           | (exfalso; exact cs_own hco (by omega) (fun h => absurd h.1 (by omega)))
                           | (exfalso; exact cs_own hco (by omega) (fun h => absurd h.2.2.1 (by omega)))
                           | (exfalso; exact cs_own hco (by omega) (fun h => absurd h.2.2.2 (by omega)))
                           | (exfalso; exact cs_own hco (by omega) (fun h => nb_f ‹_› h.2.1))
                        · first
                        | (first | omega | contradiction)
                        | refine S.sk (S.sk (S.sk (S.sk (S.o q.pf (S.o q.as (S.end (hK _ ?_)))))))
                          clear hK K
                          refine Ev.ret ?_
                          refine Ev.ret1 ?_
                          refine ⟨?_, rfl⟩
                          first
                           | rfl
                           | exact lawT (by omega)
                           | (exfalso; omega)
                           | (exfalso; exact cs_state hg hln (by omega) (by omega))
                           | (exfalso; exact absurd (any_low (l := l) (bars := bars) (d := d) (a := a) hln (by omega) (nb_t ‹_›)).1 (by omega))
                           | (exfalso; exact absurd (any_low (l := l) (bars := bars) (d := d) (a := a) hln (by omega) (nb_t ‹_›)).2.1 (by omega))
                           | (exfalso; exact absurd (any_low (l := l) (bars := bars) (d := d) (a := a) hln (by omega) (nb_t ‹_›)).2.2 (by omega))
                           | exact lawT (by rw [hlv]; exact (any_low (l := l) (bars := bars) (d := d) (a := a) hln (by omega) (nb_t ‹_›)).2.2)
                           | (exfalso; exact cs_own hco (by omega) (fun h => absurd h.1 (by omega)))
                           | (exfalso; exact cs_own hco (by omega) (fun h => absurd h.2.2.1 (by omega)))
                           | (exfalso; exact cs_own hco (by omega) (fun h => absurd h.2.2.2 (by omega)))
                           | (exfalso; exact cs_own hco (by omega) (fun h => nb_f ‹_› h.2.1))
                      · first
                      | (first | omega | contradiction)
                      | refine S.sk (S.sk (S.sk (S.o q.pf (S.o q.mv (S.sk (S.sk (S.sk (S.sk (S.o q.pf (S.o q.as (S.end (hK _ ?_))))))))))))
                        clear hK K
                        refine Ev.ret ?_
                        refine Ev.ret1 ?_
                        refine ⟨?_, rfl⟩
                        first
                         | rfl
                         | exact lawT (by omega)
                         | (exfalso; omega)
                         | (exfalso; exact cs_state hg hln (by omega) (by omega))
                         | (exfalso; exact absurd (any_low (l := l) (bars := bars) (d := d) (a := a) hln (by omega) (nb_t ‹_›)).1 (by omega))
                         | (exfalso; exact absurd (any_low (l := l) (bars := bars) (d := d) (a := a) hln (by omega) (nb_t ‹_›)).2.1 (by omega))
                         | (exfalso; exact absurd (any_low (l := l) (bars := bars) (d := d) (a := a) hln (by omega) (nb_t ‹_›)).2.2 (by omega))
                         | exact lawT (by rw [hlv]; exact (any_low (l := l) (bars := bars) (d := d) (a := a) hln (by omega) (nb_t ‹_›)).2.2)
                         | (exfalso; exact cs_own hco (by omega) (fun h => absurd h.1 (by omega)))
                         | (exfalso; exact cs_own hco (by omega) (fun h => absurd h.2.2.1 (by omega)))
                         | (exfalso; exact cs_own hco (by omega) (fun h => absurd h.2.2.2 (by omega)))
                         | (exfalso; exact cs_own hco (by omega) (fun h => nb_f ‹_› h.2.1))
          · first
          | (first | omega | contradiction)
          | refine Ev.sr fun K hK => S.o q.mv (S.o q.neq (S.end (hK _ ?_)))
            clear hK K
            refine Ev.cn (fun c25 => ?_) (fun c25 => ?_)
            · first
            | (first | omega | contradiction)
            | refine Ev.sr fun K hK => S.o q.as (S.end (hK _ ?_))
              clear hK K
              refine Ev.ret ?_
              refine Ev.ret1 ?_
              refine ⟨?_, rfl⟩
              first
               | rfl
               | exact lawT (by omega)
               | (exfalso; omega)
               | (exfalso; exact cs_state hg hln (by omega) (by omega))
               | (exfalso; exact absurd (any_low (l := l) (bars := bars) (d := d) (a := a) hln (by omega) (nb_t ‹_›)).1 (by omega))
               | (exfalso; exact absurd (any_low (l := l) (bars := bars) (d := d) (a := a) hln (by omega) (nb_t ‹_›)).2.1 (by omega))
               | (exfalso; exact absurd (any_low (l := l) (bars := bars) (d := d) (a := a) hln (by omega) (nb_t ‹_›)).2.2 (by omega))
               | exact lawT (by rw [hlv]; exact (any_low (l := l) (bars := bars) (d := d) (a := a) hln (by omega) (nb_t ‹_›)).2.2)
               | (exfalso; exact cs_own hco (by omega) (fun h => absurd h.1 (by omega)))
               | (exfalso; exact cs_own hco (by omega) (fun h => absurd h.2.2.1 (by omega)))
               | (exfalso; exact cs_own hco (by omega) (fun h => absurd h.2.2.2 (by omega)))
               | (exfalso; exact cs_own hco (by omega) (fun h => nb_f ‹_› h.2.1))
            · first
            | (first | omega | contradiction)
            | refine Ev.skip ?_
              show Ev _ _ _ _
              refine Ev.sr fun K hK => S.o q.mv (S.o q.mv (S.o q.mv (S.o q.mv (S.c0 (hF := Check_fun _ _ _ _ (by omega)) (h := S.o q.mv (S.o q.ex (S.o q.ex (S.o q.as (S.o q.as (S.end (hK _ ?_)))))))))))
              clear hK K
              refine Ev.seq ?_
              refine Ev.sr fun K hK => S.o q.mv (S.o q.neq (S.bn q.mv (fun c26 => ?_) (fun c26 => ?_)))
              · first
              | (first | omega | contradiction)
              | refine S.sk (S.sk (S.o q.pt (S.end (hK _ ?_))))
                clear hK K
                refine Ev.ct ?_
                refine Ev.sr fun K hK => S.o q.as (S.end (hK _ ?_))
                clear hK K
                refine Ev.ret ?_
                refine Ev.ret1 ?_
                refine ⟨?_, rfl⟩
                first
                 | rfl
                 | exact lawT (by omega)
                 | (exfalso; omega)
                 | (exfalso; exact cs_state hg hln (by omega) (by omega))
                 | (exfalso; exact absurd (any_low (l := l) (bars := bars) (d := d) (a := a) hln (by omega) (nb_t ‹_›)).1 (by omega))
                 | (exfalso; exact absurd (any_low (l := l) (bars := bars) (d := d) (a := a) hln (by omega) (nb_t ‹_›)).2.1 (by omega))
                 | (exfalso; exact absurd (any_low (l := l) (bars := bars) (d := d) (a := a) hln (by omega) (nb_t ‹_›)).2.2 (by omega))
                 | exact lawT (by rw [hlv]; exact (any_low (l := l) (bars := bars) (d := d) (a := a) hln (by omega) (nb_t ‹_›)).2.2)
                 | (exfalso; exact cs_own hco (by omega) (fun h => absurd h.1 (by omega)))
                 | (exfalso; exact cs_own hco (by omega) (fun h => absurd h.2.2.1 (by omega)))
                 | (exfalso; exact cs_own hco (by omega) (fun h => absurd h.2.2.2 (by omega)))
                 | (exfalso; exact cs_own hco (by omega) (fun h => nb_f ‹_› h.2.1))
              · first
              | (first | omega | contradiction)
              | refine S.o q.mv (S.o q.not (S.o q.pf (S.end (hK _ ?_))))
                clear hK K
                refine Ev.c (fun c27 => ?_) (fun c27 => ?_)
                · first
                | (first | omega | contradiction)
                | refine Ev.sr fun K hK => S.o q.as (S.end (hK _ ?_))
                  clear hK K
                  refine Ev.ret ?_
                  refine Ev.ret1 ?_
                  refine ⟨?_, rfl⟩
                  first
                   | rfl
                   | exact lawT (by omega)
                   | (exfalso; omega)
                   | (exfalso; exact cs_state hg hln (by omega) (by omega))
                   | (exfalso; exact absurd (any_low (l := l) (bars := bars) (d := d) (a := a) hln (by omega) (nb_t ‹_›)).1 (by omega))
                   | (exfalso; exact absurd (any_low (l := l) (bars := bars) (d := d) (a := a) hln (by omega) (nb_t ‹_›)).2.1 (by omega))
                   | (exfalso; exact absurd (any_low (l := l) (bars := bars) (d := d) (a := a) hln (by omega) (nb_t ‹_›)).2.2 (by omega))
                   | exact lawT (by rw [hlv]; exact (any_low (l := l) (bars := bars) (d := d) (a := a) hln (by omega) (nb_t ‹_›)).2.2)
                   | (exfalso; exact cs_own hco (by omega) (fun h => absurd h.1 (by omega)))
                   | (exfalso; exact cs_own hco (by omega) (fun h => absurd h.2.2.1 (by omega)))
                   | (exfalso; exact cs_own hco (by omega) (fun h => absurd h.2.2.2 (by omega)))
                   | (exfalso; exact cs_own hco (by omega) (fun h => nb_f ‹_› h.2.1))
                · first
                | (first | omega | contradiction)
                | refine Ev.skip ?_
                  show Ev _ _ _ _
                  refine Ev.sr fun K hK => S.o q.mv (S.c0 (hF := Total_fun _ (by omega)) (h := S.o q.mv (S.o q.ex (S.o q.ex (S.o q.as (S.o q.as (S.end (hK _ ?_))))))))
                  clear hK K
                  refine Ev.sr fun K hK => S.o q.mv (S.o q.eql (S.bd q.mv (fun c28 => ?_) (fun c28 => ?_)))
                  · first
                  | (first | omega | contradiction)
                  | refine S.o q.mv (S.o q.mv (S.o q.geq (S.o q.pt (S.bd q.mv (fun c29 => ?_) (fun c29 => ?_)))))
                    · first
                    | (first | omega | contradiction)
                    | refine S.o q.mv (S.o (q.lens am_el25) (S.o q.mv (S.o q.geq (S.o q.pt (S.o q.as (S.end (hK _ ?_)))))))
                      clear hK K
                      refine Ev.ret ?_
                      refine Ev.ret1 ?_
                      refine ⟨?_, rfl⟩
                      first
                       | rfl
                       | exact lawT (by omega)
                       | (exfalso; omega)
                       | (exfalso; exact cs_state hg hln (by omega) (by omega))
                       | (exfalso; exact absurd (any_low (l := l) (bars := bars) (d := d) (a := a) hln (by omega) (nb_t ‹_›)).1 (by omega))
                       | (exfalso; exact absurd (any_low (l := l) (bars := bars) (d := d) (a := a) hln (by omega) (nb_t ‹_›)).2.1 (by omega))
                       | (exfalso; exact absurd (any_low (l := l) (bars := bars) (d := d) (a := a) hln (by omega) (nb_t ‹_›)).2.2 (by omega))
                       | exact lawT (by rw [hlv]; exact (any_low (l := l) (bars := bars) (d := d) (a := a) hln (by omega) (nb_t ‹_›)).2.2)
                       | (exfalso; exact cs_own hco (by omega) (fun h => absurd h.1 (by omega)))
                       | (exfalso; exact cs_own hco (by omega) (fun h => absurd h.2.2.1 (by omega)))
                       | (exfalso; exact cs_own hco (by omega) (fun h => absurd h.2.2.2 (by omega)))
                       | (exfalso; exact cs_own hco (by omega) (fun h => nb_f ‹_› h.2.1))
                    · first
                    | (first | omega | contradiction)
                    | refine S.sk (S.sk (S.sk (S.sk (S.o q.pf (S.o q.as (S.end (hK _ ?_)))))))
                      clear hK K
                      refine Ev.ret ?_
                      refine Ev.ret1 ?_
                      refine ⟨?_, rfl⟩
                      first
                       | rfl
                       | exact lawT (by omega)
                       | (exfalso; omega)
                       | (exfalso; exact cs_state hg hln (by omega) (by omega))
                       | (exfalso; exact absurd (any_low (l := l) (bars := bars) (d := d) (a := a) hln (by omega) (nb_t ‹_›)).1 (by omega))
                       | (exfalso; exact absurd (any_low (l := l) (bars := bars) (d := d) (a := a) hln (by omega) (nb_t ‹_›)).2.1 (by omega))
                       | (exfalso; exact absurd (any_low (l := l) (bars := bars) (d := d) (a := a) hln (by omega) (nb_t ‹_›)).2.2 (by omega))
                       | exact lawT (by rw [hlv]; exact (any_low (l := l) (bars := bars) (d := d) (a := a) hln (by omega) (nb_t ‹_›)).2.2)
                       | (exfalso; exact cs_own hco (by omega) (fun h => absurd h.1 (by omega)))
                       | (exfalso; exact cs_own hco (by omega) (fun h => absurd h.2.2.1 (by omega)))
                       | (exfalso; exact cs_own hco (by omega) (fun h => absurd h.2.2.2 (by omega)))
                       | (exfalso; exact cs_own hco (by omega) (fun h => nb_f ‹_› h.2.1))
                  · first
                  | (first | omega | contradiction)
                  | refine S.sk (S.sk (S.sk (S.o q.pf (S.o q.mv (S.sk (S.sk (S.sk (S.sk (S.o q.pf (S.o q.as (S.end (hK _ ?_))))))))))))
                    clear hK K
                    refine Ev.ret ?_
                    refine Ev.ret1 ?_
                    refine ⟨?_, rfl⟩
                    first
                     | rfl
                     | exact lawT (by omega)
                     | (exfalso; omega)
                     | (exfalso; exact cs_state hg hln (by omega) (by omega))
                     | (exfalso; exact absurd (any_low (l := l) (bars := bars) (d := d) (a := a) hln (by omega) (nb_t ‹_›)).1 (by omega))
                     | (exfalso; exact absurd (any_low (l := l) (bars := bars) (d := d) (a := a) hln (by omega) (nb_t ‹_›)).2.1 (by omega))
                     | (exfalso; exact absurd (any_low (l := l) (bars := bars) (d := d) (a := a) hln (by omega) (nb_t ‹_›)).2.2 (by omega))
                     | exact lawT (by rw [hlv]; exact (any_low (l := l) (bars := bars) (d := d) (a := a) hln (by omega) (nb_t ‹_›)).2.2)
                     | (exfalso; exact cs_own hco (by omega) (fun h => absurd h.1 (by omega)))
                     | (exfalso; exact cs_own hco (by omega) (fun h => absurd h.2.2.1 (by omega)))
                     | (exfalso; exact cs_own hco (by omega) (fun h => absurd h.2.2.2 (by omega)))
                     | (exfalso; exact cs_own hco (by omega) (fun h => nb_f ‹_› h.2.1))
end Go.Proofs.Ytigjoaejncfmdaa
