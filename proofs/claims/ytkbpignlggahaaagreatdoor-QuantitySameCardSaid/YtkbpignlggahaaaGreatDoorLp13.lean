/-
  Small details, walked.
  Conditions: none.
-/
import Derived.Test.YtkbpignlggahaaaGreatDoorLp10
import Derived.Test.YtkbpignlggahaaaGreatDoorBend
namespace Go.Proofs.YtkbpignlggahaaaGreatDoor
open Go Go.AM
set_option linter.unusedSimpArgs false
set_option linter.unusedVariables false
set_option maxRecDepth 100000
set_option maxHeartbeats 1000000
def shortB (b : Bar) : Prop := b.dims.length ≤ 8 ∧ b.mark.length ≤ 60
instance (b) : Decidable (shortB b) := by unfold shortB; infer_instance
def shortR (r : Rn) : Prop := r.mark.length ≤ 60 ∧ ¬ (r.n > 16 ∧ r.n ≤ 2000)
instance (r) : Decidable (shortR r) := by unfold shortR; infer_instance
def sumP (l : List Rn) : Int := l.foldl (fun a r => if r.n > 0 ∧ r.n ≤ 16 then a + r.n else a) 0
theorem sumP_snoc (l : List Rn) (s : Rn) : sumP (l ++ [s]) = if s.n > 0 ∧ s.n ≤ 16 then sumP l + s.n else sumP l := by simp [sumP]
theorem sumP_t {l : List Rn} {s : Rn} (h : s.n > 0) (h2 : s.n ≤ 16) : sumP (l ++ [s]) = sumP l + s.n := by rw [sumP_snoc, if_pos ⟨h, h2⟩]
theorem sumP_f {l : List Rn} {s : Rn} (h : ¬ (s.n > 0 ∧ s.n ≤ 16)) : sumP (l ++ [s]) = sumP l := by rw [sumP_snoc, if_neg h]
theorem sumP_bd : ∀ l : List Rn, 0 ≤ sumP l ∧ sumP l ≤ 16 * l.length := by
  refine snoc_ind ⟨Int.le_refl _, Int.le_refl _⟩ ?_; intro l s ih; rw [sumP_snoc, List.length_append, List.length_singleton]
  split <;> omega
def smLaid (bars : List Bar) (runs : List Rn) : Prop := (bars.length ≤ 6 ∨ 60 < bars.length ∧ bars.length ≤ 63) ∧ (runs.length ≤ 6 ∨ 60 < runs.length ∧ runs.length ≤ 63) ∧ (∀ b ∈ bars, shortB b) ∧ (∀ r ∈ runs, shortR r) ∧ (sumP runs ≤ 16 ∨ runs.length > 6)
instance (bars runs) : Decidable (smLaid bars runs) := by unfold smLaid; infer_instance
def smLen (n : Nat) : Prop := (n ≤ 4 ∨ 20 < n) ∧ n ≤ 25
instance (n) : Decidable (smLen n) := by unfold smLen; infer_instance
def smSol (bs hs : List Bx) : Prop := smLen bs.length ∧ smLen hs.length
instance (bs hs) : Decidable (smSol bs hs) := by unfold smSol; infer_instance
def smDet (x : Det) : Prop := x.mem.name.length ≤ 60 ∧ smSol x.mem.bs x.mem.hs ∧ smLaid x.bars x.runs ∧ smD x.dems 4 ∧ (x.laps.length ≤ 16 ∨ 1000 < x.laps.length ∧ x.laps.length ≤ 1005)
instance (x) : Decidable (smDet x) := by unfold smDet; infer_instance
def Det.l (x : Det) : Prop := x.mem.name.length ≤ 140737488355328 ∧ (x.mem.bs.length ≤ 140737488355328 ∧ x.mem.hs.length ≤ 140737488355328) ∧ x.bars.length ≤ 140737488355328 ∧ x.runs.length ≤ 140737488355328 ∧ x.laps.length ≤ 140737488355328 ∧ x.dems.length ≤ 140737488355328
theorem short_fun (b : Bar) : Fun Tryz.prog 46 [.agg b.c] (Ret (.lit (.bool (decide (shortB b)))) []) := by
  refine Fun.of (nt := 13) (rs := [.tmp 2]) Tryz.func46 rfl rfl rfl rfl rfl ?_; refine Ev.sr fun K hK => S.nn (q.bx [_, _, _, _, _] true) (S.o q.as (S.end (hK _ ?_))); clear hK K; refine Ev.sr fun K hK => S.o (q.fa 4 am_fi72_4 am_cl66) (S.o (q.lv am_ag66) (S.o (q.lens am_el66) (S.o q.leq (S.bd q.mv (fun c1 => ?_) (fun c1 => ?_)))))
  · first
  | omega | contradiction
  | refine S.o (q.fa 0 am_fi72_0 am_cl9) (S.o (q.lv am_ag9) (S.o (q.slen am_el9 am_un9) (S.o q.leq (S.o q.pt (S.o q.as (S.end (hK _ ?_))))))); clear hK K; refine Ev.ret ?_; refine Ev.ret1 ?_; refine ⟨?_, rfl⟩
    first | exact bF (fun h => by have h1 := h.1; omega) | exact dI ⟨fun h => ⟨by omega, by omega⟩, fun h => by have h1 := h.2; omega⟩
  · first
  | omega | contradiction
  | refine S.sk (S.sk (S.sk (S.sk (S.o q.pf (S.o q.as (S.end (hK _ ?_))))))); clear hK K; refine Ev.ret ?_; refine Ev.ret1 ?_; refine ⟨?_, rfl⟩
    first | exact bF (fun h => by have h1 := h.1; omega) | exact dI ⟨fun h => ⟨by omega, by omega⟩, fun h => by have h1 := h.2; omega⟩
theorem small16_fun (bars : List Bar) (runs : List Rn) (h1 : bars.length ≤ 140737488355328) (h2 : runs.length ≤ 140737488355328) : Fun Tryz.prog 21 [.sh 5 (bars.map Bar.c), .sh 10 (runs.map Rn.c), .lit (.int .i64 6), .lit (.int .i64 16)] (Ret (.lit (.bool (decide (smLaid bars runs)))) []) := by
  refine Fun.of (nt := 113) (rs := [.tmp 8]) Tryz.func21 rfl rfl rfl rfl rfl ?_; refine Ev.sr fun K hK => S.o q.as (S.end (hK _ ?_)); clear hK K; refine Ev.seq ?_; refine Ev.sr fun K hK => S.o q.mv (S.o (q.lens am_el27) (S.o q.mv (S.o q.gtr (S.bd q.mv (fun c1 => ?_) (fun c1 => ?_)))))
  · first
  | omega | contradiction
  | refine S.o q.mv (S.o (q.lens am_el27) (S.o q.leq (S.o q.pt (S.bd q.mv (fun c2 => ?_) (fun c2 => ?_)))))
    · first
    | omega | contradiction
    | refine S.sk (S.sk (S.sk (S.o q.pt (S.o q.mv (S.sk (S.sk (S.sk (S.sk (S.sk (S.sk (S.sk (S.sk (S.sk (S.o q.pt (S.o q.mv (S.sk (S.sk (S.sk (S.o q.pt (S.end (hK _ ?_))))))))))))))))))))); clear hK K; refine Ev.ct ?_; refine Ev.sr fun K hK => S.o q.as (S.end (hK _ ?_)); clear hK K; refine Ev.ret ?_; refine Ev.ret1 ?_; refine ⟨?_, rfl⟩
      first
       | exact bF (fun h => by have h1 := h.1; have h2 := h.2.1; omega)
       | exact bF (fun h => absurd (h.2.2.1 s hms) ‹_›)
       | exact bF (fun h => by have h1 := (h.2.2.2.1 s hms).1; omega)
       | exact bF (fun h => (h.2.2.2.1 s hms).2 ⟨by omega, by omega⟩)
       | exact bT ⟨by omega, by omega, hba, by rw [← hp]; exact hinv, by rw [← hp]; first | exact .inl (by omega) | (rw [hp]; exact .inr (by omega))⟩
       | exact dI ⟨fun h => ⟨by omega, by omega, hba, by rw [← hp]; exact hinv, by first | exact .inr (by omega) | (rw [← hp]; exact .inl (by omega))⟩, fun h => by have h1 := h.2.2.2.2; rw [← hp] at h1; omega⟩
    · first
    | omega | contradiction
    | refine S.o q.mv (S.o (q.lens am_el27) (S.o q.gtr (S.o q.pf (S.bd q.mv (fun c3 => ?_) (fun c3 => ?_)))))
      · first
      | omega | contradiction
      | refine S.sk (S.sk (S.sk (S.sk (S.sk (S.sk (S.sk (S.sk (S.sk (S.o q.pt (S.o q.mv (S.sk (S.sk (S.sk (S.o q.pt (S.end (hK _ ?_)))))))))))))))); clear hK K; refine Ev.ct ?_; refine Ev.sr fun K hK => S.o q.as (S.end (hK _ ?_)); clear hK K; refine Ev.ret ?_; refine Ev.ret1 ?_; refine ⟨?_, rfl⟩
        first
         | exact bF (fun h => by have h1 := h.1; have h2 := h.2.1; omega)
         | exact bF (fun h => absurd (h.2.2.1 s hms) ‹_›)
         | exact bF (fun h => by have h1 := (h.2.2.2.1 s hms).1; omega)
         | exact bF (fun h => (h.2.2.2.1 s hms).2 ⟨by omega, by omega⟩)
         | exact bT ⟨by omega, by omega, hba, by rw [← hp]; exact hinv, by rw [← hp]; first | exact .inl (by omega) | (rw [hp]; exact .inr (by omega))⟩
         | exact dI ⟨fun h => ⟨by omega, by omega, hba, by rw [← hp]; exact hinv, by first | exact .inr (by omega) | (rw [← hp]; exact .inl (by omega))⟩, fun h => by have h1 := h.2.2.2.2; rw [← hp] at h1; omega⟩
      · first
      | omega | contradiction
      | refine S.o q.mv (S.o (q.lens am_el28) (S.o q.mv (S.o q.gtr (S.bd q.mv (fun c4 => ?_) (fun c4 => ?_)))))
        · first
        | omega | contradiction
        | refine S.o q.mv (S.o (q.lens am_el28) (S.o q.leq (S.o q.pt (S.o q.pf (S.bd q.mv (fun c5 => ?_) (fun c5 => ?_))))))
          · first
          | omega | contradiction
          | refine S.sk (S.sk (S.sk (S.o q.pt (S.end (hK _ ?_))))); clear hK K; refine Ev.ct ?_; refine Ev.sr fun K hK => S.o q.as (S.end (hK _ ?_)); clear hK K; refine Ev.ret ?_; refine Ev.ret1 ?_; refine ⟨?_, rfl⟩
            first
             | exact bF (fun h => by have h1 := h.1; have h2 := h.2.1; omega)
             | exact bF (fun h => absurd (h.2.2.1 s hms) ‹_›)
             | exact bF (fun h => by have h1 := (h.2.2.2.1 s hms).1; omega)
             | exact bF (fun h => (h.2.2.2.1 s hms).2 ⟨by omega, by omega⟩)
             | exact bT ⟨by omega, by omega, hba, by rw [← hp]; exact hinv, by rw [← hp]; first | exact .inl (by omega) | (rw [hp]; exact .inr (by omega))⟩
             | exact dI ⟨fun h => ⟨by omega, by omega, hba, by rw [← hp]; exact hinv, by first | exact .inr (by omega) | (rw [← hp]; exact .inl (by omega))⟩, fun h => by have h1 := h.2.2.2.2; rw [← hp] at h1; omega⟩
          · first
          | omega | contradiction
          | refine S.o q.mv (S.o (q.lens am_el28) (S.o q.gtr (S.o q.pf (S.end (hK _ ?_))))); clear hK K; refine Ev.cd (fun c6 => ?_) (fun c6 => ?_)
            · first
            | omega | contradiction
            | refine Ev.sr fun K hK => S.o q.as (S.end (hK _ ?_)); clear hK K; refine Ev.ret ?_; refine Ev.ret1 ?_; refine ⟨?_, rfl⟩
              first
               | exact bF (fun h => by have h1 := h.1; have h2 := h.2.1; omega)
               | exact bF (fun h => absurd (h.2.2.1 s hms) ‹_›)
               | exact bF (fun h => by have h1 := (h.2.2.2.1 s hms).1; omega)
               | exact bF (fun h => (h.2.2.2.1 s hms).2 ⟨by omega, by omega⟩)
               | exact bT ⟨by omega, by omega, hba, by rw [← hp]; exact hinv, by rw [← hp]; first | exact .inl (by omega) | (rw [hp]; exact .inr (by omega))⟩
               | exact dI ⟨fun h => ⟨by omega, by omega, hba, by rw [← hp]; exact hinv, by first | exact .inr (by omega) | (rw [← hp]; exact .inl (by omega))⟩, fun h => by have h1 := h.2.2.2.2; rw [← hp] at h1; omega⟩
            · first
            | omega | contradiction
            | refine Ev.skip ?_; show Ev _ _ _ _; refine Ev.seq ?_; refine Ev.sr fun K hK => S.o q.as (S.end (hK _ ?_)); clear hK K; refine Ev.block ?_; refine Ev.loopU (ι := {q : List Bar × List Bar // q.1 ++ q.2 = bars ∧ ∀ b ∈ q.1, shortB b}) [] [0, 1, 2, 3] (fun ⟨(pre, suf), _⟩ => [(9, .lit (.int .i64 ((pre.length : Int))))]) (fun ⟨(pre, suf), _⟩ => []) (fun ⟨(pre, suf), _⟩ => suf.length) ⟨([], bars), rfl, fun x hx => by simp at hx⟩ (.c (.c (.c (.c .n)))) keep_n (slots_c (he := (by first | rfl | (congr 2; simp; done))) (h := trivial)) ?_; rintro ⟨⟨pre, suf⟩, hp, hinv⟩ R0 hR0; dsimp only [List.cons_append, List.nil_append, List.length_cons, List.length_nil]
              simp only at hp hinv
              have hpl : pre.length + suf.length = (bars).length := by rw [← hp, List.length_append]
              rcases suf with _ | ⟨s, suf⟩
              · rw [List.append_nil] at hp; simp only [List.length_nil] at hpl; refine Ev.seq ?_; refine Ev.sr fun K hK => S.o q.mv (S.o q.mv (S.o (q.lens am_el27) (S.o q.lss (S.end (hK _ ?_))))); clear hK K; refine Ev.cd (fun c7 => ?_) (fun c7 => ?_)
                · first | omega | contradiction | (exfalso; simp at *; done)
                · first
                | omega | contradiction
                | refine Ev.exit ?_; refine hR0 _ _ ?_; show Ev _ _ _ _
                  have hba : ∀ b ∈ bars, shortB b := by rw [← hp]; exact hinv
                  refine Ev.sr fun K hK => S.o q.as (S.end (hK _ ?_)); clear hK K; refine Ev.seq ?_; refine Ev.sr fun K hK => S.o q.as (S.end (hK _ ?_)); clear hK K; refine Ev.block ?_; refine Ev.loopU (ι := {q : List Rn × List Rn // q.1 ++ q.2 = runs ∧ ∀ b ∈ q.1, shortR b}) [] [0, 1, 2, 3, 9, 42, 43, 44, 45] (fun ⟨(pre, suf), _⟩ => [(11, .lit (.int .i64 ((pre.length : Int)))), (10, .lit (.int .i64 (sumP pre)))]) (fun ⟨(pre, suf), _⟩ => []) (fun ⟨(pre, suf), _⟩ => suf.length) ⟨([], runs), rfl, fun x hx => by simp at hx⟩ (.c (.c (.c (.c (.c (.c (.c (.c (.c .n))))))))) keep_n (slots_c (he := (by first | rfl | (congr 2; simp; done))) (h := (slots_c (he := (by first | rfl | exact iE (sumP_t (by omega) (by omega)).symm | exact iE (sumP_f (by omega)).symm)) (h := trivial)))) ?_; rintro ⟨⟨pre, suf⟩, hp, hinv⟩ R2 hR2; dsimp only [List.cons_append, List.nil_append, List.length_cons, List.length_nil]
                  simp only at hp hinv
                  have hpl : pre.length + suf.length = (runs).length := by rw [← hp, List.length_append]
                  rcases suf with _ | ⟨s, suf⟩
                  · rw [List.append_nil] at hp; simp only [List.length_nil] at hpl; have hsp := sumP_bd pre
                    have hpe : (pre.length : Int) = (runs.length : Int) := by omega
                    refine Ev.seq ?_; refine Ev.sr fun K hK => S.o q.mv (S.o q.mv (S.o (q.lens am_el28) (S.o q.lss (S.end (hK _ ?_))))); clear hK K; refine Ev.cd (fun c8 => ?_) (fun c8 => ?_)
                    · first | omega | contradiction | (exfalso; simp at *; done)
                    · first
                    | omega | contradiction
                    | refine Ev.exit ?_; refine hR2 _ _ ?_; show Ev _ _ _ _; refine Ev.sr fun K hK => S.o q.mv (S.o q.mv (S.o q.leq (S.bd q.mv (fun c9 => ?_) (fun c9 => ?_))))
                      · first
                      | omega | contradiction
                      | refine S.sk (S.sk (S.sk (S.sk (S.o q.pt (S.o q.as (S.end (hK _ ?_))))))); clear hK K; refine Ev.ret ?_; refine Ev.ret1 ?_; refine ⟨?_, rfl⟩
                        first
                         | exact bF (fun h => by have h1 := h.1; have h2 := h.2.1; omega)
                         | exact bF (fun h => absurd (h.2.2.1 s hms) ‹_›)
                         | exact bF (fun h => by have h1 := (h.2.2.2.1 s hms).1; omega)
                         | exact bF (fun h => (h.2.2.2.1 s hms).2 ⟨by omega, by omega⟩)
                         | exact bT ⟨by omega, by omega, hba, by rw [← hp]; exact hinv, by rw [← hp]; first | exact .inl (by omega) | (rw [hp]; exact .inr (by omega))⟩
                         | exact dI ⟨fun h => ⟨by omega, by omega, hba, by rw [← hp]; exact hinv, by first | exact .inr (by omega) | (rw [← hp]; exact .inl (by omega))⟩, fun h => by have h1 := h.2.2.2.2; rw [← hp] at h1; omega⟩
                      · first
                      | omega | contradiction
                      | refine S.o q.mv (S.o (q.lens am_el28) (S.o q.mv (S.o q.gtr (S.o q.pf (S.o q.as (S.end (hK _ ?_))))))); clear hK K; refine Ev.ret ?_; refine Ev.ret1 ?_; refine ⟨?_, rfl⟩
                        first
                         | exact bF (fun h => by have h1 := h.1; have h2 := h.2.1; omega)
                         | exact bF (fun h => absurd (h.2.2.1 s hms) ‹_›)
                         | exact bF (fun h => by have h1 := (h.2.2.2.1 s hms).1; omega)
                         | exact bF (fun h => (h.2.2.2.1 s hms).2 ⟨by omega, by omega⟩)
                         | exact bT ⟨by omega, by omega, hba, by rw [← hp]; exact hinv, by rw [← hp]; first | exact .inl (by omega) | (rw [hp]; exact .inr (by omega))⟩
                         | exact dI ⟨fun h => ⟨by omega, by omega, hba, by rw [← hp]; exact hinv, by first | exact .inr (by omega) | (rw [← hp]; exact .inl (by omega))⟩, fun h => by have h1 := h.2.2.2.2; rw [← hp] at h1; omega⟩
                  · simp only [List.length_cons] at hpl
                    have hidx : runs[pre.length]? = some s := by rw [← hp]; simp
                    have hms : s ∈ runs := by rw [← hp]; simp
                    have hsp := sumP_bd pre; refine Ev.seq ?_; refine Ev.sr fun K hK => S.o q.mv (S.o q.mv (S.o (q.lens am_el28) (S.o q.lss (S.end (hK _ ?_))))); clear hK K; refine Ev.cd (fun c10 => ?_) (fun c10 => ?_)
                    · first
                    | omega | contradiction
                    | refine Ev.skip ?_; show Ev _ _ _ _; refine Ev.seq ?_; refine Ev.block ?_; refine Ev.seq ?_; refine Ev.sr fun K hK => S.o q.mv (S.o q.mv (S.o (q.ix am_el28 am_cl82 (hl := (by first | exact ati hidx (by omega) | exact atig (by omega)))) (S.o (q.fs 0 am_fi82_0 am_cl9) (S.o (q.ls am_ag9) (S.o (q.slen am_el9 am_un9) (S.o q.gtr (S.end (hK _ ?_)))))))); clear hK K; refine Ev.cd (fun c11 => ?_) (fun c11 => ?_)
                      · first
                      | omega | contradiction
                      | refine Ev.sr fun K hK => S.o q.as (S.end (hK _ ?_)); clear hK K; refine Ev.ret ?_; refine hR2 _ _ ?_; refine Ev.ret1 ?_; refine ⟨?_, rfl⟩
                        first
                         | exact bF (fun h => by have h1 := h.1; have h2 := h.2.1; omega)
                         | exact bF (fun h => absurd (h.2.2.1 s hms) ‹_›)
                         | exact bF (fun h => by have h1 := (h.2.2.2.1 s hms).1; omega)
                         | exact bF (fun h => (h.2.2.2.1 s hms).2 ⟨by omega, by omega⟩)
                         | exact bT ⟨by omega, by omega, hba, by rw [← hp]; exact hinv, by rw [← hp]; first | exact .inl (by omega) | (rw [hp]; exact .inr (by omega))⟩
                         | exact dI ⟨fun h => ⟨by omega, by omega, hba, by rw [← hp]; exact hinv, by first | exact .inr (by omega) | (rw [← hp]; exact .inl (by omega))⟩, fun h => by have h1 := h.2.2.2.2; rw [← hp] at h1; omega⟩
                      · first
                      | omega | contradiction
                      | refine Ev.skip ?_; show Ev _ _ _ _; refine Ev.seq ?_; refine Ev.sr fun K hK => S.o q.mv (S.o q.mv (S.o (q.ix am_el28 am_cl82 (hl := (by first | exact ati hidx (by omega) | exact atig (by omega)))) (S.o (q.fs 9 am_fi82_4 am_cl3) (S.o (q.ls am_ag3) (S.o q.mv (S.o q.gtr (S.bd q.mv (fun c12 => ?_) (fun c12 => ?_))))))))
                        · first
                        | omega | contradiction
                        | refine S.o q.mv (S.o q.mv (S.o (q.ix am_el28 am_cl82 (hl := (by first | exact ati hidx (by omega) | exact atig (by omega)))) (S.o (q.fs 9 am_fi82_4 am_cl3) (S.o (q.ls am_ag3) (S.o q.leq (S.o q.pt (S.end (hK _ ?_)))))))); clear hK K; refine Ev.cd (fun c13 => ?_) (fun c13 => ?_)
                          · first
                          | omega | contradiction
                          | refine Ev.sr fun K hK => S.o q.as (S.end (hK _ ?_)); clear hK K; refine Ev.ret ?_; refine hR2 _ _ ?_; refine Ev.ret1 ?_; refine ⟨?_, rfl⟩
                            first
                             | exact bF (fun h => by have h1 := h.1; have h2 := h.2.1; omega)
                             | exact bF (fun h => absurd (h.2.2.1 s hms) ‹_›)
                             | exact bF (fun h => by have h1 := (h.2.2.2.1 s hms).1; omega)
                             | exact bF (fun h => (h.2.2.2.1 s hms).2 ⟨by omega, by omega⟩)
                             | exact bT ⟨by omega, by omega, hba, by rw [← hp]; exact hinv, by rw [← hp]; first | exact .inl (by omega) | (rw [hp]; exact .inr (by omega))⟩
                             | exact dI ⟨fun h => ⟨by omega, by omega, hba, by rw [← hp]; exact hinv, by first | exact .inr (by omega) | (rw [← hp]; exact .inl (by omega))⟩, fun h => by have h1 := h.2.2.2.2; rw [← hp] at h1; omega⟩
                          · first
                          | omega | contradiction
                          | refine Ev.skip ?_; show Ev _ _ _ _; refine Ev.sr fun K hK => S.o q.mv (S.o q.mv (S.o (q.ix am_el28 am_cl82 (hl := (by first | exact ati hidx (by omega) | exact atig (by omega)))) (S.o (q.fs 9 am_fi82_4 am_cl3) (S.o (q.ls am_ag3) (S.o q.gtr (S.bd q.mv (fun c14 => ?_) (fun c14 => ?_)))))))
                            · first
                            | omega | contradiction
                            | refine S.o q.mv (S.o q.mv (S.o (q.ix am_el28 am_cl82 (hl := (by first | exact ati hidx (by omega) | exact atig (by omega)))) (S.o (q.fs 9 am_fi82_4 am_cl3) (S.o (q.ls am_ag3) (S.o q.mv (S.o q.leq (S.o q.pt (S.end (hK _ ?_))))))))); clear hK K; refine Ev.cd (fun c15 => ?_) (fun c15 => ?_)
                              · first
                              | omega | contradiction
                              | refine Ev.region_S fun K hK => S.o q.mv (S.o q.mv (S.o q.mv (S.o (q.ix am_el28 am_cl82 (hl := (by first | exact ati hidx (by omega) | exact atig (by omega)))) (S.o (q.fs 9 am_fi82_4 am_cl3) (S.o (q.ls am_ag3) (S.o q.add (S.o q.as (S.end (hK _ ?_))))))))); clear hK K; show Ev _ _ _ _; refine Ev.region_S fun K hK => S.o q.mv (S.o q.add (S.o q.as (S.end (hK _ ?_)))); clear hK K; refine hR2 _ _ ?_; refine roundU [] [0, 1, 2, 3, 9, 42, 43, 44, 45] ⟨(pre ++ [s], suf), by rw [← hp]; simp, ?_⟩ ?_ keep_n (slots_c (he := (by first | rfl | (congr 2; simp; done))) (h := (slots_c (he := (by first | rfl | exact iE (sumP_t (by omega) (by omega)).symm | exact iE (sumP_f (by omega)).symm)) (h := trivial)))) (.c (.c (.c (.c (.c (.c (.c (.c (.c .n)))))))))
                                intro x hx; simp only [List.mem_append, List.mem_singleton] at hx; rcases hx with hx | rfl
                                · exact hinv x hx
                                · exact ⟨by omega, by omega⟩
                                all_goals (dsimp only; simp only [List.length_cons]; omega)
                              · first
                              | omega | contradiction
                              | refine Ev.skip ?_; show Ev _ _ _ _; refine Ev.region_S fun K hK => S.o q.mv (S.o q.add (S.o q.as (S.end (hK _ ?_)))); clear hK K; refine hR2 _ _ ?_; refine roundU [] [0, 1, 2, 3, 9, 42, 43, 44, 45] ⟨(pre ++ [s], suf), by rw [← hp]; simp, ?_⟩ ?_ keep_n (slots_c (he := (by first | rfl | (congr 2; simp; done))) (h := (slots_c (he := (by first | rfl | exact iE (sumP_t (by omega) (by omega)).symm | exact iE (sumP_f (by omega)).symm)) (h := trivial)))) (.c (.c (.c (.c (.c (.c (.c (.c (.c .n)))))))))
                                intro x hx; simp only [List.mem_append, List.mem_singleton] at hx; rcases hx with hx | rfl
                                · exact hinv x hx
                                · exact ⟨by omega, by omega⟩
                                all_goals (dsimp only; simp only [List.length_cons]; omega)
                            · first
                            | omega | contradiction
                            | refine S.sk (S.sk (S.sk (S.sk (S.sk (S.sk (S.sk (S.o q.pf (S.end (hK _ ?_))))))))); clear hK K; refine Ev.cf ?_; refine Ev.skip ?_; show Ev _ _ _ _; refine Ev.region_S fun K hK => S.o q.mv (S.o q.add (S.o q.as (S.end (hK _ ?_)))); clear hK K; refine hR2 _ _ ?_; refine roundU [] [0, 1, 2, 3, 9, 42, 43, 44, 45] ⟨(pre ++ [s], suf), by rw [← hp]; simp, ?_⟩ ?_ keep_n (slots_c (he := (by first | rfl | (congr 2; simp; done))) (h := (slots_c (he := (by first | rfl | exact iE (sumP_t (by omega) (by omega)).symm | exact iE (sumP_f (by omega)).symm)) (h := trivial)))) (.c (.c (.c (.c (.c (.c (.c (.c (.c .n)))))))))
                              intro x hx; simp only [List.mem_append, List.mem_singleton] at hx; rcases hx with hx | rfl
                              · exact hinv x hx
                              · exact ⟨by omega, by omega⟩
                              all_goals (dsimp only; simp only [List.length_cons]; omega)
                        · first
                        | omega | contradiction
                        | refine S.sk (S.sk (S.sk (S.sk (S.sk (S.sk (S.o q.pf (S.end (hK _ ?_)))))))); clear hK K; refine Ev.cf ?_; refine Ev.skip ?_; show Ev _ _ _ _; refine Ev.sr fun K hK => S.o q.mv (S.o q.mv (S.o (q.ix am_el28 am_cl82 (hl := (by first | exact ati hidx (by omega) | exact atig (by omega)))) (S.o (q.fs 9 am_fi82_4 am_cl3) (S.o (q.ls am_ag3) (S.o q.gtr (S.bd q.mv (fun c16 => ?_) (fun c16 => ?_)))))))
                          · first
                          | omega | contradiction
                          | refine S.o q.mv (S.o q.mv (S.o (q.ix am_el28 am_cl82 (hl := (by first | exact ati hidx (by omega) | exact atig (by omega)))) (S.o (q.fs 9 am_fi82_4 am_cl3) (S.o (q.ls am_ag3) (S.o q.mv (S.o q.leq (S.o q.pt (S.end (hK _ ?_))))))))); clear hK K; refine Ev.cd (fun c17 => ?_) (fun c17 => ?_)
                            · first
                            | omega | contradiction
                            | refine Ev.region_S fun K hK => S.o q.mv (S.o q.mv (S.o q.mv (S.o (q.ix am_el28 am_cl82 (hl := (by first | exact ati hidx (by omega) | exact atig (by omega)))) (S.o (q.fs 9 am_fi82_4 am_cl3) (S.o (q.ls am_ag3) (S.o q.add (S.o q.as (S.end (hK _ ?_))))))))); clear hK K; show Ev _ _ _ _; refine Ev.region_S fun K hK => S.o q.mv (S.o q.add (S.o q.as (S.end (hK _ ?_)))); clear hK K; refine hR2 _ _ ?_; refine roundU [] [0, 1, 2, 3, 9, 42, 43, 44, 45] ⟨(pre ++ [s], suf), by rw [← hp]; simp, ?_⟩ ?_ keep_n (slots_c (he := (by first | rfl | (congr 2; simp; done))) (h := (slots_c (he := (by first | rfl | exact iE (sumP_t (by omega) (by omega)).symm | exact iE (sumP_f (by omega)).symm)) (h := trivial)))) (.c (.c (.c (.c (.c (.c (.c (.c (.c .n)))))))))
                              intro x hx; simp only [List.mem_append, List.mem_singleton] at hx; rcases hx with hx | rfl
                              · exact hinv x hx
                              · exact ⟨by omega, by omega⟩
                              all_goals (dsimp only; simp only [List.length_cons]; omega)
                            · first
                            | omega | contradiction
                            | refine Ev.skip ?_; show Ev _ _ _ _; refine Ev.region_S fun K hK => S.o q.mv (S.o q.add (S.o q.as (S.end (hK _ ?_)))); clear hK K; refine hR2 _ _ ?_; refine roundU [] [0, 1, 2, 3, 9, 42, 43, 44, 45] ⟨(pre ++ [s], suf), by rw [← hp]; simp, ?_⟩ ?_ keep_n (slots_c (he := (by first | rfl | (congr 2; simp; done))) (h := (slots_c (he := (by first | rfl | exact iE (sumP_t (by omega) (by omega)).symm | exact iE (sumP_f (by omega)).symm)) (h := trivial)))) (.c (.c (.c (.c (.c (.c (.c (.c (.c .n)))))))))
                              intro x hx; simp only [List.mem_append, List.mem_singleton] at hx; rcases hx with hx | rfl
                              · exact hinv x hx
                              · exact ⟨by omega, by omega⟩
                              all_goals (dsimp only; simp only [List.length_cons]; omega)
                          · first
                          | omega | contradiction
                          | refine S.sk (S.sk (S.sk (S.sk (S.sk (S.sk (S.sk (S.o q.pf (S.end (hK _ ?_))))))))); clear hK K; refine Ev.cf ?_; refine Ev.skip ?_; show Ev _ _ _ _; refine Ev.region_S fun K hK => S.o q.mv (S.o q.add (S.o q.as (S.end (hK _ ?_)))); clear hK K; refine hR2 _ _ ?_; refine roundU [] [0, 1, 2, 3, 9, 42, 43, 44, 45] ⟨(pre ++ [s], suf), by rw [← hp]; simp, ?_⟩ ?_ keep_n (slots_c (he := (by first | rfl | (congr 2; simp; done))) (h := (slots_c (he := (by first | rfl | exact iE (sumP_t (by omega) (by omega)).symm | exact iE (sumP_f (by omega)).symm)) (h := trivial)))) (.c (.c (.c (.c (.c (.c (.c (.c (.c .n)))))))))
                            intro x hx; simp only [List.mem_append, List.mem_singleton] at hx; rcases hx with hx | rfl
                            · exact hinv x hx
                            · exact ⟨by omega, by omega⟩
                            all_goals (dsimp only; simp only [List.length_cons]; omega)
                    · first | omega | contradiction | (exfalso; simp at *; done)
              · simp only [List.length_cons] at hpl
                have hidx : bars[pre.length]? = some s := by rw [← hp]; simp
                have hms : s ∈ bars := by rw [← hp]; simp
                refine Ev.seq ?_; refine Ev.sr fun K hK => S.o q.mv (S.o q.mv (S.o (q.lens am_el27) (S.o q.lss (S.end (hK _ ?_))))); clear hK K; refine Ev.cd (fun c18 => ?_) (fun c18 => ?_)
                · first
                | omega | contradiction
                | refine Ev.skip ?_; show Ev _ _ _ _; refine Ev.seq ?_; refine Ev.block ?_; refine Ev.sr fun K hK => S.o q.mv (S.o q.mv (S.o (q.ix am_el27 am_cl72 (hl := (by first | exact ati hidx (by omega) | exact atig (by omega)))) (S.o (q.lsA [_, _, _, _, _] am_ag72 am_cl72) (S.c0 (hF := short_fun s) (h := S.o q.not (S.end (hK _ ?_))))))); clear hK K; refine Ev.cn (fun c19 => ?_) (fun c19 => ?_)
                  · first
                  | omega | contradiction
                  | refine Ev.sr fun K hK => S.o q.as (S.end (hK _ ?_)); clear hK K; refine Ev.ret ?_; refine hR0 _ _ ?_; refine Ev.ret1 ?_; refine ⟨?_, rfl⟩
                    first
                     | exact bF (fun h => by have h1 := h.1; have h2 := h.2.1; omega)
                     | exact bF (fun h => absurd (h.2.2.1 s hms) ‹_›)
                     | exact bF (fun h => by have h1 := (h.2.2.2.1 s hms).1; omega)
                     | exact bF (fun h => (h.2.2.2.1 s hms).2 ⟨by omega, by omega⟩)
                     | exact bT ⟨by omega, by omega, hba, by rw [← hp]; exact hinv, by rw [← hp]; first | exact .inl (by omega) | (rw [hp]; exact .inr (by omega))⟩
                     | exact dI ⟨fun h => ⟨by omega, by omega, hba, by rw [← hp]; exact hinv, by first | exact .inr (by omega) | (rw [← hp]; exact .inl (by omega))⟩, fun h => by have h1 := h.2.2.2.2; rw [← hp] at h1; omega⟩
                  · first
                  | omega | contradiction
                  | refine Ev.skip ?_; show Ev _ _ _ _; refine Ev.region_S fun K hK => S.o q.mv (S.o q.add (S.o q.as (S.end (hK _ ?_)))); clear hK K; refine hR0 _ _ ?_; refine roundU [] [0, 1, 2, 3] ⟨(pre ++ [s], suf), by rw [← hp]; simp, ?_⟩ ?_ keep_n (slots_c (he := (by first | rfl | (congr 2; simp; done))) (h := trivial)) (.c (.c (.c (.c .n))))
                    intro x hx; simp only [List.mem_append, List.mem_singleton] at hx; rcases hx with hx | rfl
                    · exact hinv x hx
                    · assumption
                    all_goals (dsimp only; simp only [List.length_cons]; omega)
                · first | omega | contradiction | (exfalso; simp at *; done)
        · first
        | omega | contradiction
        | refine S.sk (S.sk (S.sk (S.o q.pf (S.o q.pf (S.o q.mv (S.o q.mv (S.o (q.lens am_el28) (S.o q.gtr (S.o q.pf (S.end (hK _ ?_))))))))))); clear hK K; refine Ev.cd (fun c20 => ?_) (fun c20 => ?_)
          · first
          | omega | contradiction
          | refine Ev.sr fun K hK => S.o q.as (S.end (hK _ ?_)); clear hK K; refine Ev.ret ?_; refine Ev.ret1 ?_; refine ⟨?_, rfl⟩
            first
             | exact bF (fun h => by have h1 := h.1; have h2 := h.2.1; omega)
             | exact bF (fun h => absurd (h.2.2.1 s hms) ‹_›)
             | exact bF (fun h => by have h1 := (h.2.2.2.1 s hms).1; omega)
             | exact bF (fun h => (h.2.2.2.1 s hms).2 ⟨by omega, by omega⟩)
             | exact bT ⟨by omega, by omega, hba, by rw [← hp]; exact hinv, by rw [← hp]; first | exact .inl (by omega) | (rw [hp]; exact .inr (by omega))⟩
             | exact dI ⟨fun h => ⟨by omega, by omega, hba, by rw [← hp]; exact hinv, by first | exact .inr (by omega) | (rw [← hp]; exact .inl (by omega))⟩, fun h => by have h1 := h.2.2.2.2; rw [← hp] at h1; omega⟩
          · first
          | omega | contradiction
          | refine Ev.skip ?_; show Ev _ _ _ _; refine Ev.seq ?_; refine Ev.sr fun K hK => S.o q.as (S.end (hK _ ?_)); clear hK K; refine Ev.block ?_; refine Ev.loopU (ι := {q : List Bar × List Bar // q.1 ++ q.2 = bars ∧ ∀ b ∈ q.1, shortB b}) [] [0, 1, 2, 3] (fun ⟨(pre, suf), _⟩ => [(9, .lit (.int .i64 ((pre.length : Int))))]) (fun ⟨(pre, suf), _⟩ => []) (fun ⟨(pre, suf), _⟩ => suf.length) ⟨([], bars), rfl, fun x hx => by simp at hx⟩ (.c (.c (.c (.c .n)))) keep_n (slots_c (he := (by first | rfl | (congr 2; simp; done))) (h := trivial)) ?_; rintro ⟨⟨pre, suf⟩, hp, hinv⟩ R0 hR0; dsimp only [List.cons_append, List.nil_append, List.length_cons, List.length_nil]
            simp only at hp hinv
            have hpl : pre.length + suf.length = (bars).length := by rw [← hp, List.length_append]
            rcases suf with _ | ⟨s, suf⟩
            · rw [List.append_nil] at hp; simp only [List.length_nil] at hpl; refine Ev.seq ?_; refine Ev.sr fun K hK => S.o q.mv (S.o q.mv (S.o (q.lens am_el27) (S.o q.lss (S.end (hK _ ?_))))); clear hK K; refine Ev.cd (fun c21 => ?_) (fun c21 => ?_)
              · first | omega | contradiction | (exfalso; simp at *; done)
              · first
              | omega | contradiction
              | refine Ev.exit ?_; refine hR0 _ _ ?_; show Ev _ _ _ _
                have hba : ∀ b ∈ bars, shortB b := by rw [← hp]; exact hinv
                refine Ev.sr fun K hK => S.o q.as (S.end (hK _ ?_)); clear hK K; refine Ev.seq ?_; refine Ev.sr fun K hK => S.o q.as (S.end (hK _ ?_)); clear hK K; refine Ev.block ?_; refine Ev.loopU (ι := {q : List Rn × List Rn // q.1 ++ q.2 = runs ∧ ∀ b ∈ q.1, shortR b}) [] [0, 1, 2, 3, 9, 42, 43, 44, 45] (fun ⟨(pre, suf), _⟩ => [(11, .lit (.int .i64 ((pre.length : Int)))), (10, .lit (.int .i64 (sumP pre)))]) (fun ⟨(pre, suf), _⟩ => []) (fun ⟨(pre, suf), _⟩ => suf.length) ⟨([], runs), rfl, fun x hx => by simp at hx⟩ (.c (.c (.c (.c (.c (.c (.c (.c (.c .n))))))))) keep_n (slots_c (he := (by first | rfl | (congr 2; simp; done))) (h := (slots_c (he := (by first | rfl | exact iE (sumP_t (by omega) (by omega)).symm | exact iE (sumP_f (by omega)).symm)) (h := trivial)))) ?_; rintro ⟨⟨pre, suf⟩, hp, hinv⟩ R2 hR2; dsimp only [List.cons_append, List.nil_append, List.length_cons, List.length_nil]
                simp only at hp hinv
                have hpl : pre.length + suf.length = (runs).length := by rw [← hp, List.length_append]
                rcases suf with _ | ⟨s, suf⟩
                · rw [List.append_nil] at hp; simp only [List.length_nil] at hpl; have hsp := sumP_bd pre
                  have hpe : (pre.length : Int) = (runs.length : Int) := by omega
                  refine Ev.seq ?_; refine Ev.sr fun K hK => S.o q.mv (S.o q.mv (S.o (q.lens am_el28) (S.o q.lss (S.end (hK _ ?_))))); clear hK K; refine Ev.cd (fun c22 => ?_) (fun c22 => ?_)
                  · first | omega | contradiction | (exfalso; simp at *; done)
                  · first
                  | omega | contradiction
                  | refine Ev.exit ?_; refine hR2 _ _ ?_; show Ev _ _ _ _; refine Ev.sr fun K hK => S.o q.mv (S.o q.mv (S.o q.leq (S.bd q.mv (fun c23 => ?_) (fun c23 => ?_))))
                    · first
                    | omega | contradiction
                    | refine S.sk (S.sk (S.sk (S.sk (S.o q.pt (S.o q.as (S.end (hK _ ?_))))))); clear hK K; refine Ev.ret ?_; refine Ev.ret1 ?_; refine ⟨?_, rfl⟩
                      first
                       | exact bF (fun h => by have h1 := h.1; have h2 := h.2.1; omega)
                       | exact bF (fun h => absurd (h.2.2.1 s hms) ‹_›)
                       | exact bF (fun h => by have h1 := (h.2.2.2.1 s hms).1; omega)
                       | exact bF (fun h => (h.2.2.2.1 s hms).2 ⟨by omega, by omega⟩)
                       | exact bT ⟨by omega, by omega, hba, by rw [← hp]; exact hinv, by rw [← hp]; first | exact .inl (by omega) | (rw [hp]; exact .inr (by omega))⟩
                       | exact dI ⟨fun h => ⟨by omega, by omega, hba, by rw [← hp]; exact hinv, by first | exact .inr (by omega) | (rw [← hp]; exact .inl (by omega))⟩, fun h => by have h1 := h.2.2.2.2; rw [← hp] at h1; omega⟩
                    · first
                    | omega | contradiction
                    | refine S.o q.mv (S.o (q.lens am_el28) (S.o q.mv (S.o q.gtr (S.o q.pf (S.o q.as (S.end (hK _ ?_))))))); clear hK K; refine Ev.ret ?_; refine Ev.ret1 ?_; refine ⟨?_, rfl⟩
                      first
                       | exact bF (fun h => by have h1 := h.1; have h2 := h.2.1; omega)
                       | exact bF (fun h => absurd (h.2.2.1 s hms) ‹_›)
                       | exact bF (fun h => by have h1 := (h.2.2.2.1 s hms).1; omega)
                       | exact bF (fun h => (h.2.2.2.1 s hms).2 ⟨by omega, by omega⟩)
                       | exact bT ⟨by omega, by omega, hba, by rw [← hp]; exact hinv, by rw [← hp]; first | exact .inl (by omega) | (rw [hp]; exact .inr (by omega))⟩
                       | exact dI ⟨fun h => ⟨by omega, by omega, hba, by rw [← hp]; exact hinv, by first | exact .inr (by omega) | (rw [← hp]; exact .inl (by omega))⟩, fun h => by have h1 := h.2.2.2.2; rw [← hp] at h1; omega⟩
                · simp only [List.length_cons] at hpl
                  have hidx : runs[pre.length]? = some s := by rw [← hp]; simp
                  have hms : s ∈ runs := by rw [← hp]; simp
                  have hsp := sumP_bd pre; refine Ev.seq ?_; refine Ev.sr fun K hK => S.o q.mv (S.o q.mv (S.o (q.lens am_el28) (S.o q.lss (S.end (hK _ ?_))))); clear hK K; refine Ev.cd (fun c24 => ?_) (fun c24 => ?_)
                  · first
                  | omega | contradiction
                  | refine Ev.skip ?_; show Ev _ _ _ _; refine Ev.seq ?_; refine Ev.block ?_; refine Ev.seq ?_; refine Ev.sr fun K hK => S.o q.mv (S.o q.mv (S.o (q.ix am_el28 am_cl82 (hl := (by first | exact ati hidx (by omega) | exact atig (by omega)))) (S.o (q.fs 0 am_fi82_0 am_cl9) (S.o (q.ls am_ag9) (S.o (q.slen am_el9 am_un9) (S.o q.gtr (S.end (hK _ ?_)))))))); clear hK K; refine Ev.cd (fun c25 => ?_) (fun c25 => ?_)
                    · first
                    | omega | contradiction
                    | refine Ev.sr fun K hK => S.o q.as (S.end (hK _ ?_)); clear hK K; refine Ev.ret ?_; refine hR2 _ _ ?_; refine Ev.ret1 ?_; refine ⟨?_, rfl⟩
                      first
                       | exact bF (fun h => by have h1 := h.1; have h2 := h.2.1; omega)
                       | exact bF (fun h => absurd (h.2.2.1 s hms) ‹_›)
                       | exact bF (fun h => by have h1 := (h.2.2.2.1 s hms).1; omega)
                       | exact bF (fun h => (h.2.2.2.1 s hms).2 ⟨by omega, by omega⟩)
                       | exact bT ⟨by omega, by omega, hba, by rw [← hp]; exact hinv, by rw [← hp]; first | exact .inl (by omega) | (rw [hp]; exact .inr (by omega))⟩
                       | exact dI ⟨fun h => ⟨by omega, by omega, hba, by rw [← hp]; exact hinv, by first | exact .inr (by omega) | (rw [← hp]; exact .inl (by omega))⟩, fun h => by have h1 := h.2.2.2.2; rw [← hp] at h1; omega⟩
                    · first
                    | omega | contradiction
                    | refine Ev.skip ?_; show Ev _ _ _ _; refine Ev.seq ?_; refine Ev.sr fun K hK => S.o q.mv (S.o q.mv (S.o (q.ix am_el28 am_cl82 (hl := (by first | exact ati hidx (by omega) | exact atig (by omega)))) (S.o (q.fs 9 am_fi82_4 am_cl3) (S.o (q.ls am_ag3) (S.o q.mv (S.o q.gtr (S.bd q.mv (fun c26 => ?_) (fun c26 => ?_))))))))
                      · first
                      | omega | contradiction
                      | refine S.o q.mv (S.o q.mv (S.o (q.ix am_el28 am_cl82 (hl := (by first | exact ati hidx (by omega) | exact atig (by omega)))) (S.o (q.fs 9 am_fi82_4 am_cl3) (S.o (q.ls am_ag3) (S.o q.leq (S.o q.pt (S.end (hK _ ?_)))))))); clear hK K; refine Ev.cd (fun c27 => ?_) (fun c27 => ?_)
                        · first
                        | omega | contradiction
                        | refine Ev.sr fun K hK => S.o q.as (S.end (hK _ ?_)); clear hK K; refine Ev.ret ?_; refine hR2 _ _ ?_; refine Ev.ret1 ?_; refine ⟨?_, rfl⟩
                          first
                           | exact bF (fun h => by have h1 := h.1; have h2 := h.2.1; omega)
                           | exact bF (fun h => absurd (h.2.2.1 s hms) ‹_›)
                           | exact bF (fun h => by have h1 := (h.2.2.2.1 s hms).1; omega)
                           | exact bF (fun h => (h.2.2.2.1 s hms).2 ⟨by omega, by omega⟩)
                           | exact bT ⟨by omega, by omega, hba, by rw [← hp]; exact hinv, by rw [← hp]; first | exact .inl (by omega) | (rw [hp]; exact .inr (by omega))⟩
                           | exact dI ⟨fun h => ⟨by omega, by omega, hba, by rw [← hp]; exact hinv, by first | exact .inr (by omega) | (rw [← hp]; exact .inl (by omega))⟩, fun h => by have h1 := h.2.2.2.2; rw [← hp] at h1; omega⟩
                        · first
                        | omega | contradiction
                        | refine Ev.skip ?_; show Ev _ _ _ _; refine Ev.sr fun K hK => S.o q.mv (S.o q.mv (S.o (q.ix am_el28 am_cl82 (hl := (by first | exact ati hidx (by omega) | exact atig (by omega)))) (S.o (q.fs 9 am_fi82_4 am_cl3) (S.o (q.ls am_ag3) (S.o q.gtr (S.bd q.mv (fun c28 => ?_) (fun c28 => ?_)))))))
                          · first
                          | omega | contradiction
                          | refine S.o q.mv (S.o q.mv (S.o (q.ix am_el28 am_cl82 (hl := (by first | exact ati hidx (by omega) | exact atig (by omega)))) (S.o (q.fs 9 am_fi82_4 am_cl3) (S.o (q.ls am_ag3) (S.o q.mv (S.o q.leq (S.o q.pt (S.end (hK _ ?_))))))))); clear hK K; refine Ev.cd (fun c29 => ?_) (fun c29 => ?_)
                            · first
                            | omega | contradiction
                            | refine Ev.region_S fun K hK => S.o q.mv (S.o q.mv (S.o q.mv (S.o (q.ix am_el28 am_cl82 (hl := (by first | exact ati hidx (by omega) | exact atig (by omega)))) (S.o (q.fs 9 am_fi82_4 am_cl3) (S.o (q.ls am_ag3) (S.o q.add (S.o q.as (S.end (hK _ ?_))))))))); clear hK K; show Ev _ _ _ _; refine Ev.region_S fun K hK => S.o q.mv (S.o q.add (S.o q.as (S.end (hK _ ?_)))); clear hK K; refine hR2 _ _ ?_; refine roundU [] [0, 1, 2, 3, 9, 42, 43, 44, 45] ⟨(pre ++ [s], suf), by rw [← hp]; simp, ?_⟩ ?_ keep_n (slots_c (he := (by first | rfl | (congr 2; simp; done))) (h := (slots_c (he := (by first | rfl | exact iE (sumP_t (by omega) (by omega)).symm | exact iE (sumP_f (by omega)).symm)) (h := trivial)))) (.c (.c (.c (.c (.c (.c (.c (.c (.c .n)))))))))
                              intro x hx; simp only [List.mem_append, List.mem_singleton] at hx; rcases hx with hx | rfl
                              · exact hinv x hx
                              · exact ⟨by omega, by omega⟩
                              all_goals (dsimp only; simp only [List.length_cons]; omega)
                            · first
                            | omega | contradiction
                            | refine Ev.skip ?_; show Ev _ _ _ _; refine Ev.region_S fun K hK => S.o q.mv (S.o q.add (S.o q.as (S.end (hK _ ?_)))); clear hK K; refine hR2 _ _ ?_; refine roundU [] [0, 1, 2, 3, 9, 42, 43, 44, 45] ⟨(pre ++ [s], suf), by rw [← hp]; simp, ?_⟩ ?_ keep_n (slots_c (he := (by first | rfl | (congr 2; simp; done))) (h := (slots_c (he := (by first | rfl | exact iE (sumP_t (by omega) (by omega)).symm | exact iE (sumP_f (by omega)).symm)) (h := trivial)))) (.c (.c (.c (.c (.c (.c (.c (.c (.c .n)))))))))
                              intro x hx; simp only [List.mem_append, List.mem_singleton] at hx; rcases hx with hx | rfl
                              · exact hinv x hx
                              · exact ⟨by omega, by omega⟩
                              all_goals (dsimp only; simp only [List.length_cons]; omega)
                          · first
                          | omega | contradiction
                          | refine S.sk (S.sk (S.sk (S.sk (S.sk (S.sk (S.sk (S.o q.pf (S.end (hK _ ?_))))))))); clear hK K; refine Ev.cf ?_; refine Ev.skip ?_; show Ev _ _ _ _; refine Ev.region_S fun K hK => S.o q.mv (S.o q.add (S.o q.as (S.end (hK _ ?_)))); clear hK K; refine hR2 _ _ ?_; refine roundU [] [0, 1, 2, 3, 9, 42, 43, 44, 45] ⟨(pre ++ [s], suf), by rw [← hp]; simp, ?_⟩ ?_ keep_n (slots_c (he := (by first | rfl | (congr 2; simp; done))) (h := (slots_c (he := (by first | rfl | exact iE (sumP_t (by omega) (by omega)).symm | exact iE (sumP_f (by omega)).symm)) (h := trivial)))) (.c (.c (.c (.c (.c (.c (.c (.c (.c .n)))))))))
                            intro x hx; simp only [List.mem_append, List.mem_singleton] at hx; rcases hx with hx | rfl
                            · exact hinv x hx
                            · exact ⟨by omega, by omega⟩
                            all_goals (dsimp only; simp only [List.length_cons]; omega)
                      · first
                      | omega | contradiction
                      | refine S.sk (S.sk (S.sk (S.sk (S.sk (S.sk (S.o q.pf (S.end (hK _ ?_)))))))); clear hK K; refine Ev.cf ?_; refine Ev.skip ?_; show Ev _ _ _ _; refine Ev.sr fun K hK => S.o q.mv (S.o q.mv (S.o (q.ix am_el28 am_cl82 (hl := (by first | exact ati hidx (by omega) | exact atig (by omega)))) (S.o (q.fs 9 am_fi82_4 am_cl3) (S.o (q.ls am_ag3) (S.o q.gtr (S.bd q.mv (fun c30 => ?_) (fun c30 => ?_)))))))
                        · first
                        | omega | contradiction
                        | refine S.o q.mv (S.o q.mv (S.o (q.ix am_el28 am_cl82 (hl := (by first | exact ati hidx (by omega) | exact atig (by omega)))) (S.o (q.fs 9 am_fi82_4 am_cl3) (S.o (q.ls am_ag3) (S.o q.mv (S.o q.leq (S.o q.pt (S.end (hK _ ?_))))))))); clear hK K; refine Ev.cd (fun c31 => ?_) (fun c31 => ?_)
                          · first
                          | omega | contradiction
                          | refine Ev.region_S fun K hK => S.o q.mv (S.o q.mv (S.o q.mv (S.o (q.ix am_el28 am_cl82 (hl := (by first | exact ati hidx (by omega) | exact atig (by omega)))) (S.o (q.fs 9 am_fi82_4 am_cl3) (S.o (q.ls am_ag3) (S.o q.add (S.o q.as (S.end (hK _ ?_))))))))); clear hK K; show Ev _ _ _ _; refine Ev.region_S fun K hK => S.o q.mv (S.o q.add (S.o q.as (S.end (hK _ ?_)))); clear hK K; refine hR2 _ _ ?_; refine roundU [] [0, 1, 2, 3, 9, 42, 43, 44, 45] ⟨(pre ++ [s], suf), by rw [← hp]; simp, ?_⟩ ?_ keep_n (slots_c (he := (by first | rfl | (congr 2; simp; done))) (h := (slots_c (he := (by first | rfl | exact iE (sumP_t (by omega) (by omega)).symm | exact iE (sumP_f (by omega)).symm)) (h := trivial)))) (.c (.c (.c (.c (.c (.c (.c (.c (.c .n)))))))))
                            intro x hx; simp only [List.mem_append, List.mem_singleton] at hx; rcases hx with hx | rfl
                            · exact hinv x hx
                            · exact ⟨by omega, by omega⟩
                            all_goals (dsimp only; simp only [List.length_cons]; omega)
                          · first
                          | omega | contradiction
                          | refine Ev.skip ?_; show Ev _ _ _ _; refine Ev.region_S fun K hK => S.o q.mv (S.o q.add (S.o q.as (S.end (hK _ ?_)))); clear hK K; refine hR2 _ _ ?_; refine roundU [] [0, 1, 2, 3, 9, 42, 43, 44, 45] ⟨(pre ++ [s], suf), by rw [← hp]; simp, ?_⟩ ?_ keep_n (slots_c (he := (by first | rfl | (congr 2; simp; done))) (h := (slots_c (he := (by first | rfl | exact iE (sumP_t (by omega) (by omega)).symm | exact iE (sumP_f (by omega)).symm)) (h := trivial)))) (.c (.c (.c (.c (.c (.c (.c (.c (.c .n)))))))))
                            intro x hx; simp only [List.mem_append, List.mem_singleton] at hx; rcases hx with hx | rfl
                            · exact hinv x hx
                            · exact ⟨by omega, by omega⟩
                            all_goals (dsimp only; simp only [List.length_cons]; omega)
                        · first
                        | omega | contradiction
                        | refine S.sk (S.sk (S.sk (S.sk (S.sk (S.sk (S.sk (S.o q.pf (S.end (hK _ ?_))))))))); clear hK K; refine Ev.cf ?_; refine Ev.skip ?_; show Ev _ _ _ _; refine Ev.region_S fun K hK => S.o q.mv (S.o q.add (S.o q.as (S.end (hK _ ?_)))); clear hK K; refine hR2 _ _ ?_; refine roundU [] [0, 1, 2, 3, 9, 42, 43, 44, 45] ⟨(pre ++ [s], suf), by rw [← hp]; simp, ?_⟩ ?_ keep_n (slots_c (he := (by first | rfl | (congr 2; simp; done))) (h := (slots_c (he := (by first | rfl | exact iE (sumP_t (by omega) (by omega)).symm | exact iE (sumP_f (by omega)).symm)) (h := trivial)))) (.c (.c (.c (.c (.c (.c (.c (.c (.c .n)))))))))
                          intro x hx; simp only [List.mem_append, List.mem_singleton] at hx; rcases hx with hx | rfl
                          · exact hinv x hx
                          · exact ⟨by omega, by omega⟩
                          all_goals (dsimp only; simp only [List.length_cons]; omega)
                  · first | omega | contradiction | (exfalso; simp at *; done)
            · simp only [List.length_cons] at hpl
              have hidx : bars[pre.length]? = some s := by rw [← hp]; simp
              have hms : s ∈ bars := by rw [← hp]; simp
              refine Ev.seq ?_; refine Ev.sr fun K hK => S.o q.mv (S.o q.mv (S.o (q.lens am_el27) (S.o q.lss (S.end (hK _ ?_))))); clear hK K; refine Ev.cd (fun c32 => ?_) (fun c32 => ?_)
              · first
              | omega | contradiction
              | refine Ev.skip ?_; show Ev _ _ _ _; refine Ev.seq ?_; refine Ev.block ?_; refine Ev.sr fun K hK => S.o q.mv (S.o q.mv (S.o (q.ix am_el27 am_cl72 (hl := (by first | exact ati hidx (by omega) | exact atig (by omega)))) (S.o (q.lsA [_, _, _, _, _] am_ag72 am_cl72) (S.c0 (hF := short_fun s) (h := S.o q.not (S.end (hK _ ?_))))))); clear hK K; refine Ev.cn (fun c33 => ?_) (fun c33 => ?_)
                · first
                | omega | contradiction
                | refine Ev.sr fun K hK => S.o q.as (S.end (hK _ ?_)); clear hK K; refine Ev.ret ?_; refine hR0 _ _ ?_; refine Ev.ret1 ?_; refine ⟨?_, rfl⟩
                  first
                   | exact bF (fun h => by have h1 := h.1; have h2 := h.2.1; omega)
                   | exact bF (fun h => absurd (h.2.2.1 s hms) ‹_›)
                   | exact bF (fun h => by have h1 := (h.2.2.2.1 s hms).1; omega)
                   | exact bF (fun h => (h.2.2.2.1 s hms).2 ⟨by omega, by omega⟩)
                   | exact bT ⟨by omega, by omega, hba, by rw [← hp]; exact hinv, by rw [← hp]; first | exact .inl (by omega) | (rw [hp]; exact .inr (by omega))⟩
                   | exact dI ⟨fun h => ⟨by omega, by omega, hba, by rw [← hp]; exact hinv, by first | exact .inr (by omega) | (rw [← hp]; exact .inl (by omega))⟩, fun h => by have h1 := h.2.2.2.2; rw [← hp] at h1; omega⟩
                · first
                | omega | contradiction
                | refine Ev.skip ?_; show Ev _ _ _ _; refine Ev.region_S fun K hK => S.o q.mv (S.o q.add (S.o q.as (S.end (hK _ ?_)))); clear hK K; refine hR0 _ _ ?_; refine roundU [] [0, 1, 2, 3] ⟨(pre ++ [s], suf), by rw [← hp]; simp, ?_⟩ ?_ keep_n (slots_c (he := (by first | rfl | (congr 2; simp; done))) (h := trivial)) (.c (.c (.c (.c .n))))
                  intro x hx; simp only [List.mem_append, List.mem_singleton] at hx; rcases hx with hx | rfl
                  · exact hinv x hx
                  · assumption
                  all_goals (dsimp only; simp only [List.length_cons]; omega)
              · first | omega | contradiction | (exfalso; simp at *; done)
  · first
  | omega | contradiction
  | refine S.sk (S.sk (S.sk (S.o q.pf (S.o q.mv (S.o q.mv (S.o (q.lens am_el27) (S.o q.gtr (S.o q.pf (S.bd q.mv (fun c34 => ?_) (fun c34 => ?_))))))))))
    · first
    | omega | contradiction
    | refine S.sk (S.sk (S.sk (S.sk (S.sk (S.sk (S.sk (S.sk (S.sk (S.o q.pt (S.o q.mv (S.sk (S.sk (S.sk (S.o q.pt (S.end (hK _ ?_)))))))))))))))); clear hK K; refine Ev.ct ?_; refine Ev.sr fun K hK => S.o q.as (S.end (hK _ ?_)); clear hK K; refine Ev.ret ?_; refine Ev.ret1 ?_; refine ⟨?_, rfl⟩
      first
       | exact bF (fun h => by have h1 := h.1; have h2 := h.2.1; omega)
       | exact bF (fun h => absurd (h.2.2.1 s hms) ‹_›)
       | exact bF (fun h => by have h1 := (h.2.2.2.1 s hms).1; omega)
       | exact bF (fun h => (h.2.2.2.1 s hms).2 ⟨by omega, by omega⟩)
       | exact bT ⟨by omega, by omega, hba, by rw [← hp]; exact hinv, by rw [← hp]; first | exact .inl (by omega) | (rw [hp]; exact .inr (by omega))⟩
       | exact dI ⟨fun h => ⟨by omega, by omega, hba, by rw [← hp]; exact hinv, by first | exact .inr (by omega) | (rw [← hp]; exact .inl (by omega))⟩, fun h => by have h1 := h.2.2.2.2; rw [← hp] at h1; omega⟩
    · first
    | omega | contradiction
    | refine S.o q.mv (S.o (q.lens am_el28) (S.o q.mv (S.o q.gtr (S.bd q.mv (fun c35 => ?_) (fun c35 => ?_)))))
      · first
      | omega | contradiction
      | refine S.o q.mv (S.o (q.lens am_el28) (S.o q.leq (S.o q.pt (S.o q.pf (S.bd q.mv (fun c36 => ?_) (fun c36 => ?_))))))
        · first
        | omega | contradiction
        | refine S.sk (S.sk (S.sk (S.o q.pt (S.end (hK _ ?_))))); clear hK K; refine Ev.ct ?_; refine Ev.sr fun K hK => S.o q.as (S.end (hK _ ?_)); clear hK K; refine Ev.ret ?_; refine Ev.ret1 ?_; refine ⟨?_, rfl⟩
          first
           | exact bF (fun h => by have h1 := h.1; have h2 := h.2.1; omega)
           | exact bF (fun h => absurd (h.2.2.1 s hms) ‹_›)
           | exact bF (fun h => by have h1 := (h.2.2.2.1 s hms).1; omega)
           | exact bF (fun h => (h.2.2.2.1 s hms).2 ⟨by omega, by omega⟩)
           | exact bT ⟨by omega, by omega, hba, by rw [← hp]; exact hinv, by rw [← hp]; first | exact .inl (by omega) | (rw [hp]; exact .inr (by omega))⟩
           | exact dI ⟨fun h => ⟨by omega, by omega, hba, by rw [← hp]; exact hinv, by first | exact .inr (by omega) | (rw [← hp]; exact .inl (by omega))⟩, fun h => by have h1 := h.2.2.2.2; rw [← hp] at h1; omega⟩
        · first
        | omega | contradiction
        | refine S.o q.mv (S.o (q.lens am_el28) (S.o q.gtr (S.o q.pf (S.end (hK _ ?_))))); clear hK K; refine Ev.cd (fun c37 => ?_) (fun c37 => ?_)
          · first
          | omega | contradiction
          | refine Ev.sr fun K hK => S.o q.as (S.end (hK _ ?_)); clear hK K; refine Ev.ret ?_; refine Ev.ret1 ?_; refine ⟨?_, rfl⟩
            first
             | exact bF (fun h => by have h1 := h.1; have h2 := h.2.1; omega)
             | exact bF (fun h => absurd (h.2.2.1 s hms) ‹_›)
             | exact bF (fun h => by have h1 := (h.2.2.2.1 s hms).1; omega)
             | exact bF (fun h => (h.2.2.2.1 s hms).2 ⟨by omega, by omega⟩)
             | exact bT ⟨by omega, by omega, hba, by rw [← hp]; exact hinv, by rw [← hp]; first | exact .inl (by omega) | (rw [hp]; exact .inr (by omega))⟩
             | exact dI ⟨fun h => ⟨by omega, by omega, hba, by rw [← hp]; exact hinv, by first | exact .inr (by omega) | (rw [← hp]; exact .inl (by omega))⟩, fun h => by have h1 := h.2.2.2.2; rw [← hp] at h1; omega⟩
          · first
          | omega | contradiction
          | refine Ev.skip ?_; show Ev _ _ _ _; refine Ev.seq ?_; refine Ev.sr fun K hK => S.o q.as (S.end (hK _ ?_)); clear hK K; refine Ev.block ?_; refine Ev.loopU (ι := {q : List Bar × List Bar // q.1 ++ q.2 = bars ∧ ∀ b ∈ q.1, shortB b}) [] [0, 1, 2, 3] (fun ⟨(pre, suf), _⟩ => [(9, .lit (.int .i64 ((pre.length : Int))))]) (fun ⟨(pre, suf), _⟩ => []) (fun ⟨(pre, suf), _⟩ => suf.length) ⟨([], bars), rfl, fun x hx => by simp at hx⟩ (.c (.c (.c (.c .n)))) keep_n (slots_c (he := (by first | rfl | (congr 2; simp; done))) (h := trivial)) ?_; rintro ⟨⟨pre, suf⟩, hp, hinv⟩ R0 hR0; dsimp only [List.cons_append, List.nil_append, List.length_cons, List.length_nil]
            simp only at hp hinv
            have hpl : pre.length + suf.length = (bars).length := by rw [← hp, List.length_append]
            rcases suf with _ | ⟨s, suf⟩
            · rw [List.append_nil] at hp; simp only [List.length_nil] at hpl; refine Ev.seq ?_; refine Ev.sr fun K hK => S.o q.mv (S.o q.mv (S.o (q.lens am_el27) (S.o q.lss (S.end (hK _ ?_))))); clear hK K; refine Ev.cd (fun c38 => ?_) (fun c38 => ?_)
              · first | omega | contradiction | (exfalso; simp at *; done)
              · first
              | omega | contradiction
              | refine Ev.exit ?_; refine hR0 _ _ ?_; show Ev _ _ _ _
                have hba : ∀ b ∈ bars, shortB b := by rw [← hp]; exact hinv
                refine Ev.sr fun K hK => S.o q.as (S.end (hK _ ?_)); clear hK K; refine Ev.seq ?_; refine Ev.sr fun K hK => S.o q.as (S.end (hK _ ?_)); clear hK K; refine Ev.block ?_; refine Ev.loopU (ι := {q : List Rn × List Rn // q.1 ++ q.2 = runs ∧ ∀ b ∈ q.1, shortR b}) [] [0, 1, 2, 3, 9, 42, 43, 44, 45] (fun ⟨(pre, suf), _⟩ => [(11, .lit (.int .i64 ((pre.length : Int)))), (10, .lit (.int .i64 (sumP pre)))]) (fun ⟨(pre, suf), _⟩ => []) (fun ⟨(pre, suf), _⟩ => suf.length) ⟨([], runs), rfl, fun x hx => by simp at hx⟩ (.c (.c (.c (.c (.c (.c (.c (.c (.c .n))))))))) keep_n (slots_c (he := (by first | rfl | (congr 2; simp; done))) (h := (slots_c (he := (by first | rfl | exact iE (sumP_t (by omega) (by omega)).symm | exact iE (sumP_f (by omega)).symm)) (h := trivial)))) ?_; rintro ⟨⟨pre, suf⟩, hp, hinv⟩ R2 hR2; dsimp only [List.cons_append, List.nil_append, List.length_cons, List.length_nil]
                simp only at hp hinv
                have hpl : pre.length + suf.length = (runs).length := by rw [← hp, List.length_append]
                rcases suf with _ | ⟨s, suf⟩
                · rw [List.append_nil] at hp; simp only [List.length_nil] at hpl; have hsp := sumP_bd pre
                  have hpe : (pre.length : Int) = (runs.length : Int) := by omega
                  refine Ev.seq ?_; refine Ev.sr fun K hK => S.o q.mv (S.o q.mv (S.o (q.lens am_el28) (S.o q.lss (S.end (hK _ ?_))))); clear hK K; refine Ev.cd (fun c39 => ?_) (fun c39 => ?_)
                  · first | omega | contradiction | (exfalso; simp at *; done)
                  · first
                  | omega | contradiction
                  | refine Ev.exit ?_; refine hR2 _ _ ?_; show Ev _ _ _ _; refine Ev.sr fun K hK => S.o q.mv (S.o q.mv (S.o q.leq (S.bd q.mv (fun c40 => ?_) (fun c40 => ?_))))
                    · first
                    | omega | contradiction
                    | refine S.sk (S.sk (S.sk (S.sk (S.o q.pt (S.o q.as (S.end (hK _ ?_))))))); clear hK K; refine Ev.ret ?_; refine Ev.ret1 ?_; refine ⟨?_, rfl⟩
                      first
                       | exact bF (fun h => by have h1 := h.1; have h2 := h.2.1; omega)
                       | exact bF (fun h => absurd (h.2.2.1 s hms) ‹_›)
                       | exact bF (fun h => by have h1 := (h.2.2.2.1 s hms).1; omega)
                       | exact bF (fun h => (h.2.2.2.1 s hms).2 ⟨by omega, by omega⟩)
                       | exact bT ⟨by omega, by omega, hba, by rw [← hp]; exact hinv, by rw [← hp]; first | exact .inl (by omega) | (rw [hp]; exact .inr (by omega))⟩
                       | exact dI ⟨fun h => ⟨by omega, by omega, hba, by rw [← hp]; exact hinv, by first | exact .inr (by omega) | (rw [← hp]; exact .inl (by omega))⟩, fun h => by have h1 := h.2.2.2.2; rw [← hp] at h1; omega⟩
                    · first
                    | omega | contradiction
                    | refine S.o q.mv (S.o (q.lens am_el28) (S.o q.mv (S.o q.gtr (S.o q.pf (S.o q.as (S.end (hK _ ?_))))))); clear hK K; refine Ev.ret ?_; refine Ev.ret1 ?_; refine ⟨?_, rfl⟩
                      first
                       | exact bF (fun h => by have h1 := h.1; have h2 := h.2.1; omega)
                       | exact bF (fun h => absurd (h.2.2.1 s hms) ‹_›)
                       | exact bF (fun h => by have h1 := (h.2.2.2.1 s hms).1; omega)
                       | exact bF (fun h => (h.2.2.2.1 s hms).2 ⟨by omega, by omega⟩)
                       | exact bT ⟨by omega, by omega, hba, by rw [← hp]; exact hinv, by rw [← hp]; first | exact .inl (by omega) | (rw [hp]; exact .inr (by omega))⟩
                       | exact dI ⟨fun h => ⟨by omega, by omega, hba, by rw [← hp]; exact hinv, by first | exact .inr (by omega) | (rw [← hp]; exact .inl (by omega))⟩, fun h => by have h1 := h.2.2.2.2; rw [← hp] at h1; omega⟩
                · simp only [List.length_cons] at hpl
                  have hidx : runs[pre.length]? = some s := by rw [← hp]; simp
                  have hms : s ∈ runs := by rw [← hp]; simp
                  have hsp := sumP_bd pre; refine Ev.seq ?_; refine Ev.sr fun K hK => S.o q.mv (S.o q.mv (S.o (q.lens am_el28) (S.o q.lss (S.end (hK _ ?_))))); clear hK K; refine Ev.cd (fun c41 => ?_) (fun c41 => ?_)
                  · first
                  | omega | contradiction
                  | refine Ev.skip ?_; show Ev _ _ _ _; refine Ev.seq ?_; refine Ev.block ?_; refine Ev.seq ?_; refine Ev.sr fun K hK => S.o q.mv (S.o q.mv (S.o (q.ix am_el28 am_cl82 (hl := (by first | exact ati hidx (by omega) | exact atig (by omega)))) (S.o (q.fs 0 am_fi82_0 am_cl9) (S.o (q.ls am_ag9) (S.o (q.slen am_el9 am_un9) (S.o q.gtr (S.end (hK _ ?_)))))))); clear hK K; refine Ev.cd (fun c42 => ?_) (fun c42 => ?_)
                    · first
                    | omega | contradiction
                    | refine Ev.sr fun K hK => S.o q.as (S.end (hK _ ?_)); clear hK K; refine Ev.ret ?_; refine hR2 _ _ ?_; refine Ev.ret1 ?_; refine ⟨?_, rfl⟩
                      first
                       | exact bF (fun h => by have h1 := h.1; have h2 := h.2.1; omega)
                       | exact bF (fun h => absurd (h.2.2.1 s hms) ‹_›)
                       | exact bF (fun h => by have h1 := (h.2.2.2.1 s hms).1; omega)
                       | exact bF (fun h => (h.2.2.2.1 s hms).2 ⟨by omega, by omega⟩)
                       | exact bT ⟨by omega, by omega, hba, by rw [← hp]; exact hinv, by rw [← hp]; first | exact .inl (by omega) | (rw [hp]; exact .inr (by omega))⟩
                       | exact dI ⟨fun h => ⟨by omega, by omega, hba, by rw [← hp]; exact hinv, by first | exact .inr (by omega) | (rw [← hp]; exact .inl (by omega))⟩, fun h => by have h1 := h.2.2.2.2; rw [← hp] at h1; omega⟩
                    · first
                    | omega | contradiction
                    | refine Ev.skip ?_; show Ev _ _ _ _; refine Ev.seq ?_; refine Ev.sr fun K hK => S.o q.mv (S.o q.mv (S.o (q.ix am_el28 am_cl82 (hl := (by first | exact ati hidx (by omega) | exact atig (by omega)))) (S.o (q.fs 9 am_fi82_4 am_cl3) (S.o (q.ls am_ag3) (S.o q.mv (S.o q.gtr (S.bd q.mv (fun c43 => ?_) (fun c43 => ?_))))))))
                      · first
                      | omega | contradiction
                      | refine S.o q.mv (S.o q.mv (S.o (q.ix am_el28 am_cl82 (hl := (by first | exact ati hidx (by omega) | exact atig (by omega)))) (S.o (q.fs 9 am_fi82_4 am_cl3) (S.o (q.ls am_ag3) (S.o q.leq (S.o q.pt (S.end (hK _ ?_)))))))); clear hK K; refine Ev.cd (fun c44 => ?_) (fun c44 => ?_)
                        · first
                        | omega | contradiction
                        | refine Ev.sr fun K hK => S.o q.as (S.end (hK _ ?_)); clear hK K; refine Ev.ret ?_; refine hR2 _ _ ?_; refine Ev.ret1 ?_; refine ⟨?_, rfl⟩
                          first
                           | exact bF (fun h => by have h1 := h.1; have h2 := h.2.1; omega)
                           | exact bF (fun h => absurd (h.2.2.1 s hms) ‹_›)
                           | exact bF (fun h => by have h1 := (h.2.2.2.1 s hms).1; omega)
                           | exact bF (fun h => (h.2.2.2.1 s hms).2 ⟨by omega, by omega⟩)
                           | exact bT ⟨by omega, by omega, hba, by rw [← hp]; exact hinv, by rw [← hp]; first | exact .inl (by omega) | (rw [hp]; exact .inr (by omega))⟩
                           | exact dI ⟨fun h => ⟨by omega, by omega, hba, by rw [← hp]; exact hinv, by first | exact .inr (by omega) | (rw [← hp]; exact .inl (by omega))⟩, fun h => by have h1 := h.2.2.2.2; rw [← hp] at h1; omega⟩
                        · first
                        | omega | contradiction
                        | refine Ev.skip ?_; show Ev _ _ _ _; refine Ev.sr fun K hK => S.o q.mv (S.o q.mv (S.o (q.ix am_el28 am_cl82 (hl := (by first | exact ati hidx (by omega) | exact atig (by omega)))) (S.o (q.fs 9 am_fi82_4 am_cl3) (S.o (q.ls am_ag3) (S.o q.gtr (S.bd q.mv (fun c45 => ?_) (fun c45 => ?_)))))))
                          · first
                          | omega | contradiction
                          | refine S.o q.mv (S.o q.mv (S.o (q.ix am_el28 am_cl82 (hl := (by first | exact ati hidx (by omega) | exact atig (by omega)))) (S.o (q.fs 9 am_fi82_4 am_cl3) (S.o (q.ls am_ag3) (S.o q.mv (S.o q.leq (S.o q.pt (S.end (hK _ ?_))))))))); clear hK K; refine Ev.cd (fun c46 => ?_) (fun c46 => ?_)
                            · first
                            | omega | contradiction
                            | refine Ev.region_S fun K hK => S.o q.mv (S.o q.mv (S.o q.mv (S.o (q.ix am_el28 am_cl82 (hl := (by first | exact ati hidx (by omega) | exact atig (by omega)))) (S.o (q.fs 9 am_fi82_4 am_cl3) (S.o (q.ls am_ag3) (S.o q.add (S.o q.as (S.end (hK _ ?_))))))))); clear hK K; show Ev _ _ _ _; refine Ev.region_S fun K hK => S.o q.mv (S.o q.add (S.o q.as (S.end (hK _ ?_)))); clear hK K; refine hR2 _ _ ?_; refine roundU [] [0, 1, 2, 3, 9, 42, 43, 44, 45] ⟨(pre ++ [s], suf), by rw [← hp]; simp, ?_⟩ ?_ keep_n (slots_c (he := (by first | rfl | (congr 2; simp; done))) (h := (slots_c (he := (by first | rfl | exact iE (sumP_t (by omega) (by omega)).symm | exact iE (sumP_f (by omega)).symm)) (h := trivial)))) (.c (.c (.c (.c (.c (.c (.c (.c (.c .n)))))))))
                              intro x hx; simp only [List.mem_append, List.mem_singleton] at hx; rcases hx with hx | rfl
                              · exact hinv x hx
                              · exact ⟨by omega, by omega⟩
                              all_goals (dsimp only; simp only [List.length_cons]; omega)
                            · first
                            | omega | contradiction
                            | refine Ev.skip ?_; show Ev _ _ _ _; refine Ev.region_S fun K hK => S.o q.mv (S.o q.add (S.o q.as (S.end (hK _ ?_)))); clear hK K; refine hR2 _ _ ?_; refine roundU [] [0, 1, 2, 3, 9, 42, 43, 44, 45] ⟨(pre ++ [s], suf), by rw [← hp]; simp, ?_⟩ ?_ keep_n (slots_c (he := (by first | rfl | (congr 2; simp; done))) (h := (slots_c (he := (by first | rfl | exact iE (sumP_t (by omega) (by omega)).symm | exact iE (sumP_f (by omega)).symm)) (h := trivial)))) (.c (.c (.c (.c (.c (.c (.c (.c (.c .n)))))))))
                              intro x hx; simp only [List.mem_append, List.mem_singleton] at hx; rcases hx with hx | rfl
                              · exact hinv x hx
                              · exact ⟨by omega, by omega⟩
                              all_goals (dsimp only; simp only [List.length_cons]; omega)
                          · first
                          | omega | contradiction
                          | refine S.sk (S.sk (S.sk (S.sk (S.sk (S.sk (S.sk (S.o q.pf (S.end (hK _ ?_))))))))); clear hK K; refine Ev.cf ?_; refine Ev.skip ?_; show Ev _ _ _ _; refine Ev.region_S fun K hK => S.o q.mv (S.o q.add (S.o q.as (S.end (hK _ ?_)))); clear hK K; refine hR2 _ _ ?_; refine roundU [] [0, 1, 2, 3, 9, 42, 43, 44, 45] ⟨(pre ++ [s], suf), by rw [← hp]; simp, ?_⟩ ?_ keep_n (slots_c (he := (by first | rfl | (congr 2; simp; done))) (h := (slots_c (he := (by first | rfl | exact iE (sumP_t (by omega) (by omega)).symm | exact iE (sumP_f (by omega)).symm)) (h := trivial)))) (.c (.c (.c (.c (.c (.c (.c (.c (.c .n)))))))))
                            intro x hx; simp only [List.mem_append, List.mem_singleton] at hx; rcases hx with hx | rfl
                            · exact hinv x hx
                            · exact ⟨by omega, by omega⟩
                            all_goals (dsimp only; simp only [List.length_cons]; omega)
                      · first
                      | omega | contradiction
                      | refine S.sk (S.sk (S.sk (S.sk (S.sk (S.sk (S.o q.pf (S.end (hK _ ?_)))))))); clear hK K; refine Ev.cf ?_; refine Ev.skip ?_; show Ev _ _ _ _; refine Ev.sr fun K hK => S.o q.mv (S.o q.mv (S.o (q.ix am_el28 am_cl82 (hl := (by first | exact ati hidx (by omega) | exact atig (by omega)))) (S.o (q.fs 9 am_fi82_4 am_cl3) (S.o (q.ls am_ag3) (S.o q.gtr (S.bd q.mv (fun c47 => ?_) (fun c47 => ?_)))))))
                        · first
                        | omega | contradiction
                        | refine S.o q.mv (S.o q.mv (S.o (q.ix am_el28 am_cl82 (hl := (by first | exact ati hidx (by omega) | exact atig (by omega)))) (S.o (q.fs 9 am_fi82_4 am_cl3) (S.o (q.ls am_ag3) (S.o q.mv (S.o q.leq (S.o q.pt (S.end (hK _ ?_))))))))); clear hK K; refine Ev.cd (fun c48 => ?_) (fun c48 => ?_)
                          · first
                          | omega | contradiction
                          | refine Ev.region_S fun K hK => S.o q.mv (S.o q.mv (S.o q.mv (S.o (q.ix am_el28 am_cl82 (hl := (by first | exact ati hidx (by omega) | exact atig (by omega)))) (S.o (q.fs 9 am_fi82_4 am_cl3) (S.o (q.ls am_ag3) (S.o q.add (S.o q.as (S.end (hK _ ?_))))))))); clear hK K; show Ev _ _ _ _; refine Ev.region_S fun K hK => S.o q.mv (S.o q.add (S.o q.as (S.end (hK _ ?_)))); clear hK K; refine hR2 _ _ ?_; refine roundU [] [0, 1, 2, 3, 9, 42, 43, 44, 45] ⟨(pre ++ [s], suf), by rw [← hp]; simp, ?_⟩ ?_ keep_n (slots_c (he := (by first | rfl | (congr 2; simp; done))) (h := (slots_c (he := (by first | rfl | exact iE (sumP_t (by omega) (by omega)).symm | exact iE (sumP_f (by omega)).symm)) (h := trivial)))) (.c (.c (.c (.c (.c (.c (.c (.c (.c .n)))))))))
                            intro x hx; simp only [List.mem_append, List.mem_singleton] at hx; rcases hx with hx | rfl
                            · exact hinv x hx
                            · exact ⟨by omega, by omega⟩
                            all_goals (dsimp only; simp only [List.length_cons]; omega)
                          · first
                          | omega | contradiction
                          | refine Ev.skip ?_; show Ev _ _ _ _; refine Ev.region_S fun K hK => S.o q.mv (S.o q.add (S.o q.as (S.end (hK _ ?_)))); clear hK K; refine hR2 _ _ ?_; refine roundU [] [0, 1, 2, 3, 9, 42, 43, 44, 45] ⟨(pre ++ [s], suf), by rw [← hp]; simp, ?_⟩ ?_ keep_n (slots_c (he := (by first | rfl | (congr 2; simp; done))) (h := (slots_c (he := (by first | rfl | exact iE (sumP_t (by omega) (by omega)).symm | exact iE (sumP_f (by omega)).symm)) (h := trivial)))) (.c (.c (.c (.c (.c (.c (.c (.c (.c .n)))))))))
                            intro x hx; simp only [List.mem_append, List.mem_singleton] at hx; rcases hx with hx | rfl
                            · exact hinv x hx
                            · exact ⟨by omega, by omega⟩
                            all_goals (dsimp only; simp only [List.length_cons]; omega)
                        · first
                        | omega | contradiction
                        | refine S.sk (S.sk (S.sk (S.sk (S.sk (S.sk (S.sk (S.o q.pf (S.end (hK _ ?_))))))))); clear hK K; refine Ev.cf ?_; refine Ev.skip ?_; show Ev _ _ _ _; refine Ev.region_S fun K hK => S.o q.mv (S.o q.add (S.o q.as (S.end (hK _ ?_)))); clear hK K; refine hR2 _ _ ?_; refine roundU [] [0, 1, 2, 3, 9, 42, 43, 44, 45] ⟨(pre ++ [s], suf), by rw [← hp]; simp, ?_⟩ ?_ keep_n (slots_c (he := (by first | rfl | (congr 2; simp; done))) (h := (slots_c (he := (by first | rfl | exact iE (sumP_t (by omega) (by omega)).symm | exact iE (sumP_f (by omega)).symm)) (h := trivial)))) (.c (.c (.c (.c (.c (.c (.c (.c (.c .n)))))))))
                          intro x hx; simp only [List.mem_append, List.mem_singleton] at hx; rcases hx with hx | rfl
                          · exact hinv x hx
                          · exact ⟨by omega, by omega⟩
                          all_goals (dsimp only; simp only [List.length_cons]; omega)
                  · first | omega | contradiction | (exfalso; simp at *; done)
            · simp only [List.length_cons] at hpl
              have hidx : bars[pre.length]? = some s := by rw [← hp]; simp
              have hms : s ∈ bars := by rw [← hp]; simp
              refine Ev.seq ?_; refine Ev.sr fun K hK => S.o q.mv (S.o q.mv (S.o (q.lens am_el27) (S.o q.lss (S.end (hK _ ?_))))); clear hK K; refine Ev.cd (fun c49 => ?_) (fun c49 => ?_)
              · first
              | omega | contradiction
              | refine Ev.skip ?_; show Ev _ _ _ _; refine Ev.seq ?_; refine Ev.block ?_; refine Ev.sr fun K hK => S.o q.mv (S.o q.mv (S.o (q.ix am_el27 am_cl72 (hl := (by first | exact ati hidx (by omega) | exact atig (by omega)))) (S.o (q.lsA [_, _, _, _, _] am_ag72 am_cl72) (S.c0 (hF := short_fun s) (h := S.o q.not (S.end (hK _ ?_))))))); clear hK K; refine Ev.cn (fun c50 => ?_) (fun c50 => ?_)
                · first
                | omega | contradiction
                | refine Ev.sr fun K hK => S.o q.as (S.end (hK _ ?_)); clear hK K; refine Ev.ret ?_; refine hR0 _ _ ?_; refine Ev.ret1 ?_; refine ⟨?_, rfl⟩
                  first
                   | exact bF (fun h => by have h1 := h.1; have h2 := h.2.1; omega)
                   | exact bF (fun h => absurd (h.2.2.1 s hms) ‹_›)
                   | exact bF (fun h => by have h1 := (h.2.2.2.1 s hms).1; omega)
                   | exact bF (fun h => (h.2.2.2.1 s hms).2 ⟨by omega, by omega⟩)
                   | exact bT ⟨by omega, by omega, hba, by rw [← hp]; exact hinv, by rw [← hp]; first | exact .inl (by omega) | (rw [hp]; exact .inr (by omega))⟩
                   | exact dI ⟨fun h => ⟨by omega, by omega, hba, by rw [← hp]; exact hinv, by first | exact .inr (by omega) | (rw [← hp]; exact .inl (by omega))⟩, fun h => by have h1 := h.2.2.2.2; rw [← hp] at h1; omega⟩
                · first
                | omega | contradiction
                | refine Ev.skip ?_; show Ev _ _ _ _; refine Ev.region_S fun K hK => S.o q.mv (S.o q.add (S.o q.as (S.end (hK _ ?_)))); clear hK K; refine hR0 _ _ ?_; refine roundU [] [0, 1, 2, 3] ⟨(pre ++ [s], suf), by rw [← hp]; simp, ?_⟩ ?_ keep_n (slots_c (he := (by first | rfl | (congr 2; simp; done))) (h := trivial)) (.c (.c (.c (.c .n))))
                  intro x hx; simp only [List.mem_append, List.mem_singleton] at hx; rcases hx with hx | rfl
                  · exact hinv x hx
                  · assumption
                  all_goals (dsimp only; simp only [List.length_cons]; omega)
              · first | omega | contradiction | (exfalso; simp at *; done)
      · first
      | omega | contradiction
      | refine S.sk (S.sk (S.sk (S.o q.pf (S.o q.pf (S.o q.mv (S.o q.mv (S.o (q.lens am_el28) (S.o q.gtr (S.o q.pf (S.end (hK _ ?_))))))))))); clear hK K; refine Ev.cd (fun c51 => ?_) (fun c51 => ?_)
        · first
        | omega | contradiction
        | refine Ev.sr fun K hK => S.o q.as (S.end (hK _ ?_)); clear hK K; refine Ev.ret ?_; refine Ev.ret1 ?_; refine ⟨?_, rfl⟩
          first
           | exact bF (fun h => by have h1 := h.1; have h2 := h.2.1; omega)
           | exact bF (fun h => absurd (h.2.2.1 s hms) ‹_›)
           | exact bF (fun h => by have h1 := (h.2.2.2.1 s hms).1; omega)
           | exact bF (fun h => (h.2.2.2.1 s hms).2 ⟨by omega, by omega⟩)
           | exact bT ⟨by omega, by omega, hba, by rw [← hp]; exact hinv, by rw [← hp]; first | exact .inl (by omega) | (rw [hp]; exact .inr (by omega))⟩
           | exact dI ⟨fun h => ⟨by omega, by omega, hba, by rw [← hp]; exact hinv, by first | exact .inr (by omega) | (rw [← hp]; exact .inl (by omega))⟩, fun h => by have h1 := h.2.2.2.2; rw [← hp] at h1; omega⟩
        · first
        | omega | contradiction
        | refine Ev.skip ?_; show Ev _ _ _ _; refine Ev.seq ?_; refine Ev.sr fun K hK => S.o q.as (S.end (hK _ ?_)); clear hK K; refine Ev.block ?_; refine Ev.loopU (ι := {q : List Bar × List Bar // q.1 ++ q.2 = bars ∧ ∀ b ∈ q.1, shortB b}) [] [0, 1, 2, 3] (fun ⟨(pre, suf), _⟩ => [(9, .lit (.int .i64 ((pre.length : Int))))]) (fun ⟨(pre, suf), _⟩ => []) (fun ⟨(pre, suf), _⟩ => suf.length) ⟨([], bars), rfl, fun x hx => by simp at hx⟩ (.c (.c (.c (.c .n)))) keep_n (slots_c (he := (by first | rfl | (congr 2; simp; done))) (h := trivial)) ?_; rintro ⟨⟨pre, suf⟩, hp, hinv⟩ R0 hR0; dsimp only [List.cons_append, List.nil_append, List.length_cons, List.length_nil]
          simp only at hp hinv
          have hpl : pre.length + suf.length = (bars).length := by rw [← hp, List.length_append]
          rcases suf with _ | ⟨s, suf⟩
          · rw [List.append_nil] at hp; simp only [List.length_nil] at hpl; refine Ev.seq ?_; refine Ev.sr fun K hK => S.o q.mv (S.o q.mv (S.o (q.lens am_el27) (S.o q.lss (S.end (hK _ ?_))))); clear hK K; refine Ev.cd (fun c52 => ?_) (fun c52 => ?_)
            · first | omega | contradiction | (exfalso; simp at *; done)
            · first
            | omega | contradiction
            | refine Ev.exit ?_; refine hR0 _ _ ?_; show Ev _ _ _ _
              have hba : ∀ b ∈ bars, shortB b := by rw [← hp]; exact hinv
              refine Ev.sr fun K hK => S.o q.as (S.end (hK _ ?_)); clear hK K; refine Ev.seq ?_; refine Ev.sr fun K hK => S.o q.as (S.end (hK _ ?_)); clear hK K; refine Ev.block ?_; refine Ev.loopU (ι := {q : List Rn × List Rn // q.1 ++ q.2 = runs ∧ ∀ b ∈ q.1, shortR b}) [] [0, 1, 2, 3, 9, 42, 43, 44, 45] (fun ⟨(pre, suf), _⟩ => [(11, .lit (.int .i64 ((pre.length : Int)))), (10, .lit (.int .i64 (sumP pre)))]) (fun ⟨(pre, suf), _⟩ => []) (fun ⟨(pre, suf), _⟩ => suf.length) ⟨([], runs), rfl, fun x hx => by simp at hx⟩ (.c (.c (.c (.c (.c (.c (.c (.c (.c .n))))))))) keep_n (slots_c (he := (by first | rfl | (congr 2; simp; done))) (h := (slots_c (he := (by first | rfl | exact iE (sumP_t (by omega) (by omega)).symm | exact iE (sumP_f (by omega)).symm)) (h := trivial)))) ?_; rintro ⟨⟨pre, suf⟩, hp, hinv⟩ R2 hR2; dsimp only [List.cons_append, List.nil_append, List.length_cons, List.length_nil]
              simp only at hp hinv
              have hpl : pre.length + suf.length = (runs).length := by rw [← hp, List.length_append]
              rcases suf with _ | ⟨s, suf⟩
              · rw [List.append_nil] at hp; simp only [List.length_nil] at hpl; have hsp := sumP_bd pre
                have hpe : (pre.length : Int) = (runs.length : Int) := by omega
                refine Ev.seq ?_; refine Ev.sr fun K hK => S.o q.mv (S.o q.mv (S.o (q.lens am_el28) (S.o q.lss (S.end (hK _ ?_))))); clear hK K; refine Ev.cd (fun c53 => ?_) (fun c53 => ?_)
                · first | omega | contradiction | (exfalso; simp at *; done)
                · first
                | omega | contradiction
                | refine Ev.exit ?_; refine hR2 _ _ ?_; show Ev _ _ _ _; refine Ev.sr fun K hK => S.o q.mv (S.o q.mv (S.o q.leq (S.bd q.mv (fun c54 => ?_) (fun c54 => ?_))))
                  · first
                  | omega | contradiction
                  | refine S.sk (S.sk (S.sk (S.sk (S.o q.pt (S.o q.as (S.end (hK _ ?_))))))); clear hK K; refine Ev.ret ?_; refine Ev.ret1 ?_; refine ⟨?_, rfl⟩
                    first
                     | exact bF (fun h => by have h1 := h.1; have h2 := h.2.1; omega)
                     | exact bF (fun h => absurd (h.2.2.1 s hms) ‹_›)
                     | exact bF (fun h => by have h1 := (h.2.2.2.1 s hms).1; omega)
                     | exact bF (fun h => (h.2.2.2.1 s hms).2 ⟨by omega, by omega⟩)
                     | exact bT ⟨by omega, by omega, hba, by rw [← hp]; exact hinv, by rw [← hp]; first | exact .inl (by omega) | (rw [hp]; exact .inr (by omega))⟩
                     | exact dI ⟨fun h => ⟨by omega, by omega, hba, by rw [← hp]; exact hinv, by first | exact .inr (by omega) | (rw [← hp]; exact .inl (by omega))⟩, fun h => by have h1 := h.2.2.2.2; rw [← hp] at h1; omega⟩
                  · first
                  | omega | contradiction
                  | refine S.o q.mv (S.o (q.lens am_el28) (S.o q.mv (S.o q.gtr (S.o q.pf (S.o q.as (S.end (hK _ ?_))))))); clear hK K; refine Ev.ret ?_; refine Ev.ret1 ?_; refine ⟨?_, rfl⟩
                    first
                     | exact bF (fun h => by have h1 := h.1; have h2 := h.2.1; omega)
                     | exact bF (fun h => absurd (h.2.2.1 s hms) ‹_›)
                     | exact bF (fun h => by have h1 := (h.2.2.2.1 s hms).1; omega)
                     | exact bF (fun h => (h.2.2.2.1 s hms).2 ⟨by omega, by omega⟩)
                     | exact bT ⟨by omega, by omega, hba, by rw [← hp]; exact hinv, by rw [← hp]; first | exact .inl (by omega) | (rw [hp]; exact .inr (by omega))⟩
                     | exact dI ⟨fun h => ⟨by omega, by omega, hba, by rw [← hp]; exact hinv, by first | exact .inr (by omega) | (rw [← hp]; exact .inl (by omega))⟩, fun h => by have h1 := h.2.2.2.2; rw [← hp] at h1; omega⟩
              · simp only [List.length_cons] at hpl
                have hidx : runs[pre.length]? = some s := by rw [← hp]; simp
                have hms : s ∈ runs := by rw [← hp]; simp
                have hsp := sumP_bd pre; refine Ev.seq ?_; refine Ev.sr fun K hK => S.o q.mv (S.o q.mv (S.o (q.lens am_el28) (S.o q.lss (S.end (hK _ ?_))))); clear hK K; refine Ev.cd (fun c55 => ?_) (fun c55 => ?_)
                · first
                | omega | contradiction
                | refine Ev.skip ?_; show Ev _ _ _ _; refine Ev.seq ?_; refine Ev.block ?_; refine Ev.seq ?_; refine Ev.sr fun K hK => S.o q.mv (S.o q.mv (S.o (q.ix am_el28 am_cl82 (hl := (by first | exact ati hidx (by omega) | exact atig (by omega)))) (S.o (q.fs 0 am_fi82_0 am_cl9) (S.o (q.ls am_ag9) (S.o (q.slen am_el9 am_un9) (S.o q.gtr (S.end (hK _ ?_)))))))); clear hK K; refine Ev.cd (fun c56 => ?_) (fun c56 => ?_)
                  · first
                  | omega | contradiction
                  | refine Ev.sr fun K hK => S.o q.as (S.end (hK _ ?_)); clear hK K; refine Ev.ret ?_; refine hR2 _ _ ?_; refine Ev.ret1 ?_; refine ⟨?_, rfl⟩
                    first
                     | exact bF (fun h => by have h1 := h.1; have h2 := h.2.1; omega)
                     | exact bF (fun h => absurd (h.2.2.1 s hms) ‹_›)
                     | exact bF (fun h => by have h1 := (h.2.2.2.1 s hms).1; omega)
                     | exact bF (fun h => (h.2.2.2.1 s hms).2 ⟨by omega, by omega⟩)
                     | exact bT ⟨by omega, by omega, hba, by rw [← hp]; exact hinv, by rw [← hp]; first | exact .inl (by omega) | (rw [hp]; exact .inr (by omega))⟩
                     | exact dI ⟨fun h => ⟨by omega, by omega, hba, by rw [← hp]; exact hinv, by first | exact .inr (by omega) | (rw [← hp]; exact .inl (by omega))⟩, fun h => by have h1 := h.2.2.2.2; rw [← hp] at h1; omega⟩
                  · first
                  | omega | contradiction
                  | refine Ev.skip ?_; show Ev _ _ _ _; refine Ev.seq ?_; refine Ev.sr fun K hK => S.o q.mv (S.o q.mv (S.o (q.ix am_el28 am_cl82 (hl := (by first | exact ati hidx (by omega) | exact atig (by omega)))) (S.o (q.fs 9 am_fi82_4 am_cl3) (S.o (q.ls am_ag3) (S.o q.mv (S.o q.gtr (S.bd q.mv (fun c57 => ?_) (fun c57 => ?_))))))))
                    · first
                    | omega | contradiction
                    | refine S.o q.mv (S.o q.mv (S.o (q.ix am_el28 am_cl82 (hl := (by first | exact ati hidx (by omega) | exact atig (by omega)))) (S.o (q.fs 9 am_fi82_4 am_cl3) (S.o (q.ls am_ag3) (S.o q.leq (S.o q.pt (S.end (hK _ ?_)))))))); clear hK K; refine Ev.cd (fun c58 => ?_) (fun c58 => ?_)
                      · first
                      | omega | contradiction
                      | refine Ev.sr fun K hK => S.o q.as (S.end (hK _ ?_)); clear hK K; refine Ev.ret ?_; refine hR2 _ _ ?_; refine Ev.ret1 ?_; refine ⟨?_, rfl⟩
                        first
                         | exact bF (fun h => by have h1 := h.1; have h2 := h.2.1; omega)
                         | exact bF (fun h => absurd (h.2.2.1 s hms) ‹_›)
                         | exact bF (fun h => by have h1 := (h.2.2.2.1 s hms).1; omega)
                         | exact bF (fun h => (h.2.2.2.1 s hms).2 ⟨by omega, by omega⟩)
                         | exact bT ⟨by omega, by omega, hba, by rw [← hp]; exact hinv, by rw [← hp]; first | exact .inl (by omega) | (rw [hp]; exact .inr (by omega))⟩
                         | exact dI ⟨fun h => ⟨by omega, by omega, hba, by rw [← hp]; exact hinv, by first | exact .inr (by omega) | (rw [← hp]; exact .inl (by omega))⟩, fun h => by have h1 := h.2.2.2.2; rw [← hp] at h1; omega⟩
                      · first
                      | omega | contradiction
                      | refine Ev.skip ?_; show Ev _ _ _ _; refine Ev.sr fun K hK => S.o q.mv (S.o q.mv (S.o (q.ix am_el28 am_cl82 (hl := (by first | exact ati hidx (by omega) | exact atig (by omega)))) (S.o (q.fs 9 am_fi82_4 am_cl3) (S.o (q.ls am_ag3) (S.o q.gtr (S.bd q.mv (fun c59 => ?_) (fun c59 => ?_)))))))
                        · first
                        | omega | contradiction
                        | refine S.o q.mv (S.o q.mv (S.o (q.ix am_el28 am_cl82 (hl := (by first | exact ati hidx (by omega) | exact atig (by omega)))) (S.o (q.fs 9 am_fi82_4 am_cl3) (S.o (q.ls am_ag3) (S.o q.mv (S.o q.leq (S.o q.pt (S.end (hK _ ?_))))))))); clear hK K; refine Ev.cd (fun c60 => ?_) (fun c60 => ?_)
                          · first
                          | omega | contradiction
                          | refine Ev.region_S fun K hK => S.o q.mv (S.o q.mv (S.o q.mv (S.o (q.ix am_el28 am_cl82 (hl := (by first | exact ati hidx (by omega) | exact atig (by omega)))) (S.o (q.fs 9 am_fi82_4 am_cl3) (S.o (q.ls am_ag3) (S.o q.add (S.o q.as (S.end (hK _ ?_))))))))); clear hK K; show Ev _ _ _ _; refine Ev.region_S fun K hK => S.o q.mv (S.o q.add (S.o q.as (S.end (hK _ ?_)))); clear hK K; refine hR2 _ _ ?_; refine roundU [] [0, 1, 2, 3, 9, 42, 43, 44, 45] ⟨(pre ++ [s], suf), by rw [← hp]; simp, ?_⟩ ?_ keep_n (slots_c (he := (by first | rfl | (congr 2; simp; done))) (h := (slots_c (he := (by first | rfl | exact iE (sumP_t (by omega) (by omega)).symm | exact iE (sumP_f (by omega)).symm)) (h := trivial)))) (.c (.c (.c (.c (.c (.c (.c (.c (.c .n)))))))))
                            intro x hx; simp only [List.mem_append, List.mem_singleton] at hx; rcases hx with hx | rfl
                            · exact hinv x hx
                            · exact ⟨by omega, by omega⟩
                            all_goals (dsimp only; simp only [List.length_cons]; omega)
                          · first
                          | omega | contradiction
                          | refine Ev.skip ?_; show Ev _ _ _ _; refine Ev.region_S fun K hK => S.o q.mv (S.o q.add (S.o q.as (S.end (hK _ ?_)))); clear hK K; refine hR2 _ _ ?_; refine roundU [] [0, 1, 2, 3, 9, 42, 43, 44, 45] ⟨(pre ++ [s], suf), by rw [← hp]; simp, ?_⟩ ?_ keep_n (slots_c (he := (by first | rfl | (congr 2; simp; done))) (h := (slots_c (he := (by first | rfl | exact iE (sumP_t (by omega) (by omega)).symm | exact iE (sumP_f (by omega)).symm)) (h := trivial)))) (.c (.c (.c (.c (.c (.c (.c (.c (.c .n)))))))))
                            intro x hx; simp only [List.mem_append, List.mem_singleton] at hx; rcases hx with hx | rfl
                            · exact hinv x hx
                            · exact ⟨by omega, by omega⟩
                            all_goals (dsimp only; simp only [List.length_cons]; omega)
                        · first
                        | omega | contradiction
                        | refine S.sk (S.sk (S.sk (S.sk (S.sk (S.sk (S.sk (S.o q.pf (S.end (hK _ ?_))))))))); clear hK K; refine Ev.cf ?_; refine Ev.skip ?_; show Ev _ _ _ _; refine Ev.region_S fun K hK => S.o q.mv (S.o q.add (S.o q.as (S.end (hK _ ?_)))); clear hK K; refine hR2 _ _ ?_; refine roundU [] [0, 1, 2, 3, 9, 42, 43, 44, 45] ⟨(pre ++ [s], suf), by rw [← hp]; simp, ?_⟩ ?_ keep_n (slots_c (he := (by first | rfl | (congr 2; simp; done))) (h := (slots_c (he := (by first | rfl | exact iE (sumP_t (by omega) (by omega)).symm | exact iE (sumP_f (by omega)).symm)) (h := trivial)))) (.c (.c (.c (.c (.c (.c (.c (.c (.c .n)))))))))
                          intro x hx; simp only [List.mem_append, List.mem_singleton] at hx; rcases hx with hx | rfl
                          · exact hinv x hx
                          · exact ⟨by omega, by omega⟩
                          all_goals (dsimp only; simp only [List.length_cons]; omega)
                    · first
                    | omega | contradiction
                    | refine S.sk (S.sk (S.sk (S.sk (S.sk (S.sk (S.o q.pf (S.end (hK _ ?_)))))))); clear hK K; refine Ev.cf ?_; refine Ev.skip ?_; show Ev _ _ _ _; refine Ev.sr fun K hK => S.o q.mv (S.o q.mv (S.o (q.ix am_el28 am_cl82 (hl := (by first | exact ati hidx (by omega) | exact atig (by omega)))) (S.o (q.fs 9 am_fi82_4 am_cl3) (S.o (q.ls am_ag3) (S.o q.gtr (S.bd q.mv (fun c61 => ?_) (fun c61 => ?_)))))))
                      · first
                      | omega | contradiction
                      | refine S.o q.mv (S.o q.mv (S.o (q.ix am_el28 am_cl82 (hl := (by first | exact ati hidx (by omega) | exact atig (by omega)))) (S.o (q.fs 9 am_fi82_4 am_cl3) (S.o (q.ls am_ag3) (S.o q.mv (S.o q.leq (S.o q.pt (S.end (hK _ ?_))))))))); clear hK K; refine Ev.cd (fun c62 => ?_) (fun c62 => ?_)
                        · first
                        | omega | contradiction
                        | refine Ev.region_S fun K hK => S.o q.mv (S.o q.mv (S.o q.mv (S.o (q.ix am_el28 am_cl82 (hl := (by first | exact ati hidx (by omega) | exact atig (by omega)))) (S.o (q.fs 9 am_fi82_4 am_cl3) (S.o (q.ls am_ag3) (S.o q.add (S.o q.as (S.end (hK _ ?_))))))))); clear hK K; show Ev _ _ _ _; refine Ev.region_S fun K hK => S.o q.mv (S.o q.add (S.o q.as (S.end (hK _ ?_)))); clear hK K; refine hR2 _ _ ?_; refine roundU [] [0, 1, 2, 3, 9, 42, 43, 44, 45] ⟨(pre ++ [s], suf), by rw [← hp]; simp, ?_⟩ ?_ keep_n (slots_c (he := (by first | rfl | (congr 2; simp; done))) (h := (slots_c (he := (by first | rfl | exact iE (sumP_t (by omega) (by omega)).symm | exact iE (sumP_f (by omega)).symm)) (h := trivial)))) (.c (.c (.c (.c (.c (.c (.c (.c (.c .n)))))))))
                          intro x hx; simp only [List.mem_append, List.mem_singleton] at hx; rcases hx with hx | rfl
                          · exact hinv x hx
                          · exact ⟨by omega, by omega⟩
                          all_goals (dsimp only; simp only [List.length_cons]; omega)
                        · first
                        | omega | contradiction
                        | refine Ev.skip ?_; show Ev _ _ _ _; refine Ev.region_S fun K hK => S.o q.mv (S.o q.add (S.o q.as (S.end (hK _ ?_)))); clear hK K; refine hR2 _ _ ?_; refine roundU [] [0, 1, 2, 3, 9, 42, 43, 44, 45] ⟨(pre ++ [s], suf), by rw [← hp]; simp, ?_⟩ ?_ keep_n (slots_c (he := (by first | rfl | (congr 2; simp; done))) (h := (slots_c (he := (by first | rfl | exact iE (sumP_t (by omega) (by omega)).symm | exact iE (sumP_f (by omega)).symm)) (h := trivial)))) (.c (.c (.c (.c (.c (.c (.c (.c (.c .n)))))))))
                          intro x hx; simp only [List.mem_append, List.mem_singleton] at hx; rcases hx with hx | rfl
                          · exact hinv x hx
                          · exact ⟨by omega, by omega⟩
                          all_goals (dsimp only; simp only [List.length_cons]; omega)
                      · first
                      | omega | contradiction
                      | refine S.sk (S.sk (S.sk (S.sk (S.sk (S.sk (S.sk (S.o q.pf (S.end (hK _ ?_))))))))); clear hK K; refine Ev.cf ?_; refine Ev.skip ?_; show Ev _ _ _ _; refine Ev.region_S fun K hK => S.o q.mv (S.o q.add (S.o q.as (S.end (hK _ ?_)))); clear hK K; refine hR2 _ _ ?_; refine roundU [] [0, 1, 2, 3, 9, 42, 43, 44, 45] ⟨(pre ++ [s], suf), by rw [← hp]; simp, ?_⟩ ?_ keep_n (slots_c (he := (by first | rfl | (congr 2; simp; done))) (h := (slots_c (he := (by first | rfl | exact iE (sumP_t (by omega) (by omega)).symm | exact iE (sumP_f (by omega)).symm)) (h := trivial)))) (.c (.c (.c (.c (.c (.c (.c (.c (.c .n)))))))))
                        intro x hx; simp only [List.mem_append, List.mem_singleton] at hx; rcases hx with hx | rfl
                        · exact hinv x hx
                        · exact ⟨by omega, by omega⟩
                        all_goals (dsimp only; simp only [List.length_cons]; omega)
                · first | omega | contradiction | (exfalso; simp at *; done)
          · simp only [List.length_cons] at hpl
            have hidx : bars[pre.length]? = some s := by rw [← hp]; simp
            have hms : s ∈ bars := by rw [← hp]; simp
            refine Ev.seq ?_; refine Ev.sr fun K hK => S.o q.mv (S.o q.mv (S.o (q.lens am_el27) (S.o q.lss (S.end (hK _ ?_))))); clear hK K; refine Ev.cd (fun c63 => ?_) (fun c63 => ?_)
            · first
            | omega | contradiction
            | refine Ev.skip ?_; show Ev _ _ _ _; refine Ev.seq ?_; refine Ev.block ?_; refine Ev.sr fun K hK => S.o q.mv (S.o q.mv (S.o (q.ix am_el27 am_cl72 (hl := (by first | exact ati hidx (by omega) | exact atig (by omega)))) (S.o (q.lsA [_, _, _, _, _] am_ag72 am_cl72) (S.c0 (hF := short_fun s) (h := S.o q.not (S.end (hK _ ?_))))))); clear hK K; refine Ev.cn (fun c64 => ?_) (fun c64 => ?_)
              · first
              | omega | contradiction
              | refine Ev.sr fun K hK => S.o q.as (S.end (hK _ ?_)); clear hK K; refine Ev.ret ?_; refine hR0 _ _ ?_; refine Ev.ret1 ?_; refine ⟨?_, rfl⟩
                first
                 | exact bF (fun h => by have h1 := h.1; have h2 := h.2.1; omega)
                 | exact bF (fun h => absurd (h.2.2.1 s hms) ‹_›)
                 | exact bF (fun h => by have h1 := (h.2.2.2.1 s hms).1; omega)
                 | exact bF (fun h => (h.2.2.2.1 s hms).2 ⟨by omega, by omega⟩)
                 | exact bT ⟨by omega, by omega, hba, by rw [← hp]; exact hinv, by rw [← hp]; first | exact .inl (by omega) | (rw [hp]; exact .inr (by omega))⟩
                 | exact dI ⟨fun h => ⟨by omega, by omega, hba, by rw [← hp]; exact hinv, by first | exact .inr (by omega) | (rw [← hp]; exact .inl (by omega))⟩, fun h => by have h1 := h.2.2.2.2; rw [← hp] at h1; omega⟩
              · first
              | omega | contradiction
              | refine Ev.skip ?_; show Ev _ _ _ _; refine Ev.region_S fun K hK => S.o q.mv (S.o q.add (S.o q.as (S.end (hK _ ?_)))); clear hK K; refine hR0 _ _ ?_; refine roundU [] [0, 1, 2, 3] ⟨(pre ++ [s], suf), by rw [← hp]; simp, ?_⟩ ?_ keep_n (slots_c (he := (by first | rfl | (congr 2; simp; done))) (h := trivial)) (.c (.c (.c (.c .n))))
                intro x hx; simp only [List.mem_append, List.mem_singleton] at hx; rcases hx with hx | rfl
                · exact hinv x hx
                · assumption
                all_goals (dsimp only; simp only [List.length_cons]; omega)
            · first | omega | contradiction | (exfalso; simp at *; done)
theorem small17_fun (bs hs : List Bx) (h1 : bs.length ≤ 140737488355328) (h2 : hs.length ≤ 140737488355328) : Fun Tryz.prog 20 [.agg [.sh 6 (bs.map Bx.c), .sh 6 (hs.map Bx.c)], .lit (.int .i64 4)] (Ret (.lit (.bool (decide (smSol bs hs)))) []) := by
  have he : smSol bs hs ↔ ((bs.length ≤ 4 ∨ 20 < bs.length) ∧ bs.length ≤ 25) ∧ (hs.length ≤ 4 ∨ 20 < hs.length) ∧ hs.length ≤ 25 := Iff.rfl; refine Fun.of (nt := 37) (rs := [.tmp 4]) Tryz.func20 rfl rfl rfl rfl rfl ?_; refine Ev.sr fun K hK => S.nn (q.bx [_, _] true) (S.o q.as (S.end (hK _ ?_))); clear hK K; refine Ev.sm (tbs [(0, 0), (1, 1), (2, 3), (0, 0), (4, 8), (5, 24), (3, 7), (7, 127)]) 7 fun K hK => M.o (q.fa 0 am_fi24_0 am_cl22) (M.o (q.lv am_ag22) (M.o (q.lens am_el22) (M.o (q.fa 1 am_fi24_1 am_cl22) (M.o (q.lv am_ag22) (M.o (q.lens am_el22) (M.o q.as (M.end [_] (h := S.o q.as (S.end (hK _ ?_)))))))))); clear hK K; refine Ev.sr fun K hK => S.o q.mv (S.o q.mv (S.o q.leq (S.bd q.mv (fun c1 => ?_) (fun c1 => ?_))))
  · first
  | omega | contradiction
  | refine S.sk (S.sk (S.o q.pt (S.o q.mv (S.o q.mv (S.o q.leq (S.o q.pt (S.bd q.mv (fun c2 => ?_) (fun c2 => ?_))))))))
    · first
    | omega | contradiction
    | refine S.o q.mv (S.o q.mv (S.o q.leq (S.bd q.mv (fun c3 => ?_) (fun c3 => ?_))))
      · first
      | omega | contradiction
      | refine S.sk (S.sk (S.o q.pt (S.o q.pt (S.o q.mv (S.o q.mv (S.o q.leq (S.o q.pt (S.o q.as (S.end (hK _ ?_)))))))))); clear hK K; refine Ev.ret ?_; refine Ev.ret1 ?_; refine ⟨?_, rfl⟩
        first | exact bF (fun h => by have h1 := he.1 h; omega) | exact bT (he.2 (by omega)) | exact dI ⟨fun h => he.2 (by omega), fun h => by have h1 := he.1 h; omega⟩
      · first
      | omega | contradiction
      | refine S.o q.mv (S.o q.gtr (S.o q.pf (S.o q.pt (S.bd q.mv (fun c4 => ?_) (fun c4 => ?_)))))
        · first
        | omega | contradiction
        | refine S.o q.mv (S.o q.leq (S.o q.pt (S.o q.as (S.end (hK _ ?_))))); clear hK K; refine Ev.ret ?_; refine Ev.ret1 ?_; refine ⟨?_, rfl⟩
          first | exact bF (fun h => by have h1 := he.1 h; omega) | exact bT (he.2 (by omega)) | exact dI ⟨fun h => he.2 (by omega), fun h => by have h1 := he.1 h; omega⟩
        · first
        | omega | contradiction
        | refine S.sk (S.sk (S.o q.pf (S.o q.as (S.end (hK _ ?_))))); clear hK K; refine Ev.ret ?_; refine Ev.ret1 ?_; refine ⟨?_, rfl⟩
          first | exact bF (fun h => by have h1 := he.1 h; omega) | exact bT (he.2 (by omega)) | exact dI ⟨fun h => he.2 (by omega), fun h => by have h1 := he.1 h; omega⟩
    · first
    | omega | contradiction
    | refine S.sk (S.sk (S.sk (S.sk (S.sk (S.sk (S.sk (S.o q.pf (S.o q.mv (S.sk (S.sk (S.o q.pf (S.o q.as (S.end (hK _ ?_)))))))))))))); clear hK K; refine Ev.ret ?_; refine Ev.ret1 ?_; refine ⟨?_, rfl⟩
      first | exact bF (fun h => by have h1 := he.1 h; omega) | exact bT (he.2 (by omega)) | exact dI ⟨fun h => he.2 (by omega), fun h => by have h1 := he.1 h; omega⟩
  · first
  | omega | contradiction
  | refine S.o q.mv (S.o q.gtr (S.o q.pf (S.bd q.mv (fun c5 => ?_) (fun c5 => ?_))))
    · first
    | omega | contradiction
    | refine S.o q.mv (S.o q.leq (S.o q.pt (S.bd q.mv (fun c6 => ?_) (fun c6 => ?_))))
      · first
      | omega | contradiction
      | refine S.o q.mv (S.o q.mv (S.o q.leq (S.bd q.mv (fun c7 => ?_) (fun c7 => ?_))))
        · first
        | omega | contradiction
        | refine S.sk (S.sk (S.o q.pt (S.o q.pt (S.o q.mv (S.o q.mv (S.o q.leq (S.o q.pt (S.o q.as (S.end (hK _ ?_)))))))))); clear hK K; refine Ev.ret ?_; refine Ev.ret1 ?_; refine ⟨?_, rfl⟩
          first | exact bF (fun h => by have h1 := he.1 h; omega) | exact bT (he.2 (by omega)) | exact dI ⟨fun h => he.2 (by omega), fun h => by have h1 := he.1 h; omega⟩
        · first
        | omega | contradiction
        | refine S.o q.mv (S.o q.gtr (S.o q.pf (S.o q.pt (S.bd q.mv (fun c8 => ?_) (fun c8 => ?_)))))
          · first
          | omega | contradiction
          | refine S.o q.mv (S.o q.leq (S.o q.pt (S.o q.as (S.end (hK _ ?_))))); clear hK K; refine Ev.ret ?_; refine Ev.ret1 ?_; refine ⟨?_, rfl⟩
            first | exact bF (fun h => by have h1 := he.1 h; omega) | exact bT (he.2 (by omega)) | exact dI ⟨fun h => he.2 (by omega), fun h => by have h1 := he.1 h; omega⟩
          · first
          | omega | contradiction
          | refine S.sk (S.sk (S.o q.pf (S.o q.as (S.end (hK _ ?_))))); clear hK K; refine Ev.ret ?_; refine Ev.ret1 ?_; refine ⟨?_, rfl⟩
            first | exact bF (fun h => by have h1 := he.1 h; omega) | exact bT (he.2 (by omega)) | exact dI ⟨fun h => he.2 (by omega), fun h => by have h1 := he.1 h; omega⟩
      · first
      | omega | contradiction
      | refine S.sk (S.sk (S.sk (S.sk (S.sk (S.sk (S.sk (S.o q.pf (S.o q.mv (S.sk (S.sk (S.o q.pf (S.o q.as (S.end (hK _ ?_)))))))))))))); clear hK K; refine Ev.ret ?_; refine Ev.ret1 ?_; refine ⟨?_, rfl⟩
        first | exact bF (fun h => by have h1 := he.1 h; omega) | exact bT (he.2 (by omega)) | exact dI ⟨fun h => he.2 (by omega), fun h => by have h1 := he.1 h; omega⟩
    · first
    | omega | contradiction
    | refine S.sk (S.sk (S.o q.pf (S.o q.mv (S.sk (S.sk (S.sk (S.sk (S.sk (S.sk (S.sk (S.o q.pf (S.o q.mv (S.sk (S.sk (S.o q.pf (S.o q.as (S.end (hK _ ?_)))))))))))))))))); clear hK K; refine Ev.ret ?_; refine Ev.ret1 ?_; refine ⟨?_, rfl⟩
      first | exact bF (fun h => by have h1 := he.1 h; omega) | exact bT (he.2 (by omega)) | exact dI ⟨fun h => he.2 (by omega), fun h => by have h1 := he.1 h; omega⟩
theorem smDet_fun (x : Det) (hl : x.l) : Fun Tryz.prog 6 [.agg x.c] (Ret (.lit (.bool (decide (smDet x)))) []) := by
  obtain ⟨⟨nm, bs, hs, cv, ag, pk⟩, bars, runs, laps, dems, rl⟩ := x; obtain ⟨h1, ⟨h2, h3⟩, h4, h5, h6, h7⟩ := hl
  dsimp only at h1 h2 h3 h4 h5 h6 h7
  have he : smDet ⟨⟨nm, bs, hs, cv, ag, pk⟩, bars, runs, laps, dems, rl⟩ ↔ nm.length ≤ 60 ∧ smSol bs hs ∧ smLaid bars runs ∧ smD dems 4 ∧ (laps.length ≤ 16 ∨ 1000 < laps.length ∧ laps.length ≤ 1005) := Iff.rfl; refine Fun.of (nt := 45) (rs := [.tmp 2]) Tryz.func6 rfl rfl rfl rfl rfl ?_; refine Ev.sr fun K hK => S.nn (q.bx [_, _, _, _, _, _, _, _, _, _, _, _, _, _, _, _, _, _, _] true) (S.o q.as (S.end (hK _ ?_))); clear hK K; refine Ev.seq ?_; refine Ev.sr fun K hK => S.o (q.fa 0 am_fi34_0 am_cl26) (S.o (q.fa 0 am_fi26_0 am_cl9) (S.o (q.lv am_ag9) (S.o (q.slen am_el9 am_un9) (S.o q.gtr (S.bd q.mv (fun c1 => ?_) (fun c1 => ?_))))))
  · first
  | omega | contradiction
  | refine S.sk (S.sk (S.sk (S.sk (S.sk (S.o q.pt (S.o q.mv (S.sk (S.sk (S.sk (S.sk (S.sk (S.sk (S.o q.pt (S.o q.mv (S.sk (S.sk (S.sk (S.sk (S.o q.pt (S.end (hK _ ?_))))))))))))))))))))); clear hK K; refine Ev.ct ?_; refine Ev.sr fun K hK => S.o q.as (S.end (hK _ ?_)); clear hK K; refine Ev.ret ?_; refine Ev.ret1 ?_; refine ⟨?_, rfl⟩
    first
     | exact bF (fun h => by have h1 := (he.1 h).1; omega)
     | exact bF (fun h => absurd (he.1 h).2.1 ‹_›)
     | exact bF (fun h => absurd (he.1 h).2.2.1 ‹_›)
     | exact bF (fun h => absurd (he.1 h).2.2.2.1 ‹_›)
     | exact bT (he.2 ⟨by omega, ‹_›, ‹_›, ‹_›, by omega⟩)
     | exact bF (fun h => by have h1 := (he.1 h).2.2.2.2; omega)
     | exact dI ⟨fun h => he.2 ⟨by omega, ‹_›, ‹_›, ‹_›, by omega⟩, fun h => by have h1 := (he.1 h).2.2.2.2; omega⟩
  · first
  | omega | contradiction
  | refine S.o (q.fa 0 am_fi34_0 am_cl26) (S.o (q.fa 1 am_fi26_1 am_cl24) (S.o (q.lvA [_, _] am_ag24 am_cl24) (S.c0 (hF := small17_fun bs hs h2 h3) (h := S.o q.not (S.o q.pf (S.bn q.mv (fun c2 => ?_) (fun c2 => ?_)))))))
    · first
    | omega | contradiction
    | refine S.sk (S.sk (S.sk (S.sk (S.sk (S.sk (S.o q.pt (S.o q.mv (S.sk (S.sk (S.sk (S.sk (S.o q.pt (S.end (hK _ ?_)))))))))))))); clear hK K; refine Ev.ct ?_; refine Ev.sr fun K hK => S.o q.as (S.end (hK _ ?_)); clear hK K; refine Ev.ret ?_; refine Ev.ret1 ?_; refine ⟨?_, rfl⟩
      first
       | exact bF (fun h => by have h1 := (he.1 h).1; omega)
       | exact bF (fun h => absurd (he.1 h).2.1 ‹_›)
       | exact bF (fun h => absurd (he.1 h).2.2.1 ‹_›)
       | exact bF (fun h => absurd (he.1 h).2.2.2.1 ‹_›)
       | exact bT (he.2 ⟨by omega, ‹_›, ‹_›, ‹_›, by omega⟩)
       | exact bF (fun h => by have h1 := (he.1 h).2.2.2.2; omega)
       | exact dI ⟨fun h => he.2 ⟨by omega, ‹_›, ‹_›, ‹_›, by omega⟩, fun h => by have h1 := (he.1 h).2.2.2.2; omega⟩
    · first
    | omega | contradiction
    | refine S.o (q.fa 6 am_fi34_1 am_cl27) (S.o (q.lv am_ag27) (S.o (q.fa 7 am_fi34_2 am_cl28) (S.o (q.lv am_ag28) (S.c0 (hF := small16_fun bars runs h4 h5) (h := S.o q.not (S.o q.pf (S.bn q.mv (fun c3 => ?_) (fun c3 => ?_))))))))
      · first
      | omega | contradiction
      | refine S.sk (S.sk (S.sk (S.sk (S.o q.pt (S.end (hK _ ?_)))))); clear hK K; refine Ev.ct ?_; refine Ev.sr fun K hK => S.o q.as (S.end (hK _ ?_)); clear hK K; refine Ev.ret ?_; refine Ev.ret1 ?_; refine ⟨?_, rfl⟩
        first
         | exact bF (fun h => by have h1 := (he.1 h).1; omega)
         | exact bF (fun h => absurd (he.1 h).2.1 ‹_›)
         | exact bF (fun h => absurd (he.1 h).2.2.1 ‹_›)
         | exact bF (fun h => absurd (he.1 h).2.2.2.1 ‹_›)
         | exact bT (he.2 ⟨by omega, ‹_›, ‹_›, ‹_›, by omega⟩)
         | exact bF (fun h => by have h1 := (he.1 h).2.2.2.2; omega)
         | exact dI ⟨fun h => he.2 ⟨by omega, ‹_›, ‹_›, ‹_›, by omega⟩, fun h => by have h1 := (he.1 h).2.2.2.2; omega⟩
      · first
      | omega | contradiction
      | refine S.o (q.fa 9 am_fi34_4 am_cl30) (S.o (q.lv am_ag30) (S.c0 (hF := smD_fun dems 4 (by decide) (by decide) h7) (h := S.o q.not (S.o q.pf (S.end (hK _ ?_)))))); clear hK K; refine Ev.cn (fun c4 => ?_) (fun c4 => ?_)
        · first
        | omega | contradiction
        | refine Ev.sr fun K hK => S.o q.as (S.end (hK _ ?_)); clear hK K; refine Ev.ret ?_; refine Ev.ret1 ?_; refine ⟨?_, rfl⟩
          first
           | exact bF (fun h => by have h1 := (he.1 h).1; omega)
           | exact bF (fun h => absurd (he.1 h).2.1 ‹_›)
           | exact bF (fun h => absurd (he.1 h).2.2.1 ‹_›)
           | exact bF (fun h => absurd (he.1 h).2.2.2.1 ‹_›)
           | exact bT (he.2 ⟨by omega, ‹_›, ‹_›, ‹_›, by omega⟩)
           | exact bF (fun h => by have h1 := (he.1 h).2.2.2.2; omega)
           | exact dI ⟨fun h => he.2 ⟨by omega, ‹_›, ‹_›, ‹_›, by omega⟩, fun h => by have h1 := (he.1 h).2.2.2.2; omega⟩
        · first
        | omega | contradiction
        | refine Ev.skip ?_; show Ev _ _ _ _; refine Ev.sr fun K hK => S.o (q.fa 8 am_fi34_3 am_cl29) (S.o (q.lv am_ag29) (S.o (q.lens am_el29) (S.o q.leq (S.bd q.mv (fun c5 => ?_) (fun c5 => ?_)))))
          · first
          | omega | contradiction
          | refine S.sk (S.sk (S.sk (S.sk (S.sk (S.sk (S.sk (S.sk (S.sk (S.sk (S.o q.pt (S.o q.as (S.end (hK _ ?_))))))))))))); clear hK K; refine Ev.ret ?_; refine Ev.ret1 ?_; refine ⟨?_, rfl⟩
            first
             | exact bF (fun h => by have h1 := (he.1 h).1; omega)
             | exact bF (fun h => absurd (he.1 h).2.1 ‹_›)
             | exact bF (fun h => absurd (he.1 h).2.2.1 ‹_›)
             | exact bF (fun h => absurd (he.1 h).2.2.2.1 ‹_›)
             | exact bT (he.2 ⟨by omega, ‹_›, ‹_›, ‹_›, by omega⟩)
             | exact bF (fun h => by have h1 := (he.1 h).2.2.2.2; omega)
             | exact dI ⟨fun h => he.2 ⟨by omega, ‹_›, ‹_›, ‹_›, by omega⟩, fun h => by have h1 := (he.1 h).2.2.2.2; omega⟩
          · first
          | omega | contradiction
          | refine S.o (q.fa 8 am_fi34_3 am_cl29) (S.o (q.lv am_ag29) (S.o (q.lens am_el29) (S.o q.gtr (S.bd q.mv (fun c6 => ?_) (fun c6 => ?_)))))
            · first
            | omega | contradiction
            | refine S.o (q.fa 8 am_fi34_3 am_cl29) (S.o (q.lv am_ag29) (S.o (q.lens am_el29) (S.o q.leq (S.o q.pt (S.o q.pf (S.o q.as (S.end (hK _ ?_)))))))); clear hK K; refine Ev.ret ?_; refine Ev.ret1 ?_; refine ⟨?_, rfl⟩
              first
               | exact bF (fun h => by have h1 := (he.1 h).1; omega)
               | exact bF (fun h => absurd (he.1 h).2.1 ‹_›)
               | exact bF (fun h => absurd (he.1 h).2.2.1 ‹_›)
               | exact bF (fun h => absurd (he.1 h).2.2.2.1 ‹_›)
               | exact bT (he.2 ⟨by omega, ‹_›, ‹_›, ‹_›, by omega⟩)
               | exact bF (fun h => by have h1 := (he.1 h).2.2.2.2; omega)
               | exact dI ⟨fun h => he.2 ⟨by omega, ‹_›, ‹_›, ‹_›, by omega⟩, fun h => by have h1 := (he.1 h).2.2.2.2; omega⟩
            · first
            | omega | contradiction
            | refine S.sk (S.sk (S.sk (S.sk (S.o q.pf (S.o q.pf (S.o q.as (S.end (hK _ ?_)))))))); clear hK K; refine Ev.ret ?_; refine Ev.ret1 ?_; refine ⟨?_, rfl⟩
              first
               | exact bF (fun h => by have h1 := (he.1 h).1; omega)
               | exact bF (fun h => absurd (he.1 h).2.1 ‹_›)
               | exact bF (fun h => absurd (he.1 h).2.2.1 ‹_›)
               | exact bF (fun h => absurd (he.1 h).2.2.2.1 ‹_›)
               | exact bT (he.2 ⟨by omega, ‹_›, ‹_›, ‹_›, by omega⟩)
               | exact bF (fun h => by have h1 := (he.1 h).2.2.2.2; omega)
               | exact dI ⟨fun h => he.2 ⟨by omega, ‹_›, ‹_›, ‹_›, by omega⟩, fun h => by have h1 := (he.1 h).2.2.2.2; omega⟩
end Go.Proofs.YtkbpignlggahaaaGreatDoor
namespace Go.Proofs.YtkbpignlggahaaaGreatDoor
open Go Go.AM
set_option linter.unusedSimpArgs false
set_option linter.unusedVariables false
set_option maxRecDepth 100000
set_option maxHeartbeats 1000000
theorem idxP_at {T : Type} (p : T → Bool) : ∀ (l : List T) (k : Int), 0 ≤ k → 0 ≤ idxP p l k → ∃ (j : Nat) (x : T), idxP p l k = k + j ∧ l[j]? = some x ∧ p x = true
  | [], k, hk, h => by rw [idxP] at h; omega
  | a :: l, k, hk, h => by
    by_cases ha : p a = true
    · exact ⟨0, a, by rw [idxP, if_pos ha]; simp, rfl, ha⟩
    · rw [idxP, if_neg ha] at h; obtain ⟨j, x, h1, h2, h3⟩ := idxP_at p l (k + 1) (by omega) h; refine ⟨j + 1, x, ?_, by simpa using h2, h3⟩; rw [idxP, if_neg ha, h1]; omega
theorem line_mark {l : List Bar} {mk : List UInt8} (h : 0 ≤ markI l mk) : (lineOf l mk).mark = mk := by
  obtain ⟨j, x, h1, h2, h3⟩ := idxP_at (fun b : Bar => decide (b.mark = mk)) l 0 (Int.le_refl _) h; have hg := line_get h
  have hj : (markI l mk).toNat = j := by unfold markI; omega
  rw [hj, h2] at hg; rw [← Option.some.inj hg]; exact of_decide_eq_true h3
def sumB (f : Bar → Int) (l : List Bar) : Int := (l.map f).sum
theorem sumB_cons (f : Bar → Int) (a : Bar) (l : List Bar) : sumB f (a :: l) = f a + sumB f l := by simp [sumB]
theorem sumB_snoc (f : Bar → Int) (l : List Bar) (a : Bar) : sumB f (l ++ [a]) = sumB f l + f a := by simp [sumB]
theorem sumB_add (f g : Bar → Int) : ∀ l : List Bar, sumB (fun b => f b + g b) l = sumB f l + sumB g l
  | [] => rfl
  | a :: l => by rw [sumB_cons, sumB_cons, sumB_cons, sumB_add f g l]; omega
theorem sumB_congr {f g : Bar → Int} : ∀ {l : List Bar}, (∀ b ∈ l, f b = g b) → sumB f l = sumB g l
  | [], _ => rfl
  | a :: l, h => by rw [sumB_cons, sumB_cons, h a (by simp), sumB_congr fun b hb => h b (by simp [hb])]
theorem sumB_zero {f : Bar → Int} {l : List Bar} (h : ∀ b ∈ l, f b = 0) : sumB f l = 0 := by
  induction l with
  | nil => rfl
  | cons a l ih => rw [sumB_cons, h a (by simp), ih fun b hb => h b (by simp [hb])]; rfl
theorem sumB_one {g : Bar → Int} : ∀ {l : List Bar} {L : Bar}, l.Pairwise (fun a b => a.mark ≠ b.mark) → L ∈ l → sumB (fun b => if b.mark = L.mark then g b else 0) l = g L
  | [], L, _, h => by cases h
  | a :: l, L, hp, h => by
    rw [List.pairwise_cons] at hp; rw [sumB_cons]
    rcases List.mem_cons.1 h with rfl | h
    · rw [if_pos rfl, sumB_zero fun b hb => if_neg fun e => hp.1 b hb e.symm]; omega
    · rw [if_neg (hp.1 L h), sumB_one hp.2 h]; omega
theorem ofSum_eq (d : Int) : ∀ l : List Bar, ofSum l d = sumB (fun b => if b.size = d then b.count * oneOf b else 0) l := by
  refine snoc_ind rfl ?_; intro l s ih; rw [ofSum_snoc, sumB_snoc, ih]
  by_cases h : s.size = d
  · rw [if_pos h, if_pos h]; rfl
  · rw [if_neg h, if_neg h]; omega
theorem laidM_eq {bars : List Bar} (hp : bars.Pairwise (fun a b => a.mark ≠ b.mark)) (d : Int) : ∀ runs : List Rn, (∀ r ∈ runs, 0 ≤ markI bars r.mark) → laidM bars runs d = sumB (fun b => if b.size = d then laidN runs b.mark * oneOf b else 0) bars := by
  refine snoc_ind (fun _ => (sumB_zero fun b _ => by show (if b.size = d then 0 * oneOf b else 0) = 0; rw [Int.zero_mul, ite_self]).symm) ?_; intro l s ih h; have hm := h s (by simp); have h1 := ih fun r hr => h r (by simp [hr]); have hL := line_mark hm; have ho := sumB_one (g := fun b => if b.size = d then s.n * oneOf b else 0) hp (line_mem hm); rw [hL] at ho
  have e : sumB (fun b => if b.size = d then laidN (l ++ [s]) b.mark * oneOf b else 0) bars = sumB (fun b => (if b.size = d then laidN l b.mark * oneOf b else 0) + (if b.mark = s.mark then (if b.size = d then s.n * oneOf b else 0) else 0)) bars := by
    refine sumB_congr fun b _ => ?_; rw [laidN_snoc]
    by_cases h3 : b.size = d
    · simp only [if_pos h3]
      by_cases h2 : b.mark = s.mark
      · simp only [if_pos h2, if_pos h2.symm]; rw [Int.add_mul]
      · simp only [if_neg h2, if_neg (show ¬ s.mark = b.mark from fun e => h2 e.symm)]; omega
    · simp only [if_neg h3, ite_self]; rfl
  rw [laidM_snoc, e, sumB_add, ho, ← h1]
  by_cases h2 : (lineOf bars s.mark).size = d
  · simp only [if_pos h2]
  · simp only [if_neg h2]; omega
theorem needN_at : ∀ {l : List Bar} {b : Bar}, l.Pairwise (fun a b => a.mark ≠ b.mark) → b ∈ l → needN l b.mark = b.count := by
  intro l; refine snoc_ind (P := fun l => ∀ {b : Bar}, l.Pairwise (fun a b => a.mark ≠ b.mark) → b ∈ l → needN l b.mark = b.count) (fun _ h => by cases h) ?_ l; intro l s ih b hp hb; rw [List.pairwise_append] at hp
  have e : needN (l ++ [s]) b.mark = if b.mark = s.mark then s.count else needN l b.mark := by
    unfold needN
    rw [cnt0_snoc, mget_mput]
    split <;> rfl
  rw [e]
  rcases List.mem_append.1 hb with hb | hb
  · rw [if_neg (hp.2.2 b hb s (by simp)), ih hp.1 hb]
  · rw [List.mem_singleton] at hb; subst hb; rw [if_pos rfl]
theorem bal_all {bars : List Bar} {runs : List Rn} (hp : bars.Pairwise (fun a b => a.mark ≠ b.mark)) (h : balL bars runs bars = []) : ∀ b ∈ bars, laidN runs b.mark = b.count := by
  intro b hb; have h1 : balOne bars runs b = [] := List.flatMap_eq_nil_iff.1 h b hb; have h2 := needN_at hp hb
  unfold balOne at h1
  rw [h2] at h1
  split at h1
  · cases h1
  · split at h1
    · cases h1
    · omega
theorem sums_tot {bars : List Bar} {runs : List Rn} (hs : okSched bars) (h : ∀ d ∈ sizes, laidM bars runs d = ofSum bars d) : laidT bars runs = totM bars := by
  rw [← (totM_bd bars hs.2.1).2, laidT, laidAt, sumsAt]
  congr 1
  exact List.map_congr_left h
theorem same_t {bars : List Bar} {runs : List Rn} (hl : laidOK bars runs) (h : balL bars runs bars = []) : qbL bars runs sizes = [] ∧ laidT bars runs = totM bars := by
  have hp := hl.1.2.2; have h1 := bal_all hp h
  have h2 : ∀ d, laidM bars runs d = ofSum bars d := fun d => by
    rw [laidM_eq hp d runs fun r hr => (hl.2.2.1 r hr).1, ofSum_eq]
    exact sumB_congr fun b hb => by rw [h1 b hb]
  refine ⟨List.flatMap_eq_nil_iff.2 fun d _ => ?_, sums_tot hl.1 fun d _ => h2 d⟩
  unfold qbOne
  rw [h2 d]
  split
  · rw [if_neg (Int.lt_irrefl _), if_neg (Int.lt_irrefl _)]
  · rfl
theorem same_f {bars : List Bar} {runs : List Rn} (hl : laidOK bars runs) (h : qbL bars runs sizes = []) : laidT bars runs = totM bars := by
  refine sums_tot hl.1 fun d hd => ?_; have h1 : qbOne bars runs d = [] := List.flatMap_eq_nil_iff.1 h d hd
  by_cases hx : ∃ b ∈ bars, decide (b.size = d) = true
  · unfold qbOne at h1
    rw [if_pos hx] at h1
    split at h1
    · cases h1
    · split at h1
      · cases h1
      · omega
  · have h2 : ∀ b ∈ bars, ¬ b.size = d := fun b hb e => hx ⟨b, hb, decide_eq_true e⟩; rw [laidM_eq hl.1.2.2 d runs fun r hr => (hl.2.2.1 r hr).1, ofSum_eq, sumB_zero fun b hb => if_neg (h2 b hb), sumB_zero fun b hb => if_neg (h2 b hb)]
theorem det_bad {x : Det} (h : ¬ detOK x) : qbV x = [] ∧ detV x (laidT x.bars x.runs) = 0 ∧ detE x = 1 := ⟨if_neg h, if_neg h, if_neg h⟩
theorem det_good {x : Det} (h : detOK x) : qbV x = qbL x.bars x.runs sizes ∧ detV x (laidT x.bars x.runs) = laidT x.bars x.runs ∧ detE x = 0 ∧ balV x.bars x.runs = balL x.bars x.runs x.bars ∧ balE x.bars x.runs = 0 ∧ totV x.bars = totM x.bars ∧ schedE x.bars = 0 :=
  ⟨if_pos h, if_pos h, if_pos h, if_pos h.1.2.1, if_pos h.1.2.1, if_pos h.1.2.1.1, if_pos h.1.2.1.1⟩
end Go.Proofs.YtkbpignlggahaaaGreatDoor
namespace Go.Proofs.YtkbpignlggahaaaGreatDoor
open Go Go.AM
set_option linter.unusedSimpArgs false
set_option linter.unusedVariables false
set_option maxRecDepth 100000
theorem equalStep_fun (a b : List (Int × Int)) (ha : a.length ≤ 140737488355328) (hb : b.length ≤ 140737488355328) : Fun Tryz.prog 19 [.sh 2 (a.map pairC), .sh 2 (b.map pairC)] (Ret (.lit (.bool (decide (a = b)))) []) := by
  refine Fun.of (nt := 26) (rs := [.tmp 4]) Tryz.func19 rfl rfl rfl rfl rfl ?_; refine Ev.sr fun K hK => S.o q.as (S.end (hK _ ?_)); clear hK K; refine Ev.seq ?_; refine Ev.sr fun K hK => S.o q.mv (S.o (q.lens am_el56) (S.o q.mv (S.o (q.lens am_el56) (S.o q.neq (S.end (hK _ ?_)))))); clear hK K; refine Ev.cn (fun c1 => ?_) (fun c1 => ?_)
  · first
  | omega | contradiction
  | refine Ev.sr fun K hK => S.o q.as (S.end (hK _ ?_)); clear hK K; refine Ev.ret ?_; refine Ev.ret1 ?_; refine ⟨?_, rfl⟩
    first
     | exact bF (fun h => by subst h; omega)
     | exact bF (fun h => by subst h; rw [hidx] at hidx2; cases hidx2; simp at *)
     | exact bT (hinv.symm.trans (List.take_of_length_le (by omega)))
  · first
  | omega | contradiction
  | refine Ev.skip ?_; show Ev _ _ _ _; refine Ev.seq ?_; refine Ev.sr fun K hK => S.o q.mv (S.o (q.lens am_el56) (S.o q.mv (S.end (hK _ ?_)))); clear hK K; refine Ev.block ?_; refine Ev.loopU (ι := {q : List (Int × Int) × List (Int × Int) // q.1 ++ q.2 = a ∧ b.take q.1.length = q.1}) [] [0, 1, 12] (fun ⟨(pre, suf), _⟩ => [(13, .lit (.int .i64 ((pre.length : Int))))]) (fun ⟨(pre, suf), _⟩ => []) (fun ⟨(pre, suf), _⟩ => suf.length) ⟨([], a), rfl, rfl⟩ (.c (.c (.c .n))) keep_n (slots_c (he := (by first | rfl | (simp; done) | (congr 2; omega))) (h := trivial)) ?_; rintro ⟨⟨pre, suf⟩, hp, hinv⟩ R0 hR0; dsimp only [List.cons_append, List.nil_append, List.length_cons, List.length_nil]
    simp only at hp hinv
    have hpl : pre.length + suf.length = (a).length := by rw [← hp, List.length_append]
    rcases suf with _ | ⟨s, suf⟩
    · rw [List.append_nil] at hp; subst hp; simp only [List.length_nil] at hpl; refine Ev.sr fun K hK => S.o q.lss (S.end (hK _ ?_)); clear hK K; refine Ev.ud (fun c2 => ?_) (fun c2 => ?_)
      · first
      | omega | contradiction
      | refine Ev.seq ?_; refine Ev.block ?_; refine Ev.sr fun K hK => S.o q.mv (S.o q.as (S.end (hK _ ?_))); clear hK K; refine Ev.sm (tbs [(0, 0), (0, 0), (2, 3), (3, 7), (0, 0), (0, 0), (6, 48), (7, 112), (8, 255)]) 9 fun K hK => M.o q.mv (M.o q.mv (M.o (q.ix am_el56 am_cl62 (hl := (by first | exact atig (by omega)))) (M.o (q.lsA [_, _] am_ag62 am_cl62) (M.o q.mv (M.o q.mv (M.o (q.ix am_el56 am_cl62 (hl := (by first | exact atig (by omega)))) (M.o (q.lsA [_, _] am_ag62 am_cl62) (M.o (q.sneq am_eq62 (am_sq62 _ _ _ _)) (M.end [] (h := S.end (hK _ ?_))))))))))); clear hK K; refine Ev.c (fun c3 => ?_) (fun c3 => ?_)
        · first
        | omega | contradiction
        | refine Ev.sr fun K hK => S.o q.as (S.end (hK _ ?_)); clear hK K; refine Ev.ret ?_; refine hR0 _ _ ?_; refine Ev.ret1 ?_; refine ⟨?_, rfl⟩
          first
           | exact bF (fun h => by subst h; omega)
           | exact bF (fun h => by subst h; rw [hidx] at hidx2; cases hidx2; simp at *)
           | exact bT (hinv.symm.trans (List.take_of_length_le (by omega)))
        · first
        | omega | contradiction
        | refine Ev.skip ?_; show Ev _ _ _ _; refine Ev.region_S fun K hK => S.o q.add (S.o q.mv (S.end (hK _ ?_))); clear hK K; refine hR0 _ _ ?_; refine roundU [] [0, 1, 12] ⟨(pre ++ [s], suf), by rw [← hp]; simp, ?_⟩ ?_ keep_n (slots_c (he := (by first | rfl | (simp; done) | (congr 2; omega))) (h := trivial)) (.c (.c (.c .n))); simp only [List.length_append, List.length_cons, List.length_nil, Nat.zero_add]; rw [List.take_add_one, hinv, hidx2]
          simp at *
          obtain ⟨x1, x2⟩ := s; obtain ⟨y1, y2⟩ := s2
          simp_all
          all_goals (dsimp only; simp only [List.length_cons]; omega)
      · first
      | omega | contradiction
      | refine Ev.exit ?_; refine hR0 _ _ ?_; show Ev _ _ _ _; refine Ev.sr fun K hK => S.o q.as (S.end (hK _ ?_)); clear hK K; refine Ev.ret ?_; refine Ev.ret1 ?_; refine ⟨?_, rfl⟩
        first
         | exact bF (fun h => by subst h; omega)
         | exact bF (fun h => by subst h; rw [hidx] at hidx2; cases hidx2; simp at *)
         | exact bT (hinv.symm.trans (List.take_of_length_le (by omega)))
    · simp only [List.length_cons] at hpl
      have hidx : (a)[pre.length]? = some s := by rw [← hp]; simp
      obtain ⟨s2, hidx2⟩ : ∃ s2, b[pre.length]? = some s2 := ⟨_, List.getElem?_eq_getElem (by omega)⟩; refine Ev.sr fun K hK => S.o q.lss (S.end (hK _ ?_)); clear hK K; refine Ev.ud (fun c4 => ?_) (fun c4 => ?_)
      · first
      | omega | contradiction
      | refine Ev.seq ?_; refine Ev.block ?_; refine Ev.sr fun K hK => S.o q.mv (S.o q.as (S.end (hK _ ?_))); clear hK K; refine Ev.sm (tbs [(0, 0), (0, 0), (2, 3), (3, 7), (0, 0), (0, 0), (6, 48), (7, 112), (8, 255)]) 9 fun K hK => M.o q.mv (M.o q.mv (M.o (q.ix am_el56 am_cl62 (hl := (by first | exact ati hidx (by omega) | exact ati hidx2 (by omega) | exact atig (by omega)))) (M.o (q.lsA [_, _] am_ag62 am_cl62) (M.o q.mv (M.o q.mv (M.o (q.ix am_el56 am_cl62 (hl := (by first | exact ati hidx (by omega) | exact ati hidx2 (by omega) | exact atig (by omega)))) (M.o (q.lsA [_, _] am_ag62 am_cl62) (M.o (q.sneq am_eq62 (am_sq62 _ _ _ _)) (M.end [] (h := S.end (hK _ ?_))))))))))); clear hK K; refine Ev.c (fun c5 => ?_) (fun c5 => ?_)
        · first
        | omega | contradiction
        | refine Ev.sr fun K hK => S.o q.as (S.end (hK _ ?_)); clear hK K; refine Ev.ret ?_; refine hR0 _ _ ?_; refine Ev.ret1 ?_; refine ⟨?_, rfl⟩
          first
           | exact bF (fun h => by subst h; omega)
           | exact bF (fun h => by subst h; rw [hidx] at hidx2; cases hidx2; simp at *)
           | exact bT (hinv.symm.trans (List.take_of_length_le (by omega)))
        · first
        | omega | contradiction
        | refine Ev.skip ?_; show Ev _ _ _ _; refine Ev.region_S fun K hK => S.o q.add (S.o q.mv (S.end (hK _ ?_))); clear hK K; refine hR0 _ _ ?_; refine roundU [] [0, 1, 12] ⟨(pre ++ [s], suf), by rw [← hp]; simp, ?_⟩ ?_ keep_n (slots_c (he := (by first | rfl | (simp; done) | (congr 2; omega))) (h := trivial)) (.c (.c (.c .n))); simp only [List.length_append, List.length_cons, List.length_nil, Nat.zero_add]; rw [List.take_add_one, hinv, hidx2]
          simp at *
          obtain ⟨x1, x2⟩ := s; obtain ⟨y1, y2⟩ := s2
          simp_all
          all_goals (dsimp only; simp only [List.length_cons]; omega)
      · first
      | omega | contradiction
      | refine Ev.exit ?_; refine hR0 _ _ ?_; show Ev _ _ _ _; refine Ev.sr fun K hK => S.o q.as (S.end (hK _ ?_)); clear hK K; refine Ev.ret ?_; refine Ev.ret1 ?_; refine ⟨?_, rfl⟩
        first
         | exact bF (fun h => by subst h; omega)
         | exact bF (fun h => by subst h; rw [hidx] at hidx2; cases hidx2; simp at *)
         | exact bT (hinv.symm.trans (List.take_of_length_le (by omega)))
def demoL : List Bar := [⟨[98], 16, 1, 0, [1000]⟩, ⟨[97], 12, 2, 0, [1000]⟩]
theorem example_fun : Fun Tryz.prog 18 [] (Ret (.sh 5 (demoL.map Bar.c)) []) := by
  refine Fun.of (nt := 6) (rs := [.tmp 0]) Tryz.func18 rfl rfl rfl rfl rfl ?_; refine Ev.sr fun K hK => S.o q.as (S.end (hK _ ?_)); clear hK K; refine Ev.sr fun K hK => S.nn (q.bs [[_]] true am_el66 am_ze3 am_cl3) (SeqL.weaken (Wk.frzl (f := intC) [_] 1 []) (S.o (q.bd [_, _, _, _, _] am_ze72 am_pl72) (S.nn (q.bs [[_]] true am_el66 am_ze3 am_cl3) (SeqL.weaken (Wk.frzl (f := intC) [_] 3 []) (S.o (q.bd [_, _, _, _, _] am_ze72 am_pl72) (S.nn (q.bs [[_, _, _, _, _], [_, _, _, _, _]] true am_el27 am_ze72 am_cl72) (S.o q.as (S.end (hK _ ?_))))))))); clear hK K; refine Ev.weaken (Wk.frzl (f := Bar.c) [(⟨_, _, _, _, _⟩ : Bar), (⟨_, _, _, _, _⟩ : Bar)] 0 []) ?_; refine Ev.ret ?_; refine Ev.ret1 ?_; refine ⟨?_, rfl⟩; rfl
theorem demo_w : schedW demoL := by
  intro b hb; simp only [demoL, List.mem_cons, List.not_mem_nil, or_false] at hb
  rcases hb with rfl | rfl <;> exact ⟨by decide, by decide⟩
theorem demo_masses : Fun Tryz.prog 17 [.sh 5 (demoL.map Bar.c)] (Ret (.tup [.sh 2 (([(12, 1776), (16, 1578)] : List (Int × Int)).map pairC), .lit (.int .i64 0)]) []) := by
  have h := Masses_fun demoL (by decide) demo_w
  rwa [show massesV demoL = [(12, 1776), (16, 1578)] by decide +kernel, show schedE demoL = 0 by decide +kernel] at h
theorem demo_total : Fun Tryz.prog 10 [.sh 5 (demoL.map Bar.c)] (Ret (.tup [.lit (.int .i64 3354), .lit (.int .i64 0)]) []) := by
  have h := Total_fun demoL (by decide) demo_w
  rwa [show totV demoL = 3354 by decide +kernel, show schedE demoL = 0 by decide +kernel] at h
theorem awake_fun : Fun Tryz.prog 5 [] (Ret (.lit (.bool true)) []) := by
  refine Fun.of (nt := 32) (rs := [.tmp 0]) Tryz.func5 rfl rfl rfl rfl rfl ?_; refine Ev.sr fun K hK => S.o q.as (S.end (hK _ ?_)); clear hK K; refine Ev.sr fun K hK => S.c0 (hF := example_fun) (h := S.c0 (hF := demo_masses) (h := S.o q.mv (S.o q.ex (S.o q.ex (S.o q.as (S.o q.as (S.end (hK _ ?_)))))))); clear hK K; refine Ev.sr fun K hK => S.c0 (hF := example_fun) (h := S.c0 (hF := demo_total) (h := S.o q.mv (S.o q.ex (S.o q.ex (S.o q.as (S.o q.as (S.end (hK _ ?_)))))))); clear hK K; refine Ev.sr fun K hK => S.o q.mv (S.o q.eql (S.bd q.mv (fun c1 => ?_) (fun c1 => ?_)))
  · first
  | omega | contradiction
  | refine S.o q.mv (S.o (q.bd [_, _] am_ze62 am_pl62) (S.o (q.bd [_, _] am_ze62 am_pl62) (S.nn (q.bs [[_, _], [_, _]] true am_el56 am_ze62 am_cl62) (S.c0 (hF := equalStep_fun _ [(12, 1776), (16, 1578)] (by decide) (by decide)) (h := S.o q.pt (S.bd q.mv (fun c2 => ?_) (fun c2 => ?_)))))))
    · first
    | omega | contradiction
    | refine S.o q.mv (S.o q.eql (S.o q.pt (S.bd q.mv (fun c3 => ?_) (fun c3 => ?_))))
      · first
      | omega | contradiction
      | refine S.o q.mv (S.o q.eql (S.o q.pt (S.o q.as (S.end (hK _ ?_))))); clear hK K; refine Ev.ret ?_; refine Ev.ret1 ?_; refine ⟨?_, rfl⟩
        first | rfl | exact lawT rfl | (exfalso; omega) | (exfalso; simp at *; done)
      · first
      | omega | contradiction
      | refine S.sk (S.sk (S.o q.pf (S.o q.as (S.end (hK _ ?_))))); clear hK K; refine Ev.ret ?_; refine Ev.ret1 ?_; refine ⟨?_, rfl⟩
        first | rfl | exact lawT rfl | (exfalso; omega) | (exfalso; simp at *; done)
    · first
    | omega | contradiction
    | refine S.sk (S.sk (S.o q.pf (S.o q.mv (S.sk (S.sk (S.o q.pf (S.o q.as (S.end (hK _ ?_))))))))); clear hK K; refine Ev.ret ?_; refine Ev.ret1 ?_; refine ⟨?_, rfl⟩
      first | rfl | exact lawT rfl | (exfalso; omega) | (exfalso; simp at *; done)
  · first
  | omega | contradiction
  | refine S.sk (S.sk (S.sk (S.sk (S.sk (S.o q.pf (S.o q.mv (S.sk (S.sk (S.o q.pf (S.o q.mv (S.sk (S.sk (S.o q.pf (S.o q.as (S.end (hK _ ?_)))))))))))))))); clear hK K; refine Ev.ret ?_; refine Ev.ret1 ?_; refine ⟨?_, rfl⟩
    first | rfl | exact lawT rfl | (exfalso; omega) | (exfalso; simp at *; done)
end Go.Proofs.YtkbpignlggahaaaGreatDoor
namespace Go.Proofs.YtkbpignlggahaaaGreatDoor
open Go Go.AM
set_option linter.unusedSimpArgs false
set_option linter.unusedVariables false
set_option maxRecDepth 100000
set_option maxHeartbeats 1000000
theorem w_l {x : Det} (h : x.w) : x.l := ⟨h.1.1, ⟨h.1.2.1, h.1.2.2⟩, h.2.1.1, h.2.2.1.1, h.2.2.2.1, h.2.2.2.2.1⟩
theorem same_law (x : Det) (hw : x.w) : Fun Tryz.prog 3 [.agg x.c] (Ret (.lit (.bool true)) []) := by
  have hl := w_l hw; obtain ⟨hw1, ⟨hw2, hw2b⟩, ⟨hw3, hw3b⟩, hw4, hw5, hw6⟩ := id hw
  have hbad : ¬ detE x = 0 → (qbV x).length = 0 ∧ detV x (laidT x.bars x.runs) = 0 := fun h => by
    by_cases hd : detOK x
    · exact absurd (det_good hd).2.2.1 h
    · exact ⟨by rw [(det_bad hd).1]; rfl, (det_bad hd).2.1⟩
  have hgood : detE x = 0 → balE x.bars x.runs = 0 ∧ schedE x.bars = 0 ∧ ((balV x.bars x.runs).length = 0 → (qbV x).length = 0 ∧ detV x (laidT x.bars x.runs) = totV x.bars) ∧ ((qbV x).length = 0 → detV x (laidT x.bars x.runs) = totV x.bars) := fun h => by
    by_cases hd : detOK x
    · obtain ⟨e1, e2, e3, e4, e5, e6, e7⟩ := det_good hd; refine ⟨e5, e7, fun h1 => ?_, fun h1 => ?_⟩
      · rw [e4] at h1; obtain ⟨g1, g2⟩ := same_t hd.1.2.1 (List.eq_nil_of_length_eq_zero h1); exact ⟨by rw [e1, g1]; rfl, by rw [e2, e6, g2]⟩
      · rw [e1] at h1; rw [e2, e6, same_f hd.1.2.1 (List.eq_nil_of_length_eq_zero h1)]
    · exact absurd ((det_bad hd).2.2.symm.trans h) (by decide)
  obtain ⟨N, hN⟩ : ∃ N, N = detV x (laidT x.bars x.runs) := ⟨_, rfl⟩; obtain ⟨M, hM⟩ : ∃ M, M = totV x.bars := ⟨_, rfl⟩; obtain ⟨E1, hE1⟩ : ∃ E, E = detE x := ⟨_, rfl⟩; obtain ⟨E2, hE2⟩ : ∃ E, E = balE x.bars x.runs := ⟨_, rfl⟩; obtain ⟨E3, hE3⟩ : ∃ E, E = schedE x.bars := ⟨_, rfl⟩; have f1 := qBal_fun x hw; have f2 := Laid_fun x hw; have f3 := laidBal_fun x.bars x.runs hw2 hw2b hw3 hw3b; have f4 := Total_fun x.bars hw2 hw2b; rw [← hE1] at f1 f2 hbad hgood; rw [← hN] at f2 hbad hgood; rw [← hE2] at f3 hgood; rw [← hE3] at f4 hgood; rw [← hM] at f4 hgood; refine Fun.of (nt := 83) (rs := [.tmp 2]) Tryz.func3 rfl rfl rfl rfl rfl ?_; refine Ev.sr fun K hK => S.nn (q.bx [_, _, _, _, _, _, _, _, _, _, _, _, _, _, _, _, _, _, _] true) (S.o q.as (S.end (hK _ ?_))); clear hK K; refine Ev.seq ?_; refine Ev.sr fun K hK => S.c0 (hF := awake_fun) (h := S.o q.nott (S.end (hK _ ?_))); clear hK K; refine Ev.cf ?_; refine Ev.skip ?_; show Ev _ _ _ _; refine Ev.seq ?_; refine Ev.sr fun K hK => S.o (q.lvA [_, _, _, _, _, _, _, _, _, _, _, _, _, _, _, _, _, _, _] am_ag34 am_cl34) (S.c0 (hF := smDet_fun x hl) (h := S.o q.not (S.end (hK _ ?_)))); clear hK K; refine Ev.cn (fun c1 => ?_) (fun c1 => ?_)
  · first
  | omega | contradiction
  | refine Ev.sr fun K hK => S.o q.as (S.end (hK _ ?_)); clear hK K; refine Ev.ret ?_; refine Ev.ret1 ?_; refine ⟨?_, rfl⟩
    first | rfl | exact lawT (by omega) | (exfalso; omega) | exact lawT (by assumption) | (exfalso; contradiction)
  · first
  | omega | contradiction
  | refine Ev.skip ?_; show Ev _ _ _ _; refine Ev.sr fun K hK => S.o (q.lvA [_, _, _, _, _, _, _, _, _, _, _, _, _, _, _, _, _, _, _] am_ag34 am_cl34) (S.c0 (hF := f1) (h := S.o q.mv (S.o q.ex (S.o q.ex (S.o q.as (S.o q.as (S.end (hK _ ?_)))))))); clear hK K; refine Ev.sr fun K hK => S.o (q.lvA [_, _, _, _, _, _, _, _, _, _, _, _, _, _, _, _, _, _, _] am_ag34 am_cl34) (S.c0 (hF := f2) (h := S.o q.mv (S.o q.ex (S.o q.ex (S.o q.as (S.o q.as (S.end (hK _ ?_)))))))); clear hK K; refine Ev.seq ?_; refine Ev.sr fun K hK => S.o q.mv (S.o q.neq (S.bn q.mv (fun c2 => ?_) (fun c2 => ?_)))
    · first
    | omega | contradiction
    | refine S.sk (S.sk (S.o q.pt (S.end (hK _ ?_)))); clear hK K; refine Ev.ct ?_; have hb := hbad (by omega); refine Ev.sr fun K hK => S.o q.mv (S.o q.mv (S.o q.eql (S.bd q.mv (fun c3 => ?_) (fun c3 => ?_))))
      · first
      | omega | contradiction
      | refine S.o q.mv (S.o (q.lens am_el37) (S.o q.eql (S.o q.pt (S.bd q.mv (fun c4 => ?_) (fun c4 => ?_)))))
        · first
        | omega | contradiction
        | refine S.o q.mv (S.o q.eql (S.o q.pt (S.o q.as (S.end (hK _ ?_))))); clear hK K; refine Ev.ret ?_; refine Ev.ret1 ?_; refine ⟨?_, rfl⟩
          first | rfl | exact lawT (by omega) | (exfalso; omega) | exact lawT (by assumption) | (exfalso; contradiction)
        · first
        | omega | contradiction
        | refine S.sk (S.sk (S.o q.pf (S.o q.as (S.end (hK _ ?_))))); clear hK K; refine Ev.ret ?_; refine Ev.ret1 ?_; refine ⟨?_, rfl⟩
          first | rfl | exact lawT (by omega) | (exfalso; omega) | exact lawT (by assumption) | (exfalso; contradiction)
      · first
      | omega | contradiction
      | refine S.sk (S.sk (S.sk (S.o q.pf (S.o q.mv (S.sk (S.sk (S.o q.pf (S.o q.as (S.end (hK _ ?_)))))))))); clear hK K; refine Ev.ret ?_; refine Ev.ret1 ?_; refine ⟨?_, rfl⟩
        first | rfl | exact lawT (by omega) | (exfalso; omega) | exact lawT (by assumption) | (exfalso; contradiction)
    · first
    | omega | contradiction
    | refine S.o q.mv (S.o q.neq (S.o q.pf (S.end (hK _ ?_)))); clear hK K; refine Ev.cn (fun c5 => ?_) (fun c5 => ?_)
      · first
      | omega | contradiction
      | have hb := hbad (by omega); refine Ev.sr fun K hK => S.o q.mv (S.o q.mv (S.o q.eql (S.bd q.mv (fun c6 => ?_) (fun c6 => ?_))))
        · first
        | omega | contradiction
        | refine S.o q.mv (S.o (q.lens am_el37) (S.o q.eql (S.o q.pt (S.bd q.mv (fun c7 => ?_) (fun c7 => ?_)))))
          · first
          | omega | contradiction
          | refine S.o q.mv (S.o q.eql (S.o q.pt (S.o q.as (S.end (hK _ ?_))))); clear hK K; refine Ev.ret ?_; refine Ev.ret1 ?_; refine ⟨?_, rfl⟩
            first | rfl | exact lawT (by omega) | (exfalso; omega) | exact lawT (by assumption) | (exfalso; contradiction)
          · first
          | omega | contradiction
          | refine S.sk (S.sk (S.o q.pf (S.o q.as (S.end (hK _ ?_))))); clear hK K; refine Ev.ret ?_; refine Ev.ret1 ?_; refine ⟨?_, rfl⟩
            first | rfl | exact lawT (by omega) | (exfalso; omega) | exact lawT (by assumption) | (exfalso; contradiction)
        · first
        | omega | contradiction
        | refine S.sk (S.sk (S.sk (S.o q.pf (S.o q.mv (S.sk (S.sk (S.o q.pf (S.o q.as (S.end (hK _ ?_)))))))))); clear hK K; refine Ev.ret ?_; refine Ev.ret1 ?_; refine ⟨?_, rfl⟩
          first | rfl | exact lawT (by omega) | (exfalso; omega) | exact lawT (by assumption) | (exfalso; contradiction)
      · first
      | omega | contradiction
      | refine Ev.skip ?_; show Ev _ _ _ _; obtain ⟨g1, g2, g3, g4⟩ := hgood (by omega); refine Ev.sr fun K hK => S.o (q.fa 6 am_fi34_1 am_cl27) (S.o (q.lv am_ag27) (S.o (q.fa 7 am_fi34_2 am_cl28) (S.o (q.lv am_ag28) (S.c0 (hF := f3) (h := S.o q.mv (S.o q.ex (S.o q.ex (S.o q.as (S.o q.as (S.end (hK _ ?_))))))))))); clear hK K; refine Ev.sr fun K hK => S.o (q.fa 6 am_fi34_1 am_cl27) (S.o (q.lv am_ag27) (S.c0 (hF := f4) (h := S.o q.mv (S.o q.ex (S.o q.ex (S.o q.as (S.o q.as (S.end (hK _ ?_))))))))); clear hK K; refine Ev.seq ?_; refine Ev.sr fun K hK => S.o q.mv (S.o q.neq (S.bn q.mv (fun c8 => ?_) (fun c8 => ?_)))
        · first
        | omega | contradiction
        | refine S.sk (S.sk (S.o q.pt (S.end (hK _ ?_)))); clear hK K; refine Ev.ct ?_; refine Ev.sr fun K hK => S.o q.as (S.end (hK _ ?_)); clear hK K; refine Ev.ret ?_; refine Ev.ret1 ?_; refine ⟨?_, rfl⟩
          first | rfl | exact lawT (by omega) | (exfalso; omega) | exact lawT (by assumption) | (exfalso; contradiction)
        · first
        | omega | contradiction
        | refine S.o q.mv (S.o q.neq (S.o q.pf (S.end (hK _ ?_)))); clear hK K; refine Ev.cn (fun c9 => ?_) (fun c9 => ?_)
          · first
          | omega | contradiction
          | refine Ev.sr fun K hK => S.o q.as (S.end (hK _ ?_)); clear hK K; refine Ev.ret ?_; refine Ev.ret1 ?_; refine ⟨?_, rfl⟩
            first | rfl | exact lawT (by omega) | (exfalso; omega) | exact lawT (by assumption) | (exfalso; contradiction)
          · first
          | omega | contradiction
          | refine Ev.skip ?_; show Ev _ _ _ _; refine Ev.seq ?_; refine Ev.sr fun K hK => S.o q.mv (S.o (q.lens am_el37) (S.o q.eql (S.end (hK _ ?_)))); clear hK K; refine Ev.cd (fun c10 => ?_) (fun c10 => ?_)
            · first
            | omega | contradiction
            | refine Ev.sr fun K hK => S.o q.mv (S.o (q.lens am_el37) (S.o q.eql (S.bd q.mv (fun c11 => ?_) (fun c11 => ?_))))
              · first
              | omega | contradiction
              | refine S.o q.mv (S.o q.mv (S.o q.eql (S.o q.pt (S.o q.as (S.end (hK _ ?_)))))); clear hK K; refine Ev.ret ?_; refine Ev.ret1 ?_; refine ⟨?_, rfl⟩
                first | rfl | exact lawT (by omega) | (exfalso; omega) | exact lawT (by assumption) | (exfalso; contradiction)
              · first
              | omega | contradiction
              | refine S.sk (S.sk (S.sk (S.o q.pf (S.o q.as (S.end (hK _ ?_)))))); clear hK K; refine Ev.ret ?_; refine Ev.ret1 ?_; refine ⟨?_, rfl⟩
                first | rfl | exact lawT (by omega) | (exfalso; omega) | exact lawT (by assumption) | (exfalso; contradiction)
            · first
            | omega | contradiction
            | refine Ev.skip ?_; show Ev _ _ _ _; refine Ev.sr fun K hK => S.o q.mv (S.o (q.lens am_el37) (S.o q.gtr (S.bd q.mv (fun c12 => ?_) (fun c12 => ?_))))
              · first
              | omega | contradiction
              | refine S.sk (S.sk (S.sk (S.o q.pt (S.o q.as (S.end (hK _ ?_)))))); clear hK K; refine Ev.ret ?_; refine Ev.ret1 ?_; refine ⟨?_, rfl⟩
                first | rfl | exact lawT (by omega) | (exfalso; omega) | exact lawT (by assumption) | (exfalso; contradiction)
              · first
              | omega | contradiction
              | refine S.o q.mv (S.o q.mv (S.o q.eql (S.o q.pf (S.o q.as (S.end (hK _ ?_)))))); clear hK K; refine Ev.ret ?_; refine Ev.ret1 ?_; refine ⟨?_, rfl⟩
                first | rfl | exact lawT (by omega) | (exfalso; omega) | exact lawT (by assumption) | (exfalso; contradiction)
end Go.Proofs.YtkbpignlggahaaaGreatDoor
