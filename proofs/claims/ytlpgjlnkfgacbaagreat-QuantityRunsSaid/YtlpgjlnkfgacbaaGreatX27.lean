/-
  Part 27 of the proof: functions walked on the abstract machine.
  Conditions: none.
-/
import Derived.Test.YtlpgjlnkfgacbaaGreatX26
set_option linter.unusedSimpArgs false
set_option linter.unusedVariables false
set_option maxRecDepth 100000
set_option maxHeartbeats 1000000
namespace Go.Proofs.YtlpgjlnkfgacbaaGreat
open Go Go.AM
def shortB (b : Bar) : Prop := b.dims.length ≤ 8 ∧ b.mark.length ≤ 60
instance (b) : Decidable (shortB b) := by unfold shortB; infer_instance
def shortR (r : Rn) : Prop := r.mark.length ≤ 60 ∧ ¬ (r.n > 16 ∧ r.n ≤ 2000)
instance (r) : Decidable (shortR r) := by unfold shortR; infer_instance
def sumP (l : List Rn) : Int := l.foldl (fun a r => if r.n > 0 ∧ r.n ≤ 16 then a + r.n else a) 0
theorem sumP_snoc (l : List Rn) (s : Rn) : sumP (l ++ [s]) = if s.n > 0 ∧ s.n ≤ 16 then sumP l + s.n else sumP l := by simp [sumP]
theorem sumP_t {l : List Rn} {s : Rn} (h : s.n > 0) (h2 : s.n ≤ 16) : sumP (l ++ [s]) = sumP l + s.n := by rw [sumP_snoc, if_pos ⟨h, h2⟩]
theorem sumP_f {l : List Rn} {s : Rn} (h : ¬ (s.n > 0 ∧ s.n ≤ 16)) : sumP (l ++ [s]) = sumP l := by rw [sumP_snoc, if_neg h]
theorem sumP_bd : ∀ l : List Rn, 0 ≤ sumP l ∧ sumP l ≤ 16 * l.length := by
  refine snoc_ind ⟨Int.le_refl _, Int.le_refl _⟩ ?_; intro l s ih; rw [sumP_snoc, List.length_append, List.length_singleton]
  split <;> omega
def smLaid (bars : List Bar) (runs : List Rn) : Prop := (bars.length ≤ 6 ∨ 60 < bars.length ∧ bars.length ≤ 63) ∧ (runs.length ≤ 6 ∨ 60 < runs.length ∧ runs.length ≤ 63) ∧ (∀ b ∈ bars, shortB b) ∧ (∀ r ∈ runs, shortR r) ∧ (sumP runs ≤ 16 ∨ runs.length > 6)
instance (bars runs) : Decidable (smLaid bars runs) := by unfold smLaid; infer_instance
def smLen (n : Nat) : Prop := (n ≤ 4 ∨ 20 < n) ∧ n ≤ 25
instance (n) : Decidable (smLen n) := by unfold smLen; infer_instance
def smSol (bs hs : List Bx) : Prop := smLen bs.length ∧ smLen hs.length
instance (bs hs) : Decidable (smSol bs hs) := by unfold smSol; infer_instance
def smDet (x : Det) : Prop := x.mem.name.length ≤ 60 ∧ smSol x.mem.bs x.mem.hs ∧ smLaid x.bars x.runs ∧ smD x.dems 4 ∧ (x.laps.length ≤ 16 ∨ 1000 < x.laps.length ∧ x.laps.length ≤ 1005)
instance (x) : Decidable (smDet x) := by unfold smDet; infer_instance
def Det.l (x : Det) : Prop := x.mem.name.length ≤ 140737488355328 ∧ (x.mem.bs.length ≤ 140737488355328 ∧ x.mem.hs.length ≤ 140737488355328) ∧ x.bars.length ≤ 140737488355328 ∧ x.runs.length ≤ 140737488355328 ∧ x.laps.length ≤ 140737488355328 ∧ x.dems.length ≤ 140737488355328
theorem short_fun (b : Bar) : Fun Tryz.prog 40 [.agg b.c] (Ret (bL (decide (shortB b))) []) := by
  refine Fun.of (nt := 13) (rs := [.tmp 2]) Tryz.func40 rfl rfl rfl rfl rfl (Ev.sr fun _ k=>S.nn (q.bx _ true) (S.o q.as (S.e k (Ev.sr fun _ k=>S.o (q.fa 4 am_fi58_4 am_cl56) (S.o (q.lv am_ag56) (S.o (q.lens am_el56) (S.o q.leq (S.bd q.mv (fun c1 => ?_) (fun c1 => ?_)))))))))
  · refine S.o (q.fa 0 am_fi58_0 am_cl9) (S.o (q.lv am_ag9) (S.o (q.slen am_el9 am_un9) (S.o q.leq (S.o q.pt (S.o q.as (S.e k (Ev.ret (Ev.p1 ?_)))))))); exact dI ⟨fun h => ⟨by omega, by omega⟩, fun h => by have h1 := h.2; omega⟩
  refine S.s2 (S.s2 (S.o q.pf (S.o q.as (S.e k (Ev.ret (Ev.p1 ?_)))))); exact bF (fun h => by have h1 := h.1; omega)
theorem small16_fun (bars : List Bar) (runs : List Rn) (h1 : bars.length ≤ 140737488355328) (h2 : runs.length ≤ 140737488355328) : Fun Tryz.prog 18 [.sh 5 (bars.map Bar.c), .sh 10 (runs.map Rn.c), iL 6, iL 16] (Ret (bL (decide (smLaid bars runs))) []) := by
  refine Fun.of (nt := 113) (rs := [.tmp 8]) Tryz.func18 rfl rfl rfl rfl rfl (Ev.sr fun _ k=>S.o q.as (S.e k (Ev.seq (Ev.sr fun _ k=>S.o q.mv (S.o (q.lens am_el27) (S.o q.mv (S.o q.gtr (S.bd q.mv (fun c1 => ?_) (fun c1 => ?_)))))))))
  · refine S.o q.mv (S.o (q.lens am_el27) (S.o q.leq (S.o q.pt (S.bd q.mv (fun c2 => ?_) (fun c2 => ?_)))))
    · refine S.s2 (S.sk (S.o q.pt (S.o q.mv (S.s2 (S.s2 (S.s2 (S.s2 (S.sk (S.o q.pt (S.o q.mv (S.s2 (S.sk (S.o q.pt (S.e k (Ev.ct (Ev.sr fun _ k=>S.o q.as (S.e k (Ev.ret (Ev.p1 ?_))))))))))))))))))); exact bF (fun h => by have h1 := h.1; have h2 := h.2.1; omega)
    refine S.o q.mv (S.o (q.lens am_el27) (S.o q.gtr (S.o q.pf (S.bd q.mv (fun c3 => ?_) (fun c3 => ?_)))))
    · refine S.s2 (S.s2 (S.s2 (S.s2 (S.sk (S.o q.pt (S.o q.mv (S.s2 (S.sk (S.o q.pt (S.e k (Ev.ct (Ev.sr fun _ k=>S.o q.as (S.e k (Ev.ret (Ev.p1 ?_))))))))))))))); exact bF (fun h => by have h1 := h.1; have h2 := h.2.1; omega)
    refine S.o q.mv (S.o (q.lens am_el28) (S.o q.mv (S.o q.gtr (S.bd q.mv (fun c4 => ?_) (fun c4 => ?_)))))
    · refine S.o q.mv (S.o (q.lens am_el28) (S.o q.leq (S.o q.pt (S.o q.pf (S.bd q.mv (fun c5 => ?_) (fun c5 => ?_))))))
      · refine S.s2 (S.sk (S.o q.pt (S.e k (Ev.ct (Ev.sr fun _ k=>S.o q.as (S.e k (Ev.ret (Ev.p1 ?_)))))))); exact bF (fun h => by have h1 := h.1; have h2 := h.2.1; omega)
      refine S.o q.mv (S.o (q.lens am_el28) (S.o q.gtr (S.o q.pf (S.e k (Ev.cd (fun c6 => ?_) (fun c6 => ?_))))))
      · refine Ev.sr fun _ k=>S.o q.as (S.e k (Ev.ret (Ev.p1 ?_))); exact bF (fun h => by have h1 := h.1; have h2 := h.2.1; omega)
      refine Ev.skip (Ev.seq (Ev.sr fun _ k=>S.o q.as (S.e k (Ev.block (Ev.loopU (ι := {q : List Bar × List Bar // q.1 ++ q.2 = bars ∧ ∀ b ∈ q.1, shortB b}) [] [0, 1, 2, 3] (fun ⟨(pre, suf), _⟩ => [(9, iL (pre.length : Int))]) (fun ⟨(pre, suf), _⟩ => []) (fun ⟨(pre, suf), _⟩ => suf.length) ⟨([], bars), rfl, fun x hx => by simp at hx⟩ (.c (.c (.c (.c .n)))) keep_n (slots_c) ?_))))); rintro ⟨⟨pre, suf⟩, hp, hinv⟩ R0 hR0; dsimp only [cA, nA, lC, lN]
      simp only at hp hinv
      have hpl := lenA hp
      rcases suf with _ | ⟨s, suf⟩
      · rw [List.append_nil] at hp; simp only [lN] at hpl; refine Ev.seq (Ev.sr fun _ k=>S.o q.mv (S.o q.mv (S.o (q.lens am_el27) (S.o q.lss (S.e k (Ev.cd (fun c7 => ?_) (fun c7 => ?_)))))))
        · omega
        refine Ev.exit (hR0 _ _ ?_)
        have hba : ∀ b ∈ bars, shortB b := by rw [← hp]; exact hinv
        refine Ev.sr fun _ k=>S.o q.as (S.e k (Ev.seq (Ev.sr fun _ k=>S.o q.as (S.e k (Ev.block (Ev.loopU (ι := {q : List Rn × List Rn // q.1 ++ q.2 = runs ∧ ∀ b ∈ q.1, shortR b}) [] [1, 2, 3] (fun ⟨(pre, suf), _⟩ => [(11, iL (pre.length : Int)), (10, iL (sumP pre))]) (fun ⟨(pre, suf), _⟩ => []) (fun ⟨(pre, suf), _⟩ => suf.length) ⟨([], runs), rfl, fun x hx => by simp at hx⟩ (.c (.c (.c .n))) keep_n (slots_c (h := (slots_c))) ?_)))))); rintro ⟨⟨pre, suf⟩, hp, hinv⟩ R2 hR2; dsimp only [cA, nA, lC, lN]
        simp only at hp hinv
        have hpl := lenA hp
        rcases suf with _ | ⟨s, suf⟩
        · rw [List.append_nil] at hp; simp only [lN] at hpl; have hsp := sumP_bd pre
          have hpe : (pre.length : Int) = (runs.length : Int) := by omega
          refine Ev.seq (Ev.sr fun _ k=>S.o q.mv (S.o q.mv (S.o (q.lens am_el28) (S.o q.lss (S.e k (Ev.cd (fun c8 => ?_) (fun c8 => ?_)))))))
          · omega
          refine Ev.exit (hR2 _ _ (Ev.sr fun _ k=>S.o q.mv (S.o q.mv (S.o q.leq (S.bd q.mv (fun c9 => ?_) (fun c9 => ?_))))))
          · refine S.s2 (S.s2 (S.o q.pt (S.o q.as (S.e k (Ev.ret (Ev.p1 ?_)))))); exact bT ⟨by omega, by omega, hba, by rw [← hp]; exact hinv, by rw [← hp]; exact .inl (by omega)⟩
          refine S.o q.mv (S.o (q.lens am_el28) (S.o q.mv (S.o q.gtr (S.o q.pf (S.o q.as (S.e k (Ev.ret (Ev.p1 ?_)))))))); exact dI ⟨fun h => ⟨by omega, by omega, hba, by rw [← hp]; exact hinv, by exact .inr (by omega)⟩, fun h => by have h1 := h.2.2.2.2; rw [← hp] at h1; omega⟩
        simp only [lC] at hpl; have hidx := getA hp; have hms := memA hp; have hsp := sumP_bd pre; refine Ev.seq (Ev.sr fun _ k=>S.o q.mv (S.o q.mv (S.o (q.lens am_el28) (S.o q.lss (S.e k (Ev.cd (fun c10 => ?_) (fun c10 => ?_)))))))
        · refine Ev.skip (Ev.seq (Ev.block (Ev.seq (Ev.sr fun _ k=>S.o q.mv (S.o q.mv (S.o (q.ix am_el28 am_cl40 (hl := (by exact ati hidx (by omega)))) (S.o (q.fs 0 am_fi40_0 am_cl9) (S.o (q.ls am_ag9) (S.o (q.slen am_el9 am_un9) (S.o q.gtr (S.e k (Ev.cd (fun c11 => ?_) (fun c11 => ?_)))))))))))))
          · refine Ev.sr fun _ k=>S.o q.as (S.e k (Ev.ret (hR2 _ _ (Ev.p1 ?_)))); exact bF (fun h => by have h1 := (h.2.2.2.1 s hms).1; omega)
          refine Ev.skip (Ev.seq (Ev.sr fun _ k=>S.o q.mv (S.o q.mv (S.o (q.ix am_el28 am_cl40 (hl := (by exact ati hidx (by omega)))) (S.o (q.fs 9 am_fi40_4 am_cl3) (S.o (q.ls am_ag3) (S.o q.mv (S.o q.gtr (S.bd q.mv (fun c12 => ?_) (fun c12 => ?_))))))))))
          · refine S.o q.mv (S.o q.mv (S.o (q.ix am_el28 am_cl40 (hl := (by exact ati hidx (by omega)))) (S.o (q.fs 9 am_fi40_4 am_cl3) (S.o (q.ls am_ag3) (S.o q.leq (S.o q.pt (S.e k (Ev.cd (fun c13 => ?_) (fun c13 => ?_)))))))))
            · refine Ev.sr fun _ k=>S.o q.as (S.e k (Ev.ret (hR2 _ _ (Ev.p1 ?_)))); exact bF (fun h => (h.2.2.2.1 s hms).2 ⟨by omega, by omega⟩)
            refine Ev.skip (Ev.sr fun _ k=>S.o q.mv (S.o q.mv (S.o (q.ix am_el28 am_cl40 (hl := (by exact ati hidx (by omega)))) (S.o (q.fs 9 am_fi40_4 am_cl3) (S.o (q.ls am_ag3) (S.o q.gtr (S.bd q.mv (fun c14 => ?_) (fun c14 => ?_))))))))
            · refine S.o q.mv (S.o q.mv (S.o (q.ix am_el28 am_cl40 (hl := (by exact ati hidx (by omega)))) (S.o (q.fs 9 am_fi40_4 am_cl3) (S.o (q.ls am_ag3) (S.o q.mv (S.o q.leq (S.o q.pt (S.e k (Ev.cd (fun c15 => ?_) (fun c15 => ?_))))))))))
              · omega
              refine Ev.skip (Ev.region_S fun _ k=>S.o q.mv (S.o q.add (S.o q.as (S.e k (hR2 _ _ (roundU [] [1, 2, 3] ⟨(pre ++ [s], suf), sucA hp, ?_⟩ muL keep_n (slots_c (he := (by congr 2; simp)) (h := (slots_c (he := (by exact iE (sumP_f (by omega)).symm))))) (.c (.c (.c .n)))))))))
              intro x hx; simp only [List.mem_append, List.mem_singleton] at hx; rcases hx with hx | rfl
              · exact hinv x hx
              · exact ⟨by omega, by omega⟩
            omega
          refine S.s2 (S.s2 (S.s2 (S.o q.pf (S.e k (Ev.cf (Ev.skip (Ev.sr fun _ k=>S.o q.mv (S.o q.mv (S.o (q.ix am_el28 am_cl40 (hl := (by exact ati hidx (by omega)))) (S.o (q.fs 9 am_fi40_4 am_cl3) (S.o (q.ls am_ag3) (S.o q.gtr (S.bd q.mv (fun c16 => ?_) (fun c16 => ?_))))))))))))))
          · refine S.o q.mv (S.o q.mv (S.o (q.ix am_el28 am_cl40 (hl := (by exact ati hidx (by omega)))) (S.o (q.fs 9 am_fi40_4 am_cl3) (S.o (q.ls am_ag3) (S.o q.mv (S.o q.leq (S.o q.pt (S.e k (Ev.cd (fun c17 => ?_) (fun c17 => ?_))))))))))
            · refine Ev.region_S fun _ k=>S.o q.mv (S.o q.mv (S.o q.mv (S.o (q.ix am_el28 am_cl40 (hl := (by exact ati hidx (by omega)))) (S.o (q.fs 9 am_fi40_4 am_cl3) (S.o (q.ls am_ag3) (S.o q.add (S.o q.as (S.e k ?_)))))))); show Ev _ _ _ _; refine Ev.region_S fun _ k=>S.o q.mv (S.o q.add (S.o q.as (S.e k (hR2 _ _ (roundU [] [1, 2, 3] ⟨(pre ++ [s], suf), sucA hp, ?_⟩ muL keep_n (slots_c (he := (by congr 2; simp)) (h := (slots_c (he := (by exact iE (sumP_t (by omega) (by omega)).symm))))) (.c (.c (.c .n))))))))
              intro x hx; simp only [List.mem_append, List.mem_singleton] at hx; rcases hx with hx | rfl
              · exact hinv x hx
              · exact ⟨by omega, by omega⟩
            omega
          refine S.s2 (S.s2 (S.s2 (S.sk (S.o q.pf (S.e k (Ev.cf (Ev.skip (Ev.region_S fun _ k=>S.o q.mv (S.o q.add (S.o q.as (S.e k (hR2 _ _ (roundU [] [1, 2, 3] ⟨(pre ++ [s], suf), sucA hp, ?_⟩ muL keep_n (slots_c (he := (by congr 2; simp)) (h := (slots_c (he := (by exact iE (sumP_f (by omega)).symm))))) (.c (.c (.c .n))))))))))))))))
          intro x hx; simp only [List.mem_append, List.mem_singleton] at hx; rcases hx with hx | rfl
          · exact hinv x hx
          · exact ⟨by omega, by omega⟩
        omega
      simp only [lC] at hpl; have hidx := getA hp; have hms := memA hp; refine Ev.seq (Ev.sr fun _ k=>S.o q.mv (S.o q.mv (S.o (q.lens am_el27) (S.o q.lss (S.e k (Ev.cd (fun c18 => ?_) (fun c18 => ?_)))))))
      · refine Ev.skip (Ev.seq (Ev.block (Ev.sr fun _ k=>S.o q.mv (S.o q.mv (S.o (q.ix am_el27 am_cl58 (hl := (by exact ati hidx (by omega)))) (S.o (q.lsA _ am_ag58 am_cl58) (S.c0 (hF := short_fun s) (h := S.o q.not (S.e k (Ev.cn (fun c19 => ?_) (fun c19 => ?_)))))))))))
        · refine Ev.sr fun _ k=>S.o q.as (S.e k (Ev.ret (hR0 _ _ (Ev.p1 ?_)))); exact bF (fun h => absurd (h.2.2.1 s hms) ‹_›)
        refine Ev.skip (Ev.region_S fun _ k=>S.o q.mv (S.o q.add (S.o q.as (S.e k (hR0 _ _ (roundU [] [0, 1, 2, 3] ⟨(pre ++ [s], suf), sucA hp, ?_⟩ muL keep_n (slots_c (he := (by congr 2; simp))) (.c (.c (.c (.c .n))))))))))
        intro x hx; simp only [List.mem_append, List.mem_singleton] at hx; rcases hx with hx | rfl
        · exact hinv x hx
        · assumption
      omega
    refine S.s2 (S.sk (S.o q.pf (S.o q.pf (S.o q.mv (S.o q.mv (S.o (q.lens am_el28) (S.o q.gtr (S.o q.pf (S.e k (Ev.cd (fun c20 => ?_) (fun c20 => ?_)))))))))))
    · omega
    refine Ev.skip (Ev.seq (Ev.sr fun _ k=>S.o q.as (S.e k (Ev.block (Ev.loopU (ι := {q : List Bar × List Bar // q.1 ++ q.2 = bars ∧ ∀ b ∈ q.1, shortB b}) [] [0, 1, 2, 3] (fun ⟨(pre, suf), _⟩ => [(9, iL (pre.length : Int))]) (fun ⟨(pre, suf), _⟩ => []) (fun ⟨(pre, suf), _⟩ => suf.length) ⟨([], bars), rfl, fun x hx => by simp at hx⟩ (.c (.c (.c (.c .n)))) keep_n (slots_c) ?_))))); rintro ⟨⟨pre, suf⟩, hp, hinv⟩ R0 hR0; dsimp only [cA, nA, lC, lN]
    simp only at hp hinv
    have hpl := lenA hp
    rcases suf with _ | ⟨s, suf⟩
    · rw [List.append_nil] at hp; simp only [lN] at hpl; refine Ev.seq (Ev.sr fun _ k=>S.o q.mv (S.o q.mv (S.o (q.lens am_el27) (S.o q.lss (S.e k (Ev.cd (fun c21 => ?_) (fun c21 => ?_)))))))
      · omega
      refine Ev.exit (hR0 _ _ ?_)
      have hba : ∀ b ∈ bars, shortB b := by rw [← hp]; exact hinv
      refine Ev.sr fun _ k=>S.o q.as (S.e k (Ev.seq (Ev.sr fun _ k=>S.o q.as (S.e k (Ev.block (Ev.loopU (ι := {q : List Rn × List Rn // q.1 ++ q.2 = runs ∧ ∀ b ∈ q.1, shortR b}) [] [1, 2, 3] (fun ⟨(pre, suf), _⟩ => [(11, iL (pre.length : Int)), (10, iL (sumP pre))]) (fun ⟨(pre, suf), _⟩ => []) (fun ⟨(pre, suf), _⟩ => suf.length) ⟨([], runs), rfl, fun x hx => by simp at hx⟩ (.c (.c (.c .n))) keep_n (slots_c (h := (slots_c))) ?_)))))); rintro ⟨⟨pre, suf⟩, hp, hinv⟩ R2 hR2; dsimp only [cA, nA, lC, lN]
      simp only at hp hinv
      have hpl := lenA hp
      rcases suf with _ | ⟨s, suf⟩
      · rw [List.append_nil] at hp; simp only [lN] at hpl; have hsp := sumP_bd pre
        have hpe : (pre.length : Int) = (runs.length : Int) := by omega
        refine Ev.seq (Ev.sr fun _ k=>S.o q.mv (S.o q.mv (S.o (q.lens am_el28) (S.o q.lss (S.e k (Ev.cd (fun c22 => ?_) (fun c22 => ?_)))))))
        · omega
        refine Ev.exit (hR2 _ _ (Ev.sr fun _ k=>S.o q.mv (S.o q.mv (S.o q.leq (S.bd q.mv (fun c23 => ?_) (fun c23 => ?_))))))
        · refine S.s2 (S.s2 (S.o q.pt (S.o q.as (S.e k (Ev.ret (Ev.p1 ?_)))))); exact bT ⟨by omega, by omega, hba, by rw [← hp]; exact hinv, by rw [← hp]; exact .inl (by omega)⟩
        refine S.o q.mv (S.o (q.lens am_el28) (S.o q.mv (S.o q.gtr (S.o q.pf (S.o q.as (S.e k (Ev.ret (Ev.p1 ?_)))))))); exact dI ⟨fun h => ⟨by omega, by omega, hba, by rw [← hp]; exact hinv, by exact .inr (by omega)⟩, fun h => by have h1 := h.2.2.2.2; rw [← hp] at h1; omega⟩
      simp only [lC] at hpl; have hidx := getA hp; have hms := memA hp; have hsp := sumP_bd pre; refine Ev.seq (Ev.sr fun _ k=>S.o q.mv (S.o q.mv (S.o (q.lens am_el28) (S.o q.lss (S.e k (Ev.cd (fun c24 => ?_) (fun c24 => ?_)))))))
      · refine Ev.skip (Ev.seq (Ev.block (Ev.seq (Ev.sr fun _ k=>S.o q.mv (S.o q.mv (S.o (q.ix am_el28 am_cl40 (hl := (by exact ati hidx (by omega)))) (S.o (q.fs 0 am_fi40_0 am_cl9) (S.o (q.ls am_ag9) (S.o (q.slen am_el9 am_un9) (S.o q.gtr (S.e k (Ev.cd (fun c25 => ?_) (fun c25 => ?_)))))))))))))
        · refine Ev.sr fun _ k=>S.o q.as (S.e k (Ev.ret (hR2 _ _ (Ev.p1 ?_)))); exact bF (fun h => by have h1 := (h.2.2.2.1 s hms).1; omega)
        refine Ev.skip (Ev.seq (Ev.sr fun _ k=>S.o q.mv (S.o q.mv (S.o (q.ix am_el28 am_cl40 (hl := (by exact ati hidx (by omega)))) (S.o (q.fs 9 am_fi40_4 am_cl3) (S.o (q.ls am_ag3) (S.o q.mv (S.o q.gtr (S.bd q.mv (fun c26 => ?_) (fun c26 => ?_))))))))))
        · refine S.o q.mv (S.o q.mv (S.o (q.ix am_el28 am_cl40 (hl := (by exact ati hidx (by omega)))) (S.o (q.fs 9 am_fi40_4 am_cl3) (S.o (q.ls am_ag3) (S.o q.leq (S.o q.pt (S.e k (Ev.cd (fun c27 => ?_) (fun c27 => ?_)))))))))
          · refine Ev.sr fun _ k=>S.o q.as (S.e k (Ev.ret (hR2 _ _ (Ev.p1 ?_)))); exact bF (fun h => (h.2.2.2.1 s hms).2 ⟨by omega, by omega⟩)
          refine Ev.skip (Ev.sr fun _ k=>S.o q.mv (S.o q.mv (S.o (q.ix am_el28 am_cl40 (hl := (by exact ati hidx (by omega)))) (S.o (q.fs 9 am_fi40_4 am_cl3) (S.o (q.ls am_ag3) (S.o q.gtr (S.bd q.mv (fun c28 => ?_) (fun c28 => ?_))))))))
          · refine S.o q.mv (S.o q.mv (S.o (q.ix am_el28 am_cl40 (hl := (by exact ati hidx (by omega)))) (S.o (q.fs 9 am_fi40_4 am_cl3) (S.o (q.ls am_ag3) (S.o q.mv (S.o q.leq (S.o q.pt (S.e k (Ev.cd (fun c29 => ?_) (fun c29 => ?_))))))))))
            · omega
            refine Ev.skip (Ev.region_S fun _ k=>S.o q.mv (S.o q.add (S.o q.as (S.e k (hR2 _ _ (roundU [] [1, 2, 3] ⟨(pre ++ [s], suf), sucA hp, ?_⟩ muL keep_n (slots_c (he := (by congr 2; simp)) (h := (slots_c (he := (by exact iE (sumP_f (by omega)).symm))))) (.c (.c (.c .n)))))))))
            intro x hx; simp only [List.mem_append, List.mem_singleton] at hx; rcases hx with hx | rfl
            · exact hinv x hx
            · exact ⟨by omega, by omega⟩
          omega
        refine S.s2 (S.s2 (S.s2 (S.o q.pf (S.e k (Ev.cf (Ev.skip (Ev.sr fun _ k=>S.o q.mv (S.o q.mv (S.o (q.ix am_el28 am_cl40 (hl := (by exact ati hidx (by omega)))) (S.o (q.fs 9 am_fi40_4 am_cl3) (S.o (q.ls am_ag3) (S.o q.gtr (S.bd q.mv (fun c30 => ?_) (fun c30 => ?_))))))))))))))
        · refine S.o q.mv (S.o q.mv (S.o (q.ix am_el28 am_cl40 (hl := (by exact ati hidx (by omega)))) (S.o (q.fs 9 am_fi40_4 am_cl3) (S.o (q.ls am_ag3) (S.o q.mv (S.o q.leq (S.o q.pt (S.e k (Ev.cd (fun c31 => ?_) (fun c31 => ?_))))))))))
          · refine Ev.region_S fun _ k=>S.o q.mv (S.o q.mv (S.o q.mv (S.o (q.ix am_el28 am_cl40 (hl := (by exact ati hidx (by omega)))) (S.o (q.fs 9 am_fi40_4 am_cl3) (S.o (q.ls am_ag3) (S.o q.add (S.o q.as (S.e k ?_)))))))); show Ev _ _ _ _; refine Ev.region_S fun _ k=>S.o q.mv (S.o q.add (S.o q.as (S.e k (hR2 _ _ (roundU [] [1, 2, 3] ⟨(pre ++ [s], suf), sucA hp, ?_⟩ muL keep_n (slots_c (he := (by congr 2; simp)) (h := (slots_c (he := (by exact iE (sumP_t (by omega) (by omega)).symm))))) (.c (.c (.c .n))))))))
            intro x hx; simp only [List.mem_append, List.mem_singleton] at hx; rcases hx with hx | rfl
            · exact hinv x hx
            · exact ⟨by omega, by omega⟩
          omega
        refine S.s2 (S.s2 (S.s2 (S.sk (S.o q.pf (S.e k (Ev.cf (Ev.skip (Ev.region_S fun _ k=>S.o q.mv (S.o q.add (S.o q.as (S.e k (hR2 _ _ (roundU [] [1, 2, 3] ⟨(pre ++ [s], suf), sucA hp, ?_⟩ muL keep_n (slots_c (he := (by congr 2; simp)) (h := (slots_c (he := (by exact iE (sumP_f (by omega)).symm))))) (.c (.c (.c .n))))))))))))))))
        intro x hx; simp only [List.mem_append, List.mem_singleton] at hx; rcases hx with hx | rfl
        · exact hinv x hx
        · exact ⟨by omega, by omega⟩
      omega
    simp only [lC] at hpl; have hidx := getA hp; have hms := memA hp; refine Ev.seq (Ev.sr fun _ k=>S.o q.mv (S.o q.mv (S.o (q.lens am_el27) (S.o q.lss (S.e k (Ev.cd (fun c32 => ?_) (fun c32 => ?_)))))))
    · refine Ev.skip (Ev.seq (Ev.block (Ev.sr fun _ k=>S.o q.mv (S.o q.mv (S.o (q.ix am_el27 am_cl58 (hl := (by exact ati hidx (by omega)))) (S.o (q.lsA _ am_ag58 am_cl58) (S.c0 (hF := short_fun s) (h := S.o q.not (S.e k (Ev.cn (fun c33 => ?_) (fun c33 => ?_)))))))))))
      · refine Ev.sr fun _ k=>S.o q.as (S.e k (Ev.ret (hR0 _ _ (Ev.p1 ?_)))); exact bF (fun h => absurd (h.2.2.1 s hms) ‹_›)
      refine Ev.skip (Ev.region_S fun _ k=>S.o q.mv (S.o q.add (S.o q.as (S.e k (hR0 _ _ (roundU [] [0, 1, 2, 3] ⟨(pre ++ [s], suf), sucA hp, ?_⟩ muL keep_n (slots_c (he := (by congr 2; simp))) (.c (.c (.c (.c .n))))))))))
      intro x hx; simp only [List.mem_append, List.mem_singleton] at hx; rcases hx with hx | rfl
      · exact hinv x hx
      · assumption
    omega
  refine S.s2 (S.sk (S.o q.pf (S.o q.mv (S.o q.mv (S.o (q.lens am_el27) (S.o q.gtr (S.o q.pf (S.bd q.mv (fun c34 => ?_) (fun c34 => ?_)))))))))
  · omega
  refine S.o q.mv (S.o (q.lens am_el28) (S.o q.mv (S.o q.gtr (S.bd q.mv (fun c35 => ?_) (fun c35 => ?_)))))
  · refine S.o q.mv (S.o (q.lens am_el28) (S.o q.leq (S.o q.pt (S.o q.pf (S.bd q.mv (fun c36 => ?_) (fun c36 => ?_))))))
    · refine S.s2 (S.sk (S.o q.pt (S.e k (Ev.ct (Ev.sr fun _ k=>S.o q.as (S.e k (Ev.ret (Ev.p1 ?_)))))))); exact bF (fun h => by have h1 := h.1; have h2 := h.2.1; omega)
    refine S.o q.mv (S.o (q.lens am_el28) (S.o q.gtr (S.o q.pf (S.e k (Ev.cd (fun c37 => ?_) (fun c37 => ?_))))))
    · refine Ev.sr fun _ k=>S.o q.as (S.e k (Ev.ret (Ev.p1 ?_))); exact bF (fun h => by have h1 := h.1; have h2 := h.2.1; omega)
    refine Ev.skip (Ev.seq (Ev.sr fun _ k=>S.o q.as (S.e k (Ev.block (Ev.loopU (ι := {q : List Bar × List Bar // q.1 ++ q.2 = bars ∧ ∀ b ∈ q.1, shortB b}) [] [0, 1, 2, 3] (fun ⟨(pre, suf), _⟩ => [(9, iL (pre.length : Int))]) (fun ⟨(pre, suf), _⟩ => []) (fun ⟨(pre, suf), _⟩ => suf.length) ⟨([], bars), rfl, fun x hx => by simp at hx⟩ (.c (.c (.c (.c .n)))) keep_n (slots_c) ?_))))); rintro ⟨⟨pre, suf⟩, hp, hinv⟩ R0 hR0; dsimp only [cA, nA, lC, lN]
    simp only at hp hinv
    have hpl := lenA hp
    rcases suf with _ | ⟨s, suf⟩
    · rw [List.append_nil] at hp; simp only [lN] at hpl; refine Ev.seq (Ev.sr fun _ k=>S.o q.mv (S.o q.mv (S.o (q.lens am_el27) (S.o q.lss (S.e k (Ev.cd (fun c38 => ?_) (fun c38 => ?_)))))))
      · omega
      refine Ev.exit (hR0 _ _ ?_)
      have hba : ∀ b ∈ bars, shortB b := by rw [← hp]; exact hinv
      refine Ev.sr fun _ k=>S.o q.as (S.e k (Ev.seq (Ev.sr fun _ k=>S.o q.as (S.e k (Ev.block (Ev.loopU (ι := {q : List Rn × List Rn // q.1 ++ q.2 = runs ∧ ∀ b ∈ q.1, shortR b}) [] [1, 2, 3] (fun ⟨(pre, suf), _⟩ => [(11, iL (pre.length : Int)), (10, iL (sumP pre))]) (fun ⟨(pre, suf), _⟩ => []) (fun ⟨(pre, suf), _⟩ => suf.length) ⟨([], runs), rfl, fun x hx => by simp at hx⟩ (.c (.c (.c .n))) keep_n (slots_c (h := (slots_c))) ?_)))))); rintro ⟨⟨pre, suf⟩, hp, hinv⟩ R2 hR2; dsimp only [cA, nA, lC, lN]
      simp only at hp hinv
      have hpl := lenA hp
      rcases suf with _ | ⟨s, suf⟩
      · rw [List.append_nil] at hp; simp only [lN] at hpl; have hsp := sumP_bd pre
        have hpe : (pre.length : Int) = (runs.length : Int) := by omega
        refine Ev.seq (Ev.sr fun _ k=>S.o q.mv (S.o q.mv (S.o (q.lens am_el28) (S.o q.lss (S.e k (Ev.cd (fun c39 => ?_) (fun c39 => ?_)))))))
        · omega
        refine Ev.exit (hR2 _ _ (Ev.sr fun _ k=>S.o q.mv (S.o q.mv (S.o q.leq (S.bd q.mv (fun c40 => ?_) (fun c40 => ?_))))))
        · refine S.s2 (S.s2 (S.o q.pt (S.o q.as (S.e k (Ev.ret (Ev.p1 ?_)))))); exact bT ⟨by omega, by omega, hba, by rw [← hp]; exact hinv, by rw [← hp]; exact .inl (by omega)⟩
        refine S.o q.mv (S.o (q.lens am_el28) (S.o q.mv (S.o q.gtr (S.o q.pf (S.o q.as (S.e k (Ev.ret (Ev.p1 ?_)))))))); exact dI ⟨fun h => ⟨by omega, by omega, hba, by rw [← hp]; exact hinv, by exact .inr (by omega)⟩, fun h => by have h1 := h.2.2.2.2; rw [← hp] at h1; omega⟩
      simp only [lC] at hpl; have hidx := getA hp; have hms := memA hp; have hsp := sumP_bd pre; refine Ev.seq (Ev.sr fun _ k=>S.o q.mv (S.o q.mv (S.o (q.lens am_el28) (S.o q.lss (S.e k (Ev.cd (fun c41 => ?_) (fun c41 => ?_)))))))
      · refine Ev.skip (Ev.seq (Ev.block (Ev.seq (Ev.sr fun _ k=>S.o q.mv (S.o q.mv (S.o (q.ix am_el28 am_cl40 (hl := (by exact ati hidx (by omega)))) (S.o (q.fs 0 am_fi40_0 am_cl9) (S.o (q.ls am_ag9) (S.o (q.slen am_el9 am_un9) (S.o q.gtr (S.e k (Ev.cd (fun c42 => ?_) (fun c42 => ?_)))))))))))))
        · refine Ev.sr fun _ k=>S.o q.as (S.e k (Ev.ret (hR2 _ _ (Ev.p1 ?_)))); exact bF (fun h => by have h1 := (h.2.2.2.1 s hms).1; omega)
        refine Ev.skip (Ev.seq (Ev.sr fun _ k=>S.o q.mv (S.o q.mv (S.o (q.ix am_el28 am_cl40 (hl := (by exact ati hidx (by omega)))) (S.o (q.fs 9 am_fi40_4 am_cl3) (S.o (q.ls am_ag3) (S.o q.mv (S.o q.gtr (S.bd q.mv (fun c43 => ?_) (fun c43 => ?_))))))))))
        · refine S.o q.mv (S.o q.mv (S.o (q.ix am_el28 am_cl40 (hl := (by exact ati hidx (by omega)))) (S.o (q.fs 9 am_fi40_4 am_cl3) (S.o (q.ls am_ag3) (S.o q.leq (S.o q.pt (S.e k (Ev.cd (fun c44 => ?_) (fun c44 => ?_)))))))))
          · refine Ev.sr fun _ k=>S.o q.as (S.e k (Ev.ret (hR2 _ _ (Ev.p1 ?_)))); exact bF (fun h => (h.2.2.2.1 s hms).2 ⟨by omega, by omega⟩)
          refine Ev.skip (Ev.sr fun _ k=>S.o q.mv (S.o q.mv (S.o (q.ix am_el28 am_cl40 (hl := (by exact ati hidx (by omega)))) (S.o (q.fs 9 am_fi40_4 am_cl3) (S.o (q.ls am_ag3) (S.o q.gtr (S.bd q.mv (fun c45 => ?_) (fun c45 => ?_))))))))
          · refine S.o q.mv (S.o q.mv (S.o (q.ix am_el28 am_cl40 (hl := (by exact ati hidx (by omega)))) (S.o (q.fs 9 am_fi40_4 am_cl3) (S.o (q.ls am_ag3) (S.o q.mv (S.o q.leq (S.o q.pt (S.e k (Ev.cd (fun c46 => ?_) (fun c46 => ?_))))))))))
            · omega
            refine Ev.skip (Ev.region_S fun _ k=>S.o q.mv (S.o q.add (S.o q.as (S.e k (hR2 _ _ (roundU [] [1, 2, 3] ⟨(pre ++ [s], suf), sucA hp, ?_⟩ muL keep_n (slots_c (he := (by congr 2; simp)) (h := (slots_c (he := (by exact iE (sumP_f (by omega)).symm))))) (.c (.c (.c .n)))))))))
            intro x hx; simp only [List.mem_append, List.mem_singleton] at hx; rcases hx with hx | rfl
            · exact hinv x hx
            · exact ⟨by omega, by omega⟩
          omega
        refine S.s2 (S.s2 (S.s2 (S.o q.pf (S.e k (Ev.cf (Ev.skip (Ev.sr fun _ k=>S.o q.mv (S.o q.mv (S.o (q.ix am_el28 am_cl40 (hl := (by exact ati hidx (by omega)))) (S.o (q.fs 9 am_fi40_4 am_cl3) (S.o (q.ls am_ag3) (S.o q.gtr (S.bd q.mv (fun c47 => ?_) (fun c47 => ?_))))))))))))))
        · refine S.o q.mv (S.o q.mv (S.o (q.ix am_el28 am_cl40 (hl := (by exact ati hidx (by omega)))) (S.o (q.fs 9 am_fi40_4 am_cl3) (S.o (q.ls am_ag3) (S.o q.mv (S.o q.leq (S.o q.pt (S.e k (Ev.cd (fun c48 => ?_) (fun c48 => ?_))))))))))
          · refine Ev.region_S fun _ k=>S.o q.mv (S.o q.mv (S.o q.mv (S.o (q.ix am_el28 am_cl40 (hl := (by exact ati hidx (by omega)))) (S.o (q.fs 9 am_fi40_4 am_cl3) (S.o (q.ls am_ag3) (S.o q.add (S.o q.as (S.e k ?_)))))))); show Ev _ _ _ _; refine Ev.region_S fun _ k=>S.o q.mv (S.o q.add (S.o q.as (S.e k (hR2 _ _ (roundU [] [1, 2, 3] ⟨(pre ++ [s], suf), sucA hp, ?_⟩ muL keep_n (slots_c (he := (by congr 2; simp)) (h := (slots_c (he := (by exact iE (sumP_t (by omega) (by omega)).symm))))) (.c (.c (.c .n))))))))
            intro x hx; simp only [List.mem_append, List.mem_singleton] at hx; rcases hx with hx | rfl
            · exact hinv x hx
            · exact ⟨by omega, by omega⟩
          omega
        refine S.s2 (S.s2 (S.s2 (S.sk (S.o q.pf (S.e k (Ev.cf (Ev.skip (Ev.region_S fun _ k=>S.o q.mv (S.o q.add (S.o q.as (S.e k (hR2 _ _ (roundU [] [1, 2, 3] ⟨(pre ++ [s], suf), sucA hp, ?_⟩ muL keep_n (slots_c (he := (by congr 2; simp)) (h := (slots_c (he := (by exact iE (sumP_f (by omega)).symm))))) (.c (.c (.c .n))))))))))))))))
        intro x hx; simp only [List.mem_append, List.mem_singleton] at hx; rcases hx with hx | rfl
        · exact hinv x hx
        · exact ⟨by omega, by omega⟩
      omega
    simp only [lC] at hpl; have hidx := getA hp; have hms := memA hp; refine Ev.seq (Ev.sr fun _ k=>S.o q.mv (S.o q.mv (S.o (q.lens am_el27) (S.o q.lss (S.e k (Ev.cd (fun c49 => ?_) (fun c49 => ?_)))))))
    · refine Ev.skip (Ev.seq (Ev.block (Ev.sr fun _ k=>S.o q.mv (S.o q.mv (S.o (q.ix am_el27 am_cl58 (hl := (by exact ati hidx (by omega)))) (S.o (q.lsA _ am_ag58 am_cl58) (S.c0 (hF := short_fun s) (h := S.o q.not (S.e k (Ev.cn (fun c50 => ?_) (fun c50 => ?_)))))))))))
      · refine Ev.sr fun _ k=>S.o q.as (S.e k (Ev.ret (hR0 _ _ (Ev.p1 ?_)))); exact bF (fun h => absurd (h.2.2.1 s hms) ‹_›)
      refine Ev.skip (Ev.region_S fun _ k=>S.o q.mv (S.o q.add (S.o q.as (S.e k (hR0 _ _ (roundU [] [0, 1, 2, 3] ⟨(pre ++ [s], suf), sucA hp, ?_⟩ muL keep_n (slots_c (he := (by congr 2; simp))) (.c (.c (.c (.c .n))))))))))
      intro x hx; simp only [List.mem_append, List.mem_singleton] at hx; rcases hx with hx | rfl
      · exact hinv x hx
      · assumption
    omega
  refine S.s2 (S.sk (S.o q.pf (S.o q.pf (S.o q.mv (S.o q.mv (S.o (q.lens am_el28) (S.o q.gtr (S.o q.pf (S.e k (Ev.cd (fun c51 => ?_) (fun c51 => ?_)))))))))))
  · omega
  refine Ev.skip (Ev.seq (Ev.sr fun _ k=>S.o q.as (S.e k (Ev.block (Ev.loopU (ι := {q : List Bar × List Bar // q.1 ++ q.2 = bars ∧ ∀ b ∈ q.1, shortB b}) [] [0, 1, 2, 3] (fun ⟨(pre, suf), _⟩ => [(9, iL (pre.length : Int))]) (fun ⟨(pre, suf), _⟩ => []) (fun ⟨(pre, suf), _⟩ => suf.length) ⟨([], bars), rfl, fun x hx => by simp at hx⟩ (.c (.c (.c (.c .n)))) keep_n (slots_c) ?_))))); rintro ⟨⟨pre, suf⟩, hp, hinv⟩ R0 hR0; dsimp only [cA, nA, lC, lN]
  simp only at hp hinv
  have hpl := lenA hp
  rcases suf with _ | ⟨s, suf⟩
  · rw [List.append_nil] at hp; simp only [lN] at hpl; refine Ev.seq (Ev.sr fun _ k=>S.o q.mv (S.o q.mv (S.o (q.lens am_el27) (S.o q.lss (S.e k (Ev.cd (fun c52 => ?_) (fun c52 => ?_)))))))
    · omega
    refine Ev.exit (hR0 _ _ ?_)
    have hba : ∀ b ∈ bars, shortB b := by rw [← hp]; exact hinv
    refine Ev.sr fun _ k=>S.o q.as (S.e k (Ev.seq (Ev.sr fun _ k=>S.o q.as (S.e k (Ev.block (Ev.loopU (ι := {q : List Rn × List Rn // q.1 ++ q.2 = runs ∧ ∀ b ∈ q.1, shortR b}) [] [1, 2, 3] (fun ⟨(pre, suf), _⟩ => [(11, iL (pre.length : Int)), (10, iL (sumP pre))]) (fun ⟨(pre, suf), _⟩ => []) (fun ⟨(pre, suf), _⟩ => suf.length) ⟨([], runs), rfl, fun x hx => by simp at hx⟩ (.c (.c (.c .n))) keep_n (slots_c (h := (slots_c))) ?_)))))); rintro ⟨⟨pre, suf⟩, hp, hinv⟩ R2 hR2; dsimp only [cA, nA, lC, lN]
    simp only at hp hinv
    have hpl := lenA hp
    rcases suf with _ | ⟨s, suf⟩
    · rw [List.append_nil] at hp; simp only [lN] at hpl; have hsp := sumP_bd pre
      have hpe : (pre.length : Int) = (runs.length : Int) := by omega
      refine Ev.seq (Ev.sr fun _ k=>S.o q.mv (S.o q.mv (S.o (q.lens am_el28) (S.o q.lss (S.e k (Ev.cd (fun c53 => ?_) (fun c53 => ?_)))))))
      · omega
      refine Ev.exit (hR2 _ _ (Ev.sr fun _ k=>S.o q.mv (S.o q.mv (S.o q.leq (S.bd q.mv (fun c54 => ?_) (fun c54 => ?_))))))
      · refine S.s2 (S.s2 (S.o q.pt (S.o q.as (S.e k (Ev.ret (Ev.p1 ?_)))))); exact bT ⟨by omega, by omega, hba, by rw [← hp]; exact hinv, by rw [← hp]; exact .inl (by omega)⟩
      refine S.o q.mv (S.o (q.lens am_el28) (S.o q.mv (S.o q.gtr (S.o q.pf (S.o q.as (S.e k (Ev.ret (Ev.p1 ?_)))))))); exact dI ⟨fun h => ⟨by omega, by omega, hba, by rw [← hp]; exact hinv, by exact .inr (by omega)⟩, fun h => by have h1 := h.2.2.2.2; rw [← hp] at h1; omega⟩
    simp only [lC] at hpl; have hidx := getA hp; have hms := memA hp; have hsp := sumP_bd pre; refine Ev.seq (Ev.sr fun _ k=>S.o q.mv (S.o q.mv (S.o (q.lens am_el28) (S.o q.lss (S.e k (Ev.cd (fun c55 => ?_) (fun c55 => ?_)))))))
    · refine Ev.skip (Ev.seq (Ev.block (Ev.seq (Ev.sr fun _ k=>S.o q.mv (S.o q.mv (S.o (q.ix am_el28 am_cl40 (hl := (by exact ati hidx (by omega)))) (S.o (q.fs 0 am_fi40_0 am_cl9) (S.o (q.ls am_ag9) (S.o (q.slen am_el9 am_un9) (S.o q.gtr (S.e k (Ev.cd (fun c56 => ?_) (fun c56 => ?_)))))))))))))
      · refine Ev.sr fun _ k=>S.o q.as (S.e k (Ev.ret (hR2 _ _ (Ev.p1 ?_)))); exact bF (fun h => by have h1 := (h.2.2.2.1 s hms).1; omega)
      refine Ev.skip (Ev.seq (Ev.sr fun _ k=>S.o q.mv (S.o q.mv (S.o (q.ix am_el28 am_cl40 (hl := (by exact ati hidx (by omega)))) (S.o (q.fs 9 am_fi40_4 am_cl3) (S.o (q.ls am_ag3) (S.o q.mv (S.o q.gtr (S.bd q.mv (fun c57 => ?_) (fun c57 => ?_))))))))))
      · refine S.o q.mv (S.o q.mv (S.o (q.ix am_el28 am_cl40 (hl := (by exact ati hidx (by omega)))) (S.o (q.fs 9 am_fi40_4 am_cl3) (S.o (q.ls am_ag3) (S.o q.leq (S.o q.pt (S.e k (Ev.cd (fun c58 => ?_) (fun c58 => ?_)))))))))
        · refine Ev.sr fun _ k=>S.o q.as (S.e k (Ev.ret (hR2 _ _ (Ev.p1 ?_)))); exact bF (fun h => (h.2.2.2.1 s hms).2 ⟨by omega, by omega⟩)
        refine Ev.skip (Ev.sr fun _ k=>S.o q.mv (S.o q.mv (S.o (q.ix am_el28 am_cl40 (hl := (by exact ati hidx (by omega)))) (S.o (q.fs 9 am_fi40_4 am_cl3) (S.o (q.ls am_ag3) (S.o q.gtr (S.bd q.mv (fun c59 => ?_) (fun c59 => ?_))))))))
        · refine S.o q.mv (S.o q.mv (S.o (q.ix am_el28 am_cl40 (hl := (by exact ati hidx (by omega)))) (S.o (q.fs 9 am_fi40_4 am_cl3) (S.o (q.ls am_ag3) (S.o q.mv (S.o q.leq (S.o q.pt (S.e k (Ev.cd (fun c60 => ?_) (fun c60 => ?_))))))))))
          · omega
          refine Ev.skip (Ev.region_S fun _ k=>S.o q.mv (S.o q.add (S.o q.as (S.e k (hR2 _ _ (roundU [] [1, 2, 3] ⟨(pre ++ [s], suf), sucA hp, ?_⟩ muL keep_n (slots_c (he := (by congr 2; simp)) (h := (slots_c (he := (by exact iE (sumP_f (by omega)).symm))))) (.c (.c (.c .n)))))))))
          intro x hx; simp only [List.mem_append, List.mem_singleton] at hx; rcases hx with hx | rfl
          · exact hinv x hx
          · exact ⟨by omega, by omega⟩
        omega
      refine S.s2 (S.s2 (S.s2 (S.o q.pf (S.e k (Ev.cf (Ev.skip (Ev.sr fun _ k=>S.o q.mv (S.o q.mv (S.o (q.ix am_el28 am_cl40 (hl := (by exact ati hidx (by omega)))) (S.o (q.fs 9 am_fi40_4 am_cl3) (S.o (q.ls am_ag3) (S.o q.gtr (S.bd q.mv (fun c61 => ?_) (fun c61 => ?_))))))))))))))
      · refine S.o q.mv (S.o q.mv (S.o (q.ix am_el28 am_cl40 (hl := (by exact ati hidx (by omega)))) (S.o (q.fs 9 am_fi40_4 am_cl3) (S.o (q.ls am_ag3) (S.o q.mv (S.o q.leq (S.o q.pt (S.e k (Ev.cd (fun c62 => ?_) (fun c62 => ?_))))))))))
        · refine Ev.region_S fun _ k=>S.o q.mv (S.o q.mv (S.o q.mv (S.o (q.ix am_el28 am_cl40 (hl := (by exact ati hidx (by omega)))) (S.o (q.fs 9 am_fi40_4 am_cl3) (S.o (q.ls am_ag3) (S.o q.add (S.o q.as (S.e k ?_)))))))); show Ev _ _ _ _; refine Ev.region_S fun _ k=>S.o q.mv (S.o q.add (S.o q.as (S.e k (hR2 _ _ (roundU [] [1, 2, 3] ⟨(pre ++ [s], suf), sucA hp, ?_⟩ muL keep_n (slots_c (he := (by congr 2; simp)) (h := (slots_c (he := (by exact iE (sumP_t (by omega) (by omega)).symm))))) (.c (.c (.c .n))))))))
          intro x hx; simp only [List.mem_append, List.mem_singleton] at hx; rcases hx with hx | rfl
          · exact hinv x hx
          · exact ⟨by omega, by omega⟩
        omega
      refine S.s2 (S.s2 (S.s2 (S.sk (S.o q.pf (S.e k (Ev.cf (Ev.skip (Ev.region_S fun _ k=>S.o q.mv (S.o q.add (S.o q.as (S.e k (hR2 _ _ (roundU [] [1, 2, 3] ⟨(pre ++ [s], suf), sucA hp, ?_⟩ muL keep_n (slots_c (he := (by congr 2; simp)) (h := (slots_c (he := (by exact iE (sumP_f (by omega)).symm))))) (.c (.c (.c .n))))))))))))))))
      intro x hx; simp only [List.mem_append, List.mem_singleton] at hx; rcases hx with hx | rfl
      · exact hinv x hx
      · exact ⟨by omega, by omega⟩
    omega
  simp only [lC] at hpl; have hidx := getA hp; have hms := memA hp; refine Ev.seq (Ev.sr fun _ k=>S.o q.mv (S.o q.mv (S.o (q.lens am_el27) (S.o q.lss (S.e k (Ev.cd (fun c63 => ?_) (fun c63 => ?_)))))))
  · refine Ev.skip (Ev.seq (Ev.block (Ev.sr fun _ k=>S.o q.mv (S.o q.mv (S.o (q.ix am_el27 am_cl58 (hl := (by exact ati hidx (by omega)))) (S.o (q.lsA _ am_ag58 am_cl58) (S.c0 (hF := short_fun s) (h := S.o q.not (S.e k (Ev.cn (fun c64 => ?_) (fun c64 => ?_)))))))))))
    · refine Ev.sr fun _ k=>S.o q.as (S.e k (Ev.ret (hR0 _ _ (Ev.p1 ?_)))); exact bF (fun h => absurd (h.2.2.1 s hms) ‹_›)
    refine Ev.skip (Ev.region_S fun _ k=>S.o q.mv (S.o q.add (S.o q.as (S.e k (hR0 _ _ (roundU [] [0, 1, 2, 3] ⟨(pre ++ [s], suf), sucA hp, ?_⟩ muL keep_n (slots_c (he := (by congr 2; simp))) (.c (.c (.c (.c .n))))))))))
    intro x hx; simp only [List.mem_append, List.mem_singleton] at hx; rcases hx with hx | rfl
    · exact hinv x hx
    · assumption
  omega
theorem small17_fun (bs hs : List Bx) (h1 : bs.length ≤ 140737488355328) (h2 : hs.length ≤ 140737488355328) : Fun Tryz.prog 17 [.agg [.sh 6 (bs.map Bx.c), .sh 6 (hs.map Bx.c)], iL 4] (Ret (bL (decide (smSol bs hs))) []) := by
  have he : smSol bs hs ↔ ((bs.length ≤ 4 ∨ 20 < bs.length) ∧ bs.length ≤ 25) ∧ (hs.length ≤ 4 ∨ 20 < hs.length) ∧ hs.length ≤ 25 := Iff.rfl; refine Fun.of (nt := 37) (rs := [.tmp 4]) Tryz.func17 rfl rfl rfl rfl rfl (Ev.sr fun _ k=>S.nn (q.bx _ true) (S.o q.as (S.e k (Ev.sm (tbs [(0, 0), (1, 1), (2, 3), (0, 0), (4, 8), (5, 24), (3, 7), (7, 127)]) 7 fun _ k=>M.o (q.fa 0 am_fi24_0 am_cl22) (M.o (q.lv am_ag22) (M.o (q.lens am_el22) (M.o (q.fa 1 am_fi24_1 am_cl22) (M.o (q.lv am_ag22) (M.o (q.lens am_el22) (M.o q.as (M.end [_] (h := S.o q.as (S.e k (Ev.sr fun _ k=>S.o q.mv (S.o q.mv (S.o q.leq (S.bd q.mv (fun c1 => ?_) (fun c1 => ?_))))))))))))))))))
  · refine S.s2 (S.o q.pt (S.o q.mv (S.o q.mv (S.o q.leq (S.o q.pt (S.bd q.mv (fun c2 => ?_) (fun c2 => ?_)))))))
    · refine S.o q.mv (S.o q.mv (S.o q.leq (S.bd q.mv (fun c3 => ?_) (fun c3 => ?_))))
      · refine S.s2 (S.o q.pt (S.o q.pt (S.o q.mv (S.o q.mv (S.o q.leq (S.o q.pt (S.o q.as (S.e k (Ev.ret (Ev.p1 ?_)))))))))); exact dI ⟨fun h => he.2 (by omega), fun h => by have h1 := he.1 h; omega⟩
      refine S.o q.mv (S.o q.gtr (S.o q.pf (S.o q.pt (S.bd q.mv (fun c4 => ?_) (fun c4 => ?_)))))
      · refine S.o q.mv (S.o q.leq (S.o q.pt (S.o q.as (S.e k (Ev.ret (Ev.p1 ?_)))))); exact dI ⟨fun h => he.2 (by omega), fun h => by have h1 := he.1 h; omega⟩
      refine S.s2 (S.o q.pf (S.o q.as (S.e k (Ev.ret (Ev.p1 ?_))))); exact bF (fun h => by have h1 := he.1 h; omega)
    omega
  refine S.o q.mv (S.o q.gtr (S.o q.pf (S.bd q.mv (fun c5 => ?_) (fun c5 => ?_))))
  · refine S.o q.mv (S.o q.leq (S.o q.pt (S.bd q.mv (fun c6 => ?_) (fun c6 => ?_))))
    · refine S.o q.mv (S.o q.mv (S.o q.leq (S.bd q.mv (fun c7 => ?_) (fun c7 => ?_))))
      · refine S.s2 (S.o q.pt (S.o q.pt (S.o q.mv (S.o q.mv (S.o q.leq (S.o q.pt (S.o q.as (S.e k (Ev.ret (Ev.p1 ?_)))))))))); exact dI ⟨fun h => he.2 (by omega), fun h => by have h1 := he.1 h; omega⟩
      refine S.o q.mv (S.o q.gtr (S.o q.pf (S.o q.pt (S.bd q.mv (fun c8 => ?_) (fun c8 => ?_)))))
      · refine S.o q.mv (S.o q.leq (S.o q.pt (S.o q.as (S.e k (Ev.ret (Ev.p1 ?_)))))); exact dI ⟨fun h => he.2 (by omega), fun h => by have h1 := he.1 h; omega⟩
      refine S.s2 (S.o q.pf (S.o q.as (S.e k (Ev.ret (Ev.p1 ?_))))); exact bF (fun h => by have h1 := he.1 h; omega)
    refine S.s2 (S.s2 (S.s2 (S.sk (S.o q.pf (S.o q.mv (S.s2 (S.o q.pf (S.o q.as (S.e k (Ev.ret (Ev.p1 ?_))))))))))); exact bF (fun h => by have h1 := he.1 h; omega)
  refine S.s2 (S.o q.pf (S.o q.mv (S.s2 (S.s2 (S.s2 (S.sk (S.o q.pf (S.o q.mv (S.s2 (S.o q.pf (S.o q.as (S.e k (Ev.ret (Ev.p1 ?_)))))))))))))); exact bF (fun h => by have h1 := he.1 h; omega)
theorem smDet_fun (x : Det) (hl : x.l) : Fun Tryz.prog 5 [.agg x.c] (Ret (bL (decide (smDet x))) []) := by
  obtain ⟨⟨nm, bs, hs, cv, ag, pk⟩, bars, runs, laps, dems, rl⟩ := x; obtain ⟨h1, ⟨h2, h3⟩, h4, h5, h6, h7⟩ := hl
  dsimp only at h1 h2 h3 h4 h5 h6 h7
  have he : smDet ⟨⟨nm, bs, hs, cv, ag, pk⟩, bars, runs, laps, dems, rl⟩ ↔ nm.length ≤ 60 ∧ smSol bs hs ∧ smLaid bars runs ∧ smD dems 4 ∧ (laps.length ≤ 16 ∨ 1000 < laps.length ∧ laps.length ≤ 1005) := Iff.rfl; refine Fun.of (nt := 45) (rs := [.tmp 2]) Tryz.func5 rfl rfl rfl rfl rfl (Ev.sr fun _ k=>S.nn (q.bx _ true) (S.o q.as (S.e k (Ev.seq (Ev.sr fun _ k=>S.o (q.fa 0 am_fi34_0 am_cl26) (S.o (q.fa 0 am_fi26_0 am_cl9) (S.o (q.lv am_ag9) (S.o (q.slen am_el9 am_un9) (S.o q.gtr (S.bd q.mv (fun c1 => ?_) (fun c1 => ?_)))))))))))
  · refine S.s2 (S.s2 (S.sk (S.o q.pt (S.o q.mv (S.s2 (S.s2 (S.s2 (S.o q.pt (S.o q.mv (S.s2 (S.s2 (S.o q.pt (S.e k (Ev.ct (Ev.sr fun _ k=>S.o q.as (S.e k (Ev.ret (Ev.p1 ?_)))))))))))))))))); exact bF (fun h => by have h1 := (he.1 h).1; omega)
  refine S.o (q.fa 0 am_fi34_0 am_cl26) (S.o (q.fa 1 am_fi26_1 am_cl24) (S.o (q.lvA _ am_ag24 am_cl24) (S.c0 (hF := small17_fun bs hs h2 h3) (h := S.o q.not (S.o q.pf (S.bn q.mv (fun c2 => ?_) (fun c2 => ?_)))))))
  · refine S.s2 (S.s2 (S.s2 (S.o q.pt (S.o q.mv (S.s2 (S.s2 (S.o q.pt (S.e k (Ev.ct (Ev.sr fun _ k=>S.o q.as (S.e k (Ev.ret (Ev.p1 ?_))))))))))))); exact bF (fun h => absurd (he.1 h).2.1 ‹_›)
  refine S.o (q.fa 6 am_fi34_1 am_cl27) (S.o (q.lv am_ag27) (S.o (q.fa 7 am_fi34_2 am_cl28) (S.o (q.lv am_ag28) (S.c0 (hF := small16_fun bars runs h4 h5) (h := S.o q.not (S.o q.pf (S.bn q.mv (fun c3 => ?_) (fun c3 => ?_))))))))
  · refine S.s2 (S.s2 (S.o q.pt (S.e k (Ev.ct (Ev.sr fun _ k=>S.o q.as (S.e k (Ev.ret (Ev.p1 ?_)))))))); exact bF (fun h => absurd (he.1 h).2.2.1 ‹_›)
  refine S.o (q.fa 9 am_fi34_4 am_cl30) (S.o (q.lv am_ag30) (S.c0 (hF := smD_fun dems 4 (by decide) (by decide) h7) (h := S.o q.not (S.o q.pf (S.e k (Ev.cn (fun c4 => ?_) (fun c4 => ?_)))))))
  · refine Ev.sr fun _ k=>S.o q.as (S.e k (Ev.ret (Ev.p1 ?_))); exact bF (fun h => absurd (he.1 h).2.2.2.1 ‹_›)
  refine Ev.skip (Ev.sr fun _ k=>S.o (q.fa 8 am_fi34_3 am_cl29) (S.o (q.lv am_ag29) (S.o (q.lens am_el29) (S.o q.leq (S.bd q.mv (fun c5 => ?_) (fun c5 => ?_))))))
  · refine S.s2 (S.s2 (S.s2 (S.s2 (S.s2 (S.o q.pt (S.o q.as (S.e k (Ev.ret (Ev.p1 ?_))))))))); exact bT (he.2 ⟨by omega, ‹_›, ‹_›, ‹_›, by omega⟩)
  refine S.o (q.fa 8 am_fi34_3 am_cl29) (S.o (q.lv am_ag29) (S.o (q.lens am_el29) (S.o q.gtr (S.bd q.mv (fun c6 => ?_) (fun c6 => ?_)))))
  · refine S.o (q.fa 8 am_fi34_3 am_cl29) (S.o (q.lv am_ag29) (S.o (q.lens am_el29) (S.o q.leq (S.o q.pt (S.o q.pf (S.o q.as (S.e k (Ev.ret (Ev.p1 ?_))))))))); exact dI ⟨fun h => he.2 ⟨by omega, ‹_›, ‹_›, ‹_›, by omega⟩, fun h => by have h1 := (he.1 h).2.2.2.2; omega⟩
  refine S.s2 (S.s2 (S.o q.pf (S.o q.pf (S.o q.as (S.e k (Ev.ret (Ev.p1 ?_))))))); exact bF (fun h => by have h1 := (he.1 h).2.2.2.2; omega)
theorem gcd_next (a b : Nat) : Nat.gcd b (a % b) = Nat.gcd a b := by
  rw [Nat.gcd_comm b, ← Nat.gcd_rec, Nat.gcd_comm]
theorem gcd_half_l {a b : Nat} (ha : a % 2 = 0) (hb : b % 2 = 1) : Nat.gcd (a / 2) b = Nat.gcd a b := by
  obtain ⟨c, rfl⟩ : ∃ c, a = 2 * c := ⟨a / 2, by omega⟩; rw [Nat.mul_div_cancel_left c (by decide)]
  have h : Nat.Coprime 2 b := by
    rw [Nat.coprime_iff_gcd_eq_one, Nat.gcd_rec, hb]; rfl
  exact (h.gcd_mul_left_cancel c).symm
theorem gcd_half_r {a b : Nat} (ha : a % 2 = 1) (hb : b % 2 = 0) : Nat.gcd a (b / 2) = Nat.gcd a b := by
  rw [Nat.gcd_comm, gcd_half_l hb ha, Nat.gcd_comm]
theorem gcd_half2 {a b : Nat} (ha : a % 2 = 0) (hb : b % 2 = 0) : Nat.gcd (a / 2) (b / 2) * 2 = Nat.gcd a b := by
  obtain ⟨c, rfl⟩ : ∃ c, a = 2 * c := ⟨a / 2, by omega⟩; obtain ⟨d, rfl⟩ : ∃ d, b = 2 * d := ⟨b / 2, by omega⟩; rw [Nat.mul_div_cancel_left c (by decide), Nat.mul_div_cancel_left d (by decide), Nat.gcd_mul_left, Nat.mul_comm]
theorem gcd_sub' {a b : Nat} (h : b ≤ a) : Nat.gcd (a - b) b = Nat.gcd a b := Nat.gcd_sub_self_left h
def G1 (a0 b0 a b t : Nat) : Prop := (0 < a ∧ 0 < b) ∧ (a ≤ a0 ∧ b ≤ b0) ∧ Nat.gcd a b * 2 ^ t = Nat.gcd a0 b0
def G2 (a0 b0 a b t : Nat) : Prop := 0 < b ∧ (a ≤ max a0 b0 ∧ b ≤ max a0 b0) ∧ (a % 2 = 1 ∨ b % 2 = 1) ∧ Nat.gcd a b * 2 ^ t = Nat.gcd a0 b0
theorem G1.init {a b : Nat} (ha : 0 < a) (hb : 0 < b) : G1 a b a b 0 := ⟨⟨ha, hb⟩, ⟨Nat.le_refl _, Nat.le_refl _⟩, by simp⟩
theorem G1.step {a0 b0 a b t : Nat} (h : G1 a0 b0 a b t) (ha : a % 2 = 0) (hb : b % 2 = 0) : G1 a0 b0 (a / 2) (b / 2) (t + 1) := by
  obtain ⟨h1, h2, h3⟩ := h; refine ⟨by omega, by omega, ?_⟩; rw [Nat.pow_succ, Nat.mul_comm (2 ^ t), ← Nat.mul_assoc, gcd_half2 ha hb, h3]
theorem G1.to {a0 b0 a b t : Nat} (h : G1 a0 b0 a b t) (ho : a % 2 = 1 ∨ b % 2 = 1) : G2 a0 b0 a b t := ⟨h.1.2, by have := h.2.1; omega, ho, h.2.2⟩
theorem G2.left {a0 b0 a b t : Nat} (h : G2 a0 b0 a b t) (ha : a % 2 = 0) : G2 a0 b0 (a / 2) b t := by
  obtain ⟨h1, h2, h3, h4⟩ := h; exact ⟨h1, by omega, by omega, by rw [gcd_half_l ha (by omega), h4]⟩
theorem G2.right {a0 b0 a b t : Nat} (h : G2 a0 b0 a b t) (hb : b % 2 = 0) : G2 a0 b0 a (b / 2) t := by
  obtain ⟨h1, h2, h3, h4⟩ := h; exact ⟨by omega, by omega, by omega, by rw [gcd_half_r (by omega) hb, h4]⟩
theorem G2.sub {a0 b0 a b t : Nat} (h : G2 a0 b0 a b t) (hb : b % 2 = 1) (hl : ¬ a < b) : G2 a0 b0 (a - b) b t := by
  obtain ⟨h1, h2, h3, h4⟩ := h; exact ⟨h1, by omega, .inr hb, by rw [gcd_sub' (by omega), h4]⟩
theorem G2.swap {a0 b0 a b t : Nat} (h : G2 a0 b0 a b t) (ha : a % 2 = 1) (hl : a < b) : G2 a0 b0 (b - a) a t := by
  obtain ⟨h1, h2, h3, h4⟩ := h; exact ⟨by omega, by omega, .inr ha, by rw [gcd_sub' (by omega), Nat.gcd_comm, h4]⟩
theorem G2.fin {a0 b0 b t : Nat} (h : G2 a0 b0 0 b t) : b * 2 ^ t = Nat.gcd a0 b0 := by
  have := h.2.2.2
  rwa [Nat.gcd_zero_left] at this
theorem dbl {b t g : Nat} (h : b * 2 ^ t = g) (ht : 0 < t) : (b + b) * 2 ^ (t - 1) = g ∧ b + b ≤ g := by
  obtain ⟨t, rfl⟩ : ∃ s, t = s + 1 := ⟨t - 1, by omega⟩
  have e : (b + b) * 2 ^ t = g := by rw [← h, Nat.pow_succ, Nat.add_mul, ← Nat.mul_assoc]; omega
  refine ⟨e, ?_⟩; rw [← e]; exact Nat.le_mul_of_pos_right _ (Nat.pow_pos (by decide))
def uC (a : Nat) : List AV := [.lit (.int .u64 ((a : Int) / 18446744073709551616)), .lit (.int .u64 ((a : Int) % 18446744073709551616))]
def u128 (a : Nat) : Prop := a < 340282366920938463463374607431768211456
theorem uE {x y : Int} {a : Nat} (h1 : x = (a : Int) / 18446744073709551616) (h2 : y = (a : Int) % 18446744073709551616) : AV.agg [.lit (.int .u64 x), .lit (.int .u64 y)] = .agg (uC a) := by
  subst h1 h2; rfl
theorem uR {x y : Int} {a : Nat} (h1 : x = (a : Int) / 18446744073709551616) (h2 : y = (a : Int) % 18446744073709551616) : [[AV.lit (.int .u64 x), AV.lit (.int .u64 y)]] = [[AV.lit (.int .u64 ((a : Int) / 18446744073709551616)), AV.lit (.int .u64 ((a : Int) % 18446744073709551616))]] := by
  subst h1 h2; rfl
theorem u0_t {a : Nat} (h : (decide ((a : Int) / 18446744073709551616 = 0) && (decide ((a : Int) % 18446744073709551616 = 0) && true)) = true) : a = 0 := by
  simp only [Bool.and_eq_true, decide_eq_true_eq, and_true] at h; omega
theorem u0_f {a : Nat} (h : (decide ((a : Int) / 18446744073709551616 = 0) && (decide ((a : Int) % 18446744073709551616 = 0) && true)) = false) : 0 < a := by
  rcases Nat.eq_zero_or_pos a with e | e
  · subst e
    simp at h
  exact e
theorem u0n_t {a : Nat} (h : (!(decide ((a : Int) / 18446744073709551616 = 0) && (decide ((a : Int) % 18446744073709551616 = 0) && true))) = true) : 0 < a := u0_f (by rw [Bool.not_eq_true'] at h; exact h)
theorem u0n_f {a : Nat} (h : (!(decide ((a : Int) / 18446744073709551616 = 0) && (decide ((a : Int) % 18446744073709551616 = 0) && true))) = false) : a = 0 := u0_t (by rw [Bool.not_eq_false'] at h; exact h)
theorem rtsize_fun (n : Nat) (h : n ≤ 9223372036854775807) : Fun Tryz.prog 45 [iL (n : Int)] (Ret (.lit (.int .u64 (n : Int))) []) := by
  refine Fun.of (nt := 10) (rs := [.tmp 2]) Tryz.func45 rfl rfl rfl rfl rfl (Ev.sr fun _ k=>S.o q.as (S.e k (Ev.seq (Ev.sr fun _ k=>S.o q.mv (S.o q.lss (S.e k (Ev.cd (fun c1 => ?_) (fun c1 => ?_))))))))
  · omega
  refine Ev.skip (Ev.sr fun _ k=>S.o q.mv (S.o (q.cvu am_un81 am_us3) (S.o q.as (S.e k (Ev.ret (Ev.p1 ?_)))))); rfl
theorem r2size_fun (n : Nat) (h : n ≤ 9223372036854775807) : Fun Tryz.prog 31 [iL (n : Int)] (Ret (.lit (.int .u64 (n : Int))) []) := by
  refine Fun.of (nt := 10) (rs := [.tmp 2]) Tryz.func31 rfl rfl rfl rfl rfl (Ev.sr fun _ k=>S.o q.as (S.e k (Ev.seq (Ev.sr fun _ k=>S.o q.mv (S.o q.lss (S.e k (Ev.cd (fun c1 => ?_) (fun c1 => ?_))))))))
  · omega
  refine Ev.skip (Ev.sr fun _ k=>S.o q.mv (S.o (q.cvu am_un81 am_us3) (S.o q.as (S.e k (Ev.ret (Ev.p1 ?_)))))); rfl
theorem rtgcd_fun (a b : Nat) (ha : a ≤ 18446744073709551615) (hb : b ≤ 18446744073709551615) : Fun Tryz.prog 46 [.lit (.int .u64 (a : Int)), .lit (.int .u64 (b : Int))] (Ret (.lit (.int .u64 ((Nat.gcd a b : Nat) : Int))) []) := by
  refine Fun.of (nt := 12) (rs := [.tmp 4]) Tryz.func46 rfl rfl rfl rfl rfl (Ev.sr fun _ k=>S.o q.as (S.e k (Ev.seq (Ev.block (Ev.loopU (ι := {q : Nat × Nat // Nat.gcd q.1 q.2 = Nat.gcd a b ∧ q.1 ≤ 18446744073709551615 ∧ q.2 ≤ 18446744073709551615}) [] [] (fun ⟨(x, y), _⟩ => [(0, .lit (.int .u64 (x : Int))), (1, .lit (.int .u64 (y : Int)))]) (fun ⟨(x, y), _⟩ => []) (fun ⟨(x, y), _⟩ => y) ⟨(a, b), rfl, ha, hb⟩ .n keep_n (slots_c (h := (slots_c))) ?_))))); rintro ⟨⟨x, y⟩, hxy⟩ R0 hR0; dsimp only [cA, nA, lC, lN]
  dsimp only at hxy
  refine Ev.seq (Ev.sr fun _ k=>S.o q.mv (S.o q.neq (S.e k (Ev.cn (fun c1 => ?_) (fun c1 => ?_)))))
  · refine Ev.skip (Ev.block (Ev.rtp (m := 6) (L0 := #[false, false, false, false, false, false]) rfl (by kernel_rfl) (by exact rfl) fun _ k=>(HP.mv (i := 0) rfl (h := (HP.mv (i := 1) rfl (h := (HP.mv (i := 2) rfl (h := (HP.q (i := 3) rfl (qu.rem) (.done (HT.one (i := 4) trivial rfl (S.o q.as (S.end (HT.one (i := 5) trivial rfl (S.o q.as (S.end (HT.nil trivial (by kernel_rfl) (k _ (hR0 _ _ (roundU [] [] ⟨(y, x % y), (gcd_next x y).trans hxy.1, hxy.2.2, by have := Nat.mod_lt x (show 0 < y by omega); omega⟩ ?_ keep_n (slots_c (h := (slots_c))) .n)))))))))))))))))))); skip; all_goals (exact Nat.mod_lt _ (by omega))
  refine Ev.exit (hR0 _ _ (Ev.sr fun _ k=>S.o q.mv (S.o q.as (S.e k (Ev.ret (Ev.p1 ?_))))))
  (have hy0 : y = 0 := (by omega); subst hy0; rw [← hxy.1, Nat.gcd_zero_right]; done)
def sgV (neg : Bool) (n : Int) : Int := if neg = true then 0 - n else n
theorem signed_fun (neg : Bool) (n d : Nat) (hn : n ≤ 1152921504606846976) (hd : d ≤ 1152921504606846976) : Fun Tryz.prog 47 [bL neg, .lit (.int .u64 (n : Int)), .lit (.int .u64 (d : Int))] (Ret (.tup [.agg (pairC (sgV neg n, (d : Int))), iL 0]) []) := by
  have e1 : neg = true → sgV neg n = 0 - (n : Int) := fun h => if_pos h; have e2 : neg = false → sgV neg n = (n : Int) := fun h => if_neg (by rw [h]; decide); refine Fun.of (nt := 25) (rs := [.cell 6 48, .tmp 7]) Tryz.func47 rfl rfl rfl rfl rfl (Ev.sr fun _ k=>S.nn (q.al am_ze48) (S.o q.as (S.e k (Ev.seq (Ev.sr fun _ k=>S.o q.mv (S.o q.gtr (S.bd q.mv (fun c1 => ?_) (fun c1 => ?_))))))))
  · omega
  refine S.o q.mv (S.o q.gtr (S.o q.pf (S.e k (Ev.cd (fun c2 => ?_) (fun c2 => ?_)))))
  · omega
  refine Ev.skip (Ev.sr fun _ k=>S.o q.mv (S.o (q.cvi am_un3 am_us81) (S.o q.as (S.e k (Ev.seq (Ev.sr fun _ k=>S.o q.mv (S.e k (Ev.c (fun c3 => ?_) (fun c3 => ?_)))))))))
  · refine Ev.region_S fun _ k=>S.o q.mv (S.o q.neg (S.o q.as (S.e k ?_))); show Ev _ _ _ _; refine Ev.sr fun _ k=>S.o q.mv (S.o q.mv (S.o (q.cvi am_un3 am_us81) (S.o (q.bd _ am_ze48 am_pl48) (S.sv _ true [] am_in48 am_cl48 (h := S.o q.as (S.e k (Ev.ret (Ev.retv2 (res_c [_, _] am_ag48 am_cl48 (res_t res_n)) (⟨?_, rfl⟩))))))))); rw [e1 ‹_›]; rfl
  refine Ev.skip (Ev.sr fun _ k=>S.o q.mv (S.o q.mv (S.o (q.cvi am_un3 am_us81) (S.o (q.bd _ am_ze48 am_pl48) (S.sv _ true [] am_in48 am_cl48 (h := S.o q.as (S.e k (Ev.ret (Ev.retv2 (res_c [_, _] am_ag48 am_cl48 (res_t res_n)) (⟨?_, rfl⟩)))))))))); rw [e2 ‹_›]; rfl
theorem rtMake_fun (n d : Nat) (hn : n ≤ 1152921504606846976) (hd : d ≤ 1152921504606846976) (h0 : 0 < d) : Fun Tryz.prog 25 [iL (n : Int), iL (d : Int)] (Ret (.tup [.agg (pairC (((n / Nat.gcd n d : Nat) : Int), ((d / Nat.gcd n d : Nat) : Int))), iL 0]) []) := by
  have hg : 0 < Nat.gcd n d := Nat.gcd_pos_of_pos_right n h0; have hgl : Nat.gcd n d ≤ d := Nat.gcd_le_right n h0; have hq1 : n / Nat.gcd n d ≤ n := Nat.div_le_self _ _; have hq2 : d / Nat.gcd n d ≤ d := Nat.div_le_self _ _; have e1 : ∀ r : Bool, r = false → sgV r ((n / Nat.gcd n d : Nat) : Int) = ((n / Nat.gcd n d : Nat) : Int) := fun r h => if_neg (by rw [h]; decide)
  have hneg : (!(decide ((n : Int) < 0) == decide ((d : Int) < 0))) = false := by
    rw [decide_eq_false (by omega), decide_eq_false (by omega)]; rfl
  obtain ⟨g, hge⟩ : ∃ g, g = Nat.gcd n d := ⟨_, rfl⟩; have hgf := rtgcd_fun n d (by omega) (by omega); rw [← hge] at hg hgl hq1 hq2 e1 hgf ⊢; refine Fun.of (nt := 37) (rs := [.cell 4 48, .tmp 5]) Tryz.func25 rfl rfl rfl rfl rfl (Ev.sr fun _ k=>S.nn (q.al am_ze48) (S.o q.as (S.e k (Ev.seq (Ev.sr fun _ k=>S.o q.mv (S.o q.eql (S.e k (Ev.cd (fun c1 => ?_) (fun c1 => ?_)))))))))
  · omega
  refine Ev.skip (Ev.sr fun _ k=>S.o q.mv (S.c0 (hF := rtsize_fun n (by omega)) (h := S.o q.mv (S.c0 (hF := rtsize_fun d (by omega)) (h := S.o q.as (S.o q.as (S.e k (Ev.sr fun _ k=>S.o q.mv (S.o q.mv (S.c0 (hF := hgf) (h := S.o q.as (S.e k (Ev.sm (tbs [(0, 0), (1, 1), (2, 3), (3, 7), (4, 15), (3, 7), (6, 39), (7, 127), (8, 255), (0, 0), (0, 0), (11, 1536), (0, 0), (0, 0), (14, 12288), (15, 32767), (16, 65535), (16, 65535), (18, 262143), (19, 524287)]) 18 fun _ k=>M.o q.mv (M.o q.neq (M.bn q.mv (fun c2 => ?_) (fun c2 => ?_))))))))))))))))
  · refine M.o q.mv (M.o q.lss (M.o q.mv (M.o q.lss (M.o (q.bneq am_un4) (M.o q.pt (M.o q.mv (M.o q.mv (M.o qu.quo (M.o q.mv (M.o q.mv (M.o qu.quo (M.c0 (hF := signed_fun _ (n / g) (d / g) (by omega) (by omega)) (h := M.o q.ex (M.o q.ex (M.end [_] (h := S.sv _ true [] am_in48 am_cl48 (h := S.o q.as (S.e k (Ev.ret (Ev.retv2 (res_c [_, _] am_ag48 am_cl48 (res_t res_n)) (⟨?_, rfl⟩))))))))))))))))))))); rfl
  refine M.sk (M.sk (M.sk (M.sk (M.sk (M.o q.pf (M.o q.mv (M.o q.mv (M.o qu.quo (M.o q.mv (M.o q.mv (M.o qu.quo (M.c0 (hF := signed_fun _ (n / g) (d / g) (by omega) (by omega)) (h := M.o q.ex (M.o q.ex (M.end [_] (h := S.sv _ true [] am_in48 am_cl48 (h := S.o q.as (S.e k (Ev.ret (Ev.retv2 (res_c [_, _] am_ag48 am_cl48 (res_t res_n)) (⟨?_, rfl⟩))))))))))))))))))))); rfl
theorem half_fun (a : Nat) (ha : u128 a) : Fun Tryz.prog 82 [.agg (uC a)] (Ret (.agg (uC (a / 2))) []) := by
  unfold u128 at ha
  refine Fun.of (nt := 14) (rs := [.cell 2 87]) Tryz.func82 rfl rfl rfl rfl rfl (Ev.sr fun _ z=>S.nn (q.bx _ true) (S.nn (q.al am_ze87) (S.e z (Ev.sr fun _ z=>S.o (q.fa 0 am_fi87_0 am_cl81) (S.o (q.lv am_ag81) (S.o (qu.shr 2 rfl) (S.o (q.fa 1 am_fi87_1 am_cl81) (S.o (q.lv am_ag81) (S.o (qu.shr 2 rfl) (S.o (q.fa 0 am_fi87_0 am_cl81) (S.o (q.lv am_ag81) (S.o (qu.shl 9223372036854775808 rfl) (S.o qu.addB (S.o (q.bd _ am_ze87 am_pl87) (S.sv _ true [_] am_in87 am_cl87 (h := S.e z (Ev.ret (Ev.retv1 (res_c [_, _] am_ag87 am_cl87 res_n) (⟨?_, rfl⟩))))))))))))))))))); exact uE (by omega) (by omega)
theorem less_fun (a b : Nat) (ha : u128 a) (hb : u128 b) : Fun Tryz.prog 83 [.agg (uC a), .agg (uC b)] (Ret (bL (decide (a < b))) []) := by
  unfold u128 at ha hb
  refine Fun.of (nt := 24) (rs := [.tmp 4]) Tryz.func83 rfl rfl rfl rfl rfl (Ev.sr fun _ z=>S.nn (q.bx _ true) (S.nn (q.bx _ true) (S.o q.as (S.e z (Ev.sr fun _ z=>S.o (q.fa 0 am_fi87_0 am_cl81) (S.o (q.lv am_ag81) (S.o (q.fa 0 am_fi87_0 am_cl81) (S.o (q.lv am_ag81) (S.o q.lss (S.bd q.mv (fun c1 => ?_) (fun c1 => ?_)))))))))))
  · refine S.s2 (S.s2 (S.s2 (S.s2 (S.s2 (S.s2 (S.o q.pt (S.o q.as (S.e z (Ev.ret (Ev.p1 ?_)))))))))); exact bT (by omega)
  refine S.o (q.fa 0 am_fi87_0 am_cl81) (S.o (q.lv am_ag81) (S.o (q.fa 0 am_fi87_0 am_cl81) (S.o (q.lv am_ag81) (S.o q.eql (S.bd q.mv (fun c2 => ?_) (fun c2 => ?_))))))
  · refine S.o (q.fa 1 am_fi87_1 am_cl81) (S.o (q.lv am_ag81) (S.o (q.fa 1 am_fi87_1 am_cl81) (S.o (q.lv am_ag81) (S.o q.lss (S.o q.pt (S.o q.pf (S.o q.as (S.e z (Ev.ret (Ev.p1 ?_)))))))))); exact dI (by omega)
  refine S.s2 (S.s2 (S.sk (S.o q.pf (S.o q.pf (S.o q.as (S.e z (Ev.ret (Ev.p1 ?_)))))))); exact bF (by omega)
theorem uplus_fun (a b : Nat) (h : u128 (a + b)) : Fun Tryz.prog 85 [.agg (uC a), .agg (uC b)] (Ret (.agg (uC (a + b))) []) := by
  unfold u128 at h
  refine Fun.of (nt := 26) (rs := [.cell 4 87]) Tryz.func85 rfl rfl rfl rfl rfl (Ev.sr fun _ z=>S.nn (q.bx _ true) (S.nn (q.bx _ true) (S.nn (q.al am_ze87) (S.e z (Ev.sr fun _ z=>S.o (q.fa 1 am_fi87_1 am_cl81) (S.o (q.lv am_ag81) (S.o (q.fa 1 am_fi87_1 am_cl81) (S.o (q.lv am_ag81) (S.o qu.add (S.o q.as (S.e z (Ev.sr fun _ z=>S.o (q.fa 0 am_fi87_0 am_cl81) (S.o (q.lv am_ag81) (S.o (q.fa 0 am_fi87_0 am_cl81) (S.o (q.lv am_ag81) (S.o qu.add (S.o q.as (S.e z (Ev.seq (Ev.sr fun _ z=>S.o q.mv (S.o (q.fa 1 am_fi87_1 am_cl81) (S.o (q.lv am_ag81) (S.o q.lss (S.e z (Ev.cd (fun c1 => ?_) (fun c1 => ?_))))))))))))))))))))))))))
  · refine Ev.region_S fun _ z=>S.o q.mv (S.o qu.add (S.o q.as (S.e z ?_))); show Ev _ _ _ _; refine Ev.sr fun _ z=>S.o q.mv (S.o q.mv (S.o (q.bd _ am_ze87 am_pl87) (S.sv _ true [_, _] am_in87 am_cl87 (h := S.e z (Ev.ret (Ev.retv1 (res_c [_, _] am_ag87 am_cl87 res_n) (⟨?_, rfl⟩))))))); exact uE (by omega) (by omega)
  refine Ev.skip (Ev.sr fun _ z=>S.o q.mv (S.o q.mv (S.o (q.bd _ am_ze87 am_pl87) (S.sv _ true [_, _] am_in87 am_cl87 (h := S.e z (Ev.ret (Ev.retv1 (res_c [_, _] am_ag87 am_cl87 res_n) (⟨?_, rfl⟩)))))))); exact uE (by omega) (by omega)
theorem uminus_fun (a b : Nat) (ha : u128 a) (h : b ≤ a) : Fun Tryz.prog 84 [.agg (uC a), .agg (uC b)] (Ret (.agg (uC (a - b))) []) := by
  unfold u128 at ha
  refine Fun.of (nt := 25) (rs := [.cell 4 87]) Tryz.func84 rfl rfl rfl rfl rfl (Ev.sr fun _ z=>S.nn (q.bx _ true) (S.nn (q.bx _ true) (S.nn (q.al am_ze87) (S.e z (Ev.sr fun _ z=>S.o (q.fa 0 am_fi87_0 am_cl81) (S.o (q.lv am_ag81) (S.o (q.fa 0 am_fi87_0 am_cl81) (S.o (q.lv am_ag81) (S.o qu.sub (S.o q.as (S.e z (Ev.seq (Ev.sr fun _ z=>S.o (q.fa 1 am_fi87_1 am_cl81) (S.o (q.lv am_ag81) (S.o (q.fa 1 am_fi87_1 am_cl81) (S.o (q.lv am_ag81) (S.o q.lss (S.e z (Ev.cd (fun c1 => ?_) (fun c1 => ?_))))))))))))))))))))
  · refine Ev.region_S fun _ z=>S.o q.mv (S.o qu.sub (S.o q.as (S.e z ?_))); show Ev _ _ _ _; refine Ev.sr fun _ z=>S.o q.mv (S.o (q.fa 1 am_fi87_1 am_cl81) (S.o (q.lv am_ag81) (S.o (q.fa 1 am_fi87_1 am_cl81) (S.o (q.lv am_ag81) (S.o qu.sub (S.o (q.bd _ am_ze87 am_pl87) (S.sv _ true [_, _] am_in87 am_cl87 (h := S.e z (Ev.ret (Ev.retv1 (res_c [_, _] am_ag87 am_cl87 res_n) (⟨?_, rfl⟩))))))))))); exact uE (by omega) (by omega)
  refine Ev.skip (Ev.sr fun _ z=>S.o q.mv (S.o (q.fa 1 am_fi87_1 am_cl81) (S.o (q.lv am_ag81) (S.o (q.fa 1 am_fi87_1 am_cl81) (S.o (q.lv am_ag81) (S.o qu.sub (S.o (q.bd _ am_ze87 am_pl87) (S.sv _ true [_, _] am_in87 am_cl87 (h := S.e z (Ev.ret (Ev.retv1 (res_c [_, _] am_ag87 am_cl87 res_n) (⟨?_, rfl⟩)))))))))))); exact uE (by omega) (by omega)
theorem pow_lt {t : Nat} (h : 2 ^ t < 340282366920938463463374607431768211456) : t < 128 := by
  have e : (340282366920938463463374607431768211456 : Nat) = 2 ^ 128 := by decide
  rw [e] at h; exact (Nat.pow_lt_pow_iff_right (by decide)).1 h
theorem t_bd {g x t b : Nat} (h : x * 2 ^ t = g) (hx : 0 < x) (hg : g ≤ b) (hb : u128 b) : t < 128 := by
  refine pow_lt (Nat.lt_of_le_of_lt ?_ hb); exact Nat.le_trans (Nat.le_trans (Nat.le_mul_of_pos_left _ hx) (Nat.le_of_eq h)) hg
theorem ugcd_fun (a b : Nat) (ha : u128 a) (hb : u128 b) (h0 : 0 < b) : Fun Tryz.prog 60 [.agg (uC a), .agg (uC b)] (Ret (.agg (uC (Nat.gcd a b))) []) := by
  have hgb : Nat.gcd a b ≤ b := Nat.gcd_le_right a h0; have hgp : 0 < Nat.gcd a b := Nat.gcd_pos_of_pos_right a h0; have hgu : u128 (Nat.gcd a b) := Nat.lt_of_le_of_lt hgb hb
  have hz : a = 0 → Nat.gcd a b = b := fun h => by rw [h, Nat.gcd_zero_left]
  have hm : ∀ {x : Nat}, x ≤ a → u128 x := fun h => Nat.lt_of_le_of_lt h ha; have hm2 : ∀ {x : Nat}, x ≤ b → u128 x := fun h => Nat.lt_of_le_of_lt h hb
  have hmx : ∀ {x : Nat}, x ≤ max a b → u128 x := fun h => by unfold u128 at ha hb ⊢; omega
  refine Fun.of (nt := 57) (rs := [.cell 4 87]) Tryz.func60 rfl rfl rfl rfl rfl (Ev.sr fun _ z=>S.nn (q.bx _ true) (S.nn (q.bx _ true) (S.nn (q.al am_ze87) (S.e z (Ev.seq (Ev.sr fun _ z=>S.o (q.lvA _ am_ag87 am_cl87) (S.o (q.bd _ am_ze87 am_pl87) (S.o (q.seql am_eq87 (am_sq87 _ _ _ _)) (S.e z (Ev.c (fun c1 => ?_) (fun c1 => ?_)))))))))))
  · refine Ev.sr fun _ z=>S.o (q.lvA _ am_ag87 am_cl87) (S.sv _ true [_, _] am_in87 am_cl87 (h := S.e z (Ev.ret (Ev.retv1 (res_c [_, _] am_ag87 am_cl87 res_n) (⟨?_, rfl⟩))))); rw [hz (u0_t ‹_›)]; rfl
  refine Ev.skip ?_; have hap := u0_f ‹_›; refine Ev.sr fun _ z=>S.o q.as (S.e z (Ev.seq (Ev.block (Ev.loopU (ι := {q : Nat × Nat × Nat // G1 a b q.1 q.2.1 q.2.2}) [0, 1, 2] [2, 3, 4] (fun ⟨(x, y, t), _⟩ => [(5, iL (t : Int))]) (fun ⟨(x, y, t), _⟩ => [(0, ⟨false, 87, 2, [[.lit (.int .u64 ((x : Int) / 18446744073709551616)), .lit (.int .u64 ((x : Int) % 18446744073709551616))]], true⟩), (1, ⟨false, 87, 2, [[.lit (.int .u64 ((y : Int) / 18446744073709551616)), .lit (.int .u64 ((y : Int) % 18446744073709551616))]], true⟩), (2, ⟨false, 87, 2, [[.lit (.int .u64 (0)), .lit (.int .u64 (0))]], true⟩)]) (fun ⟨(x, y, t), _⟩ => x) ⟨(a, b, 0), G1.init hap h0⟩ (.c (.c (.c .n))) (keep_c (h := (keep_c (h := (keep_c))))) (slots_c) ?_)))); rintro ⟨⟨x, y, t⟩, hxy⟩ R0 hR0; dsimp only [cA, nA, lC, lN]
  dsimp only at hxy
  have htb := t_bd hxy.2.2 (Nat.gcd_pos_of_pos_left y hxy.1.1) hgb hb; obtain ⟨⟨hx0, hy0⟩, hxa, _⟩ := id hxy; have hxu' := hm hxy.2.1.1; have hyu' := hm2 hxy.2.1.2; have hxu := hxu'; have hyu := hyu'
  unfold u128 at hxu hyu
  refine Ev.seq (Ev.sr fun _ z=>S.o (q.fa 1 am_fi87_1 am_cl81) (S.o (q.lv am_ag81) (S.o (qu.and 1 2 rfl rfl (by decide)) (S.o q.eql (S.bd q.mv (fun c2 => ?_) (fun c2 => ?_))))))
  · refine S.o (q.fa 1 am_fi87_1 am_cl81) (S.o (q.lv am_ag81) (S.o (qu.and 1 2 rfl rfl (by decide)) (S.o q.eql (S.o q.pt (S.e z (Ev.cd (fun c3 => ?_) (fun c3 => ?_)))))))
    · refine Ev.skip (Ev.block (Ev.rtp (m := 9) (L0 := #[false, false, false, false, false, false, false, false, false]) rfl (by kernel_rfl) (by exact rfl) fun _ z=>(HP.mv (i := 4) rfl (h := (.done (HT.three (i := 0) (j := 2) (k := 5) trivial rfl rfl rfl (S.o (q.lvA _ am_ag87 am_cl87) (S.end ?_)) (S.o (q.lvA _ am_ag87 am_cl87) (S.end ?_)) (S.o q.add (S.end ?_))))))))
      · skip; refine HT.three (i := 1) (j := 2) (k := 5) trivial rfl rfl rfl (S.c0 (hF := half_fun x hxu') (h := S.end ?_)) (S.o (q.lvA _ am_ag87 am_cl87) (S.end ?_)) (S.o q.add (S.end ?_))
        · skip; refine HT.two (i := 2) (j := 5) trivial rfl rfl (S.o (q.lvA _ am_ag87 am_cl87) (S.end ?_)) (S.o q.add (S.end ?_))
          · skip; refine HT.two (i := 3) (j := 5) trivial rfl rfl (S.c0 (hF := half_fun y hyu') (h := S.end ?_)) (S.o q.add (S.end ?_))
            · skip; refine HT.two (i := 5) (j := 6) trivial rfl rfl (S.o q.add (S.end ?_)) (S.sv _ true [_, _] am_in87 am_cl87 (h := S.end ?_))
              · skip; refine HT.one (i := 6) trivial rfl (S.sv _ true [_, _] am_in87 am_cl87 (h := S.end (HT.one (i := 7) trivial rfl (S.sv _ true [_, _] am_in87 am_cl87 (h := S.end (HT.one (i := 8) trivial rfl (S.o q.as (S.end (HT.nil trivial (by kernel_rfl) (z _ (hR0 _ _ (roundU [0, 1, 2] [2, 3, 4] ⟨(x / 2, y / 2, t + 1), hxy.step (by omega) (by omega)⟩ ?_ (keep_c (h := (keep_c (h := (keep_c))))) (slots_c) (.c (.c (.c .n))))))))))))))); skip; all_goals (dsimp only; omega)
              skip; refine HT.two (i := 5) (j := 7) trivial rfl rfl (S.o q.add (S.end ?_)) (S.sv _ true [_, _] am_in87 am_cl87 (h := S.end ?_))
              · skip; refine HT.one (i := 7) trivial rfl (S.sv _ true [_, _] am_in87 am_cl87 (h := S.end (HT.one (i := 8) trivial rfl (S.o q.as (S.end (HT.nil trivial (by kernel_rfl) (z _ (hR0 _ _ (roundU [0, 1, 2] [2, 3, 4] ⟨(x / 2, y / 2, t + 1), hxy.step (by omega) (by omega)⟩ ?_ (keep_c (h := (keep_c (h := (keep_c))))) (slots_c) (.c (.c (.c .n)))))))))))); skip; all_goals (dsimp only; omega)
              skip; refine HT.one (i := 5) trivial rfl (S.o q.add (S.end (HT.one (i := 8) trivial rfl (S.o q.as (S.end (HT.nil trivial (by kernel_rfl) (z _ (hR0 _ _ (roundU [0, 1, 2] [2, 3, 4] ⟨(x / 2, y / 2, t + 1), hxy.step (by omega) (by omega)⟩ ?_ (keep_c (h := (keep_c (h := (keep_c))))) (slots_c) (.c (.c (.c .n)))))))))))); skip; all_goals (dsimp only; omega)
            skip; refine HT.one (i := 3) trivial rfl (S.c0 (hF := half_fun y hyu') (h := S.end (HT.one (i := 6) trivial rfl (S.sv _ true [_, _] am_in87 am_cl87 (h := S.end (HT.one (i := 7) trivial rfl (S.sv _ true [_, _] am_in87 am_cl87 (h := S.end (HT.one (i := 8) trivial rfl (S.o q.as (S.end (HT.nil trivial (by kernel_rfl) (z _ (hR0 _ _ (roundU [0, 1, 2] [2, 3, 4] ⟨(x / 2, y / 2, t + 1), hxy.step (by omega) (by omega)⟩ ?_ (keep_c (h := (keep_c (h := (keep_c))))) (slots_c) (.c (.c (.c .n)))))))))))))))))); skip; all_goals (dsimp only; omega)
          skip; refine HT.one (i := 2) trivial rfl (S.o (q.lvA _ am_ag87 am_cl87) (S.end (HT.one (i := 3) trivial rfl (S.c0 (hF := half_fun y hyu') (h := S.end (HT.one (i := 6) trivial rfl (S.sv _ true [_, _] am_in87 am_cl87 (h := S.end (HT.one (i := 7) trivial rfl (S.sv _ true [_, _] am_in87 am_cl87 (h := S.end (HT.one (i := 8) trivial rfl (S.o q.as (S.end (HT.nil trivial (by kernel_rfl) (z _ (hR0 _ _ (roundU [0, 1, 2] [2, 3, 4] ⟨(x / 2, y / 2, t + 1), hxy.step (by omega) (by omega)⟩ ?_ (keep_c (h := (keep_c (h := (keep_c))))) (slots_c) (.c (.c (.c .n))))))))))))))))))))); skip; all_goals (dsimp only; omega)
        · skip; refine HT.two (i := 1) (j := 5) trivial rfl rfl (S.c0 (hF := half_fun x hxu') (h := S.end ?_)) (S.o q.add (S.end ?_))
          · skip; refine HT.two (i := 3) (j := 5) trivial rfl rfl (S.c0 (hF := half_fun y hyu') (h := S.end ?_)) (S.o q.add (S.end ?_))
            · skip; refine HT.two (i := 5) (j := 6) trivial rfl rfl (S.o q.add (S.end ?_)) (S.sv _ true [_, _] am_in87 am_cl87 (h := S.end ?_))
              · skip; refine HT.one (i := 6) trivial rfl (S.sv _ true [_, _] am_in87 am_cl87 (h := S.end (HT.one (i := 7) trivial rfl (S.sv _ true [_, _] am_in87 am_cl87 (h := S.end (HT.one (i := 8) trivial rfl (S.o q.as (S.end (HT.nil trivial (by kernel_rfl) (z _ (hR0 _ _ (roundU [0, 1, 2] [2, 3, 4] ⟨(x / 2, y / 2, t + 1), hxy.step (by omega) (by omega)⟩ ?_ (keep_c (h := (keep_c (h := (keep_c))))) (slots_c) (.c (.c (.c .n))))))))))))))); skip; all_goals (dsimp only; omega)
              skip; refine HT.two (i := 5) (j := 7) trivial rfl rfl (S.o q.add (S.end ?_)) (S.sv _ true [_, _] am_in87 am_cl87 (h := S.end ?_))
              · skip; refine HT.one (i := 7) trivial rfl (S.sv _ true [_, _] am_in87 am_cl87 (h := S.end (HT.one (i := 8) trivial rfl (S.o q.as (S.end (HT.nil trivial (by kernel_rfl) (z _ (hR0 _ _ (roundU [0, 1, 2] [2, 3, 4] ⟨(x / 2, y / 2, t + 1), hxy.step (by omega) (by omega)⟩ ?_ (keep_c (h := (keep_c (h := (keep_c))))) (slots_c) (.c (.c (.c .n)))))))))))); skip; all_goals (dsimp only; omega)
              skip; refine HT.one (i := 5) trivial rfl (S.o q.add (S.end (HT.one (i := 8) trivial rfl (S.o q.as (S.end (HT.nil trivial (by kernel_rfl) (z _ (hR0 _ _ (roundU [0, 1, 2] [2, 3, 4] ⟨(x / 2, y / 2, t + 1), hxy.step (by omega) (by omega)⟩ ?_ (keep_c (h := (keep_c (h := (keep_c))))) (slots_c) (.c (.c (.c .n)))))))))))); skip; all_goals (dsimp only; omega)
            skip; refine HT.one (i := 3) trivial rfl (S.c0 (hF := half_fun y hyu') (h := S.end (HT.one (i := 6) trivial rfl (S.sv _ true [_, _] am_in87 am_cl87 (h := S.end (HT.one (i := 7) trivial rfl (S.sv _ true [_, _] am_in87 am_cl87 (h := S.end (HT.one (i := 8) trivial rfl (S.o q.as (S.end (HT.nil trivial (by kernel_rfl) (z _ (hR0 _ _ (roundU [0, 1, 2] [2, 3, 4] ⟨(x / 2, y / 2, t + 1), hxy.step (by omega) (by omega)⟩ ?_ (keep_c (h := (keep_c (h := (keep_c))))) (slots_c) (.c (.c (.c .n)))))))))))))))))); skip; all_goals (dsimp only; omega)
          skip; refine HT.one (i := 1) trivial rfl (S.c0 (hF := half_fun x hxu') (h := S.end (HT.one (i := 3) trivial rfl (S.c0 (hF := half_fun y hyu') (h := S.end (HT.one (i := 6) trivial rfl (S.sv _ true [_, _] am_in87 am_cl87 (h := S.end (HT.one (i := 7) trivial rfl (S.sv _ true [_, _] am_in87 am_cl87 (h := S.end (HT.one (i := 8) trivial rfl (S.o q.as (S.end (HT.nil trivial (by kernel_rfl) (z _ (hR0 _ _ (roundU [0, 1, 2] [2, 3, 4] ⟨(x / 2, y / 2, t + 1), hxy.step (by omega) (by omega)⟩ ?_ (keep_c (h := (keep_c (h := (keep_c))))) (slots_c) (.c (.c (.c .n))))))))))))))))))))); skip; all_goals (dsimp only; omega)
        skip; refine HT.two (i := 1) (j := 2) trivial rfl rfl (S.c0 (hF := half_fun x hxu') (h := S.end ?_)) (S.o (q.lvA _ am_ag87 am_cl87) (S.end ?_))
        · skip; refine HT.one (i := 2) trivial rfl (S.o (q.lvA _ am_ag87 am_cl87) (S.end (HT.one (i := 3) trivial rfl (S.c0 (hF := half_fun y hyu') (h := S.end (HT.one (i := 6) trivial rfl (S.sv _ true [_, _] am_in87 am_cl87 (h := S.end (HT.one (i := 7) trivial rfl (S.sv _ true [_, _] am_in87 am_cl87 (h := S.end (HT.one (i := 8) trivial rfl (S.o q.as (S.end (HT.nil trivial (by kernel_rfl) (z _ (hR0 _ _ (roundU [0, 1, 2] [2, 3, 4] ⟨(x / 2, y / 2, t + 1), hxy.step (by omega) (by omega)⟩ ?_ (keep_c (h := (keep_c (h := (keep_c))))) (slots_c) (.c (.c (.c .n))))))))))))))))))))); skip; all_goals (dsimp only; omega)
        skip; refine HT.one (i := 1) trivial rfl (S.c0 (hF := half_fun x hxu') (h := S.end (HT.one (i := 3) trivial rfl (S.c0 (hF := half_fun y hyu') (h := S.end (HT.one (i := 6) trivial rfl (S.sv _ true [_, _] am_in87 am_cl87 (h := S.end (HT.one (i := 7) trivial rfl (S.sv _ true [_, _] am_in87 am_cl87 (h := S.end (HT.one (i := 8) trivial rfl (S.o q.as (S.end (HT.nil trivial (by kernel_rfl) (z _ (hR0 _ _ (roundU [0, 1, 2] [2, 3, 4] ⟨(x / 2, y / 2, t + 1), hxy.step (by omega) (by omega)⟩ ?_ (keep_c (h := (keep_c (h := (keep_c))))) (slots_c) (.c (.c (.c .n))))))))))))))))))))); skip; all_goals (dsimp only; omega)
      · skip; refine HT.two (i := 0) (j := 5) trivial rfl rfl (S.o (q.lvA _ am_ag87 am_cl87) (S.end ?_)) (S.o q.add (S.end ?_))
        · skip; refine HT.two (i := 1) (j := 5) trivial rfl rfl (S.c0 (hF := half_fun x hxu') (h := S.end ?_)) (S.o q.add (S.end ?_))
          · skip; refine HT.two (i := 3) (j := 5) trivial rfl rfl (S.c0 (hF := half_fun y hyu') (h := S.end ?_)) (S.o q.add (S.end ?_))
            · skip; refine HT.two (i := 5) (j := 6) trivial rfl rfl (S.o q.add (S.end ?_)) (S.sv _ true [_, _] am_in87 am_cl87 (h := S.end ?_))
              · skip; refine HT.one (i := 6) trivial rfl (S.sv _ true [_, _] am_in87 am_cl87 (h := S.end (HT.one (i := 7) trivial rfl (S.sv _ true [_, _] am_in87 am_cl87 (h := S.end (HT.one (i := 8) trivial rfl (S.o q.as (S.end (HT.nil trivial (by kernel_rfl) (z _ (hR0 _ _ (roundU [0, 1, 2] [2, 3, 4] ⟨(x / 2, y / 2, t + 1), hxy.step (by omega) (by omega)⟩ ?_ (keep_c (h := (keep_c (h := (keep_c))))) (slots_c) (.c (.c (.c .n))))))))))))))); skip; all_goals (dsimp only; omega)
              skip; refine HT.two (i := 5) (j := 7) trivial rfl rfl (S.o q.add (S.end ?_)) (S.sv _ true [_, _] am_in87 am_cl87 (h := S.end ?_))
              · skip; refine HT.one (i := 7) trivial rfl (S.sv _ true [_, _] am_in87 am_cl87 (h := S.end (HT.one (i := 8) trivial rfl (S.o q.as (S.end (HT.nil trivial (by kernel_rfl) (z _ (hR0 _ _ (roundU [0, 1, 2] [2, 3, 4] ⟨(x / 2, y / 2, t + 1), hxy.step (by omega) (by omega)⟩ ?_ (keep_c (h := (keep_c (h := (keep_c))))) (slots_c) (.c (.c (.c .n)))))))))))); skip; all_goals (dsimp only; omega)
              skip; refine HT.one (i := 5) trivial rfl (S.o q.add (S.end (HT.one (i := 8) trivial rfl (S.o q.as (S.end (HT.nil trivial (by kernel_rfl) (z _ (hR0 _ _ (roundU [0, 1, 2] [2, 3, 4] ⟨(x / 2, y / 2, t + 1), hxy.step (by omega) (by omega)⟩ ?_ (keep_c (h := (keep_c (h := (keep_c))))) (slots_c) (.c (.c (.c .n)))))))))))); skip; all_goals (dsimp only; omega)
            skip; refine HT.one (i := 3) trivial rfl (S.c0 (hF := half_fun y hyu') (h := S.end (HT.one (i := 6) trivial rfl (S.sv _ true [_, _] am_in87 am_cl87 (h := S.end (HT.one (i := 7) trivial rfl (S.sv _ true [_, _] am_in87 am_cl87 (h := S.end (HT.one (i := 8) trivial rfl (S.o q.as (S.end (HT.nil trivial (by kernel_rfl) (z _ (hR0 _ _ (roundU [0, 1, 2] [2, 3, 4] ⟨(x / 2, y / 2, t + 1), hxy.step (by omega) (by omega)⟩ ?_ (keep_c (h := (keep_c (h := (keep_c))))) (slots_c) (.c (.c (.c .n)))))))))))))))))); skip; all_goals (dsimp only; omega)
          skip; refine HT.one (i := 1) trivial rfl (S.c0 (hF := half_fun x hxu') (h := S.end (HT.one (i := 3) trivial rfl (S.c0 (hF := half_fun y hyu') (h := S.end (HT.one (i := 6) trivial rfl (S.sv _ true [_, _] am_in87 am_cl87 (h := S.end (HT.one (i := 7) trivial rfl (S.sv _ true [_, _] am_in87 am_cl87 (h := S.end (HT.one (i := 8) trivial rfl (S.o q.as (S.end (HT.nil trivial (by kernel_rfl) (z _ (hR0 _ _ (roundU [0, 1, 2] [2, 3, 4] ⟨(x / 2, y / 2, t + 1), hxy.step (by omega) (by omega)⟩ ?_ (keep_c (h := (keep_c (h := (keep_c))))) (slots_c) (.c (.c (.c .n))))))))))))))))))))); skip; all_goals (dsimp only; omega)
        skip; refine HT.one (i := 0) trivial rfl (S.o (q.lvA _ am_ag87 am_cl87) (S.end (HT.one (i := 1) trivial rfl (S.c0 (hF := half_fun x hxu') (h := S.end (HT.one (i := 3) trivial rfl (S.c0 (hF := half_fun y hyu') (h := S.end (HT.one (i := 6) trivial rfl (S.sv _ true [_, _] am_in87 am_cl87 (h := S.end (HT.one (i := 7) trivial rfl (S.sv _ true [_, _] am_in87 am_cl87 (h := S.end (HT.one (i := 8) trivial rfl (S.o q.as (S.end (HT.nil trivial (by kernel_rfl) (z _ (hR0 _ _ (roundU [0, 1, 2] [2, 3, 4] ⟨(x / 2, y / 2, t + 1), hxy.step (by omega) (by omega)⟩ ?_ (keep_c (h := (keep_c (h := (keep_c))))) (slots_c) (.c (.c (.c .n)))))))))))))))))))))))); skip; all_goals (dsimp only; omega)
      skip; refine HT.two (i := 0) (j := 2) trivial rfl rfl (S.o (q.lvA _ am_ag87 am_cl87) (S.end ?_)) (S.o (q.lvA _ am_ag87 am_cl87) (S.end ?_))
      · skip; refine HT.two (i := 1) (j := 2) trivial rfl rfl (S.c0 (hF := half_fun x hxu') (h := S.end ?_)) (S.o (q.lvA _ am_ag87 am_cl87) (S.end ?_))
        · skip; refine HT.one (i := 2) trivial rfl (S.o (q.lvA _ am_ag87 am_cl87) (S.end (HT.one (i := 3) trivial rfl (S.c0 (hF := half_fun y hyu') (h := S.end (HT.one (i := 6) trivial rfl (S.sv _ true [_, _] am_in87 am_cl87 (h := S.end (HT.one (i := 7) trivial rfl (S.sv _ true [_, _] am_in87 am_cl87 (h := S.end (HT.one (i := 8) trivial rfl (S.o q.as (S.end (HT.nil trivial (by kernel_rfl) (z _ (hR0 _ _ (roundU [0, 1, 2] [2, 3, 4] ⟨(x / 2, y / 2, t + 1), hxy.step (by omega) (by omega)⟩ ?_ (keep_c (h := (keep_c (h := (keep_c))))) (slots_c) (.c (.c (.c .n))))))))))))))))))))); skip; all_goals (dsimp only; omega)
        skip; refine HT.one (i := 1) trivial rfl (S.c0 (hF := half_fun x hxu') (h := S.end (HT.one (i := 3) trivial rfl (S.c0 (hF := half_fun y hyu') (h := S.end (HT.one (i := 6) trivial rfl (S.sv _ true [_, _] am_in87 am_cl87 (h := S.end (HT.one (i := 7) trivial rfl (S.sv _ true [_, _] am_in87 am_cl87 (h := S.end (HT.one (i := 8) trivial rfl (S.o q.as (S.end (HT.nil trivial (by kernel_rfl) (z _ (hR0 _ _ (roundU [0, 1, 2] [2, 3, 4] ⟨(x / 2, y / 2, t + 1), hxy.step (by omega) (by omega)⟩ ?_ (keep_c (h := (keep_c (h := (keep_c))))) (slots_c) (.c (.c (.c .n))))))))))))))))))))); skip; all_goals (dsimp only; omega)
      skip; refine HT.one (i := 0) trivial rfl (S.o (q.lvA _ am_ag87 am_cl87) (S.end (HT.one (i := 1) trivial rfl (S.c0 (hF := half_fun x hxu') (h := S.end (HT.one (i := 3) trivial rfl (S.c0 (hF := half_fun y hyu') (h := S.end (HT.one (i := 6) trivial rfl (S.sv _ true [_, _] am_in87 am_cl87 (h := S.end (HT.one (i := 7) trivial rfl (S.sv _ true [_, _] am_in87 am_cl87 (h := S.end (HT.one (i := 8) trivial rfl (S.o q.as (S.end (HT.nil trivial (by kernel_rfl) (z _ (hR0 _ _ (roundU [0, 1, 2] [2, 3, 4] ⟨(x / 2, y / 2, t + 1), hxy.step (by omega) (by omega)⟩ ?_ (keep_c (h := (keep_c (h := (keep_c))))) (slots_c) (.c (.c (.c .n)))))))))))))))))))))))); skip; all_goals (dsimp only; omega)
    refine Ev.exit (hR0 _ _ (Ev.seq (Ev.block (Ev.loopU (ι := {q : Nat × Nat // G2 a b q.1 q.2 t}) [0, 1, 2] [2, 3, 4, 5] (fun ⟨(p, r), _⟩ => []) (fun ⟨(p, r), _⟩ => [(0, ⟨false, 87, 2, [[.lit (.int .u64 ((p : Int) / 18446744073709551616)), .lit (.int .u64 ((p : Int) % 18446744073709551616))]], true⟩), (1, ⟨false, 87, 2, [[.lit (.int .u64 ((r : Int) / 18446744073709551616)), .lit (.int .u64 ((r : Int) % 18446744073709551616))]], true⟩), (2, ⟨false, 87, 2, [[.lit (.int .u64 (0)), .lit (.int .u64 (0))]], true⟩)]) (fun ⟨(p, r), _⟩ => p + r) ⟨(x, y), hxy.to (by omega)⟩ (.c (.c (.c (.c .n)))) (keep_c (h := (keep_c (h := (keep_c))))) trivial ?_)))); rintro ⟨⟨p, r⟩, hpr⟩ R2 hR2; dsimp only [cA, nA, lC, lN]
    dsimp only at hpr
    refine Ev.seq (Ev.sr fun _ z=>S.o (q.lvA _ am_ag87 am_cl87) (S.o (q.bd _ am_ze87 am_pl87) (S.o (q.sneq am_eq87 (am_sq87 _ _ _ _)) (S.e z (Ev.c (fun c4 => ?_) (fun c4 => ?_))))))
    · refine Ev.skip (Ev.block (Ev.seq (Ev.block (Ev.loopU (ι := {x : Nat // G2 a b x r t ∧ 0 < x ∧ x ≤ p}) [0, 1, 2] [2, 3, 4, 5] (fun ⟨p1, _⟩ => []) (fun ⟨p1, _⟩ => [(0, ⟨false, 87, 2, [[.lit (.int .u64 ((p1 : Int) / 18446744073709551616)), .lit (.int .u64 ((p1 : Int) % 18446744073709551616))]], true⟩), (1, ⟨false, 87, 2, [[.lit (.int .u64 ((r : Int) / 18446744073709551616)), .lit (.int .u64 ((r : Int) % 18446744073709551616))]], true⟩), (2, ⟨false, 87, 2, [[.lit (.int .u64 (0)), .lit (.int .u64 (0))]], true⟩)]) (fun ⟨p1, _⟩ => p1) ⟨p, hpr, u0n_t ‹_›, Nat.le_refl _⟩ (.c (.c (.c (.c .n)))) (keep_c (h := (keep_c (h := (keep_c))))) trivial ?_)))); rintro ⟨p1, hg1, hp1p, hp1l⟩ R4 hR4; dsimp only [cA, nA, lC, lN]; have hp1u := hmx hg1.2.1.1; have hp1o := hp1u
      unfold u128 at hp1o
      refine Ev.seq (Ev.sr fun _ z=>S.o (q.fa 1 am_fi87_1 am_cl81) (S.o (q.lv am_ag81) (S.o (qu.and 1 2 rfl rfl (by decide)) (S.o q.eql (S.e z (Ev.cd (fun c5 => ?_) (fun c5 => ?_)))))))
      · refine Ev.skip (Ev.block ?_); clear hp1o; refine Ev.region_S fun _ z=>S.o (q.lvA _ am_ag87 am_cl87) (S.c0 (hF := half_fun p1 hp1u) (h := S.sv _ true [_, _] am_in87 am_cl87 (h := S.e z (hR4 _ _ (roundU [0, 1, 2] [2, 3, 4, 5] ⟨p1 / 2, hg1.left (by omega), by omega, by omega⟩ ?_ (keep_c (h := (keep_c (h := (keep_c))))) trivial (.c (.c (.c (.c .n))))))))); skip; all_goals (dsimp only; omega)
      refine Ev.exit (hR4 _ _ (Ev.seq (Ev.block (Ev.loopU (ι := {x : Nat // G2 a b p1 x t ∧ x ≤ r}) [0, 1, 2] [2, 3, 4, 5] (fun ⟨r1, _⟩ => []) (fun ⟨r1, _⟩ => [(0, ⟨false, 87, 2, [[.lit (.int .u64 ((p1 : Int) / 18446744073709551616)), .lit (.int .u64 ((p1 : Int) % 18446744073709551616))]], true⟩), (1, ⟨false, 87, 2, [[.lit (.int .u64 ((r1 : Int) / 18446744073709551616)), .lit (.int .u64 ((r1 : Int) % 18446744073709551616))]], true⟩), (2, ⟨false, 87, 2, [[.lit (.int .u64 (0)), .lit (.int .u64 (0))]], true⟩)]) (fun ⟨r1, _⟩ => r1) ⟨r, hg1, Nat.le_refl _⟩ (.c (.c (.c (.c .n)))) (keep_c (h := (keep_c (h := (keep_c))))) trivial ?_)))); rintro ⟨r1, hg2, hr1l⟩ R6 hR6; dsimp only [cA, nA, lC, lN]; have hr1u := hmx hg2.2.1.2; have hr1o := hr1u
      unfold u128 at hr1o
      have hr1p := hg2.1
      have hpod : p1 % 2 = 1 := by omega
      refine Ev.seq (Ev.sr fun _ z=>S.o (q.fa 1 am_fi87_1 am_cl81) (S.o (q.lv am_ag81) (S.o (qu.and 1 2 rfl rfl (by decide)) (S.o q.eql (S.e z (Ev.cd (fun c6 => ?_) (fun c6 => ?_)))))))
      · refine Ev.skip (Ev.block (Ev.region_S fun _ z=>S.o (q.lvA _ am_ag87 am_cl87) (S.c0 (hF := half_fun r1 hr1u) (h := S.sv _ true [_, _] am_in87 am_cl87 (h := S.e z (hR6 _ _ (roundU [0, 1, 2] [2, 3, 4, 5] ⟨r1 / 2, hg2.right (by omega), by omega⟩ ?_ (keep_c (h := (keep_c (h := (keep_c))))) trivial (.c (.c (.c (.c .n))))))))))); skip; all_goals (dsimp only; omega)
      refine Ev.exit (hR6 _ _ (Ev.seq ?_)); have hr1p : 0 < r1 := hg2.1; refine Ev.sr fun _ z=>S.o (q.lvA _ am_ag87 am_cl87) (S.o (q.lvA _ am_ag87 am_cl87) (S.c0 (hF := less_fun p1 r1 (hmx hg2.2.1.1) hr1u) (h := S.e z (Ev.cd (fun c7 => ?_) (fun c7 => ?_)))))
      · refine Ev.region_S fun _ z=>S.o (q.lvA _ am_ag87 am_cl87) (S.o (q.lvA _ am_ag87 am_cl87) (S.sv _ true [_, _] am_in87 am_cl87 (h := S.sv _ true [_, _] am_in87 am_cl87 (h := S.e z ?_)))); show Ev _ _ _ _; refine Ev.region_S fun _ z=>S.o (q.lvA _ am_ag87 am_cl87) (S.o (q.lvA _ am_ag87 am_cl87) (S.c0 (hF := (by exact uminus_fun r1 p1 hr1u (by omega))) (h := S.sv _ true [_, _] am_in87 am_cl87 (h := S.e z (hR2 _ _ (roundU [0, 1, 2] [2, 3, 4, 5] ⟨(r1 - p1, p1), hg2.swap hpod (by omega)⟩ ?_ (keep_c (h := (keep_c (h := (keep_c))))) trivial (.c (.c (.c (.c .n)))))))))); skip; all_goals (dsimp only; omega)
      refine Ev.skip (Ev.region_S fun _ z=>S.o (q.lvA _ am_ag87 am_cl87) (S.o (q.lvA _ am_ag87 am_cl87) (S.c0 (hF := (by exact uminus_fun p1 r1 (hmx hg2.2.1.1) (by omega))) (h := S.sv _ true [_, _] am_in87 am_cl87 (h := S.e z (hR2 _ _ (roundU [0, 1, 2] [2, 3, 4, 5] ⟨(p1 - r1, r1), hg2.sub (by omega) (by omega)⟩ ?_ (keep_c (h := (keep_c (h := (keep_c))))) trivial (.c (.c (.c (.c .n))))))))))); skip; all_goals (dsimp only; omega)
    refine Ev.exit (hR2 _ _ (Ev.seq (Ev.block (Ev.loopU (ι := {q : Nat × Nat // q.1 * 2 ^ q.2 = Nat.gcd a b}) [0, 1, 2] [3, 4] (fun ⟨(w, s), _⟩ => [(5, iL (s : Int))]) (fun ⟨(w, s), _⟩ => [(0, ⟨false, 87, 2, [[.lit (.int .u64 ((p : Int) / 18446744073709551616)), .lit (.int .u64 ((p : Int) % 18446744073709551616))]], true⟩), (1, ⟨false, 87, 2, [[.lit (.int .u64 ((w : Int) / 18446744073709551616)), .lit (.int .u64 ((w : Int) % 18446744073709551616))]], true⟩), (2, ⟨false, 87, 2, [[.lit (.int .u64 (0)), .lit (.int .u64 (0))]], true⟩)]) (fun ⟨(w, s), _⟩ => s) ⟨(r, t), (by have e := u0n_f ‹_›; subst e; exact hpr.fin)⟩ (.c (.c .n)) (keep_c (h := (keep_c (h := (keep_c))))) (slots_c) ?_)))); rintro ⟨⟨w, s⟩, hws⟩ R8 hR8; dsimp only [cA, nA, lC, lN]
    dsimp only at hws
    have hw0 : 0 < w := Nat.pos_of_ne_zero (fun e => by rw [e, Nat.zero_mul] at hws; omega); have hsb := t_bd hws hw0 hgb hb; refine Ev.seq (Ev.sr fun _ z=>S.o q.mv (S.o q.gtr (S.e z (Ev.cd (fun c8 => ?_) (fun c8 => ?_)))))
    · refine Ev.skip (Ev.seq (Ev.block ?_)); have hdb := dbl hws (by omega); have hww : u128 (w + w) := Nat.lt_of_le_of_lt (Nat.le_trans hdb.2 hgb) hb; refine Ev.region_S fun _ z=>S.o (q.lvA _ am_ag87 am_cl87) (S.o (q.lvA _ am_ag87 am_cl87) (S.c0 (hF := uplus_fun w w hww) (h := S.sv _ true [_, _] am_in87 am_cl87 (h := S.e z ?_)))); show Ev _ _ _ _; refine Ev.region_S fun _ z=>S.o q.mv (S.o q.sub (S.o q.as (S.e z (hR8 _ _ (roundU [0, 1, 2] [3, 4] ⟨(w + w, s - 1), hdb.1⟩ ?_ (keep_c (h := (keep_c (h := (keep_c))))) (slots_c (he := (by congr 2; omega))) (.c (.c .n))))))); skip; all_goals (dsimp only; omega)
    refine Ev.exit (hR8 _ _ (Ev.sr fun _ z=>S.o (q.lvA _ am_ag87 am_cl87) (S.sv _ true [_, _] am_in87 am_cl87 (h := S.e z (Ev.ret (Ev.retv1 (res_c [_, _] am_ag87 am_cl87 res_n) (⟨?_, rfl⟩))))))); have hs0 : s = 0 := (by omega); subst hs0; rw [← hws, Nat.pow_zero, Nat.mul_one]; rfl
  refine S.s2 (S.s2 (S.o q.pf (S.e z (Ev.cf (Ev.exit (hR0 _ _ (Ev.seq (Ev.block (Ev.loopU (ι := {q : Nat × Nat // G2 a b q.1 q.2 t}) [0, 1, 2] [2, 3, 4, 5] (fun ⟨(p, r), _⟩ => []) (fun ⟨(p, r), _⟩ => [(0, ⟨false, 87, 2, [[.lit (.int .u64 ((p : Int) / 18446744073709551616)), .lit (.int .u64 ((p : Int) % 18446744073709551616))]], true⟩), (1, ⟨false, 87, 2, [[.lit (.int .u64 ((r : Int) / 18446744073709551616)), .lit (.int .u64 ((r : Int) % 18446744073709551616))]], true⟩), (2, ⟨false, 87, 2, [[.lit (.int .u64 (0)), .lit (.int .u64 (0))]], true⟩)]) (fun ⟨(p, r), _⟩ => p + r) ⟨(x, y), hxy.to (by omega)⟩ (.c (.c (.c (.c .n)))) (keep_c (h := (keep_c (h := (keep_c))))) trivial ?_))))))))); rintro ⟨⟨p, r⟩, hpr⟩ R2 hR2; dsimp only [cA, nA, lC, lN]
  dsimp only at hpr
  refine Ev.seq (Ev.sr fun _ z=>S.o (q.lvA _ am_ag87 am_cl87) (S.o (q.bd _ am_ze87 am_pl87) (S.o (q.sneq am_eq87 (am_sq87 _ _ _ _)) (S.e z (Ev.c (fun c9 => ?_) (fun c9 => ?_))))))
  · refine Ev.skip (Ev.block (Ev.seq (Ev.block (Ev.loopU (ι := {x : Nat // G2 a b x r t ∧ 0 < x ∧ x ≤ p}) [0, 1, 2] [2, 3, 4, 5] (fun ⟨p1, _⟩ => []) (fun ⟨p1, _⟩ => [(0, ⟨false, 87, 2, [[.lit (.int .u64 ((p1 : Int) / 18446744073709551616)), .lit (.int .u64 ((p1 : Int) % 18446744073709551616))]], true⟩), (1, ⟨false, 87, 2, [[.lit (.int .u64 ((r : Int) / 18446744073709551616)), .lit (.int .u64 ((r : Int) % 18446744073709551616))]], true⟩), (2, ⟨false, 87, 2, [[.lit (.int .u64 (0)), .lit (.int .u64 (0))]], true⟩)]) (fun ⟨p1, _⟩ => p1) ⟨p, hpr, u0n_t ‹_›, Nat.le_refl _⟩ (.c (.c (.c (.c .n)))) (keep_c (h := (keep_c (h := (keep_c))))) trivial ?_)))); rintro ⟨p1, hg1, hp1p, hp1l⟩ R4 hR4; dsimp only [cA, nA, lC, lN]; have hp1u := hmx hg1.2.1.1; have hp1o := hp1u
    unfold u128 at hp1o
    refine Ev.seq (Ev.sr fun _ z=>S.o (q.fa 1 am_fi87_1 am_cl81) (S.o (q.lv am_ag81) (S.o (qu.and 1 2 rfl rfl (by decide)) (S.o q.eql (S.e z (Ev.cd (fun c10 => ?_) (fun c10 => ?_)))))))
    · refine Ev.skip (Ev.block ?_); clear hp1o; refine Ev.region_S fun _ z=>S.o (q.lvA _ am_ag87 am_cl87) (S.c0 (hF := half_fun p1 hp1u) (h := S.sv _ true [_, _] am_in87 am_cl87 (h := S.e z (hR4 _ _ (roundU [0, 1, 2] [2, 3, 4, 5] ⟨p1 / 2, hg1.left (by omega), by omega, by omega⟩ ?_ (keep_c (h := (keep_c (h := (keep_c))))) trivial (.c (.c (.c (.c .n))))))))); skip; all_goals (dsimp only; omega)
    refine Ev.exit (hR4 _ _ (Ev.seq (Ev.block (Ev.loopU (ι := {x : Nat // G2 a b p1 x t ∧ x ≤ r}) [0, 1, 2] [2, 3, 4, 5] (fun ⟨r1, _⟩ => []) (fun ⟨r1, _⟩ => [(0, ⟨false, 87, 2, [[.lit (.int .u64 ((p1 : Int) / 18446744073709551616)), .lit (.int .u64 ((p1 : Int) % 18446744073709551616))]], true⟩), (1, ⟨false, 87, 2, [[.lit (.int .u64 ((r1 : Int) / 18446744073709551616)), .lit (.int .u64 ((r1 : Int) % 18446744073709551616))]], true⟩), (2, ⟨false, 87, 2, [[.lit (.int .u64 (0)), .lit (.int .u64 (0))]], true⟩)]) (fun ⟨r1, _⟩ => r1) ⟨r, hg1, Nat.le_refl _⟩ (.c (.c (.c (.c .n)))) (keep_c (h := (keep_c (h := (keep_c))))) trivial ?_)))); rintro ⟨r1, hg2, hr1l⟩ R6 hR6; dsimp only [cA, nA, lC, lN]; have hr1u := hmx hg2.2.1.2; have hr1o := hr1u
    unfold u128 at hr1o
    have hr1p := hg2.1
    have hpod : p1 % 2 = 1 := by omega
    refine Ev.seq (Ev.sr fun _ z=>S.o (q.fa 1 am_fi87_1 am_cl81) (S.o (q.lv am_ag81) (S.o (qu.and 1 2 rfl rfl (by decide)) (S.o q.eql (S.e z (Ev.cd (fun c11 => ?_) (fun c11 => ?_)))))))
    · refine Ev.skip (Ev.block (Ev.region_S fun _ z=>S.o (q.lvA _ am_ag87 am_cl87) (S.c0 (hF := half_fun r1 hr1u) (h := S.sv _ true [_, _] am_in87 am_cl87 (h := S.e z (hR6 _ _ (roundU [0, 1, 2] [2, 3, 4, 5] ⟨r1 / 2, hg2.right (by omega), by omega⟩ ?_ (keep_c (h := (keep_c (h := (keep_c))))) trivial (.c (.c (.c (.c .n))))))))))); skip; all_goals (dsimp only; omega)
    refine Ev.exit (hR6 _ _ (Ev.seq ?_)); have hr1p : 0 < r1 := hg2.1; refine Ev.sr fun _ z=>S.o (q.lvA _ am_ag87 am_cl87) (S.o (q.lvA _ am_ag87 am_cl87) (S.c0 (hF := less_fun p1 r1 (hmx hg2.2.1.1) hr1u) (h := S.e z (Ev.cd (fun c12 => ?_) (fun c12 => ?_)))))
    · refine Ev.region_S fun _ z=>S.o (q.lvA _ am_ag87 am_cl87) (S.o (q.lvA _ am_ag87 am_cl87) (S.sv _ true [_, _] am_in87 am_cl87 (h := S.sv _ true [_, _] am_in87 am_cl87 (h := S.e z ?_)))); show Ev _ _ _ _; refine Ev.region_S fun _ z=>S.o (q.lvA _ am_ag87 am_cl87) (S.o (q.lvA _ am_ag87 am_cl87) (S.c0 (hF := (by exact uminus_fun r1 p1 hr1u (by omega))) (h := S.sv _ true [_, _] am_in87 am_cl87 (h := S.e z (hR2 _ _ (roundU [0, 1, 2] [2, 3, 4, 5] ⟨(r1 - p1, p1), hg2.swap hpod (by omega)⟩ ?_ (keep_c (h := (keep_c (h := (keep_c))))) trivial (.c (.c (.c (.c .n)))))))))); skip; all_goals (dsimp only; omega)
    refine Ev.skip (Ev.region_S fun _ z=>S.o (q.lvA _ am_ag87 am_cl87) (S.o (q.lvA _ am_ag87 am_cl87) (S.c0 (hF := (by exact uminus_fun p1 r1 (hmx hg2.2.1.1) (by omega))) (h := S.sv _ true [_, _] am_in87 am_cl87 (h := S.e z (hR2 _ _ (roundU [0, 1, 2] [2, 3, 4, 5] ⟨(p1 - r1, r1), hg2.sub (by omega) (by omega)⟩ ?_ (keep_c (h := (keep_c (h := (keep_c))))) trivial (.c (.c (.c (.c .n))))))))))); skip; all_goals (dsimp only; omega)
  refine Ev.exit (hR2 _ _ (Ev.seq (Ev.block (Ev.loopU (ι := {q : Nat × Nat // q.1 * 2 ^ q.2 = Nat.gcd a b}) [0, 1, 2] [3, 4] (fun ⟨(w, s), _⟩ => [(5, iL (s : Int))]) (fun ⟨(w, s), _⟩ => [(0, ⟨false, 87, 2, [[.lit (.int .u64 ((p : Int) / 18446744073709551616)), .lit (.int .u64 ((p : Int) % 18446744073709551616))]], true⟩), (1, ⟨false, 87, 2, [[.lit (.int .u64 ((w : Int) / 18446744073709551616)), .lit (.int .u64 ((w : Int) % 18446744073709551616))]], true⟩), (2, ⟨false, 87, 2, [[.lit (.int .u64 (0)), .lit (.int .u64 (0))]], true⟩)]) (fun ⟨(w, s), _⟩ => s) ⟨(r, t), (by have e := u0n_f ‹_›; subst e; exact hpr.fin)⟩ (.c (.c .n)) (keep_c (h := (keep_c (h := (keep_c))))) (slots_c) ?_)))); rintro ⟨⟨w, s⟩, hws⟩ R8 hR8; dsimp only [cA, nA, lC, lN]
  dsimp only at hws
  have hw0 : 0 < w := Nat.pos_of_ne_zero (fun e => by rw [e, Nat.zero_mul] at hws; omega); have hsb := t_bd hws hw0 hgb hb; refine Ev.seq (Ev.sr fun _ z=>S.o q.mv (S.o q.gtr (S.e z (Ev.cd (fun c13 => ?_) (fun c13 => ?_)))))
  · refine Ev.skip (Ev.seq (Ev.block ?_)); have hdb := dbl hws (by omega); have hww : u128 (w + w) := Nat.lt_of_le_of_lt (Nat.le_trans hdb.2 hgb) hb; refine Ev.region_S fun _ z=>S.o (q.lvA _ am_ag87 am_cl87) (S.o (q.lvA _ am_ag87 am_cl87) (S.c0 (hF := uplus_fun w w hww) (h := S.sv _ true [_, _] am_in87 am_cl87 (h := S.e z ?_)))); show Ev _ _ _ _; refine Ev.region_S fun _ z=>S.o q.mv (S.o q.sub (S.o q.as (S.e z (hR8 _ _ (roundU [0, 1, 2] [3, 4] ⟨(w + w, s - 1), hdb.1⟩ ?_ (keep_c (h := (keep_c (h := (keep_c))))) (slots_c (he := (by congr 2; omega))) (.c (.c .n))))))); skip; all_goals (dsimp only; omega)
  refine Ev.exit (hR8 _ _ (Ev.sr fun _ z=>S.o (q.lvA _ am_ag87 am_cl87) (S.sv _ true [_, _] am_in87 am_cl87 (h := S.e z (Ev.ret (Ev.retv1 (res_c [_, _] am_ag87 am_cl87 res_n) (⟨?_, rfl⟩))))))); have hs0 : s = 0 := (by omega); subst hs0; rw [← hws, Nat.pow_zero, Nat.mul_one]; rfl
end Go.Proofs.YtlpgjlnkfgacbaaGreat
