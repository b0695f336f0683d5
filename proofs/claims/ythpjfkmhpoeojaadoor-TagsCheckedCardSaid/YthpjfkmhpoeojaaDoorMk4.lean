/-
  The answer on bundles: valid ones, masses, findings.
  Conditions: none.
-/
import Derived.Test.YthpjfkmhpoeojaaDoorMk2
import Derived.Test.YthpjfkmhpoeojaaDoorMk3
namespace Go.Proofs.YthpjfkmhpoeojaaDoor
open Go Go.AM
set_option linter.unusedSimpArgs false
set_option linter.unusedVariables false
set_option maxRecDepth 100000
set_option maxHeartbeats 1000000


theorem tagI_at {pre suf l : List Bundle} {s : Bundle} (hp : pre ++ s :: suf = l) : tagI l s.tag = pre.length ↔ ∀ a ∈ pre, a.tag ≠ s.tag := by
  have h := idxP_at (p := fun b : Bundle => decide (b.tag = s.tag)) hp (decide_eq_true rfl)
  unfold tagI
  rw [h]
  simp



theorem g2_no {bs : List Bar} {x : Bundle} (hS : okSched bs) (h : markI bs x.mark < 0) : find2 bs x = [(3, x.tag)] := by
  rcases masM_get hS x.mark with ⟨_, e⟩ | ⟨h0, _⟩
  · unfold find2; rw [e]
  · omega
theorem g2_at {bs : List Bar} {x : Bundle} (hS : okSched bs) (h : ¬ markI bs x.mark < 0) : ∃ b, bs[(markI bs x.mark).toNat]? = some b ∧ okBar b ∧ 0 ≤ oneOf b ∧ oneOf b ≤ 10343154 ∧ find2 bs x = (if x.mass = x.count * oneOf b then [] else [(4, x.tag)]) := by
  rcases masM_get hS x.mark with ⟨h0, _⟩ | ⟨_, b, h1, h2, _, e⟩
  · omega
  · have hok := hS.2.1 b h2
    obtain ⟨o1, o2⟩ := one_bd hok
    exact ⟨b, h1, hok, by omega, o2, by unfold find2; rw [e]⟩

/-- Few bundles with short names, or too many. -/
def shortB (l : List Bundle) (most : Int) : Prop := ¬ (((l.length : Int) > most ∧ l.length ≤ 1000) ∨ l.length > 1003) ∧ ∀ b ∈ l, b.tag.length ≤ 60 ∧ b.mark.length ≤ 60
instance (l most) : Decidable (shortB l most) := by unfold shortB; infer_instance
theorem short_w {l : List Bundle} {most : Int} (h : shortB l most) : bunW l ∧ l.length ≤ 1003 := ⟨fun b hb => by
  have := h.2 b hb
  exact ⟨by omega, by omega⟩, by have := h.1; omega⟩
theorem short_fun (l : List Bundle) (most : Int) (hlen : l.length ≤ 140737488355328) : Fun Tryd.prog 33 [.sh 4 (l.map Bundle.c), .lit (.int .i64 most)] (Ret (.lit (.bool (decide (shortB l most)))) []) := by
  refine Fun.of (nt := 42) (rs := [.tmp 4]) Tryd.func33 rfl rfl rfl rfl rfl ?_
  refine Ev.sr fun K hK => S.o q.as (S.end (hK _ ?_))
  clear hK K
  refine Ev.seq ?_
  refine Ev.sr fun K hK => S.o q.mv (S.o (q.lens am_el31) (S.o q.mv (S.o q.gtr (S.bd q.mv (fun c1 => ?_) (fun c1 => ?_)))))
  · first
  | (first | omega | contradiction)
  | refine S.o q.mv (S.o (q.lens am_el31) (S.o q.leq (S.o q.pt (S.bd q.mv (fun c2 => ?_) (fun c2 => ?_)))))
    · first
    | (first | omega | contradiction)
    | refine S.sk (S.sk (S.sk (S.o q.pt (S.end (hK _ ?_)))))
      clear hK K
      refine Ev.ct ?_
      refine Ev.sr fun K hK => S.o q.as (S.end (hK _ ?_))
      clear hK K
      refine Ev.ret ?_
      refine Ev.ret1 ?_
      refine ⟨?_, rfl⟩
      first
       | exact bF (fun h => by have h1 := h.1; omega)
       | exact bF (fun h => by have h1 := h.2 s (by rw [← hp]; simp); omega)
       | exact bT ⟨by omega, by rw [← hp]; exact hinv⟩
    · first
    | (first | omega | contradiction)
    | refine S.o q.mv (S.o (q.lens am_el31) (S.o q.gtr (S.o q.pf (S.end (hK _ ?_)))))
      clear hK K
      refine Ev.cd (fun c3 => ?_) (fun c3 => ?_)
      · first
      | (first | omega | contradiction)
      | refine Ev.sr fun K hK => S.o q.as (S.end (hK _ ?_))
        clear hK K
        refine Ev.ret ?_
        refine Ev.ret1 ?_
        refine ⟨?_, rfl⟩
        first
         | exact bF (fun h => by have h1 := h.1; omega)
         | exact bF (fun h => by have h1 := h.2 s (by rw [← hp]; simp); omega)
         | exact bT ⟨by omega, by rw [← hp]; exact hinv⟩
      · first
      | (first | omega | contradiction)
      | refine Ev.skip ?_
        show Ev _ _ _ _
        refine Ev.seq ?_
        refine Ev.sr fun K hK => S.o q.as (S.end (hK _ ?_))
        clear hK K
        refine Ev.block ?_
        refine Ev.loopU (ι := {q : List Bundle × List Bundle // q.1 ++ q.2 = l ∧ ∀ b ∈ q.1, b.tag.length ≤ 60 ∧ b.mark.length ≤ 60}) [] [0] (fun ⟨(pre, suf), _⟩ => [(5, .lit (.int .i64 ((pre.length : Int))))]) (fun ⟨(pre, suf), _⟩ => []) (fun ⟨(pre, suf), _⟩ => suf.length) ⟨([], l), rfl, fun x hx => by simp at hx⟩ (.c .n) keep_n (slots_c (he := (by first | rfl | (simp; done) | (congr 2; omega))) (h := trivial)) ?_
        rintro ⟨⟨pre, suf⟩, hp, hinv⟩ R0 hR0
        dsimp only [List.cons_append, List.nil_append, List.length_cons, List.length_nil]
        simp only at hp hinv
        have hpl : pre.length + suf.length = (l).length := by rw [← hp, List.length_append]
        rcases suf with _ | ⟨s, suf⟩
        · rw [List.append_nil] at hp; simp only [List.length_nil] at hpl
          refine Ev.seq ?_
          refine Ev.sr fun K hK => S.o q.mv (S.o q.mv (S.o (q.lens am_el31) (S.o q.lss (S.end (hK _ ?_)))))
          clear hK K
          refine Ev.cd (fun c4 => ?_) (fun c4 => ?_)
          · first | omega | contradiction | (exfalso; simp at *; done)
          · first
          | (first | omega | contradiction)
          | refine Ev.exit ?_
            refine hR0 _ _ ?_
            show Ev _ _ _ _
            refine Ev.sr fun K hK => S.o q.as (S.end (hK _ ?_))
            clear hK K
            refine Ev.ret ?_
            refine Ev.ret1 ?_
            refine ⟨?_, rfl⟩
            first
             | exact bF (fun h => by have h1 := h.1; omega)
             | exact bF (fun h => by have h1 := h.2 s (by rw [← hp]; simp); omega)
             | exact bT ⟨by omega, by rw [← hp]; exact hinv⟩
        · simp only [List.length_cons] at hpl
          have hidx : l[pre.length]? = some s := by rw [← hp]; simp
          refine Ev.seq ?_
          refine Ev.sr fun K hK => S.o q.mv (S.o q.mv (S.o (q.lens am_el31) (S.o q.lss (S.end (hK _ ?_)))))
          clear hK K
          refine Ev.cd (fun c5 => ?_) (fun c5 => ?_)
          · first
          | (first | omega | contradiction)
          | refine Ev.skip ?_
            show Ev _ _ _ _
            refine Ev.seq ?_
            refine Ev.block ?_
            refine Ev.sr fun K hK => S.o q.mv (S.o q.mv (S.o (q.ix am_el31 am_cl38 (hl := (by first | exact ati hidx (by omega) | exact atig (by omega)))) (S.o (q.fs 0 am_fi38_0 am_cl9) (S.o (q.ls am_ag9) (S.o (q.slen am_el9 am_un9) (S.o q.gtr (S.bd q.mv (fun c6 => ?_) (fun c6 => ?_))))))))
            · first
            | (first | omega | contradiction)
            | refine S.sk (S.sk (S.sk (S.sk (S.sk (S.sk (S.sk (S.o q.pt (S.end (hK _ ?_)))))))))
              clear hK K
              refine Ev.ct ?_
              refine Ev.sr fun K hK => S.o q.as (S.end (hK _ ?_))
              clear hK K
              refine Ev.ret ?_
              refine hR0 _ _ ?_
              refine Ev.ret1 ?_
              refine ⟨?_, rfl⟩
              first
               | exact bF (fun h => by have h1 := h.1; omega)
               | exact bF (fun h => by have h1 := h.2 s (by rw [← hp]; simp); omega)
               | exact bT ⟨by omega, by rw [← hp]; exact hinv⟩
            · first
            | (first | omega | contradiction)
            | refine S.o q.mv (S.o q.mv (S.o (q.ix am_el31 am_cl38 (hl := (by first | exact ati hidx (by omega) | exact atig (by omega)))) (S.o (q.fs 1 am_fi38_1 am_cl9) (S.o (q.ls am_ag9) (S.o (q.slen am_el9 am_un9) (S.o q.gtr (S.o q.pf (S.end (hK _ ?_)))))))))
              clear hK K
              refine Ev.cd (fun c7 => ?_) (fun c7 => ?_)
              · first
              | (first | omega | contradiction)
              | refine Ev.sr fun K hK => S.o q.as (S.end (hK _ ?_))
                clear hK K
                refine Ev.ret ?_
                refine hR0 _ _ ?_
                refine Ev.ret1 ?_
                refine ⟨?_, rfl⟩
                first
                 | exact bF (fun h => by have h1 := h.1; omega)
                 | exact bF (fun h => by have h1 := h.2 s (by rw [← hp]; simp); omega)
                 | exact bT ⟨by omega, by rw [← hp]; exact hinv⟩
              · first
              | (first | omega | contradiction)
              | refine Ev.skip ?_
                show Ev _ _ _ _
                refine Ev.region_S fun K hK => S.o q.mv (S.o q.add (S.o q.as (S.end (hK _ ?_))))
                clear hK K
                refine hR0 _ _ ?_
                refine roundU [] [0] ⟨(pre ++ [s], suf), by rw [← hp]; simp, ?_⟩ ?_ keep_n (slots_c (he := (by first | rfl | (simp; done) | (congr 2; omega))) (h := trivial)) (.c .n)
                intro x hx; simp only [List.mem_append, List.mem_singleton] at hx; rcases hx with hx | rfl
                · exact hinv x hx
                · omega
                all_goals (dsimp only; simp only [List.length_cons]; omega)
          · first | omega | contradiction | (exfalso; simp at *; done)
  · first
  | (first | omega | contradiction)
  | refine S.sk (S.sk (S.sk (S.o q.pf (S.o q.mv (S.o q.mv (S.o (q.lens am_el31) (S.o q.gtr (S.o q.pf (S.end (hK _ ?_))))))))))
    clear hK K
    refine Ev.cd (fun c8 => ?_) (fun c8 => ?_)
    · first
    | (first | omega | contradiction)
    | refine Ev.sr fun K hK => S.o q.as (S.end (hK _ ?_))
      clear hK K
      refine Ev.ret ?_
      refine Ev.ret1 ?_
      refine ⟨?_, rfl⟩
      first
       | exact bF (fun h => by have h1 := h.1; omega)
       | exact bF (fun h => by have h1 := h.2 s (by rw [← hp]; simp); omega)
       | exact bT ⟨by omega, by rw [← hp]; exact hinv⟩
    · first
    | (first | omega | contradiction)
    | refine Ev.skip ?_
      show Ev _ _ _ _
      refine Ev.seq ?_
      refine Ev.sr fun K hK => S.o q.as (S.end (hK _ ?_))
      clear hK K
      refine Ev.block ?_
      refine Ev.loopU (ι := {q : List Bundle × List Bundle // q.1 ++ q.2 = l ∧ ∀ b ∈ q.1, b.tag.length ≤ 60 ∧ b.mark.length ≤ 60}) [] [0] (fun ⟨(pre, suf), _⟩ => [(5, .lit (.int .i64 ((pre.length : Int))))]) (fun ⟨(pre, suf), _⟩ => []) (fun ⟨(pre, suf), _⟩ => suf.length) ⟨([], l), rfl, fun x hx => by simp at hx⟩ (.c .n) keep_n (slots_c (he := (by first | rfl | (simp; done) | (congr 2; omega))) (h := trivial)) ?_
      rintro ⟨⟨pre, suf⟩, hp, hinv⟩ R0 hR0
      dsimp only [List.cons_append, List.nil_append, List.length_cons, List.length_nil]
      simp only at hp hinv
      have hpl : pre.length + suf.length = (l).length := by rw [← hp, List.length_append]
      rcases suf with _ | ⟨s, suf⟩
      · rw [List.append_nil] at hp; simp only [List.length_nil] at hpl
        refine Ev.seq ?_
        refine Ev.sr fun K hK => S.o q.mv (S.o q.mv (S.o (q.lens am_el31) (S.o q.lss (S.end (hK _ ?_)))))
        clear hK K
        refine Ev.cd (fun c9 => ?_) (fun c9 => ?_)
        · first | omega | contradiction | (exfalso; simp at *; done)
        · first
        | (first | omega | contradiction)
        | refine Ev.exit ?_
          refine hR0 _ _ ?_
          show Ev _ _ _ _
          refine Ev.sr fun K hK => S.o q.as (S.end (hK _ ?_))
          clear hK K
          refine Ev.ret ?_
          refine Ev.ret1 ?_
          refine ⟨?_, rfl⟩
          first
           | exact bF (fun h => by have h1 := h.1; omega)
           | exact bF (fun h => by have h1 := h.2 s (by rw [← hp]; simp); omega)
           | exact bT ⟨by omega, by rw [← hp]; exact hinv⟩
      · simp only [List.length_cons] at hpl
        have hidx : l[pre.length]? = some s := by rw [← hp]; simp
        refine Ev.seq ?_
        refine Ev.sr fun K hK => S.o q.mv (S.o q.mv (S.o (q.lens am_el31) (S.o q.lss (S.end (hK _ ?_)))))
        clear hK K
        refine Ev.cd (fun c10 => ?_) (fun c10 => ?_)
        · first
        | (first | omega | contradiction)
        | refine Ev.skip ?_
          show Ev _ _ _ _
          refine Ev.seq ?_
          refine Ev.block ?_
          refine Ev.sr fun K hK => S.o q.mv (S.o q.mv (S.o (q.ix am_el31 am_cl38 (hl := (by first | exact ati hidx (by omega) | exact atig (by omega)))) (S.o (q.fs 0 am_fi38_0 am_cl9) (S.o (q.ls am_ag9) (S.o (q.slen am_el9 am_un9) (S.o q.gtr (S.bd q.mv (fun c11 => ?_) (fun c11 => ?_))))))))
          · first
          | (first | omega | contradiction)
          | refine S.sk (S.sk (S.sk (S.sk (S.sk (S.sk (S.sk (S.o q.pt (S.end (hK _ ?_)))))))))
            clear hK K
            refine Ev.ct ?_
            refine Ev.sr fun K hK => S.o q.as (S.end (hK _ ?_))
            clear hK K
            refine Ev.ret ?_
            refine hR0 _ _ ?_
            refine Ev.ret1 ?_
            refine ⟨?_, rfl⟩
            first
             | exact bF (fun h => by have h1 := h.1; omega)
             | exact bF (fun h => by have h1 := h.2 s (by rw [← hp]; simp); omega)
             | exact bT ⟨by omega, by rw [← hp]; exact hinv⟩
          · first
          | (first | omega | contradiction)
          | refine S.o q.mv (S.o q.mv (S.o (q.ix am_el31 am_cl38 (hl := (by first | exact ati hidx (by omega) | exact atig (by omega)))) (S.o (q.fs 1 am_fi38_1 am_cl9) (S.o (q.ls am_ag9) (S.o (q.slen am_el9 am_un9) (S.o q.gtr (S.o q.pf (S.end (hK _ ?_)))))))))
            clear hK K
            refine Ev.cd (fun c12 => ?_) (fun c12 => ?_)
            · first
            | (first | omega | contradiction)
            | refine Ev.sr fun K hK => S.o q.as (S.end (hK _ ?_))
              clear hK K
              refine Ev.ret ?_
              refine hR0 _ _ ?_
              refine Ev.ret1 ?_
              refine ⟨?_, rfl⟩
              first
               | exact bF (fun h => by have h1 := h.1; omega)
               | exact bF (fun h => by have h1 := h.2 s (by rw [← hp]; simp); omega)
               | exact bT ⟨by omega, by rw [← hp]; exact hinv⟩
            · first
            | (first | omega | contradiction)
            | refine Ev.skip ?_
              show Ev _ _ _ _
              refine Ev.region_S fun K hK => S.o q.mv (S.o q.add (S.o q.as (S.end (hK _ ?_))))
              clear hK K
              refine hR0 _ _ ?_
              refine roundU [] [0] ⟨(pre ++ [s], suf), by rw [← hp]; simp, ?_⟩ ?_ keep_n (slots_c (he := (by first | rfl | (simp; done) | (congr 2; omega))) (h := trivial)) (.c .n)
              intro x hx; simp only [List.mem_append, List.mem_singleton] at hx; rcases hx with hx | rfl
              · exact hinv x hx
              · omega
              all_goals (dsimp only; simp only [List.length_cons]; omega)
        · first | omega | contradiction | (exfalso; simp at *; done)

abbrev Fnd := Int × List UInt8
theorem fnd_same {s t : Fnd} (h : (!(decide (s.1 = t.1) && (decide ((⟨s.2.toArray⟩ : ByteArray) = ⟨t.2.toArray⟩) && true))) = false) : t = s := by
  simp only [Bool.not_eq_false', Bool.and_eq_true, decide_eq_true_eq, Bool.and_true] at h
  exact Prod.ext h.1.symm (bytes_inj.1 h.2).symm
theorem fnd_diff {s t : Fnd} (h : (!(decide (s.1 = t.1) && (decide ((⟨s.2.toArray⟩ : ByteArray) = ⟨t.2.toArray⟩) && true))) = true) : s ≠ t := by
  rintro rfl
  simp at h
end Go.Proofs.YthpjfkmhpoeojaaDoor
