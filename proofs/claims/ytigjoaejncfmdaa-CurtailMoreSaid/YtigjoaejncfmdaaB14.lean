/-
  Layer 28: bars, and the reference on them.
  Conditions: none.
-/
import Derived.Test.YtigjoaejncfmdaaB9
import Derived.Test.YtigjoaejncfmdaaCk1
namespace Go.Proofs.Ytigjoaejncfmdaa
open Go Go.AM
set_option linter.unusedSimpArgs false
set_option linter.unusedVariables false
set_option maxRecDepth 100000
set_option maxHeartbeats 1000000

theorem iE {a b : Int} (h : a = b) : AV.lit (.int .i64 a) = .lit (.int .i64 b) := by rw [h]
def barOk (s : Int × Int) : Prop := s.1 ≤ s.2 ∧ -2097152 ≤ s.1 ∧ s.2 ≤ 2097152
instance (s) : Decidable (barOk s) := by unfold barOk; infer_instance
def barsE (b : List (Int × Int)) : Int := if 1000 < (b.length : Int) then 4 else if ∀ s ∈ b, barOk s then 0 else 2
def spanS (b : List (Int × Int)) : Int := (b.map fun s => s.2 - s.1).sum
def totV (b : List (Int × Int)) : Int := if barsE b = 0 then spanS b else 0
theorem spanS_snoc (b : List (Int × Int)) (s : Int × Int) : spanS (b ++ [s]) = spanS b + (s.2 - s.1) := by simp [spanS]
theorem spanS_bd : ∀ b : List (Int × Int), (∀ s ∈ b, barOk s) → 0 ≤ spanS b ∧ spanS b ≤ 4194304 * b.length := by
  refine snocI (fun _ => by simp [spanS]) ?_
  intro l s ih h
  have h1 := ih fun b hb => h b (by simp [hb])
  have h2 := h s (by simp)
  unfold barOk at h2
  rw [spanS_snoc, List.length_append, List.length_singleton]
  omega
theorem bars_4 {b : List (Int × Int)} (h : 1000 < (b.length : Int)) : barsE b = 4 ∧ totV b = 0 := by
  have e : barsE b = 4 := if_pos h
  exact ⟨e, if_neg (by omega)⟩
theorem bars_2 {b : List (Int × Int)} (h : ¬ 1000 < (b.length : Int)) (h2 : ¬ ∀ s ∈ b, barOk s) : barsE b = 2 ∧ totV b = 0 := by
  have e : barsE b = 2 := (if_neg h).trans (if_neg h2)
  exact ⟨e, if_neg (by omega)⟩
theorem bars_0 {b : List (Int × Int)} (h : ¬ 1000 < (b.length : Int)) (h2 : ∀ s ∈ b, barOk s) : barsE b = 0 ∧ totV b = spanS b := by
  have e : barsE b = 0 := (if_neg h).trans (if_pos h2)
  exact ⟨e, if_pos e⟩
theorem Total_fun (bars : List (Int × Int)) (hlen : bars.length ≤ 140737488355328) : Fun Try.prog 29 [.sh 2 (bars.map stepC)] (Ret (.tup [.lit (.int .i64 (totV bars)), .lit (.int .i64 (barsE bars))]) []) := by
  refine Fun.of (nt := 40) (rs := [.tmp 2, .tmp 3]) Try.func29 rfl rfl rfl rfl rfl ?_
  refine Ev.sr fun K hK => S.o q.as (S.o q.as (S.end (hK _ ?_)))
  clear hK K
  refine Ev.seq ?_
  refine Ev.sr fun K hK => S.o q.mv (S.o (q.lens am_el25) (S.o q.gtr (S.end (hK _ ?_))))
  clear hK K
  refine Ev.cd (fun c1 => ?_) (fun c1 => ?_)
  · first
  | (first | omega | contradiction)
  | refine Ev.sr fun K hK => S.o q.as (S.o q.as (S.end (hK _ ?_)))
    clear hK K
    refine Ev.ret ?_
    refine Ev.ret2 ?_
    refine ⟨?_, rfl⟩
    first
     | (rw [(bars_4 ‹_›).1, (bars_4 ‹_›).2]; done)
     | (rw [(bars_2 ‹_› (fun h => by have h1 := h s (by rw [← hp]; simp); unfold barOk at h1; omega)).1, (bars_2 ‹_› (fun h => by have h1 := h s (by rw [← hp]; simp); unfold barOk at h1; omega)).2]; done)
     | (rw [(bars_0 ‹_› hinv).1, (bars_0 ‹_› hinv).2]; done)
  · first
  | (first | omega | contradiction)
  | refine Ev.skip ?_
    show Ev _ _ _ _
    refine Ev.sr fun K hK => S.o q.as (S.end (hK _ ?_))
    clear hK K
    refine Ev.seq ?_
    refine Ev.sr fun K hK => S.o q.mv (S.o (q.lens am_el25) (S.o q.mv (S.end (hK _ ?_))))
    clear hK K
    refine Ev.block ?_
    refine Ev.loopU (ι := {q : List (Int × Int) × List (Int × Int) // q.1 ++ q.2 = bars ∧ ∀ x ∈ q.1, barOk x}) [] [10, 11] (fun ⟨(pre, suf), _⟩ => [(12, .lit (.int .i64 ((pre.length : Int)))), (4, .lit (.int .i64 (spanS pre)))]) (fun ⟨(pre, suf), _⟩ => []) (fun ⟨(pre, suf), _⟩ => suf.length) ⟨([], bars), rfl, fun x hx => by simp at hx⟩ (.c (.c .n)) keep_n (slots_c (he := (by first | rfl | (congr 2; simp; done))) (h := (slots_c (he := (by first | rfl | exact iE (spanS_snoc _ _).symm)) (h := trivial)))) ?_
    rintro ⟨⟨pre, suf⟩, hp, hinv⟩ R0 hR0
    dsimp only [List.cons_append, List.nil_append, List.length_cons, List.length_nil]
    simp only at hp hinv
    have hpl : pre.length + suf.length = (bars).length := by rw [← hp, List.length_append]
    rcases suf with _ | ⟨s, suf⟩
    · rw [List.append_nil] at hp; subst pre; simp only [List.length_nil] at hpl
      refine Ev.sr fun K hK => S.o q.lss (S.end (hK _ ?_))
      clear hK K
      refine Ev.ud (fun c2 => ?_) (fun c2 => ?_)
      · first | omega | contradiction | (exfalso; simp at *; done)
      · first
      | (first | omega | contradiction)
      | refine Ev.exit ?_
        refine hR0 _ _ ?_
        show Ev _ _ _ _
        refine Ev.sr fun K hK => S.o q.mv (S.o q.as (S.o q.as (S.end (hK _ ?_))))
        clear hK K
        refine Ev.ret ?_
        refine Ev.ret2 ?_
        refine ⟨?_, rfl⟩
        first
         | (rw [(bars_4 ‹_›).1, (bars_4 ‹_›).2]; done)
         | (rw [(bars_2 ‹_› (fun h => by have h1 := h s (by rw [← hp]; simp); unfold barOk at h1; omega)).1, (bars_2 ‹_› (fun h => by have h1 := h s (by rw [← hp]; simp); unfold barOk at h1; omega)).2]; done)
         | (rw [(bars_0 ‹_› hinv).1, (bars_0 ‹_› hinv).2]; done)
    · simp only [List.length_cons] at hpl
      have hidx : (bars)[pre.length]? = some s := by rw [← hp]; simp
      have hsb := spanS_bd pre hinv
      refine Ev.sr fun K hK => S.o q.lss (S.end (hK _ ?_))
      clear hK K
      refine Ev.ud (fun c3 => ?_) (fun c3 => ?_)
      · first
      | (first | omega | contradiction)
      | refine Ev.seq ?_
        refine Ev.block ?_
        refine Ev.sr fun K hK => S.o (q.ix am_el25 am_cl36 (hl := (by first | exact ati hidx (by omega) | exact atig (by omega)))) (S.o (q.lsA [_, _] am_ag36 am_cl36) (S.nn (q.al am_ze36) (S.sv [_, _] true [] am_in36 am_cl36 (h := S.end (hK _ ?_)))))
        clear hK K
        refine Ev.seq ?_
        refine Ev.sr fun K hK => S.o (q.fa 0 am_fi36_0 am_cl3) (S.o (q.lv am_ag3) (S.o (q.fa 1 am_fi36_1 am_cl3) (S.o (q.lv am_ag3) (S.o q.gtr (S.bd q.mv (fun c4 => ?_) (fun c4 => ?_))))))
        · first
        | (first | omega | contradiction)
        | refine S.sk (S.sk (S.sk (S.o q.pt (S.o q.mv (S.sk (S.sk (S.sk (S.o q.pt (S.end (hK _ ?_))))))))))
          clear hK K
          refine Ev.ct ?_
          refine Ev.sr fun K hK => S.o q.as (S.o q.as (S.end (hK _ ?_)))
          clear hK K
          refine Ev.ret ?_
          refine hR0 _ _ ?_
          refine Ev.ret2 ?_
          refine ⟨?_, rfl⟩
          first
           | (rw [(bars_4 ‹_›).1, (bars_4 ‹_›).2]; done)
           | (rw [(bars_2 ‹_› (fun h => by have h1 := h s (by rw [← hp]; simp); unfold barOk at h1; omega)).1, (bars_2 ‹_› (fun h => by have h1 := h s (by rw [← hp]; simp); unfold barOk at h1; omega)).2]; done)
           | (rw [(bars_0 ‹_› hinv).1, (bars_0 ‹_› hinv).2]; done)
        · first
        | (first | omega | contradiction)
        | refine S.o (q.fa 0 am_fi36_0 am_cl3) (S.o (q.lv am_ag3) (S.o q.lss (S.o q.pf (S.bd q.mv (fun c5 => ?_) (fun c5 => ?_)))))
          · first
          | (first | omega | contradiction)
          | refine S.sk (S.sk (S.sk (S.o q.pt (S.end (hK _ ?_)))))
            clear hK K
            refine Ev.ct ?_
            refine Ev.sr fun K hK => S.o q.as (S.o q.as (S.end (hK _ ?_)))
            clear hK K
            refine Ev.ret ?_
            refine hR0 _ _ ?_
            refine Ev.ret2 ?_
            refine ⟨?_, rfl⟩
            first
             | (rw [(bars_4 ‹_›).1, (bars_4 ‹_›).2]; done)
             | (rw [(bars_2 ‹_› (fun h => by have h1 := h s (by rw [← hp]; simp); unfold barOk at h1; omega)).1, (bars_2 ‹_› (fun h => by have h1 := h s (by rw [← hp]; simp); unfold barOk at h1; omega)).2]; done)
             | (rw [(bars_0 ‹_› hinv).1, (bars_0 ‹_› hinv).2]; done)
          · first
          | (first | omega | contradiction)
          | refine S.o (q.fa 1 am_fi36_1 am_cl3) (S.o (q.lv am_ag3) (S.o q.gtr (S.o q.pf (S.end (hK _ ?_)))))
            clear hK K
            refine Ev.cd (fun c6 => ?_) (fun c6 => ?_)
            · first
            | (first | omega | contradiction)
            | refine Ev.sr fun K hK => S.o q.as (S.o q.as (S.end (hK _ ?_)))
              clear hK K
              refine Ev.ret ?_
              refine hR0 _ _ ?_
              refine Ev.ret2 ?_
              refine ⟨?_, rfl⟩
              first
               | (rw [(bars_4 ‹_›).1, (bars_4 ‹_›).2]; done)
               | (rw [(bars_2 ‹_› (fun h => by have h1 := h s (by rw [← hp]; simp); unfold barOk at h1; omega)).1, (bars_2 ‹_› (fun h => by have h1 := h s (by rw [← hp]; simp); unfold barOk at h1; omega)).2]; done)
               | (rw [(bars_0 ‹_› hinv).1, (bars_0 ‹_› hinv).2]; done)
            · first
            | (first | omega | contradiction)
            | refine Ev.skip ?_
              show Ev _ _ _ _
              refine Ev.region_S fun K hK => S.o q.mv (S.o (q.fa 1 am_fi36_1 am_cl3) (S.o (q.lv am_ag3) (S.o (q.fa 0 am_fi36_0 am_cl3) (S.o (q.lv am_ag3) (S.o q.sub (S.o q.add (S.o q.as (S.end (hK _ ?_)))))))))
              clear hK K
              show Ev _ _ _ _
              refine Ev.region_S fun K hK => S.o q.add (S.o q.mv (S.end (hK _ ?_)))
              clear hK K
              refine hR0 _ _ ?_
              refine roundU [] [10, 11] ⟨(pre ++ [s], suf), by rw [← hp]; simp, ?_⟩ ?_ keep_n (slots_c (he := (by first | rfl | (congr 2; simp; done))) (h := (slots_c (he := (by first | rfl | exact iE (spanS_snoc _ _).symm)) (h := trivial)))) (.c (.c .n))
              intro x hx; simp only [List.mem_append, List.mem_singleton] at hx; rcases hx with hx | rfl
              · exact hinv x hx
              · exact ⟨by omega, by omega, by omega⟩
              all_goals (dsimp only; simp only [List.length_cons]; omega)
      · first | omega | contradiction | (exfalso; simp at *; done)

theorem serveAt_snoc (b : List (Int × Int)) (s : Int × Int) (a x : Int) : serveAt (b ++ [s]) a x = serveAt b a x + (if s.1 + a ≤ x ∧ x < s.2 - a then 1 else 0) := by simp [serveAt]
end Go.Proofs.Ytigjoaejncfmdaa
