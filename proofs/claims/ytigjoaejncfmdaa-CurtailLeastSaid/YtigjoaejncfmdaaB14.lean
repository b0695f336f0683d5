/-
  Layer 28: bars, and the reference on them.
  Conditions: none.
-/
import Derived.Test.YtigjoaejncfmdaaB9
import Derived.Test.YtigjoaejncfmdaaCk1
namespace Go.Proofs.Ytigjoaejncfmdaa
open Go Go.AM
set_option linter.unusedSimpArgs false
set_option linter.unusedVariables false
set_option maxRecDepth 100000
set_option maxHeartbeats 1000000

theorem iE {a b : Int} (h : a = b) : AV.lit (.int .i64 a) = .lit (.int .i64 b) := by rw [h]
def barOk (s : Int × Int) : Prop := s.1 ≤ s.2 ∧ -2097152 ≤ s.1 ∧ s.2 ≤ 2097152
instance (s) : Decidable (barOk s) := by unfold barOk; infer_instance
def barsE (b : List (Int × Int)) : Int := if 1000 < (b.length : Int) then 4 else if ∀ s ∈ b, barOk s then 0 else 2
def spanS (b : List (Int × Int)) : Int := (b.map fun s => s.2 - s.1).sum
def totV (b : List (Int × Int)) : Int := if barsE b = 0 then spanS b else 0
theorem spanS_snoc (b : List (Int × Int)) (s : Int × Int) : spanS (b ++ [s]) = spanS b + (s.2 - s.1) := by simp [spanS]
theorem spanS_bd : ∀ b : List (Int × Int), (∀ s ∈ b, barOk s) → 0 ≤ spanS b ∧ spanS b ≤ 4194304 * b.length := by
  refine snocI (fun _ => by simp [spanS]) ?_
  intro l s ih h
  have h1 := ih fun b hb => h b (by simp [hb])
  have h2 := h s (by simp)
  unfold barOk at h2
  rw [spanS_snoc, List.length_append, List.length_singleton]
  omega
theorem bars_4 {b : List (Int × Int)} (h : 1000 < (b.length : Int)) : barsE b = 4 ∧ totV b = 0 := by
  have e : barsE b = 4 := if_pos h
  exact ⟨e, if_neg (by omega)⟩
theorem bars_2 {b : List (Int × Int)} (h : ¬ 1000 < (b.length : Int)) (h2 : ¬ ∀ s ∈ b, barOk s) : barsE b = 2 ∧ totV b = 0 := by
  have e : barsE b = 2 := (if_neg h).trans (if_neg h2)
  exact ⟨e, if_neg (by omega)⟩
theorem bars_0 {b : List (Int × Int)} (h : ¬ 1000 < (b.length : Int)) (h2 : ∀ s ∈ b, barOk s) : barsE b = 0 ∧ totV b = spanS b := by
  have e : barsE b = 0 := (if_neg h).trans (if_pos h2)
  exact ⟨e, if_pos e⟩
theorem bars_ok {b : List (Int × Int)} (h : barsE b = 0) : b.length ≤ 1000 ∧ (∀ s ∈ b, barOk s) ∧ totV b = spanS b := by
  by_cases h1 : 1000 < (b.length : Int)
  · have := (bars_4 h1).1; omega
  · by_cases h2 : ∀ s ∈ b, barOk s
    · exact ⟨by omega, h2, (bars_0 h1 h2).2⟩
    · have := (bars_2 h1 h2).1; omega
theorem Total_fun (bars : List (Int × Int)) (hlen : bars.length ≤ 140737488355328) : Fun Try.prog 29 [.sh 2 (bars.map stepC)] (Ret (.tup [.lit (.int .i64 (totV bars)), .lit (.int .i64 (barsE bars))]) []) := by
  refine Fun.of (nt := 40) (rs := [.tmp 2, .tmp 3]) Try.func29 rfl rfl rfl rfl rfl ?_
  refine Ev.sr fun K hK => S.o q.as (S.o q.as (S.end (hK _ ?_)))
  clear hK K
  refine Ev.seq ?_
  refine Ev.sr fun K hK => S.o q.mv (S.o (q.lens am_el25) (S.o q.gtr (S.end (hK _ ?_))))
  clear hK K
  refine Ev.cd (fun c1 => ?_) (fun c1 => ?_)
  · first
  | (first | omega | contradiction)
  | refine Ev.sr fun K hK => S.o q.as (S.o q.as (S.end (hK _ ?_)))
    clear hK K
    refine Ev.ret ?_
    refine Ev.ret2 ?_
    refine ⟨?_, rfl⟩
    first
     | (rw [(bars_4 ‹_›).1, (bars_4 ‹_›).2]; done)
     | (rw [(bars_2 ‹_› (fun h => by have h1 := h s (by rw [← hp]; simp); unfold barOk at h1; omega)).1, (bars_2 ‹_› (fun h => by have h1 := h s (by rw [← hp]; simp); unfold barOk at h1; omega)).2]; done)
     | (rw [(bars_0 ‹_› hinv).1, (bars_0 ‹_› hinv).2]; done)
  · first
  | (first | omega | contradiction)
  | refine Ev.skip ?_
    show Ev _ _ _ _
    refine Ev.sr fun K hK => S.o q.as (S.end (hK _ ?_))
    clear hK K
    refine Ev.seq ?_
    refine Ev.sr fun K hK => S.o q.mv (S.o (q.lens am_el25) (S.o q.mv (S.end (hK _ ?_))))
    clear hK K
    refine Ev.block ?_
    refine Ev.loopU (ι := {q : List (Int × Int) × List (Int × Int) // q.1 ++ q.2 = bars ∧ ∀ x ∈ q.1, barOk x}) [] [10, 11] (fun ⟨(pre, suf), _⟩ => [(12, .lit (.int .i64 ((pre.length : Int)))), (4, .lit (.int .i64 (spanS pre)))]) (fun ⟨(pre, suf), _⟩ => []) (fun ⟨(pre, suf), _⟩ => suf.length) ⟨([], bars), rfl, fun x hx => by simp at hx⟩ (.c (.c .n)) keep_n (slots_c (he := (by first | rfl | (congr 2; simp; done))) (h := (slots_c (he := (by first | rfl | exact iE (spanS_snoc _ _).symm)) (h := trivial)))) ?_
    rintro ⟨⟨pre, suf⟩, hp, hinv⟩ R0 hR0
    dsimp only [List.cons_append, List.nil_append, List.length_cons, List.length_nil]
    simp only at hp hinv
    have hpl : pre.length + suf.length = (bars).length := by rw [← hp, List.length_append]
    rcases suf with _ | ⟨s, suf⟩
    · rw [List.append_nil] at hp; subst pre; simp only [List.length_nil] at hpl
      refine Ev.sr fun K hK => S.o q.lss (S.end (hK _ ?_))
      clear hK K
      refine Ev.ud (fun c2 => ?_) (fun c2 => ?_)
      · first | omega | contradiction
      · first
      | (first | omega | contradiction)
      | refine Ev.exit ?_
        refine hR0 _ _ ?_
        show Ev _ _ _ _
        refine Ev.sr fun K hK => S.o q.mv (S.o q.as (S.o q.as (S.end (hK _ ?_))))
        clear hK K
        refine Ev.ret ?_
        refine Ev.ret2 ?_
        refine ⟨?_, rfl⟩
        first
         | (rw [(bars_4 ‹_›).1, (bars_4 ‹_›).2]; done)
         | (rw [(bars_2 ‹_› (fun h => by have h1 := h s (by rw [← hp]; simp); unfold barOk at h1; omega)).1, (bars_2 ‹_› (fun h => by have h1 := h s (by rw [← hp]; simp); unfold barOk at h1; omega)).2]; done)
         | (rw [(bars_0 ‹_› hinv).1, (bars_0 ‹_› hinv).2]; done)
    · simp only [List.length_cons] at hpl
      have hidx : (bars)[pre.length]? = some s := by rw [← hp]; simp
      have hsb := spanS_bd pre hinv
      refine Ev.sr fun K hK => S.o q.lss (S.end (hK _ ?_))
      clear hK K
      refine Ev.ud (fun c3 => ?_) (fun c3 => ?_)
      · first
      | (first | omega | contradiction)
      | refine Ev.seq ?_
        refine Ev.block ?_
        refine Ev.sr fun K hK => S.o (q.ix am_el25 am_cl36 (hl := (by first | exact ati hidx (by omega) | exact atig (by omega)))) (S.o (q.lsA [_, _] am_ag36 am_cl36) (S.nn (q.al am_ze36) (S.sv [_, _] true [] am_in36 am_cl36 (h := S.end (hK _ ?_)))))
        clear hK K
        refine Ev.seq ?_
        refine Ev.sr fun K hK => S.o (q.fa 0 am_fi36_0 am_cl3) (S.o (q.lv am_ag3) (S.o (q.fa 1 am_fi36_1 am_cl3) (S.o (q.lv am_ag3) (S.o q.gtr (S.bd q.mv (fun c4 => ?_) (fun c4 => ?_))))))
        · first
        | (first | omega | contradiction)
        | refine S.sk (S.sk (S.sk (S.o q.pt (S.o q.mv (S.sk (S.sk (S.sk (S.o q.pt (S.end (hK _ ?_))))))))))
          clear hK K
          refine Ev.ct ?_
          refine Ev.sr fun K hK => S.o q.as (S.o q.as (S.end (hK _ ?_)))
          clear hK K
          refine Ev.ret ?_
          refine hR0 _ _ ?_
          refine Ev.ret2 ?_
          refine ⟨?_, rfl⟩
          first
           | (rw [(bars_4 ‹_›).1, (bars_4 ‹_›).2]; done)
           | (rw [(bars_2 ‹_› (fun h => by have h1 := h s (by rw [← hp]; simp); unfold barOk at h1; omega)).1, (bars_2 ‹_› (fun h => by have h1 := h s (by rw [← hp]; simp); unfold barOk at h1; omega)).2]; done)
           | (rw [(bars_0 ‹_› hinv).1, (bars_0 ‹_› hinv).2]; done)
        · first
        | (first | omega | contradiction)
        | refine S.o (q.fa 0 am_fi36_0 am_cl3) (S.o (q.lv am_ag3) (S.o q.lss (S.o q.pf (S.bd q.mv (fun c5 => ?_) (fun c5 => ?_)))))
          · first
          | (first | omega | contradiction)
          | refine S.sk (S.sk (S.sk (S.o q.pt (S.end (hK _ ?_)))))
            clear hK K
            refine Ev.ct ?_
            refine Ev.sr fun K hK => S.o q.as (S.o q.as (S.end (hK _ ?_)))
            clear hK K
            refine Ev.ret ?_
            refine hR0 _ _ ?_
            refine Ev.ret2 ?_
            refine ⟨?_, rfl⟩
            first
             | (rw [(bars_4 ‹_›).1, (bars_4 ‹_›).2]; done)
             | (rw [(bars_2 ‹_› (fun h => by have h1 := h s (by rw [← hp]; simp); unfold barOk at h1; omega)).1, (bars_2 ‹_› (fun h => by have h1 := h s (by rw [← hp]; simp); unfold barOk at h1; omega)).2]; done)
             | (rw [(bars_0 ‹_› hinv).1, (bars_0 ‹_› hinv).2]; done)
          · first
          | (first | omega | contradiction)
          | refine S.o (q.fa 1 am_fi36_1 am_cl3) (S.o (q.lv am_ag3) (S.o q.gtr (S.o q.pf (S.end (hK _ ?_)))))
            clear hK K
            refine Ev.cd (fun c6 => ?_) (fun c6 => ?_)
            · first
            | (first | omega | contradiction)
            | refine Ev.sr fun K hK => S.o q.as (S.o q.as (S.end (hK _ ?_)))
              clear hK K
              refine Ev.ret ?_
              refine hR0 _ _ ?_
              refine Ev.ret2 ?_
              refine ⟨?_, rfl⟩
              first
               | (rw [(bars_4 ‹_›).1, (bars_4 ‹_›).2]; done)
               | (rw [(bars_2 ‹_› (fun h => by have h1 := h s (by rw [← hp]; simp); unfold barOk at h1; omega)).1, (bars_2 ‹_› (fun h => by have h1 := h s (by rw [← hp]; simp); unfold barOk at h1; omega)).2]; done)
               | (rw [(bars_0 ‹_› hinv).1, (bars_0 ‹_› hinv).2]; done)
            · first
            | (first | omega | contradiction)
            | refine Ev.skip ?_
              show Ev _ _ _ _
              refine Ev.region_S fun K hK => S.o q.mv (S.o (q.fa 1 am_fi36_1 am_cl3) (S.o (q.lv am_ag3) (S.o (q.fa 0 am_fi36_0 am_cl3) (S.o (q.lv am_ag3) (S.o q.sub (S.o q.add (S.o q.as (S.end (hK _ ?_)))))))))
              clear hK K
              show Ev _ _ _ _
              refine Ev.region_S fun K hK => S.o q.add (S.o q.mv (S.end (hK _ ?_)))
              clear hK K
              refine hR0 _ _ ?_
              refine roundU [] [10, 11] ⟨(pre ++ [s], suf), by rw [← hp]; simp, ?_⟩ ?_ keep_n (slots_c (he := (by first | rfl | (congr 2; simp; done))) (h := (slots_c (he := (by first | rfl | exact iE (spanS_snoc _ _).symm)) (h := trivial)))) (.c (.c .n))
              intro x hx; simp only [List.mem_append, List.mem_singleton] at hx; rcases hx with hx | rfl
              · exact hinv x hx
              · exact ⟨by omega, by omega, by omega⟩
              all_goals (dsimp only; simp only [List.length_cons]; omega)
      · first | omega | contradiction

theorem rBars_fun (bars : List (Int × Int)) (hlen : bars.length ≤ 140737488355328) : Fun Try.prog 32 [.sh 2 (bars.map stepC)] (Ret (.lit (.int .i64 (barsE bars))) []) := by
  refine Fun.of (nt := 40) (rs := [.tmp 2]) Try.func32 rfl rfl rfl rfl rfl ?_
  refine Ev.sr fun K hK => S.o q.as (S.end (hK _ ?_))
  clear hK K
  refine Ev.seq ?_
  refine Ev.sr fun K hK => S.o q.mv (S.o (q.lens am_el25) (S.o q.gtr (S.end (hK _ ?_))))
  clear hK K
  refine Ev.cd (fun c1 => ?_) (fun c1 => ?_)
  · first
  | (first | omega | contradiction)
  | refine Ev.sr fun K hK => S.o q.as (S.end (hK _ ?_))
    clear hK K
    refine Ev.ret ?_
    refine Ev.ret1 ?_
    refine ⟨?_, rfl⟩
    first
     | (rw [(bars_4 ‹_›).1]; done)
     | (rw [(bars_2 ‹_› (fun h => by have h1 := h s (by rw [← hp]; simp); unfold barOk at h1; omega)).1]; done)
     | (rw [(bars_0 ‹_› hinv).1]; done)
  · first
  | (first | omega | contradiction)
  | refine Ev.skip ?_
    show Ev _ _ _ _
    refine Ev.seq ?_
    refine Ev.sr fun K hK => S.o q.as (S.end (hK _ ?_))
    clear hK K
    refine Ev.block ?_
    refine Ev.loopU (ι := {q : List (Int × Int) × List (Int × Int) // q.1 ++ q.2 = bars ∧ ∀ x ∈ q.1, barOk x}) [] [0] (fun ⟨(pre, suf), _⟩ => [(3, .lit (.int .i64 ((pre.length : Int))))]) (fun ⟨(pre, suf), _⟩ => []) (fun ⟨(pre, suf), _⟩ => suf.length) ⟨([], bars), rfl, fun x hx => by simp at hx⟩ (.c .n) keep_n (slots_c (he := (by first | rfl | (simp; done) | (congr 2; omega))) (h := trivial)) ?_
    rintro ⟨⟨pre, suf⟩, hp, hinv⟩ R0 hR0
    dsimp only [List.cons_append, List.nil_append, List.length_cons, List.length_nil]
    simp only at hp hinv
    have hpl : pre.length + suf.length = (bars).length := by rw [← hp, List.length_append]
    rcases suf with _ | ⟨s, suf⟩
    · rw [List.append_nil] at hp; subst pre; simp only [List.length_nil] at hpl
      refine Ev.seq ?_
      refine Ev.sr fun K hK => S.o q.mv (S.o q.mv (S.o (q.lens am_el25) (S.o q.lss (S.end (hK _ ?_)))))
      clear hK K
      refine Ev.cd (fun c2 => ?_) (fun c2 => ?_)
      · first | omega | contradiction
      · first
      | (first | omega | contradiction)
      | refine Ev.exit ?_
        refine hR0 _ _ ?_
        show Ev _ _ _ _
        refine Ev.sr fun K hK => S.o q.as (S.end (hK _ ?_))
        clear hK K
        refine Ev.ret ?_
        refine Ev.ret1 ?_
        refine ⟨?_, rfl⟩
        first
         | (rw [(bars_4 ‹_›).1]; done)
         | (rw [(bars_2 ‹_› (fun h => by have h1 := h s (by rw [← hp]; simp); unfold barOk at h1; omega)).1]; done)
         | (rw [(bars_0 ‹_› hinv).1]; done)
    · simp only [List.length_cons] at hpl
      have hidx : (bars)[pre.length]? = some s := by rw [← hp]; simp
      refine Ev.seq ?_
      refine Ev.sr fun K hK => S.o q.mv (S.o q.mv (S.o (q.lens am_el25) (S.o q.lss (S.end (hK _ ?_)))))
      clear hK K
      refine Ev.cd (fun c3 => ?_) (fun c3 => ?_)
      · first
      | (first | omega | contradiction)
      | refine Ev.skip ?_
        show Ev _ _ _ _
        refine Ev.seq ?_
        refine Ev.block ?_
        refine Ev.sm (tbs [(0, 0), (0, 0), (2, 3), (3, 7), (4, 15), (5, 31), (6, 63), (7, 127), (7, 127), (9, 511), (10, 1023), (11, 2047), (12, 4095), (13, 8191), (14, 16383), (15, 32767), (15, 32767), (17, 131071), (18, 262143), (19, 524287), (15, 32767), (15, 32767), (22, 3178495), (23, 7372799), (24, 15761407), (25, 33554431), (26, 67108863)]) 27 fun K hK => M.o q.mv (M.o q.mv (M.o (q.ix am_el25 am_cl36 (hl := (by first | exact ati hidx (by omega) | exact atig (by omega)))) (M.o (q.fs 0 am_fi36_0 am_cl3) (M.o (q.ls am_ag3) (M.o q.lss (M.bd q.mv (fun c4 => ?_) (fun c4 => ?_)))))))
        · first
        | (first | omega | contradiction)
        | refine M.sk (M.sk (M.sk (M.sk (M.sk (M.sk (M.o q.pt (M.o q.mv (M.sk (M.sk (M.sk (M.sk (M.sk (M.sk (M.sk (M.sk (M.sk (M.sk (M.sk (M.o q.pt (M.end [] (h := S.end (hK _ ?_))))))))))))))))))))))
          clear hK K
          refine Ev.ct ?_
          refine Ev.sr fun K hK => S.o q.as (S.end (hK _ ?_))
          clear hK K
          refine Ev.ret ?_
          refine hR0 _ _ ?_
          refine Ev.ret1 ?_
          refine ⟨?_, rfl⟩
          first
           | (rw [(bars_4 ‹_›).1]; done)
           | (rw [(bars_2 ‹_› (fun h => by have h1 := h s (by rw [← hp]; simp); unfold barOk at h1; omega)).1]; done)
           | (rw [(bars_0 ‹_› hinv).1]; done)
        · first
        | (first | omega | contradiction)
        | refine M.o q.mv (M.o q.mv (M.o (q.ix am_el25 am_cl36 (hl := (by first | exact ati hidx (by omega) | exact atig (by omega)))) (M.o (q.fs 1 am_fi36_1 am_cl3) (M.o (q.ls am_ag3) (M.o q.gtr (M.o q.pf (M.bd q.mv (fun c5 => ?_) (fun c5 => ?_))))))))
          · first
          | (first | omega | contradiction)
          | refine M.sk (M.sk (M.sk (M.sk (M.sk (M.sk (M.sk (M.sk (M.sk (M.sk (M.sk (M.o q.pt (M.end [] (h := S.end (hK _ ?_))))))))))))))
            clear hK K
            refine Ev.ct ?_
            refine Ev.sr fun K hK => S.o q.as (S.end (hK _ ?_))
            clear hK K
            refine Ev.ret ?_
            refine hR0 _ _ ?_
            refine Ev.ret1 ?_
            refine ⟨?_, rfl⟩
            first
             | (rw [(bars_4 ‹_›).1]; done)
             | (rw [(bars_2 ‹_› (fun h => by have h1 := h s (by rw [← hp]; simp); unfold barOk at h1; omega)).1]; done)
             | (rw [(bars_0 ‹_› hinv).1]; done)
          · first
          | (first | omega | contradiction)
          | refine M.o q.mv (M.o q.mv (M.o (q.ix am_el25 am_cl36 (hl := (by first | exact ati hidx (by omega) | exact atig (by omega)))) (M.o (q.fs 0 am_fi36_0 am_cl3) (M.o (q.ls am_ag3) (M.o q.mv (M.o q.mv (M.o (q.ix am_el25 am_cl36 (hl := (by first | exact ati hidx (by omega) | exact atig (by omega)))) (M.o (q.fs 1 am_fi36_1 am_cl3) (M.o (q.ls am_ag3) (M.o q.gtr (M.o q.pf (M.end [] (h := S.end (hK _ ?_))))))))))))))
            clear hK K
            refine Ev.cd (fun c6 => ?_) (fun c6 => ?_)
            · first
            | (first | omega | contradiction)
            | refine Ev.sr fun K hK => S.o q.as (S.end (hK _ ?_))
              clear hK K
              refine Ev.ret ?_
              refine hR0 _ _ ?_
              refine Ev.ret1 ?_
              refine ⟨?_, rfl⟩
              first
               | (rw [(bars_4 ‹_›).1]; done)
               | (rw [(bars_2 ‹_› (fun h => by have h1 := h s (by rw [← hp]; simp); unfold barOk at h1; omega)).1]; done)
               | (rw [(bars_0 ‹_› hinv).1]; done)
            · first
            | (first | omega | contradiction)
            | refine Ev.skip ?_
              show Ev _ _ _ _
              refine Ev.region_S fun K hK => S.o q.mv (S.o q.add (S.o q.as (S.end (hK _ ?_))))
              clear hK K
              refine hR0 _ _ ?_
              refine roundU [] [0] ⟨(pre ++ [s], suf), by rw [← hp]; simp, ?_⟩ ?_ keep_n (slots_c (he := (by first | rfl | (simp; done) | (congr 2; omega))) (h := trivial)) (.c .n)
              intro x hx; simp only [List.mem_append, List.mem_singleton] at hx; rcases hx with hx | rfl
              · exact hinv x hx
              · exact ⟨by omega, by omega, by omega⟩
              all_goals (dsimp only; simp only [List.length_cons]; omega)
      · first | omega | contradiction

theorem rTotal_fun (bars : List (Int × Int)) (h : barsE bars = 0) : Fun Try.prog 33 [.sh 2 (bars.map stepC)] (Ret (.lit (.int .i64 (spanS bars))) []) := by
  obtain ⟨hl, hok, _⟩ := bars_ok h
  refine Fun.of (nt := 25) (rs := [.tmp 2]) Try.func33 rfl rfl rfl rfl rfl ?_
  refine Ev.sr fun K hK => S.o q.as (S.end (hK _ ?_))
  clear hK K
  refine Ev.sr fun K hK => S.o q.as (S.end (hK _ ?_))
  clear hK K
  refine Ev.seq ?_
  refine Ev.sr fun K hK => S.o q.as (S.end (hK _ ?_))
  clear hK K
  refine Ev.block ?_
  refine Ev.loopU (ι := {p : List (Int × Int) × List (Int × Int) // p.1 ++ p.2 = bars ∧ True}) [] [0, 2] (fun ⟨(pre, suf), _⟩ => [(4, .lit (.int .i64 ((pre.length : Int)))), (3, .lit (.int .i64 (spanS pre)))]) (fun ⟨(pre, suf), _⟩ => []) (fun ⟨(pre, suf), _⟩ => suf.length) ⟨([], bars), rfl, trivial⟩ (.c (.c .n)) keep_n (slots_c (he := (by first | rfl | (congr 2; simp; done))) (h := (slots_c (he := (by first | rfl | exact iE (by rw [spanS_snoc]; omega))) (h := trivial)))) ?_
  rintro ⟨⟨pre, suf⟩, hp, hinv⟩ R0 hR0
  dsimp only [List.cons_append, List.nil_append, List.length_cons, List.length_nil]
  simp only at hp hinv
  have hpl : pre.length + suf.length = (bars).length := by rw [← hp, List.length_append]
  rcases suf with _ | ⟨s, suf⟩
  · rw [List.append_nil] at hp; subst pre; simp only [List.length_nil] at hpl
    refine Ev.seq ?_
    refine Ev.sr fun K hK => S.o q.mv (S.o q.mv (S.o (q.lens am_el25) (S.o q.lss (S.end (hK _ ?_)))))
    clear hK K
    refine Ev.cd (fun c1 => ?_) (fun c1 => ?_)
    · first | omega | contradiction
    · first
    | (first | omega | contradiction)
    | refine Ev.exit ?_
      refine hR0 _ _ ?_
      show Ev _ _ _ _
      refine Ev.sr fun K hK => S.o q.mv (S.o q.as (S.end (hK _ ?_)))
      clear hK K
      refine Ev.ret ?_
      refine Ev.ret1 ?_
      refine ⟨?_, rfl⟩
      rfl
  · simp only [List.length_cons] at hpl
    have hidx : (bars)[pre.length]? = some s := by rw [← hp]; simp
    have hsok := hok s (by rw [← hp]; simp)
    unfold barOk at hsok
    have hsb := spanS_bd pre (fun x hx => hok x (by rw [← hp]; simp [hx]))
    refine Ev.seq ?_
    refine Ev.sr fun K hK => S.o q.mv (S.o q.mv (S.o (q.lens am_el25) (S.o q.lss (S.end (hK _ ?_)))))
    clear hK K
    refine Ev.cd (fun c2 => ?_) (fun c2 => ?_)
    · first
    | (first | omega | contradiction)
    | refine Ev.skip ?_
      show Ev _ _ _ _
      refine Ev.seq ?_
      refine Ev.block ?_
      refine Ev.region_M (tbs [(0, 0), (0, 0), (0, 0), (3, 6), (4, 14), (5, 30), (6, 63), (0, 0), (0, 0), (9, 384), (10, 896), (11, 1920), (12, 4095), (13, 8191)]) 13 fun K hK => M.o q.mv (M.o q.mv (M.o q.mv (M.o (q.ix am_el25 am_cl36 (hl := (by first | exact ati hidx (by omega) | exact atig (by omega)))) (M.o (q.fs 1 am_fi36_1 am_cl3) (M.o (q.ls am_ag3) (M.o q.add (M.o q.mv (M.o q.mv (M.o (q.ix am_el25 am_cl36 (hl := (by first | exact ati hidx (by omega) | exact atig (by omega)))) (M.o (q.fs 0 am_fi36_0 am_cl3) (M.o (q.ls am_ag3) (M.o q.sub (M.end [] (h := S.o q.as (S.end (hK _ ?_))))))))))))))))
      clear hK K
      show Ev _ _ _ _
      refine Ev.region_S fun K hK => S.o q.mv (S.o q.add (S.o q.as (S.end (hK _ ?_))))
      clear hK K
      refine hR0 _ _ ?_
      refine roundU [] [0, 2] ⟨(pre ++ [s], suf), by rw [← hp]; simp, ?_⟩ ?_ keep_n (slots_c (he := (by first | rfl | (congr 2; simp; done))) (h := (slots_c (he := (by first | rfl | exact iE (by rw [spanS_snoc]; omega))) (h := trivial)))) (.c (.c .n))
      trivial
      all_goals (dsimp only; simp only [List.length_cons]; omega)
    · first | omega | contradiction

theorem serveAt_snoc (b : List (Int × Int)) (s : Int × Int) (a x : Int) : serveAt (b ++ [s]) a x = serveAt b a x + (if s.1 + a ≤ x ∧ x < s.2 - a then 1 else 0) := by simp [serveAt]
theorem serve_yes {b : List (Int × Int)} {s : Int × Int} {a x : Int} (h1 : s.1 + a ≤ x) (h2 : x < s.2 - a) : serveAt b a x + 1 = serveAt (b ++ [s]) a x := by rw [serveAt_snoc, if_pos ⟨h1, h2⟩]
theorem serve_no {b : List (Int × Int)} {s : Int × Int} {a x : Int} (h : ¬ (s.1 + a ≤ x ∧ x < s.2 - a)) : serveAt b a x = serveAt (b ++ [s]) a x := by rw [serveAt_snoc, if_neg h, Int.add_zero]
theorem rserve_fun (bars : List (Int × Int)) (a x : Int) (hl : bars.length ≤ 1000) (hok : ∀ s ∈ bars, barOk s) (ha : 0 ≤ a) (ha2 : a ≤ 1048576) : Fun Try.prog 58 [.sh 2 (bars.map stepC), .lit (.int .i64 a), .lit (.int .i64 x)] (Ret (.lit (.int .i64 (serveAt bars a x))) []) := by
  refine Fun.of (nt := 38) (rs := [.tmp 6]) Try.func58 rfl rfl rfl rfl rfl ?_
  refine Ev.sr fun K hK => S.o q.as (S.end (hK _ ?_))
  clear hK K
  refine Ev.sr fun K hK => S.o q.as (S.end (hK _ ?_))
  clear hK K
  refine Ev.seq ?_
  refine Ev.sr fun K hK => S.o q.as (S.end (hK _ ?_))
  clear hK K
  refine Ev.block ?_
  refine Ev.loopU (ι := {p : List (Int × Int) × List (Int × Int) // p.1 ++ p.2 = bars ∧ True}) [] [0, 1, 2, 6] (fun ⟨(pre, suf), _⟩ => [(8, .lit (.int .i64 ((pre.length : Int)))), (7, .lit (.int .i64 (serveAt pre a x)))]) (fun ⟨(pre, suf), _⟩ => []) (fun ⟨(pre, suf), _⟩ => suf.length) ⟨([], bars), rfl, trivial⟩ (.c (.c (.c (.c .n)))) keep_n (slots_c (he := (by first | rfl | (congr 2; simp; done))) (h := (slots_c (he := (by first | rfl | exact iE (serve_yes (by omega) (by omega)) | exact iE (serve_no (by omega)))) (h := trivial)))) ?_
  rintro ⟨⟨pre, suf⟩, hp, hinv⟩ R0 hR0
  dsimp only [List.cons_append, List.nil_append, List.length_cons, List.length_nil]
  simp only at hp hinv
  have hpl : pre.length + suf.length = (bars).length := by rw [← hp, List.length_append]
  rcases suf with _ | ⟨s, suf⟩
  · rw [List.append_nil] at hp; subst pre; simp only [List.length_nil] at hpl
    refine Ev.seq ?_
    refine Ev.sr fun K hK => S.o q.mv (S.o q.mv (S.o (q.lens am_el25) (S.o q.lss (S.end (hK _ ?_)))))
    clear hK K
    refine Ev.cd (fun c1 => ?_) (fun c1 => ?_)
    · first | omega | contradiction
    · first
    | (first | omega | contradiction)
    | refine Ev.exit ?_
      refine hR0 _ _ ?_
      show Ev _ _ _ _
      refine Ev.sr fun K hK => S.o q.mv (S.o q.as (S.end (hK _ ?_)))
      clear hK K
      refine Ev.ret ?_
      refine Ev.ret1 ?_
      refine ⟨?_, rfl⟩
      rfl
  · simp only [List.length_cons] at hpl
    have hidx : (bars)[pre.length]? = some s := by rw [← hp]; simp
    have hsok := hok s (by rw [← hp]; simp)
    unfold barOk at hsok
    have hsb := serveAt_nn a x pre
    refine Ev.seq ?_
    refine Ev.sr fun K hK => S.o q.mv (S.o q.mv (S.o (q.lens am_el25) (S.o q.lss (S.end (hK _ ?_)))))
    clear hK K
    refine Ev.cd (fun c2 => ?_) (fun c2 => ?_)
    · first
    | (first | omega | contradiction)
    | refine Ev.skip ?_
      show Ev _ _ _ _
      refine Ev.seq ?_
      refine Ev.block ?_
      refine Ev.sr fun K hK => S.o q.mv (S.o q.mv (S.o (q.ix am_el25 am_cl36 (hl := (by first | exact ati hidx (by omega) | exact atig (by omega)))) (S.o (q.fs 0 am_fi36_0 am_cl3) (S.o (q.ls am_ag3) (S.o q.mv (S.o q.add (S.o q.mv (S.o q.leq (S.bd q.mv (fun c3 => ?_) (fun c3 => ?_))))))))))
      · first
      | (first | omega | contradiction)
      | refine S.o q.mv (S.o q.mv (S.o q.mv (S.o (q.ix am_el25 am_cl36 (hl := (by first | exact ati hidx (by omega) | exact atig (by omega)))) (S.o (q.fs 1 am_fi36_1 am_cl3) (S.o (q.ls am_ag3) (S.o q.mv (S.o q.sub (S.o q.lss (S.o q.pt (S.end (hK _ ?_)))))))))))
        clear hK K
        refine Ev.cd (fun c4 => ?_) (fun c4 => ?_)
        · first
        | (first | omega | contradiction)
        | refine Ev.region_S fun K hK => S.o q.mv (S.o q.add (S.o q.as (S.end (hK _ ?_))))
          clear hK K
          show Ev _ _ _ _
          refine Ev.region_S fun K hK => S.o q.mv (S.o q.add (S.o q.as (S.end (hK _ ?_))))
          clear hK K
          refine hR0 _ _ ?_
          refine roundU [] [0, 1, 2, 6] ⟨(pre ++ [s], suf), by rw [← hp]; simp, ?_⟩ ?_ keep_n (slots_c (he := (by first | rfl | (congr 2; simp; done))) (h := (slots_c (he := (by first | rfl | exact iE (serve_yes (by omega) (by omega)) | exact iE (serve_no (by omega)))) (h := trivial)))) (.c (.c (.c (.c .n))))
          trivial
          all_goals (dsimp only; simp only [List.length_cons]; omega)
        · first
        | (first | omega | contradiction)
        | refine Ev.skip ?_
          show Ev _ _ _ _
          refine Ev.region_S fun K hK => S.o q.mv (S.o q.add (S.o q.as (S.end (hK _ ?_))))
          clear hK K
          refine hR0 _ _ ?_
          refine roundU [] [0, 1, 2, 6] ⟨(pre ++ [s], suf), by rw [← hp]; simp, ?_⟩ ?_ keep_n (slots_c (he := (by first | rfl | (congr 2; simp; done))) (h := (slots_c (he := (by first | rfl | exact iE (serve_yes (by omega) (by omega)) | exact iE (serve_no (by omega)))) (h := trivial)))) (.c (.c (.c (.c .n))))
          trivial
          all_goals (dsimp only; simp only [List.length_cons]; omega)
      · first
      | (first | omega | contradiction)
      | refine S.sk (S.sk (S.sk (S.sk (S.sk (S.sk (S.sk (S.sk (S.sk (S.o q.pf (S.end (hK _ ?_)))))))))))
        clear hK K
        refine Ev.cf ?_
        refine Ev.skip ?_
        show Ev _ _ _ _
        refine Ev.region_S fun K hK => S.o q.mv (S.o q.add (S.o q.as (S.end (hK _ ?_))))
        clear hK K
        refine hR0 _ _ ?_
        refine roundU [] [0, 1, 2, 6] ⟨(pre ++ [s], suf), by rw [← hp]; simp, ?_⟩ ?_ keep_n (slots_c (he := (by first | rfl | (congr 2; simp; done))) (h := (slots_c (he := (by first | rfl | exact iE (serve_yes (by omega) (by omega)) | exact iE (serve_no (by omega)))) (h := trivial)))) (.c (.c (.c (.c .n))))
        trivial
        all_goals (dsimp only; simp only [List.length_cons]; omega)
    · first | omega | contradiction

theorem rAt_fun (l : List (Int × Int)) (x : Int) (hl : l.length ≤ 200) : Fun Try.prog 59 [.sh 2 (l.map stepC), .lit (.int .i64 x)] (Ret (.lit (.int .i64 (needAt l x))) []) := by
  refine Fun.of (nt := 26) (rs := [.tmp 4]) Try.func59 rfl rfl rfl rfl rfl ?_
  refine Ev.sr fun K hK => S.o q.as (S.end (hK _ ?_))
  clear hK K
  refine Ev.sr fun K hK => S.o q.as (S.end (hK _ ?_))
  clear hK K
  refine Ev.seq ?_
  refine Ev.sr fun K hK => S.o q.as (S.end (hK _ ?_))
  clear hK K
  refine Ev.block ?_
  refine Ev.loopU (ι := {p : List (Int × Int) × List (Int × Int) // p.1 ++ p.2 = l ∧ True}) [] [0, 1, 4] (fun ⟨(pre, suf), _⟩ => [(6, .lit (.int .i64 ((pre.length : Int)))), (5, .lit (.int .i64 (needAt pre x)))]) (fun ⟨(pre, suf), _⟩ => []) (fun ⟨(pre, suf), _⟩ => suf.length) ⟨([], l), rfl, trivial⟩ (.c (.c (.c .n))) keep_n (slots_c (he := (by first | rfl | (congr 2; simp; done))) (h := (slots_c (he := (by first | rfl | exact iE (by rw [needAt_snoc, if_pos ‹_›]) | exact iE (by rw [needAt_snoc, if_neg ‹_›]))) (h := trivial)))) ?_
  rintro ⟨⟨pre, suf⟩, hp, hinv⟩ R0 hR0
  dsimp only [List.cons_append, List.nil_append, List.length_cons, List.length_nil]
  simp only at hp hinv
  have hpl : pre.length + suf.length = (l).length := by rw [← hp, List.length_append]
  rcases suf with _ | ⟨s, suf⟩
  · rw [List.append_nil] at hp; subst pre; simp only [List.length_nil] at hpl
    refine Ev.seq ?_
    refine Ev.sr fun K hK => S.o q.mv (S.o q.mv (S.o (q.lens am_el22) (S.o q.lss (S.end (hK _ ?_)))))
    clear hK K
    refine Ev.cd (fun c1 => ?_) (fun c1 => ?_)
    · first | omega | contradiction
    · first
    | (first | omega | contradiction)
    | refine Ev.exit ?_
      refine hR0 _ _ ?_
      show Ev _ _ _ _
      refine Ev.sr fun K hK => S.o q.mv (S.o q.as (S.end (hK _ ?_)))
      clear hK K
      refine Ev.ret ?_
      refine Ev.ret1 ?_
      refine ⟨?_, rfl⟩
      rfl
  · simp only [List.length_cons] at hpl
    have hidx : (l)[pre.length]? = some s := by rw [← hp]; simp
    refine Ev.seq ?_
    refine Ev.sr fun K hK => S.o q.mv (S.o q.mv (S.o (q.lens am_el22) (S.o q.lss (S.end (hK _ ?_)))))
    clear hK K
    refine Ev.cd (fun c2 => ?_) (fun c2 => ?_)
    · first
    | (first | omega | contradiction)
    | refine Ev.skip ?_
      show Ev _ _ _ _
      refine Ev.seq ?_
      refine Ev.block ?_
      refine Ev.sr fun K hK => S.o q.mv (S.o q.mv (S.o (q.ix am_el22 am_cl57 (hl := (by first | exact ati hidx (by omega) | exact atig (by omega)))) (S.o (q.fs 0 am_fi57_0 am_cl3) (S.o (q.ls am_ag3) (S.o q.mv (S.o q.leq (S.end (hK _ ?_))))))))
      clear hK K
      refine Ev.cd (fun c3 => ?_) (fun c3 => ?_)
      · first
      | (first | omega | contradiction)
      | refine Ev.region_S fun K hK => S.o q.mv (S.o q.mv (S.o (q.ix am_el22 am_cl57 (hl := (by first | exact ati hidx (by omega) | exact atig (by omega)))) (S.o (q.fs 1 am_fi57_1 am_cl3) (S.o (q.ls am_ag3) (S.o q.as (S.end (hK _ ?_)))))))
        clear hK K
        show Ev _ _ _ _
        refine Ev.region_S fun K hK => S.o q.mv (S.o q.add (S.o q.as (S.end (hK _ ?_))))
        clear hK K
        refine hR0 _ _ ?_
        refine roundU [] [0, 1, 4] ⟨(pre ++ [s], suf), by rw [← hp]; simp, ?_⟩ ?_ keep_n (slots_c (he := (by first | rfl | (congr 2; simp; done))) (h := (slots_c (he := (by first | rfl | exact iE (by rw [needAt_snoc, if_pos ‹_›]) | exact iE (by rw [needAt_snoc, if_neg ‹_›]))) (h := trivial)))) (.c (.c (.c .n)))
        trivial
        all_goals (dsimp only; simp only [List.length_cons]; omega)
      · first
      | (first | omega | contradiction)
      | refine Ev.skip ?_
        show Ev _ _ _ _
        refine Ev.region_S fun K hK => S.o q.mv (S.o q.add (S.o q.as (S.end (hK _ ?_))))
        clear hK K
        refine hR0 _ _ ?_
        refine roundU [] [0, 1, 4] ⟨(pre ++ [s], suf), by rw [← hp]; simp, ?_⟩ ?_ keep_n (slots_c (he := (by first | rfl | (congr 2; simp; done))) (h := (slots_c (he := (by first | rfl | exact iE (by rw [needAt_snoc, if_pos ‹_›]) | exact iE (by rw [needAt_snoc, if_neg ‹_›]))) (h := trivial)))) (.c (.c (.c .n)))
        trivial
        all_goals (dsimp only; simp only [List.length_cons]; omega)
    · first | omega | contradiction

theorem okAt_no {l bars : List (Int × Int)} {a A x : Int} (h : serveAt bars a x * A < needAt l x) : ¬ okAt l bars a A x := by unfold okAt; omega
theorem okAt_yes {l bars : List (Int × Int)} {a A x : Int} (h : ¬ serveAt bars a x * A < needAt l x) : okAt l bars a A x := by unfold okAt; omega
theorem okSteps_asc {l : List (Int × Int)} (h : okL none l) : l.Pairwise fun p q => p.1 < q.1 := by
  have : ∀ (l : List (Int × Int)) (p : Option (Int × Int)), okL p l → l.Pairwise fun p q => p.1 < q.1 := by
    intro l
    induction l with
    | nil => intro _ _; exact List.Pairwise.nil
    | cons s l ih => intro p h; exact List.pairwise_cons.2 ⟨fun q hq => okL_head h.2 s rfl q hq, ih _ h.2⟩
  exact this l none h
theorem needAt_own {s : Int × Int} : ∀ l : List (Int × Int), l.Pairwise (fun p q => p.1 < q.1) → s ∈ l → needAt l s.1 = s.2 := by
  refine snocI (fun _ h => by cases h) ?_
  intro l x ih hp hs
  rw [List.pairwise_append] at hp
  rw [needAt_snoc]
  rcases List.mem_append.1 hs with hs | hs
  · have := hp.2.2 s hs x (by simp)
    rw [if_neg (by omega)]
    exact ih hp.1 hs
  · rw [List.mem_singleton] at hs
    subst hs
    rw [if_pos (Int.le_refl _)]
theorem rCheck_fun (l : List (Int × Int)) (d a : Int) (bars : List (Int × Int)) (hg : givenE l d a = 0) (hb : barsE bars = 0) : Fun Try.prog 34 [.sh 2 (l.map stepC), .lit (.int .i64 d), .lit (.int .i64 a), .sh 2 (bars.map stepC)] (Ret (.lit (.bool (decide (checkP l a (areaOf d) bars)))) []) := by
  obtain ⟨hs1, hs2, hlast, hz, ha0, ha1, hA0, hA1⟩ := givenZ hg
  obtain ⟨hbl, hbo, _⟩ := bars_ok hb
  have hasc := okSteps_asc hs2
  have hd : 0 ≤ d ∧ d ≤ 1000 := by have h := hz; simp only [sizes, List.mem_cons, List.not_mem_nil, or_false] at h; omega
  refine Fun.of (nt := 60) (rs := [.tmp 8]) Try.func34 rfl rfl rfl rfl rfl ?_
  refine Ev.sr fun K hK => S.o q.as (S.end (hK _ ?_))
  clear hK K
  refine Ev.sr fun K hK => S.o q.mv (S.c0 (hF := rarea_fun _ (by omega) (by omega)) (h := S.o q.as (S.end (hK _ ?_))))
  clear hK K
  refine Ev.seq ?_
  refine Ev.sr fun K hK => S.o q.as (S.end (hK _ ?_))
  clear hK K
  refine Ev.block ?_
  refine Ev.loopU (ι := {q : List (Int × Int) × List (Int × Int) // q.1 ++ q.2 = l ∧ ∀ x ∈ q.1, okAt l bars a (areaOf d) x.1}) [] [0, 2, 3, 9] (fun ⟨(pre, suf), _⟩ => [(10, .lit (.int .i64 ((pre.length : Int))))]) (fun ⟨(pre, suf), _⟩ => []) (fun ⟨(pre, suf), _⟩ => suf.length) ⟨([], l), rfl, fun x hx => by simp at hx⟩ (.c (.c (.c (.c .n)))) keep_n (slots_c (he := (by first | rfl | (simp; done) | (congr 2; omega))) (h := trivial)) ?_
  rintro ⟨⟨pre, suf⟩, hp, hinv⟩ R0 hR0
  dsimp only [List.cons_append, List.nil_append, List.length_cons, List.length_nil]
  simp only at hp hinv
  have hpl : pre.length + suf.length = (l).length := by rw [← hp, List.length_append]
  rcases suf with _ | ⟨s, suf⟩
  · rw [List.append_nil] at hp; subst pre; simp only [List.length_nil] at hpl
    refine Ev.seq ?_
    refine Ev.sr fun K hK => S.o q.mv (S.o q.mv (S.o (q.lens am_el22) (S.o q.lss (S.end (hK _ ?_)))))
    clear hK K
    refine Ev.cd (fun c1 => ?_) (fun c1 => ?_)
    · first | omega | contradiction
    · first
    | (first | omega | contradiction)
    | refine Ev.exit ?_
      refine hR0 _ _ ?_
      show Ev _ _ _ _
      refine Ev.seq ?_
      refine Ev.sr fun K hK => S.o q.as (S.end (hK _ ?_))
      clear hK K
      refine Ev.block ?_
      refine Ev.loopU (ι := {q : List (Int × Int) × List (Int × Int) // q.1 ++ q.2 = bars ∧ ∀ b ∈ q.1, okAt l bars a (areaOf d) (b.2 - a)}) [] [0, 2, 3, 9, 10, 15, 16, 17, 18] (fun ⟨(pre2, suf2), _⟩ => [(11, .lit (.int .i64 ((pre2.length : Int))))]) (fun ⟨(pre2, suf2), _⟩ => []) (fun ⟨(pre2, suf2), _⟩ => suf2.length) ⟨([], bars), rfl, fun x hx => by simp at hx⟩ (.c (.c (.c (.c (.c (.c (.c (.c (.c .n))))))))) keep_n (slots_c (he := (by first | rfl | (congr 2; simp; done))) (h := trivial)) ?_
      rintro ⟨⟨pre2, suf2⟩, hp2, hinv2⟩ R2 hR2
      dsimp only [List.cons_append, List.nil_append, List.length_cons, List.length_nil]
      simp only at hp2 hinv2
      have hpl2 : pre2.length + suf2.length = bars.length := by rw [← hp2, List.length_append]
      rcases suf2 with _ | ⟨s, suf2⟩
      · rw [List.append_nil] at hp2; simp only [List.length_nil] at hpl2
        refine Ev.seq ?_
        refine Ev.sr fun K hK => S.o q.mv (S.o q.mv (S.o (q.lens am_el25) (S.o q.lss (S.end (hK _ ?_)))))
        clear hK K
        refine Ev.cd (fun c2 => ?_) (fun c2 => ?_)
        · first | omega | contradiction
        · first
        | (first | omega | contradiction)
        | refine Ev.exit ?_
          refine hR2 _ _ ?_
          show Ev _ _ _ _
          refine Ev.sr fun K hK => S.o q.as (S.end (hK _ ?_))
          clear hK K
          refine Ev.ret ?_
          refine Ev.ret1 ?_
          refine ⟨?_, rfl⟩
          first
           | exact bF (fun h => okAt_no (by rw [hown]; omega) (h.1 s (by rw [← hp]; simp)))
           | exact bF (fun h => okAt_no (by omega) (h.2 s (by rw [← hp2]; simp)))
           | exact bT ⟨hinv, fun b hb => hinv2 b (by rw [hp2]; exact hb)⟩
      · simp only [List.length_cons] at hpl2
        have hidx2 : bars[pre2.length]? = some s := by rw [← hp2]; simp
        have hsok := hbo s (by rw [← hp2]; simp)
        unfold barOk at hsok
        obtain ⟨hv1, hv2⟩ := serveAt_nn a (s.2 - a) bars
        obtain ⟨hm1, hm2⟩ := mul_bd (K := 1000) (A := 125664) hv1 (by omega) (by omega : 0 ≤ areaOf d) hA1
        refine Ev.seq ?_
        refine Ev.sr fun K hK => S.o q.mv (S.o q.mv (S.o (q.lens am_el25) (S.o q.lss (S.end (hK _ ?_)))))
        clear hK K
        refine Ev.cd (fun c3 => ?_) (fun c3 => ?_)
        · first
        | (first | omega | contradiction)
        | refine Ev.skip ?_
          show Ev _ _ _ _
          refine Ev.seq ?_
          refine Ev.block ?_
          refine Ev.sr fun K hK => S.o q.mv (S.o q.mv (S.o (q.ix am_el25 am_cl36 (hl := (by first | exact ati hidx2 (by omega) | exact atig (by omega)))) (S.o (q.fs 1 am_fi36_1 am_cl3) (S.o (q.ls am_ag3) (S.o q.mv (S.o q.sub (S.o q.as (S.end (hK _ ?_)))))))))
          clear hK K
          refine Ev.sr fun K hK => S.o q.mv (S.o q.mv (S.o q.mv (S.c0 (hF := rserve_fun _ _ _ hbl hbo ha0 ha1) (h := S.o q.mv (S.o (q.mul (h1 := by omega) (h2 := by omega)) (S.o q.mv (S.o q.mv (S.c0 (hF := rAt_fun _ _ (by omega)) (h := S.o q.lss (S.end (hK _ ?_)))))))))))
          clear hK K
          refine Ev.cd (fun c4 => ?_) (fun c4 => ?_)
          · first
          | (first | omega | contradiction)
          | refine Ev.sr fun K hK => S.o q.as (S.end (hK _ ?_))
            clear hK K
            refine Ev.ret ?_
            refine hR2 _ _ ?_
            refine Ev.ret1 ?_
            refine ⟨?_, rfl⟩
            first
             | exact bF (fun h => okAt_no (by rw [hown]; omega) (h.1 s (by rw [← hp]; simp)))
             | exact bF (fun h => okAt_no (by omega) (h.2 s (by rw [← hp2]; simp)))
             | exact bT ⟨hinv, fun b hb => hinv2 b (by rw [hp2]; exact hb)⟩
          · first
          | (first | omega | contradiction)
          | refine Ev.skip ?_
            show Ev _ _ _ _
            refine Ev.region_S fun K hK => S.o q.mv (S.o q.add (S.o q.as (S.end (hK _ ?_))))
            clear hK K
            refine hR2 _ _ ?_
            refine roundU [] [0, 2, 3, 9, 10, 15, 16, 17, 18] ⟨(pre2 ++ [s], suf2), by rw [← hp2]; simp, ?_⟩ ?_ keep_n (slots_c (he := (by first | rfl | (congr 2; simp; done))) (h := trivial)) (.c (.c (.c (.c (.c (.c (.c (.c (.c .n)))))))))
            intro x hx; simp only [List.mem_append, List.mem_singleton] at hx; rcases hx with hx | rfl
            · exact hinv2 x hx
            · exact okAt_yes (by omega)
            all_goals (dsimp only; simp only [List.length_cons]; omega)
        · first | omega | contradiction
  · simp only [List.length_cons] at hpl
    have hidx : (l)[pre.length]? = some s := by rw [← hp]; simp
    have hown := needAt_own l hasc (s := s) (by rw [← hp]; simp)
    obtain ⟨hv1, hv2⟩ := serveAt_nn a s.1 bars
    obtain ⟨hm1, hm2⟩ := mul_bd (K := 1000) (A := 125664) hv1 (by omega) (by omega : 0 ≤ areaOf d) hA1
    refine Ev.seq ?_
    refine Ev.sr fun K hK => S.o q.mv (S.o q.mv (S.o (q.lens am_el22) (S.o q.lss (S.end (hK _ ?_)))))
    clear hK K
    refine Ev.cd (fun c5 => ?_) (fun c5 => ?_)
    · first
    | (first | omega | contradiction)
    | refine Ev.skip ?_
      show Ev _ _ _ _
      refine Ev.seq ?_
      refine Ev.block ?_
      refine Ev.sm (tbs [(0, 0), (0, 0), (0, 0), (0, 0), (4, 12), (5, 28), (6, 60), (7, 127), (0, 0), (9, 511), (0, 0), (0, 0), (12, 3072), (13, 7168), (14, 15360), (15, 32767)]) 16 fun K hK => M.o q.mv (M.o q.mv (M.o q.mv (M.o q.mv (M.o (q.ix am_el22 am_cl57 (hl := (by first | exact ati hidx (by omega) | exact atig (by omega)))) (M.o (q.fs 0 am_fi57_0 am_cl3) (M.o (q.ls am_ag3) (M.c0 (hF := rserve_fun _ _ _ hbl hbo ha0 ha1) (h := M.o q.mv (M.o (q.mul (h1 := by omega) (h2 := by omega)) (M.o q.mv (M.o q.mv (M.o (q.ix am_el22 am_cl57 (hl := (by first | exact ati hidx (by omega) | exact atig (by omega)))) (M.o (q.fs 1 am_fi57_1 am_cl3) (M.o (q.ls am_ag3) (M.o q.lss (M.end [] (h := S.end (hK _ ?_))))))))))))))))))
      clear hK K
      refine Ev.cd (fun c6 => ?_) (fun c6 => ?_)
      · first
      | (first | omega | contradiction)
      | refine Ev.sr fun K hK => S.o q.as (S.end (hK _ ?_))
        clear hK K
        refine Ev.ret ?_
        refine hR0 _ _ ?_
        refine Ev.ret1 ?_
        refine ⟨?_, rfl⟩
        first
         | exact bF (fun h => okAt_no (by rw [hown]; omega) (h.1 s (by rw [← hp]; simp)))
         | exact bF (fun h => okAt_no (by omega) (h.2 s (by rw [← hp2]; simp)))
         | exact bT ⟨hinv, fun b hb => hinv2 b (by rw [hp2]; exact hb)⟩
      · first
      | (first | omega | contradiction)
      | refine Ev.skip ?_
        show Ev _ _ _ _
        refine Ev.region_S fun K hK => S.o q.mv (S.o q.add (S.o q.as (S.end (hK _ ?_))))
        clear hK K
        refine hR0 _ _ ?_
        refine roundU [] [0, 2, 3, 9] ⟨(pre ++ [s], suf), by rw [← hp]; simp, ?_⟩ ?_ keep_n (slots_c (he := (by first | rfl | (simp; done) | (congr 2; omega))) (h := trivial)) (.c (.c (.c (.c .n))))
        intro x hx; simp only [List.mem_append, List.mem_singleton] at hx; rcases hx with hx | rfl
        · exact hinv x hx
        · exact okAt_yes (by rw [hown]; omega)
        all_goals (dsimp only; simp only [List.length_cons]; omega)
    · first | omega | contradiction
end Go.Proofs.Ytigjoaejncfmdaa
