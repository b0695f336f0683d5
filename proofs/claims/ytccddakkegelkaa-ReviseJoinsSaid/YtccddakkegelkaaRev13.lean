/-
  Layer 41: the reference, part 4.
  Conditions: none.
-/
import Derived.Test.YtccddakkegelkaaRev8
import Derived.Test.YtccddakkegelkaaRev8d
import Derived.Test.YtccddakkegelkaaRev6
namespace Go.Proofs.Ytccddakkegelkaa
open Go Go.AM
set_option linter.unusedSimpArgs false
set_option linter.unusedVariables false
set_option maxRecDepth 100000
set_option maxHeartbeats 1000000

theorem nb_t {b : Bool} (h : (!b) = false) : b = true := by simpa using h
theorem nb_f {b : Bool} (h : (!b) = true) : b = false := by simpa using h
theorem rjK_nn (f l : Int) : 0 ≤ rjK f l := by unfold rjK; repeat' split <;> omega
theorem rj_ok {m : List Chg} {s : Chg} {X : Int} (hX : ofK m s.2 = X) (h1 : 1 ≤ s.1) (h2 : s.1 ≤ 4) (h3 : 0 ≤ X) (h4 : X ≤ 4) (hB : rjB s.1 X = true) : joinK s.1 (ofK m s.2) = rjK s.1 X := by rw [hX, rj_law h1 h2 h3 h4, hB]; rfl
theorem rj_pos {m : List Chg} {s : Chg} {X : Int} (hX : ofK m s.2 = X) (h1 : 1 ≤ s.1) (h2 : s.1 ≤ 4) (h3 : 0 ≤ X) (h4 : X ≤ 4) (hB : rjB s.1 X = true) : 0 ≤ joinK s.1 (ofK m s.2) := by rw [rj_ok hX h1 h2 h3 h4 hB]; exact rjK_nn _ _
theorem rj_app {m : List Chg} {s : Chg} {X : Int} (hX : ofK m s.2 = X) (h1 : 1 ≤ s.1) (h2 : s.1 ≤ 4) (h3 : 0 ≤ X) (h4 : X ≤ 4) (hB : rjB s.1 X = true) (hk : ¬ rjK s.1 X = 0) : joinF m s = [(rjK s.1 X, s.2)] := by
  have h5 := rj_ok hX h1 h2 h3 h4 hB
  have h6 := rjK_nn s.1 X
  rw [joinF_pos (by omega), h5]
theorem rj_nil {m : List Chg} {s : Chg} {X : Int} (hX : ofK m s.2 = X) (h1 : 1 ≤ s.1) (h2 : s.1 ≤ 4) (h3 : 0 ≤ X) (h4 : X ≤ 4) (hB : rjB s.1 X = true) (hk : rjK s.1 X = 0) : joinF m s = [] := by
  have h5 := rj_ok hX h1 h2 h3 h4 hB
  exact joinF_neg (by omega)
theorem rj_bad {m : List Chg} {s : Chg} {X : Int} (hX : ofK m s.2 = X) (h1 : 1 ≤ s.1) (h2 : s.1 ≤ 4) (h3 : 0 ≤ X) (h4 : X ≤ 4) (hB : rjB s.1 X = false) : joinK s.1 (ofK m s.2) = -1 := by rw [hX, rj_law h1 h2 h3 h4, hB]; rfl
def RJ (m : List Chg) (s : Chg) (X : Int) : Prop := ofK m s.2 = X ∧ 1 ≤ s.1 ∧ s.1 ≤ 4 ∧ 0 ≤ X ∧ X ≤ 4
theorem rjA {m : List Chg} {s : Chg} {X : Int} (h : RJ m s X) (hB : (!rjB s.1 X) = false) (hk : ¬ rjK s.1 X = 0) : joinF m s = [(rjK s.1 X, s.2)] := rj_app h.1 h.2.1 h.2.2.1 h.2.2.2.1 h.2.2.2.2 (nb_t hB) hk
theorem rjN {m : List Chg} {s : Chg} {X : Int} (h : RJ m s X) (hB : (!rjB s.1 X) = false) (hk : rjK s.1 X = 0) : joinF m s = [] := rj_nil h.1 h.2.1 h.2.2.1 h.2.2.2.1 h.2.2.2.2 (nb_t hB) hk
theorem rjP {m : List Chg} {s : Chg} {X : Int} (h : RJ m s X) (hB : (!rjB s.1 X) = false) : 0 ≤ joinK s.1 (ofK m s.2) := rj_pos h.1 h.2.1 h.2.2.1 h.2.2.2.1 h.2.2.2.2 (nb_t hB)
theorem rjX {m : List Chg} {s : Chg} {X : Int} (h : RJ m s X) (hB : (!rjB s.1 X) = true) : joinK s.1 (ofK m s.2) = -1 := rj_bad h.1 h.2.1 h.2.2.1 h.2.2.2.1 h.2.2.2.2 (nb_f hB)
theorem join0 (k : Int) : joinK 0 k = if k = 3 then 3 else -1 := rfl
theorem joinG_3 {l : List Chg} {s : Chg} (h0 : ofK l s.2 = 0) (h : s.1 = 3) : joinG l s = [s] := by
  rw [joinG_pos h0 (by rw [join0, if_pos h]; omega), join0, if_pos h, ← h]
theorem rJoin_fun (l m : List Chg) (hyes : ok2 l m) : Fun Try.prog 30 [.sh 2 (l.map findC), .sh 2 (m.map findC)] (Ret (.tup [.sh 2 ((joinV l m).map findC), .lit (.int .i64 (joinE l m))]) []) := by
  have hll := hyes.1.1
  have hml := hyes.2.1
  refine Fun.of (nt := 88) (rs := [.tmp 4, .tmp 5]) Try.func30 rfl rfl rfl rfl rfl ?_
  refine Ev.sr fun K hK => S.o q.as (S.o q.as (S.end (hK _ ?_)))
  clear hK K
  refine Ev.sr fun K hK => S.o q.as (S.end (hK _ ?_))
  clear hK K
  refine Ev.seq ?_
  refine Ev.sr fun K hK => S.o q.as (S.end (hK _ ?_))
  clear hK K
  refine Ev.block ?_
  refine Ev.weaken (Wk.nown findC 6 36 2) ?_
  refine Ev.loopU (ι := {q : List Chg × List Chg // q.1 ++ q.2 = l ∧ ∀ c ∈ q.1, 0 ≤ joinK c.1 (ofK m c.2)}) [0] [0, 1] (fun ⟨(pre, suf), _⟩ => [(7, .lit (.int .i64 ((pre.length : Int)))), (6, .als 0 0 (pre.flatMap (joinF m)).length)]) (fun ⟨(pre, suf), _⟩ => [(0, ⟨true, 36, 2, (pre.flatMap (joinF m)).map findC, true⟩)]) (fun ⟨(pre, suf), _⟩ => suf.length) ⟨([], l), rfl, fun x hx => by simp at hx⟩ (.c (.c .n)) (keep_c (he := (by first | rfl | (rw [flat_snoc, rjA hr ‹_› ‹_›]) | (rw [flat_snoc, rjN hr ‹_› (by omega), List.append_nil]))) (h := keep_n)) (slots_c (he := (by first | rfl | (congr 2; simp; done))) (h := (slots_c (he := (by first | rfl | (congr 1; rw [flat_snoc, rjA hr ‹_› ‹_›]) | (rw [flat_snoc, rjN hr ‹_› (by omega), List.append_nil]))) (h := trivial)))) ?_
  rintro ⟨⟨pre, suf⟩, hp, hinv⟩ R0 hR0
  dsimp only [List.cons_append, List.nil_append, List.length_cons, List.length_nil]
  simp only at hp hinv
  have hpl : pre.length + suf.length = (l).length := by rw [← hp, List.length_append]
  rcases suf with _ | ⟨s, suf⟩
  · rw [List.append_nil] at hp; subst pre; simp only [List.length_nil] at hpl
    have hkl := flat_len (joinF m) (joinF_len m) l
    refine Ev.seq ?_
    refine Ev.sr fun K hK => S.o q.mv (S.o q.mv (S.o (q.lens am_el25) (S.o q.lss (S.end (hK _ ?_)))))
    clear hK K
    refine Ev.cd (fun c1 => ?_) (fun c1 => ?_)
    · first
    | (first | omega | contradiction)
    | refine Ev.skip ?_
      show Ev _ _ _ _
      refine Ev.seq ?_
      refine Ev.block ?_
      refine Ev.sr fun K hK => S.o q.as (S.end (hK _ ?_))
      clear hK K
      refine Ev.seq ?_
      refine Ev.sr fun K hK => S.o q.mv (S.o q.mv (S.o q.mv (S.o (q.ix am_el25 am_cl36 (hl := (by first | exact ati hmi (by omega) | exact atig (by omega)))) (S.o (q.fs 1 am_fi36_1 am_cl9) (S.o (q.ls am_ag9) (S.c0 (hF := rFind41_fun _ _ (by omega)) (h := S.o q.as (S.end (hK _ ?_)))))))))
      clear hK K
      refine Ev.sr fun K hK => S.o q.mv (S.o q.geq (S.end (hK _ ?_)))
      clear hK K
      refine Ev.cd (fun c2 => ?_) (fun c2 => ?_)
      · first
      | (first | omega | contradiction)
      | obtain ⟨hmi, hm1, hm2⟩ := chg_of (mk := s.2) hyes.2.2.1 (by omega)
        refine Ev.region_S fun K hK => S.o q.mv (S.o q.mv (S.o (q.ix am_el25 am_cl36 (hl := (by first | exact ati hmi (by omega) | exact atig (by omega)))) (S.o (q.fs 0 am_fi36_0 am_cl3) (S.o (q.ls am_ag3) (S.o q.as (S.end (hK _ ?_)))))))
        clear hK K
        show Ev _ _ _ _
        refine Ev.sr fun K hK => S.o q.mv (S.o q.mv (S.o (q.ix am_el25 am_cl36 (hl := (by first | exact ati hmi (by omega) | exact atig (by omega)))) (S.o (q.fs 0 am_fi36_0 am_cl3) (S.o (q.ls am_ag3) (S.o q.mv (S.c0 (hF := rjoined_fun _ _) (h := S.o q.mv (S.o q.ex (S.o q.ex (S.o q.as (S.o q.as (S.end (hK _ ?_)))))))))))))
        clear hK K
        refine Ev.seq ?_
        first
         | have hr : RJ m s 0 := ⟨chg_no (by omega), hk1, hk2, by omega, by omega⟩
         | have hr : RJ m s (ofK m s.2) := ⟨rfl, hk1, hk2, by omega, by omega⟩
        refine Ev.sr fun K hK => S.o q.mv (S.o q.not (S.end (hK _ ?_)))
        clear hK K
        refine Ev.c (fun c3 => ?_) (fun c3 => ?_)
        · first
        | (first | omega | contradiction)
        | refine Ev.sr fun K hK => S.o q.as (S.o q.as (S.end (hK _ ?_)))
          clear hK K
          refine Ev.weaken (Wk.nsh findC 4 2) ?_
          refine Ev.ret ?_
          refine hR0 _ _ ?_
          refine Ev.ret2 ?_
          refine ⟨?_, rfl⟩
          first
           | exact jE13 hyes (fun h => by have h1 := h.1 s (by rw [← hp]; simp); have h2 := rjX hr ‹_›; omega)
           | exact jE13 hyes (fun h => by have h1 := h.2 s (by rw [← hp2]; simp) (chg_no (by omega)); rw [join0, if_neg (by omega)] at h1; omega)
           | exact jE4 hyes hJ (by rw [hfin]; omega)
           | exact jE0 hyes hJ hfin (by omega)
        · first
        | (first | omega | contradiction)
        | refine Ev.skip ?_
          show Ev _ _ _ _
          refine Ev.sr fun K hK => S.o q.mv (S.o q.neq (S.end (hK _ ?_)))
          clear hK K
          refine Ev.cn (fun c4 => ?_) (fun c4 => ?_)
          · first
          | (first | omega | contradiction)
          | refine Ev.region_S fun K hK => S.o q.mv (S.o q.mv (S.o q.mv (S.o q.mv (S.o (q.ix am_el25 am_cl36 (hl := (by first | exact ati hmi (by omega) | exact atig (by omega)))) (S.o (q.fs 1 am_fi36_1 am_cl9) (S.o (q.ls am_ag9) (S.o (q.bd [_, _] am_ze36 am_pl36) (S.nn (q.bs [[_, _]] true am_el25 am_ze36 am_cl36) (S.ap' [_] am_el25 am_ze36 am_cl36 am_by36 (hh := head_own') (hr := (rows_lit [(⟨_, _⟩ : Int × List UInt8)])) (h := S.o q.as (S.end (hK _ ?_))))))))))))
            clear hK K
            show Ev _ _ _ _
            refine Ev.region_S fun K hK => S.o q.mv (S.o q.add (S.o q.as (S.end (hK _ ?_))))
            clear hK K
            refine hR0 _ _ ?_
            refine roundU [2] [0, 1] ⟨(pre ++ [s], suf), by rw [← hp]; simp, ?_⟩ ?_ (keep_c (he := (by first | rfl | (rw [flat_snoc, rjA hr ‹_› ‹_›]) | (rw [flat_snoc, rjN hr ‹_› (by omega), List.append_nil]))) (h := keep_n)) (slots_c (he := (by first | rfl | (congr 2; simp; done))) (h := (slots_c (he := (by first | rfl | (congr 1; rw [flat_snoc, rjA hr ‹_› ‹_›]) | (rw [flat_snoc, rjN hr ‹_› (by omega), List.append_nil]))) (h := trivial)))) (.c (.c .n))
            intro x hx; simp only [List.mem_append, List.mem_singleton] at hx; rcases hx with hx | rfl
            · exact hinv x hx
            · exact rjP hr ‹_›
            all_goals (dsimp only; simp only [List.length_cons]; omega)
          · first
          | (first | omega | contradiction)
          | refine Ev.skip ?_
            show Ev _ _ _ _
            refine Ev.region_S fun K hK => S.o q.mv (S.o q.add (S.o q.as (S.end (hK _ ?_))))
            clear hK K
            refine hR0 _ _ ?_
            refine roundU [0] [0, 1] ⟨(pre ++ [s], suf), by rw [← hp]; simp, ?_⟩ ?_ (keep_c (he := (by first | rfl | (rw [flat_snoc, rjA hr ‹_› ‹_›]) | (rw [flat_snoc, rjN hr ‹_› (by omega), List.append_nil]))) (h := keep_n)) (slots_c (he := (by first | rfl | (congr 2; simp; done))) (h := (slots_c (he := (by first | rfl | (congr 1; rw [flat_snoc, rjA hr ‹_› ‹_›]) | (rw [flat_snoc, rjN hr ‹_› (by omega), List.append_nil]))) (h := trivial)))) (.c (.c .n))
            intro x hx; simp only [List.mem_append, List.mem_singleton] at hx; rcases hx with hx | rfl
            · exact hinv x hx
            · exact rjP hr ‹_›
            all_goals (dsimp only; simp only [List.length_cons]; omega)
      · first
      | (first | omega | contradiction)
      | refine Ev.skip ?_
        show Ev _ _ _ _
        refine Ev.sr fun K hK => S.o q.mv (S.o q.mv (S.o (q.ix am_el25 am_cl36 (hl := (by first | exact ati hmi (by omega) | exact atig (by omega)))) (S.o (q.fs 0 am_fi36_0 am_cl3) (S.o (q.ls am_ag3) (S.o q.mv (S.c0 (hF := rjoined_fun _ _) (h := S.o q.mv (S.o q.ex (S.o q.ex (S.o q.as (S.o q.as (S.end (hK _ ?_)))))))))))))
        clear hK K
        refine Ev.seq ?_
        first
         | have hr : RJ m s 0 := ⟨chg_no (by omega), hk1, hk2, by omega, by omega⟩
         | have hr : RJ m s (ofK m s.2) := ⟨rfl, hk1, hk2, by omega, by omega⟩
        refine Ev.sr fun K hK => S.o q.mv (S.o q.not (S.end (hK _ ?_)))
        clear hK K
        refine Ev.c (fun c5 => ?_) (fun c5 => ?_)
        · first
        | (first | omega | contradiction)
        | refine Ev.sr fun K hK => S.o q.as (S.o q.as (S.end (hK _ ?_)))
          clear hK K
          refine Ev.weaken (Wk.nsh findC 4 2) ?_
          refine Ev.ret ?_
          refine hR0 _ _ ?_
          refine Ev.ret2 ?_
          refine ⟨?_, rfl⟩
          first
           | exact jE13 hyes (fun h => by have h1 := h.1 s (by rw [← hp]; simp); have h2 := rjX hr ‹_›; omega)
           | exact jE13 hyes (fun h => by have h1 := h.2 s (by rw [← hp2]; simp) (chg_no (by omega)); rw [join0, if_neg (by omega)] at h1; omega)
           | exact jE4 hyes hJ (by rw [hfin]; omega)
           | exact jE0 hyes hJ hfin (by omega)
        · first
        | (first | omega | contradiction)
        | refine Ev.skip ?_
          show Ev _ _ _ _
          refine Ev.sr fun K hK => S.o q.mv (S.o q.neq (S.end (hK _ ?_)))
          clear hK K
          refine Ev.cn (fun c6 => ?_) (fun c6 => ?_)
          · first
          | (first | omega | contradiction)
          | refine Ev.region_S fun K hK => S.o q.mv (S.o q.mv (S.o q.mv (S.o q.mv (S.o (q.ix am_el25 am_cl36 (hl := (by first | exact ati hmi (by omega) | exact atig (by omega)))) (S.o (q.fs 1 am_fi36_1 am_cl9) (S.o (q.ls am_ag9) (S.o (q.bd [_, _] am_ze36 am_pl36) (S.nn (q.bs [[_, _]] true am_el25 am_ze36 am_cl36) (S.ap' [_] am_el25 am_ze36 am_cl36 am_by36 (hh := head_own') (hr := (rows_lit [(⟨_, _⟩ : Int × List UInt8)])) (h := S.o q.as (S.end (hK _ ?_))))))))))))
            clear hK K
            show Ev _ _ _ _
            refine Ev.region_S fun K hK => S.o q.mv (S.o q.add (S.o q.as (S.end (hK _ ?_))))
            clear hK K
            refine hR0 _ _ ?_
            refine roundU [2] [0, 1] ⟨(pre ++ [s], suf), by rw [← hp]; simp, ?_⟩ ?_ (keep_c (he := (by first | rfl | (rw [flat_snoc, rjA hr ‹_› ‹_›]) | (rw [flat_snoc, rjN hr ‹_› (by omega), List.append_nil]))) (h := keep_n)) (slots_c (he := (by first | rfl | (congr 2; simp; done))) (h := (slots_c (he := (by first | rfl | (congr 1; rw [flat_snoc, rjA hr ‹_› ‹_›]) | (rw [flat_snoc, rjN hr ‹_› (by omega), List.append_nil]))) (h := trivial)))) (.c (.c .n))
            intro x hx; simp only [List.mem_append, List.mem_singleton] at hx; rcases hx with hx | rfl
            · exact hinv x hx
            · exact rjP hr ‹_›
            all_goals (dsimp only; simp only [List.length_cons]; omega)
          · first
          | (first | omega | contradiction)
          | refine Ev.skip ?_
            show Ev _ _ _ _
            refine Ev.region_S fun K hK => S.o q.mv (S.o q.add (S.o q.as (S.end (hK _ ?_))))
            clear hK K
            refine hR0 _ _ ?_
            refine roundU [0] [0, 1] ⟨(pre ++ [s], suf), by rw [← hp]; simp, ?_⟩ ?_ (keep_c (he := (by first | rfl | (rw [flat_snoc, rjA hr ‹_› ‹_›]) | (rw [flat_snoc, rjN hr ‹_› (by omega), List.append_nil]))) (h := keep_n)) (slots_c (he := (by first | rfl | (congr 2; simp; done))) (h := (slots_c (he := (by first | rfl | (congr 1; rw [flat_snoc, rjA hr ‹_› ‹_›]) | (rw [flat_snoc, rjN hr ‹_› (by omega), List.append_nil]))) (h := trivial)))) (.c (.c .n))
            intro x hx; simp only [List.mem_append, List.mem_singleton] at hx; rcases hx with hx | rfl
            · exact hinv x hx
            · exact rjP hr ‹_›
            all_goals (dsimp only; simp only [List.length_cons]; omega)
    · first
    | (first | omega | contradiction)
    | refine Ev.exit ?_
      refine hR0 _ _ ?_
      show Ev _ _ _ _
      refine Ev.seq ?_
      refine Ev.sr fun K hK => S.o q.as (S.end (hK _ ?_))
      clear hK K
      refine Ev.block ?_
      refine Ev.loopU (ι := {q : List Chg × List Chg // q.1 ++ q.2 = m ∧ ∀ c ∈ q.1, ofK l c.2 = 0 → 0 ≤ joinK 0 c.1}) [0] [0, 1, 7, 13, 14, 15, 16] (fun ⟨(pre2, suf2), _⟩ => [(12, .lit (.int .i64 ((pre2.length : Int)))), (6, .als 0 0 (l.flatMap (joinF m) ++ pre2.flatMap (joinG l)).length)]) (fun ⟨(pre2, suf2), _⟩ => [(0, ⟨true, 36, 2, (l.flatMap (joinF m) ++ pre2.flatMap (joinG l)).map findC, true⟩)]) (fun ⟨(pre2, suf2), _⟩ => suf2.length) ⟨([], m), rfl, fun x hx => by simp at hx⟩ (.c (.c (.c (.c (.c (.c (.c .n))))))) (keep_c (he := (by first | rfl | (simp; done) | (rw [flat_snoc, joinG_3 (chg_no (by omega)) (by omega), List.append_assoc]) | (rw [flat_snoc, joinG_in (fun h0 => by have h1 := (chg_of (mk := s.2) hyes.1.2.1 (by omega)).2.1; omega), List.append_nil]))) (h := keep_n)) (slots_c (he := (by first | rfl | (congr 2; simp; done))) (h := (slots_c (he := (by first | rfl | (congr 1; simp; done) | (congr 1; rw [flat_snoc, joinG_3 (chg_no (by omega)) (by omega), List.append_assoc]) | (rw [flat_snoc, joinG_in (fun h0 => by have h1 := (chg_of (mk := s.2) hyes.1.2.1 (by omega)).2.1; omega), List.append_nil]))) (h := trivial)))) ?_
      rintro ⟨⟨pre2, suf2⟩, hp2, hinv2⟩ R2 hR2
      dsimp only [List.cons_append, List.nil_append, List.length_cons, List.length_nil]
      simp only at hp2 hinv2
      have hpl2 : pre2.length + suf2.length = m.length := by rw [← hp2, List.length_append]
      have hnl := flat_len (joinG l) (joinG_len l) pre2
      rcases suf2 with _ | ⟨s, suf2⟩
      · rw [List.append_nil] at hp2; simp only [List.length_nil] at hpl2
        have hfin : joinP l m = l.flatMap (joinF m) ++ pre2.flatMap (joinG l) := by rw [hp2]; rfl
        have hJ : okJ l m := ⟨hinv, by rw [← hp2]; exact hinv2⟩
        refine Ev.seq ?_
        refine Ev.sr fun K hK => S.o q.mv (S.o q.mv (S.o (q.lens am_el25) (S.o q.lss (S.end (hK _ ?_)))))
        clear hK K
        refine Ev.cd (fun c7 => ?_) (fun c7 => ?_)
        · first
        | (first | omega | contradiction)
        | refine Ev.skip ?_
          show Ev _ _ _ _
          refine Ev.seq ?_
          refine Ev.block ?_
          refine Ev.seq ?_
          refine Ev.sr fun K hK => S.o q.mv (S.o q.mv (S.o q.mv (S.o (q.ix am_el25 am_cl36 (hl := (by first | exact ati hmi (by omega) | exact atig (by omega)))) (S.o (q.fs 1 am_fi36_1 am_cl9) (S.o (q.ls am_ag9) (S.c0 (hF := rFind41_fun _ _ (by omega)) (h := S.o q.geq (S.end (hK _ ?_)))))))))
          clear hK K
          refine Ev.cd (fun c8 => ?_) (fun c8 => ?_)
          · first
          | (first | omega | contradiction)
          | refine Ev.exit ?_
            show Ev _ _ _ _
            refine Ev.region_S fun K hK => S.o q.mv (S.o q.add (S.o q.as (S.end (hK _ ?_))))
            clear hK K
            refine hR2 _ _ ?_
            refine roundU [0] [0, 1, 7, 13, 14, 15, 16] ⟨(pre2 ++ [s], suf2), by rw [← hp2]; simp, ?_⟩ ?_ (keep_c (he := (by first | rfl | (simp; done) | (rw [flat_snoc, joinG_3 (chg_no (by omega)) (by omega), List.append_assoc]) | (rw [flat_snoc, joinG_in (fun h0 => by have h1 := (chg_of (mk := s.2) hyes.1.2.1 (by omega)).2.1; omega), List.append_nil]))) (h := keep_n)) (slots_c (he := (by first | rfl | (congr 2; simp; done))) (h := (slots_c (he := (by first | rfl | (congr 1; simp; done) | (congr 1; rw [flat_snoc, joinG_3 (chg_no (by omega)) (by omega), List.append_assoc]) | (rw [flat_snoc, joinG_in (fun h0 => by have h1 := (chg_of (mk := s.2) hyes.1.2.1 (by omega)).2.1; omega), List.append_nil]))) (h := trivial)))) (.c (.c (.c (.c (.c (.c (.c .n)))))))
            intro x hx; simp only [List.mem_append, List.mem_singleton] at hx; rcases hx with hx | rfl
            · exact hinv2 x hx
            · intro h0; first
              | (rw [join0, if_pos (by omega)]; omega)
              | (have h1 := (chg_of (mk := x.2) hyes.1.2.1 (by omega)).2.1; omega)
            all_goals (dsimp only; simp only [List.length_cons]; omega)
          · first
          | (first | omega | contradiction)
          | refine Ev.skip ?_
            show Ev _ _ _ _
            refine Ev.seq ?_
            refine Ev.sr fun K hK => S.o q.mv (S.o q.mv (S.o (q.ix am_el25 am_cl36 (hl := (by first | exact ati hmi (by omega) | exact atig (by omega)))) (S.o (q.fs 0 am_fi36_0 am_cl3) (S.o (q.ls am_ag3) (S.o q.neq (S.end (hK _ ?_)))))))
            clear hK K
            refine Ev.cn (fun c9 => ?_) (fun c9 => ?_)
            · first
            | (first | omega | contradiction)
            | refine Ev.sr fun K hK => S.o q.as (S.o q.as (S.end (hK _ ?_)))
              clear hK K
              refine Ev.weaken (Wk.nsh findC 4 2) ?_
              refine Ev.ret ?_
              refine hR2 _ _ ?_
              refine Ev.ret2 ?_
              refine ⟨?_, rfl⟩
              first
               | exact jE13 hyes (fun h => by have h1 := h.1 s (by rw [← hp]; simp); have h2 := rjX hr ‹_›; omega)
               | exact jE13 hyes (fun h => by have h1 := h.2 s (by rw [← hp2]; simp) (chg_no (by omega)); rw [join0, if_neg (by omega)] at h1; omega)
               | exact jE4 hyes hJ (by rw [hfin]; omega)
               | exact jE0 hyes hJ hfin (by omega)
            · first
            | (first | omega | contradiction)
            | refine Ev.skip ?_
              show Ev _ _ _ _
              refine Ev.region_S fun K hK => S.o q.mv (S.o q.mv (S.o q.mv (S.o (q.ix am_el25 am_cl36 (hl := (by first | exact ati hmi (by omega) | exact atig (by omega)))) (S.o (q.lsA [_, _] am_ag36 am_cl36) (S.nn (q.bs [[_, _]] true am_el25 am_ze36 am_cl36) (S.ap' [_] am_el25 am_ze36 am_cl36 am_by36 (hh := head_own') (hr := (rows_lit [s])) (h := S.o q.as (S.end (hK _ ?_)))))))))
              clear hK K
              show Ev _ _ _ _
              refine Ev.region_S fun K hK => S.o q.mv (S.o q.add (S.o q.as (S.end (hK _ ?_))))
              clear hK K
              refine hR2 _ _ ?_
              refine roundU [2] [0, 1, 7, 13, 14, 15, 16] ⟨(pre2 ++ [s], suf2), by rw [← hp2]; simp, ?_⟩ ?_ (keep_c (he := (by first | rfl | (simp; done) | (rw [flat_snoc, joinG_3 (chg_no (by omega)) (by omega), List.append_assoc]) | (rw [flat_snoc, joinG_in (fun h0 => by have h1 := (chg_of (mk := s.2) hyes.1.2.1 (by omega)).2.1; omega), List.append_nil]))) (h := keep_n)) (slots_c (he := (by first | rfl | (congr 2; simp; done))) (h := (slots_c (he := (by first | rfl | (congr 1; simp; done) | (congr 1; rw [flat_snoc, joinG_3 (chg_no (by omega)) (by omega), List.append_assoc]) | (rw [flat_snoc, joinG_in (fun h0 => by have h1 := (chg_of (mk := s.2) hyes.1.2.1 (by omega)).2.1; omega), List.append_nil]))) (h := trivial)))) (.c (.c (.c (.c (.c (.c (.c .n)))))))
              intro x hx; simp only [List.mem_append, List.mem_singleton] at hx; rcases hx with hx | rfl
              · exact hinv2 x hx
              · intro h0; first
                | (rw [join0, if_pos (by omega)]; omega)
                | (have h1 := (chg_of (mk := x.2) hyes.1.2.1 (by omega)).2.1; omega)
              all_goals (dsimp only; simp only [List.length_cons]; omega)
        · first
        | (first | omega | contradiction)
        | refine Ev.exit ?_
          refine hR2 _ _ ?_
          show Ev _ _ _ _
          refine Ev.seq ?_
          refine Ev.sr fun K hK => S.o q.mv (S.o (q.lena am_el25) (S.o q.gtr (S.end (hK _ ?_))))
          clear hK K
          refine Ev.cd (fun c10 => ?_) (fun c10 => ?_)
          · first
          | (first | omega | contradiction)
          | refine Ev.sr fun K hK => S.o q.as (S.o q.as (S.end (hK _ ?_)))
            clear hK K
            refine Ev.weaken (Wk.nsh findC 4 2) ?_
            refine Ev.ret ?_
            refine Ev.ret2 ?_
            refine ⟨?_, rfl⟩
            first
             | exact jE13 hyes (fun h => by have h1 := h.1 s (by rw [← hp]; simp); have h2 := rjX hr ‹_›; omega)
             | exact jE13 hyes (fun h => by have h1 := h.2 s (by rw [← hp2]; simp) (chg_no (by omega)); rw [join0, if_neg (by omega)] at h1; omega)
             | exact jE4 hyes hJ (by rw [hfin]; omega)
             | exact jE0 hyes hJ hfin (by omega)
          · first
          | (first | omega | contradiction)
          | refine Ev.skip ?_
            show Ev _ _ _ _
            refine Ev.sr fun K hK => S.o q.mv (S.o q.as (S.o q.as (S.end (hK _ ?_))))
            clear hK K
            refine Ev.weaken (Wk.frz 4 []) ?_
            refine Ev.ret ?_
            refine Ev.ret2 ?_
            refine ⟨?_, rfl⟩
            first
             | exact jE13 hyes (fun h => by have h1 := h.1 s (by rw [← hp]; simp); have h2 := rjX hr ‹_›; omega)
             | exact jE13 hyes (fun h => by have h1 := h.2 s (by rw [← hp2]; simp) (chg_no (by omega)); rw [join0, if_neg (by omega)] at h1; omega)
             | exact jE4 hyes hJ (by rw [hfin]; omega)
             | exact jE0 hyes hJ hfin (by omega)
      · simp only [List.length_cons] at hpl2
        have hidx2 : m[pre2.length]? = some s := by rw [← hp2]; simp
        refine Ev.seq ?_
        refine Ev.sr fun K hK => S.o q.mv (S.o q.mv (S.o (q.lens am_el25) (S.o q.lss (S.end (hK _ ?_)))))
        clear hK K
        refine Ev.cd (fun c11 => ?_) (fun c11 => ?_)
        · first
        | (first | omega | contradiction)
        | refine Ev.skip ?_
          show Ev _ _ _ _
          refine Ev.seq ?_
          refine Ev.block ?_
          refine Ev.seq ?_
          refine Ev.sr fun K hK => S.o q.mv (S.o q.mv (S.o q.mv (S.o (q.ix am_el25 am_cl36 (hl := (by first | exact ati hmi (by omega) | exact ati hidx2 (by omega) | exact atig (by omega)))) (S.o (q.fs 1 am_fi36_1 am_cl9) (S.o (q.ls am_ag9) (S.c0 (hF := rFind41_fun _ _ (by omega)) (h := S.o q.geq (S.end (hK _ ?_)))))))))
          clear hK K
          refine Ev.cd (fun c12 => ?_) (fun c12 => ?_)
          · first
          | (first | omega | contradiction)
          | refine Ev.exit ?_
            show Ev _ _ _ _
            refine Ev.region_S fun K hK => S.o q.mv (S.o q.add (S.o q.as (S.end (hK _ ?_))))
            clear hK K
            refine hR2 _ _ ?_
            refine roundU [0] [0, 1, 7, 13, 14, 15, 16] ⟨(pre2 ++ [s], suf2), by rw [← hp2]; simp, ?_⟩ ?_ (keep_c (he := (by first | rfl | (simp; done) | (rw [flat_snoc, joinG_3 (chg_no (by omega)) (by omega), List.append_assoc]) | (rw [flat_snoc, joinG_in (fun h0 => by have h1 := (chg_of (mk := s.2) hyes.1.2.1 (by omega)).2.1; omega), List.append_nil]))) (h := keep_n)) (slots_c (he := (by first | rfl | (congr 2; simp; done))) (h := (slots_c (he := (by first | rfl | (congr 1; simp; done) | (congr 1; rw [flat_snoc, joinG_3 (chg_no (by omega)) (by omega), List.append_assoc]) | (rw [flat_snoc, joinG_in (fun h0 => by have h1 := (chg_of (mk := s.2) hyes.1.2.1 (by omega)).2.1; omega), List.append_nil]))) (h := trivial)))) (.c (.c (.c (.c (.c (.c (.c .n)))))))
            intro x hx; simp only [List.mem_append, List.mem_singleton] at hx; rcases hx with hx | rfl
            · exact hinv2 x hx
            · intro h0; first
              | (rw [join0, if_pos (by omega)]; omega)
              | (have h1 := (chg_of (mk := x.2) hyes.1.2.1 (by omega)).2.1; omega)
            all_goals (dsimp only; simp only [List.length_cons]; omega)
          · first
          | (first | omega | contradiction)
          | refine Ev.skip ?_
            show Ev _ _ _ _
            refine Ev.seq ?_
            refine Ev.sr fun K hK => S.o q.mv (S.o q.mv (S.o (q.ix am_el25 am_cl36 (hl := (by first | exact ati hmi (by omega) | exact ati hidx2 (by omega) | exact atig (by omega)))) (S.o (q.fs 0 am_fi36_0 am_cl3) (S.o (q.ls am_ag3) (S.o q.neq (S.end (hK _ ?_)))))))
            clear hK K
            refine Ev.cn (fun c13 => ?_) (fun c13 => ?_)
            · first
            | (first | omega | contradiction)
            | refine Ev.sr fun K hK => S.o q.as (S.o q.as (S.end (hK _ ?_)))
              clear hK K
              refine Ev.weaken (Wk.nsh findC 4 2) ?_
              refine Ev.ret ?_
              refine hR2 _ _ ?_
              refine Ev.ret2 ?_
              refine ⟨?_, rfl⟩
              first
               | exact jE13 hyes (fun h => by have h1 := h.1 s (by rw [← hp]; simp); have h2 := rjX hr ‹_›; omega)
               | exact jE13 hyes (fun h => by have h1 := h.2 s (by rw [← hp2]; simp) (chg_no (by omega)); rw [join0, if_neg (by omega)] at h1; omega)
               | exact jE4 hyes hJ (by rw [hfin]; omega)
               | exact jE0 hyes hJ hfin (by omega)
            · first
            | (first | omega | contradiction)
            | refine Ev.skip ?_
              show Ev _ _ _ _
              refine Ev.region_S fun K hK => S.o q.mv (S.o q.mv (S.o q.mv (S.o (q.ix am_el25 am_cl36 (hl := (by first | exact ati hmi (by omega) | exact ati hidx2 (by omega) | exact atig (by omega)))) (S.o (q.lsA [_, _] am_ag36 am_cl36) (S.nn (q.bs [[_, _]] true am_el25 am_ze36 am_cl36) (S.ap' [_] am_el25 am_ze36 am_cl36 am_by36 (hh := head_own') (hr := (rows_lit [s])) (h := S.o q.as (S.end (hK _ ?_)))))))))
              clear hK K
              show Ev _ _ _ _
              refine Ev.region_S fun K hK => S.o q.mv (S.o q.add (S.o q.as (S.end (hK _ ?_))))
              clear hK K
              refine hR2 _ _ ?_
              refine roundU [2] [0, 1, 7, 13, 14, 15, 16] ⟨(pre2 ++ [s], suf2), by rw [← hp2]; simp, ?_⟩ ?_ (keep_c (he := (by first | rfl | (simp; done) | (rw [flat_snoc, joinG_3 (chg_no (by omega)) (by omega), List.append_assoc]) | (rw [flat_snoc, joinG_in (fun h0 => by have h1 := (chg_of (mk := s.2) hyes.1.2.1 (by omega)).2.1; omega), List.append_nil]))) (h := keep_n)) (slots_c (he := (by first | rfl | (congr 2; simp; done))) (h := (slots_c (he := (by first | rfl | (congr 1; simp; done) | (congr 1; rw [flat_snoc, joinG_3 (chg_no (by omega)) (by omega), List.append_assoc]) | (rw [flat_snoc, joinG_in (fun h0 => by have h1 := (chg_of (mk := s.2) hyes.1.2.1 (by omega)).2.1; omega), List.append_nil]))) (h := trivial)))) (.c (.c (.c (.c (.c (.c (.c .n)))))))
              intro x hx; simp only [List.mem_append, List.mem_singleton] at hx; rcases hx with hx | rfl
              · exact hinv2 x hx
              · intro h0; first
                | (rw [join0, if_pos (by omega)]; omega)
                | (have h1 := (chg_of (mk := x.2) hyes.1.2.1 (by omega)).2.1; omega)
              all_goals (dsimp only; simp only [List.length_cons]; omega)
        · first
        | (first | omega | contradiction)
        | refine Ev.exit ?_
          refine hR2 _ _ ?_
          show Ev _ _ _ _
          refine Ev.seq ?_
          refine Ev.sr fun K hK => S.o q.mv (S.o (q.lena am_el25) (S.o q.gtr (S.end (hK _ ?_))))
          clear hK K
          refine Ev.cd (fun c14 => ?_) (fun c14 => ?_)
          · first
          | (first | omega | contradiction)
          | refine Ev.sr fun K hK => S.o q.as (S.o q.as (S.end (hK _ ?_)))
            clear hK K
            refine Ev.weaken (Wk.nsh findC 4 2) ?_
            refine Ev.ret ?_
            refine Ev.ret2 ?_
            refine ⟨?_, rfl⟩
            first
             | exact jE13 hyes (fun h => by have h1 := h.1 s (by rw [← hp]; simp); have h2 := rjX hr ‹_›; omega)
             | exact jE13 hyes (fun h => by have h1 := h.2 s (by rw [← hp2]; simp) (chg_no (by omega)); rw [join0, if_neg (by omega)] at h1; omega)
             | exact jE4 hyes hJ (by rw [hfin]; omega)
             | exact jE0 hyes hJ hfin (by omega)
          · first
          | (first | omega | contradiction)
          | refine Ev.skip ?_
            show Ev _ _ _ _
            refine Ev.sr fun K hK => S.o q.mv (S.o q.as (S.o q.as (S.end (hK _ ?_))))
            clear hK K
            refine Ev.weaken (Wk.frz 4 []) ?_
            refine Ev.ret ?_
            refine Ev.ret2 ?_
            refine ⟨?_, rfl⟩
            first
             | exact jE13 hyes (fun h => by have h1 := h.1 s (by rw [← hp]; simp); have h2 := rjX hr ‹_›; omega)
             | exact jE13 hyes (fun h => by have h1 := h.2 s (by rw [← hp2]; simp) (chg_no (by omega)); rw [join0, if_neg (by omega)] at h1; omega)
             | exact jE4 hyes hJ (by rw [hfin]; omega)
             | exact jE0 hyes hJ hfin (by omega)
  · simp only [List.length_cons] at hpl
    have hidx : (l)[pre.length]? = some s := by rw [← hp]; simp
    have hkl := flat_len (joinF m) (joinF_len m) pre
    have hk1 := (hyes.1.2.1 s (by rw [← hp]; simp)).1
    have hk2 := (hyes.1.2.1 s (by rw [← hp]; simp)).2.1
    refine Ev.seq ?_
    refine Ev.sr fun K hK => S.o q.mv (S.o q.mv (S.o (q.lens am_el25) (S.o q.lss (S.end (hK _ ?_)))))
    clear hK K
    refine Ev.cd (fun c15 => ?_) (fun c15 => ?_)
    · first
    | (first | omega | contradiction)
    | refine Ev.skip ?_
      show Ev _ _ _ _
      refine Ev.seq ?_
      refine Ev.block ?_
      refine Ev.sr fun K hK => S.o q.as (S.end (hK _ ?_))
      clear hK K
      refine Ev.seq ?_
      refine Ev.sr fun K hK => S.o q.mv (S.o q.mv (S.o q.mv (S.o (q.ix am_el25 am_cl36 (hl := (by first | exact ati hmi (by omega) | exact ati hidx (by omega) | exact atig (by omega)))) (S.o (q.fs 1 am_fi36_1 am_cl9) (S.o (q.ls am_ag9) (S.c0 (hF := rFind41_fun _ _ (by omega)) (h := S.o q.as (S.end (hK _ ?_)))))))))
      clear hK K
      refine Ev.sr fun K hK => S.o q.mv (S.o q.geq (S.end (hK _ ?_)))
      clear hK K
      refine Ev.cd (fun c16 => ?_) (fun c16 => ?_)
      · first
      | (first | omega | contradiction)
      | obtain ⟨hmi, hm1, hm2⟩ := chg_of (mk := s.2) hyes.2.2.1 (by omega)
        refine Ev.region_S fun K hK => S.o q.mv (S.o q.mv (S.o (q.ix am_el25 am_cl36 (hl := (by first | exact ati hmi (by omega) | exact ati hidx (by omega) | exact atig (by omega)))) (S.o (q.fs 0 am_fi36_0 am_cl3) (S.o (q.ls am_ag3) (S.o q.as (S.end (hK _ ?_)))))))
        clear hK K
        show Ev _ _ _ _
        refine Ev.sr fun K hK => S.o q.mv (S.o q.mv (S.o (q.ix am_el25 am_cl36 (hl := (by first | exact ati hmi (by omega) | exact ati hidx (by omega) | exact atig (by omega)))) (S.o (q.fs 0 am_fi36_0 am_cl3) (S.o (q.ls am_ag3) (S.o q.mv (S.c0 (hF := rjoined_fun _ _) (h := S.o q.mv (S.o q.ex (S.o q.ex (S.o q.as (S.o q.as (S.end (hK _ ?_)))))))))))))
        clear hK K
        refine Ev.seq ?_
        first
         | have hr : RJ m s 0 := ⟨chg_no (by omega), hk1, hk2, by omega, by omega⟩
         | have hr : RJ m s (ofK m s.2) := ⟨rfl, hk1, hk2, by omega, by omega⟩
        refine Ev.sr fun K hK => S.o q.mv (S.o q.not (S.end (hK _ ?_)))
        clear hK K
        refine Ev.c (fun c17 => ?_) (fun c17 => ?_)
        · first
        | (first | omega | contradiction)
        | refine Ev.sr fun K hK => S.o q.as (S.o q.as (S.end (hK _ ?_)))
          clear hK K
          refine Ev.weaken (Wk.nsh findC 4 2) ?_
          refine Ev.ret ?_
          refine hR0 _ _ ?_
          refine Ev.ret2 ?_
          refine ⟨?_, rfl⟩
          first
           | exact jE13 hyes (fun h => by have h1 := h.1 s (by rw [← hp]; simp); have h2 := rjX hr ‹_›; omega)
           | exact jE13 hyes (fun h => by have h1 := h.2 s (by rw [← hp2]; simp) (chg_no (by omega)); rw [join0, if_neg (by omega)] at h1; omega)
           | exact jE4 hyes hJ (by rw [hfin]; omega)
           | exact jE0 hyes hJ hfin (by omega)
        · first
        | (first | omega | contradiction)
        | refine Ev.skip ?_
          show Ev _ _ _ _
          refine Ev.sr fun K hK => S.o q.mv (S.o q.neq (S.end (hK _ ?_)))
          clear hK K
          refine Ev.cn (fun c18 => ?_) (fun c18 => ?_)
          · first
          | (first | omega | contradiction)
          | refine Ev.region_S fun K hK => S.o q.mv (S.o q.mv (S.o q.mv (S.o q.mv (S.o (q.ix am_el25 am_cl36 (hl := (by first | exact ati hmi (by omega) | exact ati hidx (by omega) | exact atig (by omega)))) (S.o (q.fs 1 am_fi36_1 am_cl9) (S.o (q.ls am_ag9) (S.o (q.bd [_, _] am_ze36 am_pl36) (S.nn (q.bs [[_, _]] true am_el25 am_ze36 am_cl36) (S.ap' [_] am_el25 am_ze36 am_cl36 am_by36 (hh := head_own') (hr := (rows_lit [(⟨_, _⟩ : Int × List UInt8)])) (h := S.o q.as (S.end (hK _ ?_))))))))))))
            clear hK K
            show Ev _ _ _ _
            refine Ev.region_S fun K hK => S.o q.mv (S.o q.add (S.o q.as (S.end (hK _ ?_))))
            clear hK K
            refine hR0 _ _ ?_
            refine roundU [2] [0, 1] ⟨(pre ++ [s], suf), by rw [← hp]; simp, ?_⟩ ?_ (keep_c (he := (by first | rfl | (rw [flat_snoc, rjA hr ‹_› ‹_›]) | (rw [flat_snoc, rjN hr ‹_› (by omega), List.append_nil]))) (h := keep_n)) (slots_c (he := (by first | rfl | (congr 2; simp; done))) (h := (slots_c (he := (by first | rfl | (congr 1; rw [flat_snoc, rjA hr ‹_› ‹_›]) | (rw [flat_snoc, rjN hr ‹_› (by omega), List.append_nil]))) (h := trivial)))) (.c (.c .n))
            intro x hx; simp only [List.mem_append, List.mem_singleton] at hx; rcases hx with hx | rfl
            · exact hinv x hx
            · exact rjP hr ‹_›
            all_goals (dsimp only; simp only [List.length_cons]; omega)
          · first
          | (first | omega | contradiction)
          | refine Ev.skip ?_
            show Ev _ _ _ _
            refine Ev.region_S fun K hK => S.o q.mv (S.o q.add (S.o q.as (S.end (hK _ ?_))))
            clear hK K
            refine hR0 _ _ ?_
            refine roundU [0] [0, 1] ⟨(pre ++ [s], suf), by rw [← hp]; simp, ?_⟩ ?_ (keep_c (he := (by first | rfl | (rw [flat_snoc, rjA hr ‹_› ‹_›]) | (rw [flat_snoc, rjN hr ‹_› (by omega), List.append_nil]))) (h := keep_n)) (slots_c (he := (by first | rfl | (congr 2; simp; done))) (h := (slots_c (he := (by first | rfl | (congr 1; rw [flat_snoc, rjA hr ‹_› ‹_›]) | (rw [flat_snoc, rjN hr ‹_› (by omega), List.append_nil]))) (h := trivial)))) (.c (.c .n))
            intro x hx; simp only [List.mem_append, List.mem_singleton] at hx; rcases hx with hx | rfl
            · exact hinv x hx
            · exact rjP hr ‹_›
            all_goals (dsimp only; simp only [List.length_cons]; omega)
      · first
      | (first | omega | contradiction)
      | refine Ev.skip ?_
        show Ev _ _ _ _
        refine Ev.sr fun K hK => S.o q.mv (S.o q.mv (S.o (q.ix am_el25 am_cl36 (hl := (by first | exact ati hmi (by omega) | exact ati hidx (by omega) | exact atig (by omega)))) (S.o (q.fs 0 am_fi36_0 am_cl3) (S.o (q.ls am_ag3) (S.o q.mv (S.c0 (hF := rjoined_fun _ _) (h := S.o q.mv (S.o q.ex (S.o q.ex (S.o q.as (S.o q.as (S.end (hK _ ?_)))))))))))))
        clear hK K
        refine Ev.seq ?_
        first
         | have hr : RJ m s 0 := ⟨chg_no (by omega), hk1, hk2, by omega, by omega⟩
         | have hr : RJ m s (ofK m s.2) := ⟨rfl, hk1, hk2, by omega, by omega⟩
        refine Ev.sr fun K hK => S.o q.mv (S.o q.not (S.end (hK _ ?_)))
        clear hK K
        refine Ev.c (fun c19 => ?_) (fun c19 => ?_)
        · first
        | (first | omega | contradiction)
        | refine Ev.sr fun K hK => S.o q.as (S.o q.as (S.end (hK _ ?_)))
          clear hK K
          refine Ev.weaken (Wk.nsh findC 4 2) ?_
          refine Ev.ret ?_
          refine hR0 _ _ ?_
          refine Ev.ret2 ?_
          refine ⟨?_, rfl⟩
          first
           | exact jE13 hyes (fun h => by have h1 := h.1 s (by rw [← hp]; simp); have h2 := rjX hr ‹_›; omega)
           | exact jE13 hyes (fun h => by have h1 := h.2 s (by rw [← hp2]; simp) (chg_no (by omega)); rw [join0, if_neg (by omega)] at h1; omega)
           | exact jE4 hyes hJ (by rw [hfin]; omega)
           | exact jE0 hyes hJ hfin (by omega)
        · first
        | (first | omega | contradiction)
        | refine Ev.skip ?_
          show Ev _ _ _ _
          refine Ev.sr fun K hK => S.o q.mv (S.o q.neq (S.end (hK _ ?_)))
          clear hK K
          refine Ev.cn (fun c20 => ?_) (fun c20 => ?_)
          · first
          | (first | omega | contradiction)
          | refine Ev.region_S fun K hK => S.o q.mv (S.o q.mv (S.o q.mv (S.o q.mv (S.o (q.ix am_el25 am_cl36 (hl := (by first | exact ati hmi (by omega) | exact ati hidx (by omega) | exact atig (by omega)))) (S.o (q.fs 1 am_fi36_1 am_cl9) (S.o (q.ls am_ag9) (S.o (q.bd [_, _] am_ze36 am_pl36) (S.nn (q.bs [[_, _]] true am_el25 am_ze36 am_cl36) (S.ap' [_] am_el25 am_ze36 am_cl36 am_by36 (hh := head_own') (hr := (rows_lit [(⟨_, _⟩ : Int × List UInt8)])) (h := S.o q.as (S.end (hK _ ?_))))))))))))
            clear hK K
            show Ev _ _ _ _
            refine Ev.region_S fun K hK => S.o q.mv (S.o q.add (S.o q.as (S.end (hK _ ?_))))
            clear hK K
            refine hR0 _ _ ?_
            refine roundU [2] [0, 1] ⟨(pre ++ [s], suf), by rw [← hp]; simp, ?_⟩ ?_ (keep_c (he := (by first | rfl | (rw [flat_snoc, rjA hr ‹_› ‹_›]) | (rw [flat_snoc, rjN hr ‹_› (by omega), List.append_nil]))) (h := keep_n)) (slots_c (he := (by first | rfl | (congr 2; simp; done))) (h := (slots_c (he := (by first | rfl | (congr 1; rw [flat_snoc, rjA hr ‹_› ‹_›]) | (rw [flat_snoc, rjN hr ‹_› (by omega), List.append_nil]))) (h := trivial)))) (.c (.c .n))
            intro x hx; simp only [List.mem_append, List.mem_singleton] at hx; rcases hx with hx | rfl
            · exact hinv x hx
            · exact rjP hr ‹_›
            all_goals (dsimp only; simp only [List.length_cons]; omega)
          · first
          | (first | omega | contradiction)
          | refine Ev.skip ?_
            show Ev _ _ _ _
            refine Ev.region_S fun K hK => S.o q.mv (S.o q.add (S.o q.as (S.end (hK _ ?_))))
            clear hK K
            refine hR0 _ _ ?_
            refine roundU [0] [0, 1] ⟨(pre ++ [s], suf), by rw [← hp]; simp, ?_⟩ ?_ (keep_c (he := (by first | rfl | (rw [flat_snoc, rjA hr ‹_› ‹_›]) | (rw [flat_snoc, rjN hr ‹_› (by omega), List.append_nil]))) (h := keep_n)) (slots_c (he := (by first | rfl | (congr 2; simp; done))) (h := (slots_c (he := (by first | rfl | (congr 1; rw [flat_snoc, rjA hr ‹_› ‹_›]) | (rw [flat_snoc, rjN hr ‹_› (by omega), List.append_nil]))) (h := trivial)))) (.c (.c .n))
            intro x hx; simp only [List.mem_append, List.mem_singleton] at hx; rcases hx with hx | rfl
            · exact hinv x hx
            · exact rjP hr ‹_›
            all_goals (dsimp only; simp only [List.length_cons]; omega)
    · first
    | (first | omega | contradiction)
    | refine Ev.exit ?_
      refine hR0 _ _ ?_
      show Ev _ _ _ _
      refine Ev.seq ?_
      refine Ev.sr fun K hK => S.o q.as (S.end (hK _ ?_))
      clear hK K
      refine Ev.block ?_
      refine Ev.loopU (ι := {q : List Chg × List Chg // q.1 ++ q.2 = m ∧ ∀ c ∈ q.1, ofK l c.2 = 0 → 0 ≤ joinK 0 c.1}) [0] [0, 1, 7, 13, 14, 15, 16] (fun ⟨(pre2, suf2), _⟩ => [(12, .lit (.int .i64 ((pre2.length : Int)))), (6, .als 0 0 (l.flatMap (joinF m) ++ pre2.flatMap (joinG l)).length)]) (fun ⟨(pre2, suf2), _⟩ => [(0, ⟨true, 36, 2, (l.flatMap (joinF m) ++ pre2.flatMap (joinG l)).map findC, true⟩)]) (fun ⟨(pre2, suf2), _⟩ => suf2.length) ⟨([], m), rfl, fun x hx => by simp at hx⟩ (.c (.c (.c (.c (.c (.c (.c .n))))))) (keep_c (he := (by first | rfl | (simp; done) | (rw [flat_snoc, joinG_3 (chg_no (by omega)) (by omega), List.append_assoc]) | (rw [flat_snoc, joinG_in (fun h0 => by have h1 := (chg_of (mk := s.2) hyes.1.2.1 (by omega)).2.1; omega), List.append_nil]))) (h := keep_n)) (slots_c (he := (by first | rfl | (congr 2; simp; done))) (h := (slots_c (he := (by first | rfl | (congr 1; simp; done) | (congr 1; rw [flat_snoc, joinG_3 (chg_no (by omega)) (by omega), List.append_assoc]) | (rw [flat_snoc, joinG_in (fun h0 => by have h1 := (chg_of (mk := s.2) hyes.1.2.1 (by omega)).2.1; omega), List.append_nil]))) (h := trivial)))) ?_
      rintro ⟨⟨pre2, suf2⟩, hp2, hinv2⟩ R2 hR2
      dsimp only [List.cons_append, List.nil_append, List.length_cons, List.length_nil]
      simp only at hp2 hinv2
      have hpl2 : pre2.length + suf2.length = m.length := by rw [← hp2, List.length_append]
      have hnl := flat_len (joinG l) (joinG_len l) pre2
      rcases suf2 with _ | ⟨s, suf2⟩
      · rw [List.append_nil] at hp2; simp only [List.length_nil] at hpl2
        have hfin : joinP l m = l.flatMap (joinF m) ++ pre2.flatMap (joinG l) := by rw [hp2]; rfl
        have hJ : okJ l m := ⟨hinv, by rw [← hp2]; exact hinv2⟩
        refine Ev.seq ?_
        refine Ev.sr fun K hK => S.o q.mv (S.o q.mv (S.o (q.lens am_el25) (S.o q.lss (S.end (hK _ ?_)))))
        clear hK K
        refine Ev.cd (fun c21 => ?_) (fun c21 => ?_)
        · first
        | (first | omega | contradiction)
        | refine Ev.skip ?_
          show Ev _ _ _ _
          refine Ev.seq ?_
          refine Ev.block ?_
          refine Ev.seq ?_
          refine Ev.sr fun K hK => S.o q.mv (S.o q.mv (S.o q.mv (S.o (q.ix am_el25 am_cl36 (hl := (by first | exact ati hmi (by omega) | exact ati hidx (by omega) | exact atig (by omega)))) (S.o (q.fs 1 am_fi36_1 am_cl9) (S.o (q.ls am_ag9) (S.c0 (hF := rFind41_fun _ _ (by omega)) (h := S.o q.geq (S.end (hK _ ?_)))))))))
          clear hK K
          refine Ev.cd (fun c22 => ?_) (fun c22 => ?_)
          · first
          | (first | omega | contradiction)
          | refine Ev.exit ?_
            show Ev _ _ _ _
            refine Ev.region_S fun K hK => S.o q.mv (S.o q.add (S.o q.as (S.end (hK _ ?_))))
            clear hK K
            refine hR2 _ _ ?_
            refine roundU [0] [0, 1, 7, 13, 14, 15, 16] ⟨(pre2 ++ [s], suf2), by rw [← hp2]; simp, ?_⟩ ?_ (keep_c (he := (by first | rfl | (simp; done) | (rw [flat_snoc, joinG_3 (chg_no (by omega)) (by omega), List.append_assoc]) | (rw [flat_snoc, joinG_in (fun h0 => by have h1 := (chg_of (mk := s.2) hyes.1.2.1 (by omega)).2.1; omega), List.append_nil]))) (h := keep_n)) (slots_c (he := (by first | rfl | (congr 2; simp; done))) (h := (slots_c (he := (by first | rfl | (congr 1; simp; done) | (congr 1; rw [flat_snoc, joinG_3 (chg_no (by omega)) (by omega), List.append_assoc]) | (rw [flat_snoc, joinG_in (fun h0 => by have h1 := (chg_of (mk := s.2) hyes.1.2.1 (by omega)).2.1; omega), List.append_nil]))) (h := trivial)))) (.c (.c (.c (.c (.c (.c (.c .n)))))))
            intro x hx; simp only [List.mem_append, List.mem_singleton] at hx; rcases hx with hx | rfl
            · exact hinv2 x hx
            · intro h0; first
              | (rw [join0, if_pos (by omega)]; omega)
              | (have h1 := (chg_of (mk := x.2) hyes.1.2.1 (by omega)).2.1; omega)
            all_goals (dsimp only; simp only [List.length_cons]; omega)
          · first
          | (first | omega | contradiction)
          | refine Ev.skip ?_
            show Ev _ _ _ _
            refine Ev.seq ?_
            refine Ev.sr fun K hK => S.o q.mv (S.o q.mv (S.o (q.ix am_el25 am_cl36 (hl := (by first | exact ati hmi (by omega) | exact ati hidx (by omega) | exact atig (by omega)))) (S.o (q.fs 0 am_fi36_0 am_cl3) (S.o (q.ls am_ag3) (S.o q.neq (S.end (hK _ ?_)))))))
            clear hK K
            refine Ev.cn (fun c23 => ?_) (fun c23 => ?_)
            · first
            | (first | omega | contradiction)
            | refine Ev.sr fun K hK => S.o q.as (S.o q.as (S.end (hK _ ?_)))
              clear hK K
              refine Ev.weaken (Wk.nsh findC 4 2) ?_
              refine Ev.ret ?_
              refine hR2 _ _ ?_
              refine Ev.ret2 ?_
              refine ⟨?_, rfl⟩
              first
               | exact jE13 hyes (fun h => by have h1 := h.1 s (by rw [← hp]; simp); have h2 := rjX hr ‹_›; omega)
               | exact jE13 hyes (fun h => by have h1 := h.2 s (by rw [← hp2]; simp) (chg_no (by omega)); rw [join0, if_neg (by omega)] at h1; omega)
               | exact jE4 hyes hJ (by rw [hfin]; omega)
               | exact jE0 hyes hJ hfin (by omega)
            · first
            | (first | omega | contradiction)
            | refine Ev.skip ?_
              show Ev _ _ _ _
              refine Ev.region_S fun K hK => S.o q.mv (S.o q.mv (S.o q.mv (S.o (q.ix am_el25 am_cl36 (hl := (by first | exact ati hmi (by omega) | exact ati hidx (by omega) | exact atig (by omega)))) (S.o (q.lsA [_, _] am_ag36 am_cl36) (S.nn (q.bs [[_, _]] true am_el25 am_ze36 am_cl36) (S.ap' [_] am_el25 am_ze36 am_cl36 am_by36 (hh := head_own') (hr := (rows_lit [s])) (h := S.o q.as (S.end (hK _ ?_)))))))))
              clear hK K
              show Ev _ _ _ _
              refine Ev.region_S fun K hK => S.o q.mv (S.o q.add (S.o q.as (S.end (hK _ ?_))))
              clear hK K
              refine hR2 _ _ ?_
              refine roundU [2] [0, 1, 7, 13, 14, 15, 16] ⟨(pre2 ++ [s], suf2), by rw [← hp2]; simp, ?_⟩ ?_ (keep_c (he := (by first | rfl | (simp; done) | (rw [flat_snoc, joinG_3 (chg_no (by omega)) (by omega), List.append_assoc]) | (rw [flat_snoc, joinG_in (fun h0 => by have h1 := (chg_of (mk := s.2) hyes.1.2.1 (by omega)).2.1; omega), List.append_nil]))) (h := keep_n)) (slots_c (he := (by first | rfl | (congr 2; simp; done))) (h := (slots_c (he := (by first | rfl | (congr 1; simp; done) | (congr 1; rw [flat_snoc, joinG_3 (chg_no (by omega)) (by omega), List.append_assoc]) | (rw [flat_snoc, joinG_in (fun h0 => by have h1 := (chg_of (mk := s.2) hyes.1.2.1 (by omega)).2.1; omega), List.append_nil]))) (h := trivial)))) (.c (.c (.c (.c (.c (.c (.c .n)))))))
              intro x hx; simp only [List.mem_append, List.mem_singleton] at hx; rcases hx with hx | rfl
              · exact hinv2 x hx
              · intro h0; first
                | (rw [join0, if_pos (by omega)]; omega)
                | (have h1 := (chg_of (mk := x.2) hyes.1.2.1 (by omega)).2.1; omega)
              all_goals (dsimp only; simp only [List.length_cons]; omega)
        · first
        | (first | omega | contradiction)
        | refine Ev.exit ?_
          refine hR2 _ _ ?_
          show Ev _ _ _ _
          refine Ev.seq ?_
          refine Ev.sr fun K hK => S.o q.mv (S.o (q.lena am_el25) (S.o q.gtr (S.end (hK _ ?_))))
          clear hK K
          refine Ev.cd (fun c24 => ?_) (fun c24 => ?_)
          · first
          | (first | omega | contradiction)
          | refine Ev.sr fun K hK => S.o q.as (S.o q.as (S.end (hK _ ?_)))
            clear hK K
            refine Ev.weaken (Wk.nsh findC 4 2) ?_
            refine Ev.ret ?_
            refine Ev.ret2 ?_
            refine ⟨?_, rfl⟩
            first
             | exact jE13 hyes (fun h => by have h1 := h.1 s (by rw [← hp]; simp); have h2 := rjX hr ‹_›; omega)
             | exact jE13 hyes (fun h => by have h1 := h.2 s (by rw [← hp2]; simp) (chg_no (by omega)); rw [join0, if_neg (by omega)] at h1; omega)
             | exact jE4 hyes hJ (by rw [hfin]; omega)
             | exact jE0 hyes hJ hfin (by omega)
          · first
          | (first | omega | contradiction)
          | refine Ev.skip ?_
            show Ev _ _ _ _
            refine Ev.sr fun K hK => S.o q.mv (S.o q.as (S.o q.as (S.end (hK _ ?_))))
            clear hK K
            refine Ev.weaken (Wk.frz 4 []) ?_
            refine Ev.ret ?_
            refine Ev.ret2 ?_
            refine ⟨?_, rfl⟩
            first
             | exact jE13 hyes (fun h => by have h1 := h.1 s (by rw [← hp]; simp); have h2 := rjX hr ‹_›; omega)
             | exact jE13 hyes (fun h => by have h1 := h.2 s (by rw [← hp2]; simp) (chg_no (by omega)); rw [join0, if_neg (by omega)] at h1; omega)
             | exact jE4 hyes hJ (by rw [hfin]; omega)
             | exact jE0 hyes hJ hfin (by omega)
      · simp only [List.length_cons] at hpl2
        have hidx2 : m[pre2.length]? = some s := by rw [← hp2]; simp
        refine Ev.seq ?_
        refine Ev.sr fun K hK => S.o q.mv (S.o q.mv (S.o (q.lens am_el25) (S.o q.lss (S.end (hK _ ?_)))))
        clear hK K
        refine Ev.cd (fun c25 => ?_) (fun c25 => ?_)
        · first
        | (first | omega | contradiction)
        | refine Ev.skip ?_
          show Ev _ _ _ _
          refine Ev.seq ?_
          refine Ev.block ?_
          refine Ev.seq ?_
          refine Ev.sr fun K hK => S.o q.mv (S.o q.mv (S.o q.mv (S.o (q.ix am_el25 am_cl36 (hl := (by first | exact ati hmi (by omega) | exact ati hidx (by omega) | exact ati hidx2 (by omega) | exact atig (by omega)))) (S.o (q.fs 1 am_fi36_1 am_cl9) (S.o (q.ls am_ag9) (S.c0 (hF := rFind41_fun _ _ (by omega)) (h := S.o q.geq (S.end (hK _ ?_)))))))))
          clear hK K
          refine Ev.cd (fun c26 => ?_) (fun c26 => ?_)
          · first
          | (first | omega | contradiction)
          | refine Ev.exit ?_
            show Ev _ _ _ _
            refine Ev.region_S fun K hK => S.o q.mv (S.o q.add (S.o q.as (S.end (hK _ ?_))))
            clear hK K
            refine hR2 _ _ ?_
            refine roundU [0] [0, 1, 7, 13, 14, 15, 16] ⟨(pre2 ++ [s], suf2), by rw [← hp2]; simp, ?_⟩ ?_ (keep_c (he := (by first | rfl | (simp; done) | (rw [flat_snoc, joinG_3 (chg_no (by omega)) (by omega), List.append_assoc]) | (rw [flat_snoc, joinG_in (fun h0 => by have h1 := (chg_of (mk := s.2) hyes.1.2.1 (by omega)).2.1; omega), List.append_nil]))) (h := keep_n)) (slots_c (he := (by first | rfl | (congr 2; simp; done))) (h := (slots_c (he := (by first | rfl | (congr 1; simp; done) | (congr 1; rw [flat_snoc, joinG_3 (chg_no (by omega)) (by omega), List.append_assoc]) | (rw [flat_snoc, joinG_in (fun h0 => by have h1 := (chg_of (mk := s.2) hyes.1.2.1 (by omega)).2.1; omega), List.append_nil]))) (h := trivial)))) (.c (.c (.c (.c (.c (.c (.c .n)))))))
            intro x hx; simp only [List.mem_append, List.mem_singleton] at hx; rcases hx with hx | rfl
            · exact hinv2 x hx
            · intro h0; first
              | (rw [join0, if_pos (by omega)]; omega)
              | (have h1 := (chg_of (mk := x.2) hyes.1.2.1 (by omega)).2.1; omega)
            all_goals (dsimp only; simp only [List.length_cons]; omega)
          · first
          | (first | omega | contradiction)
          | refine Ev.skip ?_
            show Ev _ _ _ _
            refine Ev.seq ?_
            refine Ev.sr fun K hK => S.o q.mv (S.o q.mv (S.o (q.ix am_el25 am_cl36 (hl := (by first | exact ati hmi (by omega) | exact ati hidx (by omega) | exact ati hidx2 (by omega) | exact atig (by omega)))) (S.o (q.fs 0 am_fi36_0 am_cl3) (S.o (q.ls am_ag3) (S.o q.neq (S.end (hK _ ?_)))))))
            clear hK K
            refine Ev.cn (fun c27 => ?_) (fun c27 => ?_)
            · first
            | (first | omega | contradiction)
            | refine Ev.sr fun K hK => S.o q.as (S.o q.as (S.end (hK _ ?_)))
              clear hK K
              refine Ev.weaken (Wk.nsh findC 4 2) ?_
              refine Ev.ret ?_
              refine hR2 _ _ ?_
              refine Ev.ret2 ?_
              refine ⟨?_, rfl⟩
              first
               | exact jE13 hyes (fun h => by have h1 := h.1 s (by rw [← hp]; simp); have h2 := rjX hr ‹_›; omega)
               | exact jE13 hyes (fun h => by have h1 := h.2 s (by rw [← hp2]; simp) (chg_no (by omega)); rw [join0, if_neg (by omega)] at h1; omega)
               | exact jE4 hyes hJ (by rw [hfin]; omega)
               | exact jE0 hyes hJ hfin (by omega)
            · first
            | (first | omega | contradiction)
            | refine Ev.skip ?_
              show Ev _ _ _ _
              refine Ev.region_S fun K hK => S.o q.mv (S.o q.mv (S.o q.mv (S.o (q.ix am_el25 am_cl36 (hl := (by first | exact ati hmi (by omega) | exact ati hidx (by omega) | exact ati hidx2 (by omega) | exact atig (by omega)))) (S.o (q.lsA [_, _] am_ag36 am_cl36) (S.nn (q.bs [[_, _]] true am_el25 am_ze36 am_cl36) (S.ap' [_] am_el25 am_ze36 am_cl36 am_by36 (hh := head_own') (hr := (rows_lit [s])) (h := S.o q.as (S.end (hK _ ?_)))))))))
              clear hK K
              show Ev _ _ _ _
              refine Ev.region_S fun K hK => S.o q.mv (S.o q.add (S.o q.as (S.end (hK _ ?_))))
              clear hK K
              refine hR2 _ _ ?_
              refine roundU [2] [0, 1, 7, 13, 14, 15, 16] ⟨(pre2 ++ [s], suf2), by rw [← hp2]; simp, ?_⟩ ?_ (keep_c (he := (by first | rfl | (simp; done) | (rw [flat_snoc, joinG_3 (chg_no (by omega)) (by omega), List.append_assoc]) | (rw [flat_snoc, joinG_in (fun h0 => by have h1 := (chg_of (mk := s.2) hyes.1.2.1 (by omega)).2.1; omega), List.append_nil]))) (h := keep_n)) (slots_c (he := (by first | rfl | (congr 2; simp; done))) (h := (slots_c (he := (by first | rfl | (congr 1; simp; done) | (congr 1; rw [flat_snoc, joinG_3 (chg_no (by omega)) (by omega), List.append_assoc]) | (rw [flat_snoc, joinG_in (fun h0 => by have h1 := (chg_of (mk := s.2) hyes.1.2.1 (by omega)).2.1; omega), List.append_nil]))) (h := trivial)))) (.c (.c (.c (.c (.c (.c (.c .n)))))))
              intro x hx; simp only [List.mem_append, List.mem_singleton] at hx; rcases hx with hx | rfl
              · exact hinv2 x hx
              · intro h0; first
                | (rw [join0, if_pos (by omega)]; omega)
                | (have h1 := (chg_of (mk := x.2) hyes.1.2.1 (by omega)).2.1; omega)
              all_goals (dsimp only; simp only [List.length_cons]; omega)
        · first
        | (first | omega | contradiction)
        | refine Ev.exit ?_
          refine hR2 _ _ ?_
          show Ev _ _ _ _
          refine Ev.seq ?_
          refine Ev.sr fun K hK => S.o q.mv (S.o (q.lena am_el25) (S.o q.gtr (S.end (hK _ ?_))))
          clear hK K
          refine Ev.cd (fun c28 => ?_) (fun c28 => ?_)
          · first
          | (first | omega | contradiction)
          | refine Ev.sr fun K hK => S.o q.as (S.o q.as (S.end (hK _ ?_)))
            clear hK K
            refine Ev.weaken (Wk.nsh findC 4 2) ?_
            refine Ev.ret ?_
            refine Ev.ret2 ?_
            refine ⟨?_, rfl⟩
            first
             | exact jE13 hyes (fun h => by have h1 := h.1 s (by rw [← hp]; simp); have h2 := rjX hr ‹_›; omega)
             | exact jE13 hyes (fun h => by have h1 := h.2 s (by rw [← hp2]; simp) (chg_no (by omega)); rw [join0, if_neg (by omega)] at h1; omega)
             | exact jE4 hyes hJ (by rw [hfin]; omega)
             | exact jE0 hyes hJ hfin (by omega)
          · first
          | (first | omega | contradiction)
          | refine Ev.skip ?_
            show Ev _ _ _ _
            refine Ev.sr fun K hK => S.o q.mv (S.o q.as (S.o q.as (S.end (hK _ ?_))))
            clear hK K
            refine Ev.weaken (Wk.frz 4 []) ?_
            refine Ev.ret ?_
            refine Ev.ret2 ?_
            refine ⟨?_, rfl⟩
            first
             | exact jE13 hyes (fun h => by have h1 := h.1 s (by rw [← hp]; simp); have h2 := rjX hr ‹_›; omega)
             | exact jE13 hyes (fun h => by have h1 := h.2 s (by rw [← hp2]; simp) (chg_no (by omega)); rw [join0, if_neg (by omega)] at h1; omega)
             | exact jE4 hyes hJ (by rw [hfin]; omega)
             | exact jE0 hyes hJ hfin (by omega)
end Go.Proofs.Ytccddakkegelkaa
