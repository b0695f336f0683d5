/-
  Layer 28: do bars satisfy a demand?
  Conditions: none.
-/
import Derived.Test.YtigjoaejncfmdaaB13
import Derived.Test.YtigjoaejncfmdaaB14
namespace Go.Proofs.Ytigjoaejncfmdaa
open Go Go.AM
set_option linter.unusedSimpArgs false
set_option linter.unusedVariables false
set_option maxRecDepth 100000
set_option maxHeartbeats 1000000

theorem ev_yes {l pre : List (Int × Int)} {a : Int} {b : Int × Int} (h : b.1 + a < b.2 - a) : evSteps l ++ (pre ++ [b]).flatMap (evBar a) = (evSteps l ++ pre.flatMap (evBar a)) ++ [(b.1 + a, 0, 1), (b.2 - a, 0, -1)] := by
  simp [List.flatMap_append, evBar, h]
theorem ev_no {l pre : List (Int × Int)} {a : Int} {b : Int × Int} (h : ¬ b.1 + a < b.2 - a) : evSteps l ++ (pre ++ [b]).flatMap (evBar a) = evSteps l ++ pre.flatMap (evBar a) := by
  simp [List.flatMap_append, evBar, h]
theorem evBars_len (a : Int) : ∀ b : List (Int × Int), (b.flatMap (evBar a)).length ≤ 2 * b.length := by
  refine snocI (by simp) ?_
  intro l s ih
  rw [List.flatMap_append, List.length_append, List.length_append, List.length_singleton]
  have : ([s].flatMap (evBar a)).length ≤ 2 := by
    simp only [List.flatMap_cons, List.flatMap_nil, List.append_nil, evBar]
    split <;> simp
  omega
theorem ev_kinds {l bars : List (Int × Int)} {a : Int} {e : Ev3} (h : e ∈ evs l a bars) : e.2.1 = 1 ∨ (-1 ≤ e.2.2 ∧ e.2.2 ≤ 1) := by
  rcases List.mem_append.1 h with h | h
  · obtain ⟨s, _, rfl⟩ := List.mem_map.1 h
    exact .inl rfl
  · obtain ⟨b, _, hb⟩ := List.mem_flatMap.1 h
    unfold evBar at hb
    split at hb
    · simp only [List.mem_cons, List.not_mem_nil, or_false] at hb
      rcases hb with rfl | rfl <;> exact .inr (by simp)
    · cases hb
theorem sw_bd : ∀ P : List Ev3, (∀ e ∈ P, e.2.1 = 1 ∨ (-1 ≤ e.2.2 ∧ e.2.2 ≤ 1)) → -(P.length : Int) ≤ (swE P).2 ∧ (swE P).2 ≤ P.length := by
  refine snocI (fun _ => by simp [swE]) ?_
  intro P e ih h
  have h1 := ih fun x hx => h x (by simp [hx])
  have h2 := h e (by simp)
  rw [swE_snoc, swF, List.length_append, List.length_singleton]
  split
  · simp only; omega
  · simp only; omega
theorem sw_1 {pre : List Ev3} {sa sk sb : Int} (h : sk = 1) : swE (pre ++ [(sa, sk, sb)]) = (sb, (swE pre).2) := by rw [swE_snoc, swF]; exact if_pos h
theorem sw_0 {pre : List Ev3} {sa sk sb : Int} (h : ¬ sk = 1) : swE (pre ++ [(sa, sk, sb)]) = ((swE pre).1, (swE pre).2 + sb) := by rw [swE_snoc, swF]; exact if_neg h
theorem goes_at {ev pre suf : List Ev3} {e : Ev3} {i : Int} (hp : pre ++ e :: suf = ev) (hi : i = (pre.length : Int) + 1) (hl : i < (ev.length : Int)) : goesOn e suf = decide ((ev[i.toNat]!).1 = e.1) := by
  cases suf with
  | nil => rw [← hp] at hl; simp at hl; omega
  | cons f r =>
    have h1 : ev[i.toNat]? = some f := by
      rw [← hp, show i.toNat = pre.length + 1 by omega]
      simp
    have h2 : ev[i.toNat]! = f := by rw [List.getElem!_eq_getElem?_getD, h1]; rfl
    rw [h2]
    rfl
theorem goes_end {ev pre suf : List Ev3} {e : Ev3} {i : Int} (hp : pre ++ e :: suf = ev) (hi : i = (pre.length : Int) + 1) (hl : ¬ i < (ev.length : Int)) : goesOn e suf = false := by
  cases suf with
  | nil => rfl
  | cons f r => rw [← hp] at hl; simp at hl; omega
theorem sweep_go {A : Int} {pre suf : List Ev3} {e : Ev3} (h : goesOn e suf = true) : sweep A (swE pre) (e :: suf) = sweep A (swE (pre ++ [e])) suf := by rw [sweep, h, swE_snoc]; simp
theorem sweep_ok {A : Int} {pre suf : List Ev3} {e : Ev3} (h : (swE (pre ++ [e])).1 ≤ (swE (pre ++ [e])).2 * A) : sweep A (swE pre) (e :: suf) = sweep A (swE (pre ++ [e])) suf := by rw [sweep, ← swE_snoc, decide_eq_true h]; simp
theorem sweep_no {A : Int} {pre suf : List Ev3} {e : Ev3} (hg : goesOn e suf = false) (h : ¬ (swE (pre ++ [e])).1 ≤ (swE (pre ++ [e])).2 * A) : sweep A (swE pre) (e :: suf) = false := by rw [sweep, ← swE_snoc, decide_eq_false h, hg]; simp
theorem mul_bd2 {x A : Int} (h1 : -3000 ≤ x) (h2 : x ≤ 3000) (h3 : 0 ≤ A) (h4 : A ≤ 125664) : -400000000 ≤ x * A ∧ x * A ≤ 400000000 := by
  have e1 : x * A ≤ 3000 * A := Int.mul_le_mul_of_nonneg_right h2 h3
  have e2 : -3000 * A ≤ x * A := Int.mul_le_mul_of_nonneg_right h1 h3
  omega
def chkE (l : List (Int × Int)) (d a : Int) (bars : List (Int × Int)) : Int := if givenE l d a = 0 then barsE bars else givenE l d a
def chkV (l : List (Int × Int)) (d a : Int) (bars : List (Int × Int)) : Bool := decide (chkE l d a bars = 0 ∧ checkP l a (areaOf d) bars)
theorem chk_1 {l : List (Int × Int)} {d a : Int} {bars : List (Int × Int)} (h : ¬ givenE l d a = 0) : chkE l d a bars = givenE l d a ∧ chkV l d a bars = false := by
  have e : chkE l d a bars = givenE l d a := if_neg h
  exact ⟨e, decide_eq_false fun h2 => h (by rw [← e]; exact h2.1)⟩
theorem chk_2 {l : List (Int × Int)} {d a : Int} {bars : List (Int × Int)} (h : givenE l d a = 0) (hb : ¬ barsE bars = 0) : chkE l d a bars = barsE bars ∧ chkV l d a bars = false := by
  have e : chkE l d a bars = barsE bars := if_pos h
  exact ⟨e, decide_eq_false fun h2 => hb (by rw [← e]; exact h2.1)⟩
theorem chk_0 {l : List (Int × Int)} {d a : Int} {bars : List (Int × Int)} (h : givenE l d a = 0) (hb : barsE bars = 0) : chkE l d a bars = 0 ∧ chkV l d a bars = decide (checkP l a (areaOf d) bars) := by
  have e : chkE l d a bars = 0 := (if_pos h).trans hb
  exact ⟨e, decide_eq_decide.2 ⟨fun h2 => h2.2, fun h2 => ⟨e, h2⟩⟩⟩
theorem Check_fun (l : List (Int × Int)) (d a : Int) (bars : List (Int × Int)) (hbl0 : bars.length ≤ 140737488355328) :
    Fun Try.prog 31 [.sh 2 (l.map stepC), .lit (.int .i64 d), .lit (.int .i64 a), .sh 2 (bars.map stepC)] (Ret (.tup [.lit (.bool (chkV l d a bars)), .lit (.int .i64 (chkE l d a bars))]) []) := by
  refine Fun.of (nt := 123) (rs := [.tmp 8, .tmp 9]) Try.func31 rfl rfl rfl rfl rfl ?_
  refine Ev.sr fun K hK => S.o q.as (S.o q.as (S.end (hK _ ?_)))
  clear hK K
  refine Ev.sr fun K hK => S.o q.mv (S.o q.mv (S.o q.mv (S.c0 (hF := given_fun _ _ _) (h := S.o q.mv (S.o q.ex (S.o q.ex (S.o q.as (S.o q.as (S.end (hK _ ?_))))))))))
  clear hK K
  refine Ev.seq ?_
  refine Ev.sr fun K hK => S.o q.mv (S.o q.neq (S.end (hK _ ?_)))
  clear hK K
  refine Ev.cn (fun c1 => ?_) (fun c1 => ?_)
  · first
  | (first | omega | contradiction)
  | refine Ev.sr fun K hK => S.o q.mv (S.o q.as (S.o q.as (S.end (hK _ ?_))))
    clear hK K
    refine Ev.ret ?_
    refine Ev.ret2 ?_
    refine ⟨?_, rfl⟩
    first
     | (rw [(chk_1 ‹_›).1, (chk_1 ‹_›).2]; done)
     | (rw [(chk_2 ‹_› ‹_›).1, (chk_2 ‹_› ‹_›).2]; done)
     | (rw [hE, hV, ← hsw, hinv3, (sweep_no (by first | exact goes_end hp3 rfl ‹_› | exact (goes_at hp3 rfl ‹_›).trans (decide_eq_false ‹_›)) (by rw [hF]; simp only; omega))]; done)
     | (rw [hE, hV, ← hsw, hinv3]; rfl)
     | (exfalso; omega)
  · first
  | (first | omega | contradiction)
  | refine Ev.skip ?_
    show Ev _ _ _ _
    refine Ev.seq ?_
    refine Ev.sr fun K hK => S.o q.mv (S.c0 (hF := Total_fun _ (by omega)) (h := S.o q.mv (S.o q.ex (S.o q.ex (S.o q.as (S.o q.as (S.end (hK _ ?_))))))))
    clear hK K
    refine Ev.sr fun K hK => S.o q.mv (S.o q.neq (S.end (hK _ ?_)))
    clear hK K
    refine Ev.cn (fun c2 => ?_) (fun c2 => ?_)
    · first
    | (first | omega | contradiction)
    | refine Ev.sr fun K hK => S.o q.mv (S.o q.as (S.o q.as (S.end (hK _ ?_))))
      clear hK K
      refine Ev.ret ?_
      refine Ev.ret2 ?_
      refine ⟨?_, rfl⟩
      first
       | (rw [(chk_1 ‹_›).1, (chk_1 ‹_›).2]; done)
       | (rw [(chk_2 ‹_› ‹_›).1, (chk_2 ‹_› ‹_›).2]; done)
       | (rw [hE, hV, ← hsw, hinv3, (sweep_no (by first | exact goes_end hp3 rfl ‹_› | exact (goes_at hp3 rfl ‹_›).trans (decide_eq_false ‹_›)) (by rw [hF]; simp only; omega))]; done)
       | (rw [hE, hV, ← hsw, hinv3]; rfl)
       | (exfalso; omega)
    · first
    | (first | omega | contradiction)
    | refine Ev.skip ?_
      show Ev _ _ _ _
      have hg : givenE l d a = 0 := ‹_›
      have hb : barsE bars = 0 := ‹_›
      obtain ⟨hs1, hs2, hlast, hz, ha0, ha1, hA0, hA1⟩ := givenZ hg
      obtain ⟨hbl, hbo, _⟩ := bars_ok hb
      have hasc := okSteps_asc hs2
      obtain ⟨hE, hV⟩ := chk_0 hg hb
      have hvl : (evs l a bars).length ≤ 2200 := by
        have := evBars_len a bars
        rw [evs, List.length_append, evSteps, List.length_map]; omega
      rw [show givenA l d a = areaOf d from if_pos hg]
      refine Ev.sr fun K hK => S.o q.as (S.end (hK _ ?_))
      clear hK K
      refine Ev.seq ?_
      refine Ev.sr fun K hK => S.o q.mv (S.o (q.lens am_el22) (S.o q.mv (S.end (hK _ ?_))))
      clear hK K
      refine Ev.block ?_
      refine Ev.weaken (Wk.nown ev3C 14 70 3) ?_
      refine Ev.loopU (ι := {p : List (Int × Int) × List (Int × Int) // p.1 ++ p.2 = l ∧ True}) [0] [2, 3, 8, 9, 10, 43, 44] (fun ⟨(pre, suf), _⟩ => [(45, .lit (.int .i64 ((pre.length : Int)))), (14, .als 0 0 (evSteps pre).length)]) (fun ⟨(pre, suf), _⟩ => [(0, ⟨true, 70, 3, (evSteps pre).map ev3C, true⟩)]) (fun ⟨(pre, suf), _⟩ => suf.length) ⟨([], l), rfl, trivial⟩ (.c (.c (.c (.c (.c (.c (.c .n))))))) (keep_c (he := (by first | rfl | (simp [evSteps]; done))) (h := keep_n)) (slots_c (he := (by first | rfl | (congr 2; simp; done))) (h := (slots_c (he := (by first | rfl | (congr 1; simp [evSteps]; done))) (h := trivial)))) ?_
      rintro ⟨⟨pre, suf⟩, hp, hinv⟩ R0 hR0
      dsimp only [List.cons_append, List.nil_append, List.length_cons, List.length_nil]
      simp only at hp hinv
      have hpl : pre.length + suf.length = (l).length := by rw [← hp, List.length_append]
      rcases suf with _ | ⟨s, suf⟩
      · rw [List.append_nil] at hp; subst pre; simp only [List.length_nil] at hpl
        refine Ev.sr fun K hK => S.o q.lss (S.end (hK _ ?_))
        clear hK K
        refine Ev.ud (fun c3 => ?_) (fun c3 => ?_)
        · first | omega | contradiction
        · first
        | (first | omega | contradiction)
        | refine Ev.exit ?_
          refine hR0 _ _ ?_
          show Ev _ _ _ _
          refine Ev.seq ?_
          refine Ev.sr fun K hK => S.o q.mv (S.o (q.lens am_el25) (S.o q.mv (S.end (hK _ ?_))))
          clear hK K
          refine Ev.block ?_
          refine Ev.loopU (ι := {q : List (Int × Int) × List (Int × Int) // q.1 ++ q.2 = bars}) [0] [2, 3, 8, 9, 10, 43, 44, 45, 46, 58, 59] (fun ⟨(pre2, suf2), _⟩ => [(60, .lit (.int .i64 ((pre2.length : Int)))), (14, .als 0 0 (evSteps l ++ pre2.flatMap (evBar a)).length)]) (fun ⟨(pre2, suf2), _⟩ => [(0, ⟨true, 70, 3, (evSteps l ++ pre2.flatMap (evBar a)).map ev3C, true⟩)]) (fun ⟨(pre2, suf2), _⟩ => suf2.length) ⟨([], bars), rfl⟩ (.c (.c (.c (.c (.c (.c (.c (.c (.c (.c (.c .n))))))))))) (keep_c (he := (by first | rfl | (simp; done) | (rw [ev_yes (by omega)]; done) | (rw [ev_yes (by omega)]; simp; done) | (rw [ev_no (by omega)]; done))) (h := keep_n)) (slots_c (he := (by first | rfl | (congr 2; simp; done))) (h := (slots_c (he := (by first | rfl | (congr 1; simp; done) | (show AV.als 0 0 _ = AV.als 0 0 _; rw [ev_yes (by omega)]; done) | (rw [ev_no (by omega)]; done))) (h := trivial)))) ?_
          rintro ⟨⟨pre2, suf2⟩, hp2⟩ R2 hR2
          dsimp only [List.cons_append, List.nil_append, List.length_cons, List.length_nil]
          simp only at hp2
          have hpl2 : pre2.length + suf2.length = bars.length := by rw [← hp2, List.length_append]
          have hpv := evBars_len a pre2
          have hps : (evSteps l).length = l.length := by rw [evSteps, List.length_map]
          have hpa : (evSteps l ++ pre2.flatMap (evBar a)).length = (evSteps l).length + (pre2.flatMap (evBar a)).length := List.length_append
          rcases suf2 with _ | ⟨s, suf2⟩
          · rw [List.append_nil] at hp2; subst pre2; simp only [List.length_nil] at hpl2
            refine Ev.sr fun K hK => S.o q.lss (S.end (hK _ ?_))
            clear hK K
            refine Ev.ud (fun c4 => ?_) (fun c4 => ?_)
            · first | omega | contradiction
            · first
            | (first | omega | contradiction)
            | refine Ev.exit ?_
              refine hR2 _ _ ?_
              show Ev _ _ _ _
              refine Ev.sr fun K hK => S.o q.mv (S.cRdx (ι := List Ev3) (Φ := fun l' => l'.Perm (evs l a bars) ∧ l'.Pairwise fun x y => x.1 ≤ y.1) (lf := fun l' => [(0, ⟨true, 70, 3, l'.map ev3C, true⟩)]) [0] 1 (hob := (keep_c (he := rfl) (h := keep_n))) (hF := sortEv_fun (evs l a bars) (by omega)) (hn' := fun _ => below1 (by decide)) (h := fun ev hev => ?_))
              have hsw := sweep_check (A := areaOf d) (by omega) hasc hev.1 hev.2
              have hevl := hev.1.length_eq
              have hevk : ∀ e ∈ ev, e.2.1 = 1 ∨ (-1 ≤ e.2.2 ∧ e.2.2 ≤ 1) := fun e he => ev_kinds (hev.1.mem_iff.1 he)
              rw [show (evSteps l ++ bars.flatMap (evBar a)).length = ev.length from hevl.symm]
              refine S.end (hK _ ?_)
              clear hK K
              refine Ev.sr fun K hK => S.o q.as (S.o q.as (S.end (hK _ ?_)))
              clear hK K
              refine Ev.seq ?_
              refine Ev.sr fun K hK => S.o q.mv (S.o (q.lena am_el68) (S.o q.mv (S.end (hK _ ?_))))
              clear hK K
              refine Ev.block ?_
              refine Ev.loopU (ι := {q : List Ev3 × List Ev3 // q.1 ++ q.2 = ev ∧ sweep (areaOf d) (0, 0) ev = sweep (areaOf d) (swE q.1) q.2}) [0] [2, 3, 10, 43, 44, 45, 46, 58, 59, 60, 61, 83, 85, 86] (fun ⟨(pre3, suf3), _⟩ => [(87, .lit (.int .i64 ((pre3.length : Int)))), (21, .lit (.int .i64 ((swE pre3).1))), (22, .lit (.int .i64 ((swE pre3).2))), (14, .als 0 0 (ev).length)]) (fun ⟨(pre3, suf3), _⟩ => [(0, ⟨true, 70, 3, (ev).map ev3C, true⟩)]) (fun ⟨(pre3, suf3), _⟩ => suf3.length) ⟨([], ev), rfl, rfl⟩ (.c (.c (.c (.c (.c (.c (.c (.c (.c (.c (.c (.c (.c (.c .n)))))))))))))) (keep_c (he := (by first | rfl | (simp; done))) (h := keep_n)) (slots_c (he := (by first | rfl | (congr 2; simp; done))) (h := (slots_c (he := (by first | rfl | (rw [hF]; done))) (h := (slots_c (he := (by first | rfl | (rw [hF]; done))) (h := (slots_c (he := (by first | rfl | (simp; done) | (congr 2; omega))) (h := trivial)))))))) ?_
              rintro ⟨⟨pre3, suf3⟩, hp3, hinv3⟩ R4 hR4
              dsimp only [List.cons_append, List.nil_append, List.length_cons, List.length_nil]
              simp only at hp3 hinv3
              have hpl3 : pre3.length + suf3.length = ev.length := by rw [← hp3, List.length_append]
              rcases suf3 with _ | ⟨⟨sa, sk, sb⟩, suf3⟩
              · simp only [List.length_nil] at hpl3
                refine Ev.sr fun K hK => S.o q.lss (S.end (hK _ ?_))
                clear hK K
                refine Ev.ud (fun c5 => ?_) (fun c5 => ?_)
                · first | omega | contradiction
                · first
                | (first | omega | contradiction)
                | refine Ev.exit ?_
                  refine hR4 _ _ ?_
                  show Ev _ _ _ _
                  refine Ev.sr fun K hK => S.o q.as (S.o q.as (S.end (hK _ ?_)))
                  clear hK K
                  refine Ev.ret ?_
                  refine Ev.ret2 ?_
                  refine ⟨?_, rfl⟩
                  first
                   | (rw [(chk_1 ‹_›).1, (chk_1 ‹_›).2]; done)
                   | (rw [(chk_2 ‹_› ‹_›).1, (chk_2 ‹_› ‹_›).2]; done)
                   | (rw [hE, hV, ← hsw, hinv3, (sweep_no (by first | exact goes_end hp3 rfl ‹_› | exact (goes_at hp3 rfl ‹_›).trans (decide_eq_false ‹_›)) (by rw [hF]; simp only; omega))]; done)
                   | (rw [hE, hV, ← hsw, hinv3]; rfl)
                   | (exfalso; omega)
              · simp only [List.length_cons] at hpl3
                have hidx3 : ev[pre3.length]? = some (sa, sk, sb) := by rw [← hp3]; simp
                have hk := hevk _ (List.mem_of_getElem? hidx3)
                simp only at hk
                have hbd := sw_bd pre3 (fun e he => hevk e (by rw [← hp3]; simp [he]))
                refine Ev.sr fun K hK => S.o q.lss (S.end (hK _ ?_))
                clear hK K
                refine Ev.ud (fun c6 => ?_) (fun c6 => ?_)
                · first
                | (first | omega | contradiction)
                | refine Ev.seq ?_
                  refine Ev.block ?_
                  refine Ev.sr fun K hK => S.o q.mv (S.o (q.ia am_el68 am_cl70) (S.o (q.lxA [_, _, _] am_ag70 am_cl70 (hl := (by first | exact at_ hidx3 (by omega) | exact at_g (by omega)))) (S.nn (q.al am_ze70) (S.o q.as (S.sv [_, _, _] true [_] am_in70 am_cl70 (h := S.end (hK _ ?_)))))))
                  clear hK K
                  refine Ev.seq ?_
                  refine Ev.sr fun K hK => S.o (q.fa 1 am_fi70_1 am_cl3) (S.o (q.lv am_ag3) (S.o q.eql (S.end (hK _ ?_))))
                  clear hK K
                  refine Ev.cd (fun c7 => ?_) (fun c7 => ?_)
                  · first
                  | (first | omega | contradiction)
                  | refine Ev.region_S fun K hK => S.o (q.fa 2 am_fi70_2 am_cl3) (S.o (q.lv am_ag3) (S.o q.as (S.end (hK _ ?_))))
                    clear hK K
                    show Ev _ _ _ _
                    refine Ev.seq ?_
                    first
                     | have hF := sw_1 (pre := pre3) (sa := sa) (sb := sb) ‹sk = 1›
                     | have hF := sw_0 (pre := pre3) (sa := sa) (sb := sb) ‹¬ sk = 1›
                    refine Ev.sm (tbs [(0, 0), (1, 1), (0, 0), (3, 4), (4, 15), (5, 31), (6, 63), (6, 63), (8, 191), (9, 511), (10, 1023), (11, 2047), (6, 63), (13, 4159), (14, 16383), (15, 32767)]) 16 fun K hK => M.o q.mv (M.o q.add (M.o q.mv (M.o (q.lena am_el68) (M.o q.lss (M.bd q.mv (fun c8 => ?_) (fun c8 => ?_))))))
                    · first
                    | (first | omega | contradiction)
                    | refine M.o q.mv (M.o q.mv (M.o q.add (M.o (q.ia am_el68 am_cl70) (M.o (q.fa 0 am_fi70_0 am_cl3) (M.o (q.lx am_ag3 (hl := (by first | exact at_ hidx3 (by omega) | exact at_g (by omega)))) (M.o (q.fa 0 am_fi70_0 am_cl3) (M.o (q.lv am_ag3) (M.o q.eql (M.o q.pt (M.end [_, _] (h := S.end (hK _ ?_))))))))))))
                      clear hK K
                      refine Ev.cd (fun c9 => ?_) (fun c9 => ?_)
                      · first
                      | (first | omega | contradiction)
                      | refine Ev.exit ?_
                        show Ev _ _ _ _
                        refine Ev.region_S fun K hK => S.o q.add (S.o q.mv (S.end (hK _ ?_)))
                        clear hK K
                        refine hR4 _ _ ?_
                        refine roundU [0] [2, 3, 10, 43, 44, 45, 46, 58, 59, 60, 61, 83, 85, 86] ⟨(pre3 ++ [(sa, sk, sb)], suf3), by rw [← hp3]; simp, ?_⟩ ?_ (keep_c (he := (by first | rfl | (simp; done))) (h := keep_n)) (slots_c (he := (by first | rfl | (congr 2; simp; done))) (h := (slots_c (he := (by first | rfl | (rw [hF]; done))) (h := (slots_c (he := (by first | rfl | (rw [hF]; done))) (h := (slots_c (he := (by first | rfl | (simp; done) | (congr 2; omega))) (h := trivial)))))))) (.c (.c (.c (.c (.c (.c (.c (.c (.c (.c (.c (.c (.c (.c .n))))))))))))))
                        first
                         | exact hinv3.trans (sweep_go ((goes_at hp3 rfl ‹_›).trans (decide_eq_true ‹_›)))
                         | exact hinv3.trans (sweep_ok (by rw [hF]; simp only; omega))
                        all_goals (dsimp only; simp only [List.length_cons]; omega)
                      · first
                      | (first | omega | contradiction)
                      | refine Ev.skip ?_
                        show Ev _ _ _ _
                        have hm1 := mul_bd2 (x := (swE pre3).2) (A := areaOf d) (by omega) (by omega) (by omega) hA1
                        first
                         | have hm2 := mul_bd2 (x := (swE pre3).2 + sb) (A := areaOf d) (by omega) (by omega) (by omega) hA1
                         | skip
                        refine Ev.sr fun K hK => S.o q.mv (S.o q.mv (S.o q.mul (S.o q.mv (S.o q.lss (S.end (hK _ ?_))))))
                        clear hK K
                        refine Ev.cd (fun c10 => ?_) (fun c10 => ?_)
                        · first
                        | (first | omega | contradiction)
                        | refine Ev.sr fun K hK => S.o q.as (S.o q.as (S.end (hK _ ?_)))
                          clear hK K
                          refine Ev.ret ?_
                          refine hR4 _ _ ?_
                          refine Ev.ret2 ?_
                          refine ⟨?_, rfl⟩
                          first
                           | (rw [(chk_1 ‹_›).1, (chk_1 ‹_›).2]; done)
                           | (rw [(chk_2 ‹_› ‹_›).1, (chk_2 ‹_› ‹_›).2]; done)
                           | (rw [hE, hV, ← hsw, hinv3, (sweep_no (by first | exact goes_end hp3 rfl ‹_› | exact (goes_at hp3 rfl ‹_›).trans (decide_eq_false ‹_›)) (by rw [hF]; simp only; omega))]; done)
                           | (rw [hE, hV, ← hsw, hinv3]; rfl)
                           | (exfalso; omega)
                        · first
                        | (first | omega | contradiction)
                        | refine Ev.skip ?_
                          show Ev _ _ _ _
                          refine Ev.region_S fun K hK => S.o q.add (S.o q.mv (S.end (hK _ ?_)))
                          clear hK K
                          refine hR4 _ _ ?_
                          refine roundU [0] [2, 3, 10, 43, 44, 45, 46, 58, 59, 60, 61, 83, 85, 86] ⟨(pre3 ++ [(sa, sk, sb)], suf3), by rw [← hp3]; simp, ?_⟩ ?_ (keep_c (he := (by first | rfl | (simp; done))) (h := keep_n)) (slots_c (he := (by first | rfl | (congr 2; simp; done))) (h := (slots_c (he := (by first | rfl | (rw [hF]; done))) (h := (slots_c (he := (by first | rfl | (rw [hF]; done))) (h := (slots_c (he := (by first | rfl | (simp; done) | (congr 2; omega))) (h := trivial)))))))) (.c (.c (.c (.c (.c (.c (.c (.c (.c (.c (.c (.c (.c (.c .n))))))))))))))
                          first
                           | exact hinv3.trans (sweep_go ((goes_at hp3 rfl ‹_›).trans (decide_eq_true ‹_›)))
                           | exact hinv3.trans (sweep_ok (by rw [hF]; simp only; omega))
                          all_goals (dsimp only; simp only [List.length_cons]; omega)
                    · first
                    | (first | omega | contradiction)
                    | refine M.sk (M.sk (M.sk (M.sk (M.sk (M.sk (M.sk (M.sk (M.sk (M.o q.pf (M.end [_, _] (h := S.end (hK _ ?_))))))))))))
                      clear hK K
                      refine Ev.cf ?_
                      refine Ev.skip ?_
                      show Ev _ _ _ _
                      have hm1 := mul_bd2 (x := (swE pre3).2) (A := areaOf d) (by omega) (by omega) (by omega) hA1
                      first
                       | have hm2 := mul_bd2 (x := (swE pre3).2 + sb) (A := areaOf d) (by omega) (by omega) (by omega) hA1
                       | skip
                      refine Ev.sr fun K hK => S.o q.mv (S.o q.mv (S.o q.mul (S.o q.mv (S.o q.lss (S.end (hK _ ?_))))))
                      clear hK K
                      refine Ev.cd (fun c11 => ?_) (fun c11 => ?_)
                      · first
                      | (first | omega | contradiction)
                      | refine Ev.sr fun K hK => S.o q.as (S.o q.as (S.end (hK _ ?_)))
                        clear hK K
                        refine Ev.ret ?_
                        refine hR4 _ _ ?_
                        refine Ev.ret2 ?_
                        refine ⟨?_, rfl⟩
                        first
                         | (rw [(chk_1 ‹_›).1, (chk_1 ‹_›).2]; done)
                         | (rw [(chk_2 ‹_› ‹_›).1, (chk_2 ‹_› ‹_›).2]; done)
                         | (rw [hE, hV, ← hsw, hinv3, (sweep_no (by first | exact goes_end hp3 rfl ‹_› | exact (goes_at hp3 rfl ‹_›).trans (decide_eq_false ‹_›)) (by rw [hF]; simp only; omega))]; done)
                         | (rw [hE, hV, ← hsw, hinv3]; rfl)
                         | (exfalso; omega)
                      · first
                      | (first | omega | contradiction)
                      | refine Ev.skip ?_
                        show Ev _ _ _ _
                        refine Ev.region_S fun K hK => S.o q.add (S.o q.mv (S.end (hK _ ?_)))
                        clear hK K
                        refine hR4 _ _ ?_
                        refine roundU [0] [2, 3, 10, 43, 44, 45, 46, 58, 59, 60, 61, 83, 85, 86] ⟨(pre3 ++ [(sa, sk, sb)], suf3), by rw [← hp3]; simp, ?_⟩ ?_ (keep_c (he := (by first | rfl | (simp; done))) (h := keep_n)) (slots_c (he := (by first | rfl | (congr 2; simp; done))) (h := (slots_c (he := (by first | rfl | (rw [hF]; done))) (h := (slots_c (he := (by first | rfl | (rw [hF]; done))) (h := (slots_c (he := (by first | rfl | (simp; done) | (congr 2; omega))) (h := trivial)))))))) (.c (.c (.c (.c (.c (.c (.c (.c (.c (.c (.c (.c (.c (.c .n))))))))))))))
                        first
                         | exact hinv3.trans (sweep_go ((goes_at hp3 rfl ‹_›).trans (decide_eq_true ‹_›)))
                         | exact hinv3.trans (sweep_ok (by rw [hF]; simp only; omega))
                        all_goals (dsimp only; simp only [List.length_cons]; omega)
                  · first
                  | (first | omega | contradiction)
                  | refine Ev.region_S fun K hK => S.o q.mv (S.o (q.fa 2 am_fi70_2 am_cl3) (S.o (q.lv am_ag3) (S.o q.add (S.o q.as (S.end (hK _ ?_))))))
                    clear hK K
                    show Ev _ _ _ _
                    refine Ev.seq ?_
                    first
                     | have hF := sw_1 (pre := pre3) (sa := sa) (sb := sb) ‹sk = 1›
                     | have hF := sw_0 (pre := pre3) (sa := sa) (sb := sb) ‹¬ sk = 1›
                    refine Ev.sm (tbs [(0, 0), (1, 1), (0, 0), (3, 4), (4, 15), (5, 31), (6, 63), (6, 63), (8, 191), (9, 511), (10, 1023), (11, 2047), (6, 63), (13, 4159), (14, 16383), (15, 32767)]) 16 fun K hK => M.o q.mv (M.o q.add (M.o q.mv (M.o (q.lena am_el68) (M.o q.lss (M.bd q.mv (fun c12 => ?_) (fun c12 => ?_))))))
                    · first
                    | (first | omega | contradiction)
                    | refine M.o q.mv (M.o q.mv (M.o q.add (M.o (q.ia am_el68 am_cl70) (M.o (q.fa 0 am_fi70_0 am_cl3) (M.o (q.lx am_ag3 (hl := (by first | exact at_ hidx3 (by omega) | exact at_g (by omega)))) (M.o (q.fa 0 am_fi70_0 am_cl3) (M.o (q.lv am_ag3) (M.o q.eql (M.o q.pt (M.end [_, _] (h := S.end (hK _ ?_))))))))))))
                      clear hK K
                      refine Ev.cd (fun c13 => ?_) (fun c13 => ?_)
                      · first
                      | (first | omega | contradiction)
                      | refine Ev.exit ?_
                        show Ev _ _ _ _
                        refine Ev.region_S fun K hK => S.o q.add (S.o q.mv (S.end (hK _ ?_)))
                        clear hK K
                        refine hR4 _ _ ?_
                        refine roundU [0] [2, 3, 10, 43, 44, 45, 46, 58, 59, 60, 61, 83, 85, 86] ⟨(pre3 ++ [(sa, sk, sb)], suf3), by rw [← hp3]; simp, ?_⟩ ?_ (keep_c (he := (by first | rfl | (simp; done))) (h := keep_n)) (slots_c (he := (by first | rfl | (congr 2; simp; done))) (h := (slots_c (he := (by first | rfl | (rw [hF]; done))) (h := (slots_c (he := (by first | rfl | (rw [hF]; done))) (h := (slots_c (he := (by first | rfl | (simp; done) | (congr 2; omega))) (h := trivial)))))))) (.c (.c (.c (.c (.c (.c (.c (.c (.c (.c (.c (.c (.c (.c .n))))))))))))))
                        first
                         | exact hinv3.trans (sweep_go ((goes_at hp3 rfl ‹_›).trans (decide_eq_true ‹_›)))
                         | exact hinv3.trans (sweep_ok (by rw [hF]; simp only; omega))
                        all_goals (dsimp only; simp only [List.length_cons]; omega)
                      · first
                      | (first | omega | contradiction)
                      | refine Ev.skip ?_
                        show Ev _ _ _ _
                        have hm1 := mul_bd2 (x := (swE pre3).2) (A := areaOf d) (by omega) (by omega) (by omega) hA1
                        first
                         | have hm2 := mul_bd2 (x := (swE pre3).2 + sb) (A := areaOf d) (by omega) (by omega) (by omega) hA1
                         | skip
                        refine Ev.sr fun K hK => S.o q.mv (S.o q.mv (S.o q.mul (S.o q.mv (S.o q.lss (S.end (hK _ ?_))))))
                        clear hK K
                        refine Ev.cd (fun c14 => ?_) (fun c14 => ?_)
                        · first
                        | (first | omega | contradiction)
                        | refine Ev.sr fun K hK => S.o q.as (S.o q.as (S.end (hK _ ?_)))
                          clear hK K
                          refine Ev.ret ?_
                          refine hR4 _ _ ?_
                          refine Ev.ret2 ?_
                          refine ⟨?_, rfl⟩
                          first
                           | (rw [(chk_1 ‹_›).1, (chk_1 ‹_›).2]; done)
                           | (rw [(chk_2 ‹_› ‹_›).1, (chk_2 ‹_› ‹_›).2]; done)
                           | (rw [hE, hV, ← hsw, hinv3, (sweep_no (by first | exact goes_end hp3 rfl ‹_› | exact (goes_at hp3 rfl ‹_›).trans (decide_eq_false ‹_›)) (by rw [hF]; simp only; omega))]; done)
                           | (rw [hE, hV, ← hsw, hinv3]; rfl)
                           | (exfalso; omega)
                        · first
                        | (first | omega | contradiction)
                        | refine Ev.skip ?_
                          show Ev _ _ _ _
                          refine Ev.region_S fun K hK => S.o q.add (S.o q.mv (S.end (hK _ ?_)))
                          clear hK K
                          refine hR4 _ _ ?_
                          refine roundU [0] [2, 3, 10, 43, 44, 45, 46, 58, 59, 60, 61, 83, 85, 86] ⟨(pre3 ++ [(sa, sk, sb)], suf3), by rw [← hp3]; simp, ?_⟩ ?_ (keep_c (he := (by first | rfl | (simp; done))) (h := keep_n)) (slots_c (he := (by first | rfl | (congr 2; simp; done))) (h := (slots_c (he := (by first | rfl | (rw [hF]; done))) (h := (slots_c (he := (by first | rfl | (rw [hF]; done))) (h := (slots_c (he := (by first | rfl | (simp; done) | (congr 2; omega))) (h := trivial)))))))) (.c (.c (.c (.c (.c (.c (.c (.c (.c (.c (.c (.c (.c (.c .n))))))))))))))
                          first
                           | exact hinv3.trans (sweep_go ((goes_at hp3 rfl ‹_›).trans (decide_eq_true ‹_›)))
                           | exact hinv3.trans (sweep_ok (by rw [hF]; simp only; omega))
                          all_goals (dsimp only; simp only [List.length_cons]; omega)
                    · first
                    | (first | omega | contradiction)
                    | refine M.sk (M.sk (M.sk (M.sk (M.sk (M.sk (M.sk (M.sk (M.sk (M.o q.pf (M.end [_, _] (h := S.end (hK _ ?_))))))))))))
                      clear hK K
                      refine Ev.cf ?_
                      refine Ev.skip ?_
                      show Ev _ _ _ _
                      have hm1 := mul_bd2 (x := (swE pre3).2) (A := areaOf d) (by omega) (by omega) (by omega) hA1
                      first
                       | have hm2 := mul_bd2 (x := (swE pre3).2 + sb) (A := areaOf d) (by omega) (by omega) (by omega) hA1
                       | skip
                      refine Ev.sr fun K hK => S.o q.mv (S.o q.mv (S.o q.mul (S.o q.mv (S.o q.lss (S.end (hK _ ?_))))))
                      clear hK K
                      refine Ev.cd (fun c15 => ?_) (fun c15 => ?_)
                      · first
                      | (first | omega | contradiction)
                      | refine Ev.sr fun K hK => S.o q.as (S.o q.as (S.end (hK _ ?_)))
                        clear hK K
                        refine Ev.ret ?_
                        refine hR4 _ _ ?_
                        refine Ev.ret2 ?_
                        refine ⟨?_, rfl⟩
                        first
                         | (rw [(chk_1 ‹_›).1, (chk_1 ‹_›).2]; done)
                         | (rw [(chk_2 ‹_› ‹_›).1, (chk_2 ‹_› ‹_›).2]; done)
                         | (rw [hE, hV, ← hsw, hinv3, (sweep_no (by first | exact goes_end hp3 rfl ‹_› | exact (goes_at hp3 rfl ‹_›).trans (decide_eq_false ‹_›)) (by rw [hF]; simp only; omega))]; done)
                         | (rw [hE, hV, ← hsw, hinv3]; rfl)
                         | (exfalso; omega)
                      · first
                      | (first | omega | contradiction)
                      | refine Ev.skip ?_
                        show Ev _ _ _ _
                        refine Ev.region_S fun K hK => S.o q.add (S.o q.mv (S.end (hK _ ?_)))
                        clear hK K
                        refine hR4 _ _ ?_
                        refine roundU [0] [2, 3, 10, 43, 44, 45, 46, 58, 59, 60, 61, 83, 85, 86] ⟨(pre3 ++ [(sa, sk, sb)], suf3), by rw [← hp3]; simp, ?_⟩ ?_ (keep_c (he := (by first | rfl | (simp; done))) (h := keep_n)) (slots_c (he := (by first | rfl | (congr 2; simp; done))) (h := (slots_c (he := (by first | rfl | (rw [hF]; done))) (h := (slots_c (he := (by first | rfl | (rw [hF]; done))) (h := (slots_c (he := (by first | rfl | (simp; done) | (congr 2; omega))) (h := trivial)))))))) (.c (.c (.c (.c (.c (.c (.c (.c (.c (.c (.c (.c (.c (.c .n))))))))))))))
                        first
                         | exact hinv3.trans (sweep_go ((goes_at hp3 rfl ‹_›).trans (decide_eq_true ‹_›)))
                         | exact hinv3.trans (sweep_ok (by rw [hF]; simp only; omega))
                        all_goals (dsimp only; simp only [List.length_cons]; omega)
                · first | omega | contradiction
          · simp only [List.length_cons] at hpl2
            have hidx2 : bars[pre2.length]? = some s := by rw [← hp2]; simp
            have hsok := hbo s (by rw [← hp2]; simp)
            unfold barOk at hsok
            refine Ev.sr fun K hK => S.o q.lss (S.end (hK _ ?_))
            clear hK K
            refine Ev.ud (fun c16 => ?_) (fun c16 => ?_)
            · first
            | (first | omega | contradiction)
            | refine Ev.seq ?_
              refine Ev.block ?_
              refine Ev.sr fun K hK => S.o (q.ix am_el25 am_cl36 (hl := (by first | exact ati hidx2 (by omega) | exact atig (by omega)))) (S.o (q.lsA [_, _] am_ag36 am_cl36) (S.nn (q.al am_ze36) (S.sv [_, _] true [_] am_in36 am_cl36 (h := S.end (hK _ ?_)))))
              clear hK K
              refine Ev.sm (tbs [(0, 0), (1, 1), (0, 0), (3, 7), (0, 0), (5, 16), (0, 0), (7, 112), (4, 15), (9, 511)]) 9 fun K hK => M.o (q.fa 0 am_fi36_0 am_cl3) (M.o (q.lv am_ag3) (M.o q.mv (M.o q.add (M.o (q.fa 1 am_fi36_1 am_cl3) (M.o (q.lv am_ag3) (M.o q.mv (M.o q.sub (M.o q.as (M.end [_, _] (h := S.o q.as (S.end (hK _ ?_))))))))))))
              clear hK K
              refine Ev.sr fun K hK => S.o q.mv (S.o q.mv (S.o q.lss (S.end (hK _ ?_))))
              clear hK K
              refine Ev.cd (fun c17 => ?_) (fun c17 => ?_)
              · first
              | (first | omega | contradiction)
              | refine Ev.region_S fun K hK => S.o q.mv (S.o q.mv (S.o (q.bd [_, _, _] am_ze70 am_pl70) (S.o q.mv (S.o (q.bd [_, _, _] am_ze70 am_pl70) (S.nn (q.bs [[_, _, _], [_, _, _]] true am_el68 am_ze70 am_cl70) (S.ap' [_, _] am_el68 am_ze70 am_cl70 am_by70 (hh := head_own') (hr := (rows_lit [(⟨_, _, _⟩ : Ev3), (⟨_, _, _⟩ : Ev3)])) (h := S.o q.as (S.end (hK _ ?_)))))))))
                clear hK K
                show Ev _ _ _ _
                refine Ev.region_S fun K hK => S.o q.add (S.o q.mv (S.end (hK _ ?_)))
                clear hK K
                refine hR2 _ _ ?_
                refine roundU [39] [2, 3, 8, 9, 10, 43, 44, 45, 46, 58, 59] ⟨(pre2 ++ [s], suf2), by rw [← hp2]; simp⟩ ?_ (keep_c (he := (by first | rfl | (simp; done) | (rw [ev_yes (by omega)]; done) | (rw [ev_yes (by omega)]; simp; done) | (rw [ev_no (by omega)]; done))) (h := keep_n)) (slots_c (he := (by first | rfl | (congr 2; simp; done))) (h := (slots_c (he := (by first | rfl | (congr 1; simp; done) | (show AV.als 0 0 _ = AV.als 0 0 _; rw [ev_yes (by omega)]; done) | (rw [ev_no (by omega)]; done))) (h := trivial)))) (.c (.c (.c (.c (.c (.c (.c (.c (.c (.c (.c .n)))))))))))
                skip
                all_goals (dsimp only; simp only [List.length_cons]; omega)
              · first
              | (first | omega | contradiction)
              | refine Ev.skip ?_
                show Ev _ _ _ _
                refine Ev.region_S fun K hK => S.o q.add (S.o q.mv (S.end (hK _ ?_)))
                clear hK K
                refine hR2 _ _ ?_
                refine roundU [0] [2, 3, 8, 9, 10, 43, 44, 45, 46, 58, 59] ⟨(pre2 ++ [s], suf2), by rw [← hp2]; simp⟩ ?_ (keep_c (he := (by first | rfl | (simp; done) | (rw [ev_yes (by omega)]; done) | (rw [ev_yes (by omega)]; simp; done) | (rw [ev_no (by omega)]; done))) (h := keep_n)) (slots_c (he := (by first | rfl | (congr 2; simp; done))) (h := (slots_c (he := (by first | rfl | (congr 1; simp; done) | (show AV.als 0 0 _ = AV.als 0 0 _; rw [ev_yes (by omega)]; done) | (rw [ev_no (by omega)]; done))) (h := trivial)))) (.c (.c (.c (.c (.c (.c (.c (.c (.c (.c (.c .n)))))))))))
                skip
                all_goals (dsimp only; simp only [List.length_cons]; omega)
            · first | omega | contradiction
      · simp only [List.length_cons] at hpl
        have hidx : (l)[pre.length]? = some s := by rw [← hp]; simp
        have hpe : (evSteps pre).length = pre.length := by rw [evSteps, List.length_map]
        refine Ev.sr fun K hK => S.o q.lss (S.end (hK _ ?_))
        clear hK K
        refine Ev.ud (fun c18 => ?_) (fun c18 => ?_)
        · first
        | (first | omega | contradiction)
        | refine Ev.seq ?_
          refine Ev.block ?_
          refine Ev.sr fun K hK => S.o (q.ix am_el22 am_cl57 (hl := (by first | exact ati hidx (by omega) | exact atig (by omega)))) (S.o (q.lsA [_, _] am_ag57 am_cl57) (S.nn (q.al am_ze57) (S.sv [_, _] true [_] am_in57 am_cl57 (h := S.end (hK _ ?_)))))
          clear hK K
          refine Ev.region_S fun K hK => S.o q.mv (S.o (q.fa 0 am_fi57_0 am_cl3) (S.o (q.lv am_ag3) (S.o (q.fa 1 am_fi57_1 am_cl3) (S.o (q.lv am_ag3) (S.o (q.bd [_, _, _] am_ze70 am_pl70) (S.nn (q.bs [[_, _, _]] true am_el68 am_ze70 am_cl70) (S.ap' [_, _] am_el68 am_ze70 am_cl70 am_by70 (hh := head_own') (hr := (rows_lit [(⟨_, _, _⟩ : Ev3)])) (h := S.o q.as (S.end (hK _ ?_))))))))))
          clear hK K
          show Ev _ _ _ _
          refine Ev.region_S fun K hK => S.o q.add (S.o q.mv (S.end (hK _ ?_)))
          clear hK K
          refine hR0 _ _ ?_
          refine roundU [3] [2, 3, 8, 9, 10, 43, 44] ⟨(pre ++ [s], suf), by rw [← hp]; simp, ?_⟩ ?_ (keep_c (he := (by first | rfl | (simp [evSteps]; done))) (h := keep_n)) (slots_c (he := (by first | rfl | (congr 2; simp; done))) (h := (slots_c (he := (by first | rfl | (congr 1; simp [evSteps]; done))) (h := trivial)))) (.c (.c (.c (.c (.c (.c (.c .n)))))))
          trivial
          all_goals (dsimp only; simp only [List.length_cons]; omega)
        · first | omega | contradiction
end Go.Proofs.Ytigjoaejncfmdaa
