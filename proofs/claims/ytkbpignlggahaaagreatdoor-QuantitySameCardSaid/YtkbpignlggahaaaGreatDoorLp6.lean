/-
  laid.Valid, walked.
  Conditions: none.
-/
import Derived.Test.YtkbpignlggahaaaGreatDoorLp1
namespace Go.Proofs.YtkbpignlggahaaaGreatDoor
open Go Go.AM
set_option linter.unusedSimpArgs false
set_option linter.unusedVariables false
set_option maxRecDepth 100000
set_option maxHeartbeats 1000000
theorem turned_bd {bars : List Bar} {r : Rn} {p : P3} (h : p ∈ turnedV bars r) : isPl p 10000000 := by
  unfold turnedV frV at h
  split at h
  · rename_i he
    obtain ⟨q, hq, rfl⟩ := List.mem_map.1 h
    have hn : nearL (shpV (lineOf bars r.mark)) := by
      unfold frE at he
      by_cases h1 : turnOK r.tx r.ty
      · rw [if_pos h1] at he
        by_cases h2 : (shpV (lineOf bars r.mark)).length ≤ 1000
        · rw [if_pos h2] at he
          by_cases h3 : near1 (0, 0, 0) ∧ nearL (shpV (lineOf bars r.mark))
          · exact h3.2
          · rw [if_neg h3] at he; omega
        · rw [if_neg h2] at he; omega
      · rw [if_neg h1] at he; omega
    have hq1 := hn q hq; obtain ⟨e1, e2⟩ := im_bd (x := r.tx) (y := r.ty) hq1 1; obtain ⟨e3, e4⟩ := im_bd (x := r.tx) (y := r.ty) hq1 2; obtain ⟨e5, e6⟩ := im_bd (x := r.tx) (y := r.ty) hq1 3; obtain ⟨e7, e8, e9⟩ := im_bd3 (x := r.tx) (y := r.ty) hq1
    unfold isPl addP imP
    dsimp only
    omega
  · cases h
theorem turnedV_len (bars : List Bar) (r : Rn) : (turnedV bars r).length ≤ 7 := by
  have := shpV_len (lineOf bars r.mark)
  unfold turnedV frV
  split
  · rw [List.length_map]; omega
  · simp
theorem pl_mono {p : P3} {a b : Int} (h : isPl p a) (hab : a ≤ b) : isPl p b := by
  unfold isPl at *
  omega
theorem plus_bd {p q : P3} {k : Int} (hp : isPl p 10000000) (hq : isPl q 2097152) (hk : k = 1) : isPl (plusP p q k) 100000000 := by
  subst hk
  unfold isPl plusP at *
  dsimp only
  omega
theorem pt_t {r : Rn} {k : Int} {p : P3} (h : k > 0) : ptP r k p = plusP (plusP p r.at 1) r.st k := if_pos h
theorem pt_f {r : Rn} {k : Int} {p : P3} (h : ¬ k > 0) : ptP r k p = plusP p r.at 1 := if_neg h
def ptsOK (bars : List Bar) (r : Rn) (k : Nat) : Prop := (1 ≤ k → ∀ p ∈ turnedV bars r, isPl (ptP r 0 p) 1048576) ∧ (2 ≤ k → ∀ p ∈ turnedV bars r, isPl (ptP r (r.n - 1) p) 1048576)
theorem laidRight_fun (bars : List Bar) (r : Rn) (hlen : bars.length ≤ 140737488355328) (hw : schedW bars) (hrw : r.mark.length ≤ 140737488355328) : Fun Tryz.prog 55 [.sh 5 (bars.map Bar.c), .agg r.c] (Ret (.lit (.bool (decide (rightP bars r)))) []) := by
  have hmb := markI_bd bars r.mark; have htl := turnedV_len bars r; refine Fun.of (nt := 87) (rs := [.tmp 4]) Tryz.func55 rfl rfl rfl rfl rfl ?_; refine Ev.sr fun K hK => S.nn (q.bx [_, _, _, _, _, _, _, _, _, _] true) (S.o q.as (S.end (hK _ ?_))); clear hK K; refine Ev.seq ?_; refine Ev.sr fun K hK => S.o q.mv (S.o (q.fa 0 am_fi82_0 am_cl9) (S.o (q.lv am_ag9) (S.c0 (hF := laidFind_fun bars r.mark hlen) (h := S.o q.lss (S.bd q.mv (fun c1 => ?_) (fun c1 => ?_))))))
  · first
  | omega | contradiction
  | refine S.sk (S.sk (S.sk (S.sk (S.o q.pt (S.o q.mv (S.sk (S.sk (S.sk (S.o q.pt (S.o q.mv (S.sk (S.sk (S.sk (S.o q.pt (S.o q.mv (S.sk (S.sk (S.sk (S.sk (S.o q.pt (S.end (hK _ ?_)))))))))))))))))))))); clear hK K; refine Ev.ct ?_; refine Ev.sr fun K hK => S.o q.as (S.end (hK _ ?_)); clear hK K; refine Ev.ret ?_; refine Ev.ret1 ?_; refine ⟨?_, rfl⟩
    first
     | exact bF (fun h => by have h1 := h.1; omega)
     | exact bF (fun h => absurd h.2.1 ‹¬ turnOK r.tx r.ty›)
     | exact bF (fun h => by have h1 := h.2.2.1; omega)
     | exact bF (fun h => absurd h.2.2.2.1 ‹¬ isPl r.at 1048576›)
     | exact bF (fun h => absurd (h.2.2.2.2.1 (by omega)).2 ‹¬ isPl r.st 2097152›)
     | exact bT ⟨by omega, hto, by omega, hat, fun h => ⟨hst2 h, hst h⟩, hok.1 (by omega), hok.2 (by omega)⟩
     | exact bF (fun h => by have h1 := hall h; rw [pt_t ‹_›] at h1; exact absurd h1 ‹_›)
     | exact bF (fun h => by have h1 := hall h; rw [pt_f ‹_›] at h1; exact absurd h1 ‹_›)
     | exact bF (fun h => by have h1 := (h.2.2.2.2.1 (by omega)).1; simp_all)
  · first
  | omega | contradiction
  | refine S.o (q.fa 1 am_fi82_1 am_cl78) (S.o (q.lvA [_, _] am_ag78 am_cl78) (S.c0 (hF := turnValid_fun r.tx r.ty) (h := S.o q.not (S.o q.pf (S.bn q.mv (fun c2 => ?_) (fun c2 => ?_))))))
    · first
    | omega | contradiction
    | refine S.sk (S.sk (S.sk (S.o q.pt (S.o q.mv (S.sk (S.sk (S.sk (S.o q.pt (S.o q.mv (S.sk (S.sk (S.sk (S.sk (S.o q.pt (S.end (hK _ ?_)))))))))))))))); clear hK K; refine Ev.ct ?_; refine Ev.sr fun K hK => S.o q.as (S.end (hK _ ?_)); clear hK K; refine Ev.ret ?_; refine Ev.ret1 ?_; refine ⟨?_, rfl⟩
      first
       | exact bF (fun h => by have h1 := h.1; omega)
       | exact bF (fun h => absurd h.2.1 ‹¬ turnOK r.tx r.ty›)
       | exact bF (fun h => by have h1 := h.2.2.1; omega)
       | exact bF (fun h => absurd h.2.2.2.1 ‹¬ isPl r.at 1048576›)
       | exact bF (fun h => absurd (h.2.2.2.2.1 (by omega)).2 ‹¬ isPl r.st 2097152›)
       | exact bT ⟨by omega, hto, by omega, hat, fun h => ⟨hst2 h, hst h⟩, hok.1 (by omega), hok.2 (by omega)⟩
       | exact bF (fun h => by have h1 := hall h; rw [pt_t ‹_›] at h1; exact absurd h1 ‹_›)
       | exact bF (fun h => by have h1 := hall h; rw [pt_f ‹_›] at h1; exact absurd h1 ‹_›)
       | exact bF (fun h => by have h1 := (h.2.2.2.2.1 (by omega)).1; simp_all)
    · first
    | omega | contradiction
    | refine S.o (q.fa 9 am_fi82_4 am_cl3) (S.o (q.lv am_ag3) (S.o q.lss (S.o q.pf (S.bd q.mv (fun c3 => ?_) (fun c3 => ?_)))))
      · first
      | omega | contradiction
      | refine S.sk (S.sk (S.sk (S.o q.pt (S.o q.mv (S.sk (S.sk (S.sk (S.sk (S.o q.pt (S.end (hK _ ?_))))))))))); clear hK K; refine Ev.ct ?_; refine Ev.sr fun K hK => S.o q.as (S.end (hK _ ?_)); clear hK K; refine Ev.ret ?_; refine Ev.ret1 ?_; refine ⟨?_, rfl⟩
        first
         | exact bF (fun h => by have h1 := h.1; omega)
         | exact bF (fun h => absurd h.2.1 ‹¬ turnOK r.tx r.ty›)
         | exact bF (fun h => by have h1 := h.2.2.1; omega)
         | exact bF (fun h => absurd h.2.2.2.1 ‹¬ isPl r.at 1048576›)
         | exact bF (fun h => absurd (h.2.2.2.2.1 (by omega)).2 ‹¬ isPl r.st 2097152›)
         | exact bT ⟨by omega, hto, by omega, hat, fun h => ⟨hst2 h, hst h⟩, hok.1 (by omega), hok.2 (by omega)⟩
         | exact bF (fun h => by have h1 := hall h; rw [pt_t ‹_›] at h1; exact absurd h1 ‹_›)
         | exact bF (fun h => by have h1 := hall h; rw [pt_f ‹_›] at h1; exact absurd h1 ‹_›)
         | exact bF (fun h => by have h1 := (h.2.2.2.2.1 (by omega)).1; simp_all)
      · first
      | omega | contradiction
      | refine S.o (q.fa 9 am_fi82_4 am_cl3) (S.o (q.lv am_ag3) (S.o q.gtr (S.o q.pf (S.bd q.mv (fun c4 => ?_) (fun c4 => ?_)))))
        · first
        | omega | contradiction
        | refine S.sk (S.sk (S.sk (S.sk (S.o q.pt (S.end (hK _ ?_)))))); clear hK K; refine Ev.ct ?_; refine Ev.sr fun K hK => S.o q.as (S.end (hK _ ?_)); clear hK K; refine Ev.ret ?_; refine Ev.ret1 ?_; refine ⟨?_, rfl⟩
          first
           | exact bF (fun h => by have h1 := h.1; omega)
           | exact bF (fun h => absurd h.2.1 ‹¬ turnOK r.tx r.ty›)
           | exact bF (fun h => by have h1 := h.2.2.1; omega)
           | exact bF (fun h => absurd h.2.2.2.1 ‹¬ isPl r.at 1048576›)
           | exact bF (fun h => absurd (h.2.2.2.2.1 (by omega)).2 ‹¬ isPl r.st 2097152›)
           | exact bT ⟨by omega, hto, by omega, hat, fun h => ⟨hst2 h, hst h⟩, hok.1 (by omega), hok.2 (by omega)⟩
           | exact bF (fun h => by have h1 := hall h; rw [pt_t ‹_›] at h1; exact absurd h1 ‹_›)
           | exact bF (fun h => by have h1 := hall h; rw [pt_f ‹_›] at h1; exact absurd h1 ‹_›)
           | exact bF (fun h => by have h1 := (h.2.2.2.2.1 (by omega)).1; simp_all)
        · first
        | omega | contradiction
        | refine S.o (q.fa 3 am_fi82_2 am_cl80) (S.o (q.lvA [_, _, _] am_ag80 am_cl80) (S.c0 (hF := isPlace_fun r.at 1048576 (by omega)) (h := S.o q.not (S.o q.pf (S.end (hK _ ?_)))))); clear hK K; refine Ev.cn (fun c5 => ?_) (fun c5 => ?_)
          · first
          | omega | contradiction
          | refine Ev.sr fun K hK => S.o q.as (S.end (hK _ ?_)); clear hK K; refine Ev.ret ?_; refine Ev.ret1 ?_; refine ⟨?_, rfl⟩
            first
             | exact bF (fun h => by have h1 := h.1; omega)
             | exact bF (fun h => absurd h.2.1 ‹¬ turnOK r.tx r.ty›)
             | exact bF (fun h => by have h1 := h.2.2.1; omega)
             | exact bF (fun h => absurd h.2.2.2.1 ‹¬ isPl r.at 1048576›)
             | exact bF (fun h => absurd (h.2.2.2.2.1 (by omega)).2 ‹¬ isPl r.st 2097152›)
             | exact bT ⟨by omega, hto, by omega, hat, fun h => ⟨hst2 h, hst h⟩, hok.1 (by omega), hok.2 (by omega)⟩
             | exact bF (fun h => by have h1 := hall h; rw [pt_t ‹_›] at h1; exact absurd h1 ‹_›)
             | exact bF (fun h => by have h1 := hall h; rw [pt_f ‹_›] at h1; exact absurd h1 ‹_›)
             | exact bF (fun h => by have h1 := (h.2.2.2.2.1 (by omega)).1; simp_all)
          · first
          | omega | contradiction
          | refine Ev.skip ?_; show Ev _ _ _ _; refine Ev.seq ?_; refine Ev.sr fun K hK => S.o (q.fa 9 am_fi82_4 am_cl3) (S.o (q.lv am_ag3) (S.o q.gtr (S.bd q.mv (fun c6 => ?_) (fun c6 => ?_))))
            · first
            | omega | contradiction
            | refine S.o (q.fa 6 am_fi82_3 am_cl80) (S.o (q.lvA [_, _, _] am_ag80 am_cl80) (S.o (q.bd [_, _, _] am_ze80 am_pl80) (S.o (q.seql am_eq80 (am_sq80 _ _ _ _ _ _)) (S.bb q.mv (fun c7 => ?_) (fun c7 => ?_)))))
              · first
              | omega | contradiction
              | refine S.sk (S.sk (S.sk (S.sk (S.o q.pt (S.o q.pt (S.end (hK _ ?_))))))); clear hK K; refine Ev.ct ?_; refine Ev.sr fun K hK => S.o q.as (S.end (hK _ ?_)); clear hK K; refine Ev.ret ?_; refine Ev.ret1 ?_; refine ⟨?_, rfl⟩
                first
                 | exact bF (fun h => by have h1 := h.1; omega)
                 | exact bF (fun h => absurd h.2.1 ‹¬ turnOK r.tx r.ty›)
                 | exact bF (fun h => by have h1 := h.2.2.1; omega)
                 | exact bF (fun h => absurd h.2.2.2.1 ‹¬ isPl r.at 1048576›)
                 | exact bF (fun h => absurd (h.2.2.2.2.1 (by omega)).2 ‹¬ isPl r.st 2097152›)
                 | exact bT ⟨by omega, hto, by omega, hat, fun h => ⟨hst2 h, hst h⟩, hok.1 (by omega), hok.2 (by omega)⟩
                 | exact bF (fun h => by have h1 := hall h; rw [pt_t ‹_›] at h1; exact absurd h1 ‹_›)
                 | exact bF (fun h => by have h1 := hall h; rw [pt_f ‹_›] at h1; exact absurd h1 ‹_›)
                 | exact bF (fun h => by have h1 := (h.2.2.2.2.1 (by omega)).1; simp_all)
              · first
              | omega | contradiction
              | refine S.o (q.fa 6 am_fi82_3 am_cl80) (S.o (q.lvA [_, _, _] am_ag80 am_cl80) (S.c0 (hF := isPlace_fun r.st 2097152 (by omega)) (h := S.o q.not (S.o q.pf (S.o q.pt (S.end (hK _ ?_))))))); clear hK K; refine Ev.cn (fun c8 => ?_) (fun c8 => ?_)
                · first
                | omega | contradiction
                | refine Ev.sr fun K hK => S.o q.as (S.end (hK _ ?_)); clear hK K; refine Ev.ret ?_; refine Ev.ret1 ?_; refine ⟨?_, rfl⟩
                  first
                   | exact bF (fun h => by have h1 := h.1; omega)
                   | exact bF (fun h => absurd h.2.1 ‹¬ turnOK r.tx r.ty›)
                   | exact bF (fun h => by have h1 := h.2.2.1; omega)
                   | exact bF (fun h => absurd h.2.2.2.1 ‹¬ isPl r.at 1048576›)
                   | exact bF (fun h => absurd (h.2.2.2.2.1 (by omega)).2 ‹¬ isPl r.st 2097152›)
                   | exact bT ⟨by omega, hto, by omega, hat, fun h => ⟨hst2 h, hst h⟩, hok.1 (by omega), hok.2 (by omega)⟩
                   | exact bF (fun h => by have h1 := hall h; rw [pt_t ‹_›] at h1; exact absurd h1 ‹_›)
                   | exact bF (fun h => by have h1 := hall h; rw [pt_f ‹_›] at h1; exact absurd h1 ‹_›)
                   | exact bF (fun h => by have h1 := (h.2.2.2.2.1 (by omega)).1; simp_all)
                · first
                | omega | contradiction
                | refine Ev.skip ?_; show Ev _ _ _ _; have hto : turnOK r.tx r.ty := ‹_›; have hat : isPl r.at 1048576 := ‹_›
                  have hst : r.n > 1 → isPl r.st 2097152 := by first | exact fun _ => ‹isPl r.st 2097152› | exact fun h => absurd h (by omega)
                  have hst2 : r.n > 1 → ¬ (r.sx = 0 ∧ r.sy = 0 ∧ r.sz = 0) := by first | exact fun h => absurd h (by omega) | (intro _ hz; simp_all; done)
                  refine Ev.sr fun K hK => S.o q.mv (S.o (q.lvA [_, _, _, _, _, _, _, _, _, _] am_ag82 am_cl82) (S.c0 (hF := turned_fun bars r hlen hw (by omega)) (h := S.o q.as (S.end (hK _ ?_))))); clear hK K; refine Ev.seq ?_; refine Ev.sr fun K hK => S.o (q.fa 9 am_fi82_4 am_cl3) (S.o (q.lv am_ag3) (S.o q.sub (S.nn (q.bs [[_], [_]] true am_el66 am_ze3 am_cl3) (S.o (q.lena am_el66) (S.o q.mv (S.end (hK _ ?_))))))); clear hK K; refine Ev.block ?_; refine Ev.loopU (ι := {k : Nat // k ≤ 2 ∧ ptsOK bars r k}) [1, 0] [3, 5, 60] (fun ⟨k, _⟩ => [(61, .lit (.int .i64 ((k : Int)))), (59, .als 0 0 ([0, r.n - 1]).length)]) (fun ⟨k, _⟩ => [(0, ⟨true, 3, 1, ([0, r.n - 1]).map intC, true⟩), (1, ⟨false, 82, 10, [[.lit (str (r.mark)), .lit (.int .i64 (r.tx)), .lit (.int .i64 (r.ty)), .lit (.int .i64 (r.ax)), .lit (.int .i64 (r.ay)), .lit (.int .i64 (r.az)), .lit (.int .i64 (r.sx)), .lit (.int .i64 (r.sy)), .lit (.int .i64 (r.sz)), .lit (.int .i64 (r.n))]], true⟩)]) (fun ⟨k, _⟩ => 2 - k) ⟨0, by decide, fun h => absurd h (by decide), fun h => absurd h (by decide)⟩ (.c (.c (.c .n))) (keep_c (he := (by first | rfl | (simp; done))) (h := (keep_c (he := (by first | rfl | (simp; done))) (h := keep_n)))) (slots_c (he := (by first | rfl | (simp; done) | (congr 2; omega))) (h := (slots_c (he := (by first | rfl | (simp; done) | (congr 2; omega))) (h := trivial)))) ?_; rintro ⟨k, hk, hok⟩ R0 hR0
                  dsimp only [List.cons_append, List.nil_append, List.length_cons, List.length_nil]
                  have hk3 : k = 2 ∨ k = 0 ∨ k = 1 := by omega
                  rcases hk3 with hk3 | hk3 | hk3
                  · subst hk3; refine Ev.sr fun K hK => S.o q.lss (S.end (hK _ ?_)); clear hK K; refine Ev.ud (fun c9 => ?_) (fun c9 => ?_)
                    · first | omega | contradiction | (exfalso; simp at *; done)
                    · first
                    | omega | contradiction
                    | refine Ev.exit ?_; refine hR0 _ _ ?_; show Ev _ _ _ _; refine Ev.sr fun K hK => S.o q.as (S.end (hK _ ?_)); clear hK K; refine Ev.ret ?_; refine Ev.ret1 ?_; refine ⟨?_, rfl⟩
                      first
                       | exact bF (fun h => by have h1 := h.1; omega)
                       | exact bF (fun h => absurd h.2.1 ‹¬ turnOK r.tx r.ty›)
                       | exact bF (fun h => by have h1 := h.2.2.1; omega)
                       | exact bF (fun h => absurd h.2.2.2.1 ‹¬ isPl r.at 1048576›)
                       | exact bF (fun h => absurd (h.2.2.2.2.1 (by omega)).2 ‹¬ isPl r.st 2097152›)
                       | exact bT ⟨by omega, hto, by omega, hat, fun h => ⟨hst2 h, hst h⟩, hok.1 (by omega), hok.2 (by omega)⟩
                       | exact bF (fun h => by have h1 := hall h; rw [pt_t ‹_›] at h1; exact absurd h1 ‹_›)
                       | exact bF (fun h => by have h1 := hall h; rw [pt_f ‹_›] at h1; exact absurd h1 ‹_›)
                       | exact bF (fun h => by have h1 := (h.2.2.2.2.1 (by omega)).1; simp_all)
                  · subst hk3; obtain ⟨v, hv⟩ : ∃ v : Int, v = 0 := ⟨_, rfl⟩
                    have hidx : [0, r.n - 1][0]? = some v := by rw [hv]; rfl
                    have hv0 : 0 ≤ v ∧ v ≤ 1000 ∧ (v > 0 → r.n > 1) := by omega
                    have hnx : (∀ p ∈ turnedV bars r, isPl (ptP r v p) 1048576) → ptsOK bars r 1 := fun h => ⟨fun _ => by rw [← hv]; exact h, fun h2 => absurd h2 (by decide)⟩
                    have hall0 : rightP bars r → ∀ p ∈ turnedV bars r, isPl (ptP r v p) 1048576 := fun h => by rw [hv]; exact h.2.2.2.2.2.1
                    refine Ev.sr fun K hK => S.o q.lss (S.end (hK _ ?_)); clear hK K; refine Ev.ud (fun c10 => ?_) (fun c10 => ?_)
                    · first
                    | omega | contradiction
                    | refine Ev.seq ?_; refine Ev.block ?_; refine Ev.sr fun K hK => S.o (q.ia am_el66 am_cl3) (S.o (q.lx am_ag3 (hl := (by first | exact at_ hidx (by omega) | exact at_g (by omega)))) (S.o q.as (S.end (hK _ ?_)))); clear hK K; refine Ev.sr fun K hK => S.o q.mv (S.o (q.lens am_el146) (S.o q.mv (S.end (hK _ ?_)))); clear hK K; refine Ev.block ?_
                      refine Ev.loopU (ι := {q : List (Int × Int × Int) × List (Int × Int × Int) // q.1 ++ q.2 = turnedV bars r ∧ ∀ p ∈ q.1, isPl (ptP r v p) 1048576}) [0, 1] [3, 5, 7, 60, 61, 62, 63, 64, 65, 66] (fun ⟨(pre, suf), _⟩ => [(67, .lit (.int .i64 ((pre.length : Int)))), (59, .als 0 0 ([0, r.n - 1]).length)]) (fun ⟨(pre, suf), _⟩ => [(0, ⟨true, 3, 1, ([0, r.n - 1]).map intC, true⟩), (1, ⟨false, 82, 10, [[.lit (str (r.mark)), .lit (.int .i64 (r.tx)), .lit (.int .i64 (r.ty)), .lit (.int .i64 (r.ax)), .lit (.int .i64 (r.ay)), .lit (.int .i64 (r.az)), .lit (.int .i64 (r.sx)), .lit (.int .i64 (r.sy)), .lit (.int .i64 (r.sz)), .lit (.int .i64 (r.n))]], true⟩)]) (fun ⟨(pre, suf), _⟩ => suf.length) ⟨([], (turnedV bars r)), rfl, fun x hx => by simp at hx⟩ (.c (.c (.c (.c (.c (.c (.c (.c (.c (.c .n)))))))))) (keep_c (he := (by first | rfl | (simp; done))) (h := (keep_c (he := (by first | rfl | (simp; done))) (h := keep_n)))) (slots_c (he := (by first | rfl | (congr 2; simp; done))) (h := (slots_c (he := (by first | rfl | (simp; done) | (congr 2; omega))) (h := trivial)))) ?_; rintro ⟨⟨pre, suf⟩, hp, hinv⟩ R2 hR2; dsimp only [List.cons_append, List.nil_append, List.length_cons, List.length_nil]
                      simp only at hp hinv
                      have hpl : pre.length + suf.length = ((turnedV bars r)).length := by rw [← hp, List.length_append]
                      rcases suf with _ | ⟨s, suf⟩
                      · rw [List.append_nil] at hp; simp only [List.length_nil] at hpl; refine Ev.sr fun K hK => S.o q.lss (S.end (hK _ ?_)); clear hK K; refine Ev.ud (fun c11 => ?_) (fun c11 => ?_)
                        · first | omega | contradiction | (exfalso; simp at *; done)
                        · first
                        | omega | contradiction
                        | refine Ev.exit ?_; refine hR2 _ _ ?_; show Ev _ _ _ _; refine Ev.region_S fun K hK => S.o q.add (S.o q.mv (S.end (hK _ ?_))); clear hK K; refine hR0 _ _ ?_; refine roundU [0, 1] [3, 5, 60] ⟨_, by decide, hnx (by rw [← hp]; exact hinv)⟩ ?_ (keep_c (he := (by first | rfl | (simp; done))) (h := (keep_c (he := (by first | rfl | (simp; done))) (h := keep_n)))) (slots_c (he := (by first | rfl | (simp; done) | (congr 2; omega))) (h := (slots_c (he := (by first | rfl | (simp; done) | (congr 2; omega))) (h := trivial)))) (.c (.c (.c .n))); skip; all_goals (dsimp only; omega)
                      · simp only [List.length_cons] at hpl
                        have hidx2 : (turnedV bars r)[pre.length]? = some s := by rw [← hp]; simp
                        have hms : s ∈ turnedV bars r := by rw [← hp]; simp
                        obtain ⟨a, b, c⟩ := s; have hpb := turned_bd hms; have hall := fun h => hall0 h _ hms; refine Ev.sr fun K hK => S.o q.lss (S.end (hK _ ?_)); clear hK K; refine Ev.ud (fun c12 => ?_) (fun c12 => ?_)
                        · first
                        | omega | contradiction
                        | refine Ev.seq ?_; refine Ev.block ?_; refine Ev.sr fun K hK => S.o (q.ix am_el146 am_cl80 (hl := (by first | exact ati hidx (by omega) | exact ati hidx2 (by omega) | exact atig (by omega)))) (S.o (q.lsA [_, _, _] am_ag80 am_cl80) (S.nn (q.al am_ze80) (S.sv [_, _, _] true [_, _] am_in80 am_cl80 (h := S.end (hK _ ?_))))); clear hK K; refine Ev.sr fun K hK => S.o (q.lvA [_, _, _] am_ag80 am_cl80) (S.o (q.fa 3 am_fi82_2 am_cl80) (S.o (q.lvA [_, _, _] am_ag80 am_cl80) (S.c0 (hF := plus_fun (a, b, c) r.at 1 (pl_mono hpb (by omega)) (pl_mono hat (by omega)) (by omega)) (h := S.nn (q.al am_ze80) (S.sv [_, _, _] true [_, _, _] am_in80 am_cl80 (h := S.end (hK _ ?_))))))); clear hK K; refine Ev.seq ?_; refine Ev.sr fun K hK => S.o q.mv (S.o q.gtr (S.end (hK _ ?_))); clear hK K; refine Ev.cd (fun c13 => ?_) (fun c13 => ?_)
                          · first
                          | omega | contradiction
                          | refine Ev.region_S fun K hK => S.o (q.lvA [_, _, _] am_ag80 am_cl80) (S.o (q.fa 6 am_fi82_3 am_cl80) (S.o (q.lvA [_, _, _] am_ag80 am_cl80) (S.o q.mv (S.c0 (hF := plus_fun (plusP (a, b, c) r.at 1) r.st v (plus_bd hpb (pl_mono hat (by omega)) rfl) (hst (by omega)) (by omega)) (h := S.sv [_, _, _] true [_, _, _] am_in80 am_cl80 (h := S.end (hK _ ?_))))))); clear hK K; show Ev _ _ _ _; refine Ev.sr fun K hK => S.o (q.lvA [_, _, _] am_ag80 am_cl80) (S.c0 (hF := (by first | exact isPlace_fun (plusP (plusP (a, b, c) r.at 1) r.st v) 1048576 (by omega) | exact isPlace_fun (plusP (a, b, c) r.at 1) 1048576 (by omega))) (h := S.o q.not (S.end (hK _ ?_)))); clear hK K; refine Ev.cn (fun c14 => ?_) (fun c14 => ?_)
                            · first
                            | omega | contradiction
                            | refine Ev.sr fun K hK => S.o q.as (S.end (hK _ ?_)); clear hK K; refine Ev.ret ?_; refine hR2 _ _ ?_; refine hR0 _ _ ?_; refine Ev.ret1 ?_; refine ⟨?_, rfl⟩
                              first
                               | exact bF (fun h => by have h1 := h.1; omega)
                               | exact bF (fun h => absurd h.2.1 ‹¬ turnOK r.tx r.ty›)
                               | exact bF (fun h => by have h1 := h.2.2.1; omega)
                               | exact bF (fun h => absurd h.2.2.2.1 ‹¬ isPl r.at 1048576›)
                               | exact bF (fun h => absurd (h.2.2.2.2.1 (by omega)).2 ‹¬ isPl r.st 2097152›)
                               | exact bT ⟨by omega, hto, by omega, hat, fun h => ⟨hst2 h, hst h⟩, hok.1 (by omega), hok.2 (by omega)⟩
                               | exact bF (fun h => by have h1 := hall h; rw [pt_t ‹_›] at h1; exact absurd h1 ‹_›)
                               | exact bF (fun h => by have h1 := hall h; rw [pt_f ‹_›] at h1; exact absurd h1 ‹_›)
                               | exact bF (fun h => by have h1 := (h.2.2.2.2.1 (by omega)).1; simp_all)
                            · first
                            | omega | contradiction
                            | refine Ev.skip ?_; show Ev _ _ _ _; refine Ev.region_S fun K hK => S.o q.add (S.o q.mv (S.end (hK _ ?_))); clear hK K; refine hR2 _ _ ?_; refine roundU [0, 1] [3, 5, 7, 60, 61, 62, 63, 64, 65, 66] ⟨(pre ++ [(a, b, c)], suf), by rw [← hp]; simp, ?_⟩ ?_ (keep_c (he := (by first | rfl | (simp; done))) (h := (keep_c (he := (by first | rfl | (simp; done))) (h := keep_n)))) (slots_c (he := (by first | rfl | (congr 2; simp; done))) (h := (slots_c (he := (by first | rfl | (simp; done) | (congr 2; omega))) (h := trivial)))) (.c (.c (.c (.c (.c (.c (.c (.c (.c (.c .n)))))))))); intro x hx
                              rcases List.mem_append.1 hx with hx | hx
                              · exact hinv x hx
                              · rw [List.mem_singleton] at hx; subst hx; first | (rw [pt_t ‹_›]; assumption) | (rw [pt_f ‹_›]; assumption)
                              all_goals (dsimp only; simp only [List.length_cons]; omega)
                          · first
                          | omega | contradiction
                          | refine Ev.skip ?_; show Ev _ _ _ _; refine Ev.sr fun K hK => S.o (q.lvA [_, _, _] am_ag80 am_cl80) (S.c0 (hF := (by first | exact isPlace_fun (plusP (plusP (a, b, c) r.at 1) r.st v) 1048576 (by omega) | exact isPlace_fun (plusP (a, b, c) r.at 1) 1048576 (by omega))) (h := S.o q.not (S.end (hK _ ?_)))); clear hK K; refine Ev.cn (fun c15 => ?_) (fun c15 => ?_)
                            · first
                            | omega | contradiction
                            | refine Ev.sr fun K hK => S.o q.as (S.end (hK _ ?_)); clear hK K; refine Ev.ret ?_; refine hR2 _ _ ?_; refine hR0 _ _ ?_; refine Ev.ret1 ?_; refine ⟨?_, rfl⟩
                              first
                               | exact bF (fun h => by have h1 := h.1; omega)
                               | exact bF (fun h => absurd h.2.1 ‹¬ turnOK r.tx r.ty›)
                               | exact bF (fun h => by have h1 := h.2.2.1; omega)
                               | exact bF (fun h => absurd h.2.2.2.1 ‹¬ isPl r.at 1048576›)
                               | exact bF (fun h => absurd (h.2.2.2.2.1 (by omega)).2 ‹¬ isPl r.st 2097152›)
                               | exact bT ⟨by omega, hto, by omega, hat, fun h => ⟨hst2 h, hst h⟩, hok.1 (by omega), hok.2 (by omega)⟩
                               | exact bF (fun h => by have h1 := hall h; rw [pt_t ‹_›] at h1; exact absurd h1 ‹_›)
                               | exact bF (fun h => by have h1 := hall h; rw [pt_f ‹_›] at h1; exact absurd h1 ‹_›)
                               | exact bF (fun h => by have h1 := (h.2.2.2.2.1 (by omega)).1; simp_all)
                            · first
                            | omega | contradiction
                            | refine Ev.skip ?_; show Ev _ _ _ _; refine Ev.region_S fun K hK => S.o q.add (S.o q.mv (S.end (hK _ ?_))); clear hK K; refine hR2 _ _ ?_; refine roundU [0, 1] [3, 5, 7, 60, 61, 62, 63, 64, 65, 66] ⟨(pre ++ [(a, b, c)], suf), by rw [← hp]; simp, ?_⟩ ?_ (keep_c (he := (by first | rfl | (simp; done))) (h := (keep_c (he := (by first | rfl | (simp; done))) (h := keep_n)))) (slots_c (he := (by first | rfl | (congr 2; simp; done))) (h := (slots_c (he := (by first | rfl | (simp; done) | (congr 2; omega))) (h := trivial)))) (.c (.c (.c (.c (.c (.c (.c (.c (.c (.c .n)))))))))); intro x hx
                              rcases List.mem_append.1 hx with hx | hx
                              · exact hinv x hx
                              · rw [List.mem_singleton] at hx; subst hx; first | (rw [pt_t ‹_›]; assumption) | (rw [pt_f ‹_›]; assumption)
                              all_goals (dsimp only; simp only [List.length_cons]; omega)
                        · first | omega | contradiction | (exfalso; simp at *; done)
                    · first | omega | contradiction | (exfalso; simp at *; done)
                  · subst hk3; obtain ⟨v, hv⟩ : ∃ v : Int, v = r.n - 1 := ⟨_, rfl⟩
                    have hidx : [0, r.n - 1][1]? = some v := by rw [hv]; rfl
                    have hv0 : 0 ≤ v ∧ v ≤ 1000 ∧ (v > 0 → r.n > 1) := by omega
                    have hnx : (∀ p ∈ turnedV bars r, isPl (ptP r v p) 1048576) → ptsOK bars r 2 := fun h => ⟨fun _ => hok.1 (by decide), fun _ => by rw [← hv]; exact h⟩
                    have hall0 : rightP bars r → ∀ p ∈ turnedV bars r, isPl (ptP r v p) 1048576 := fun h => by rw [hv]; exact h.2.2.2.2.2.2
                    refine Ev.sr fun K hK => S.o q.lss (S.end (hK _ ?_)); clear hK K; refine Ev.ud (fun c16 => ?_) (fun c16 => ?_)
                    · first
                    | omega | contradiction
                    | refine Ev.seq ?_; refine Ev.block ?_; refine Ev.sr fun K hK => S.o (q.ia am_el66 am_cl3) (S.o (q.lx am_ag3 (hl := (by first | exact at_ hidx (by omega) | exact at_g (by omega)))) (S.o q.as (S.end (hK _ ?_)))); clear hK K; refine Ev.sr fun K hK => S.o q.mv (S.o (q.lens am_el146) (S.o q.mv (S.end (hK _ ?_)))); clear hK K; refine Ev.block ?_
                      refine Ev.loopU (ι := {q : List (Int × Int × Int) × List (Int × Int × Int) // q.1 ++ q.2 = turnedV bars r ∧ ∀ p ∈ q.1, isPl (ptP r v p) 1048576}) [0, 1] [3, 5, 7, 60, 61, 62, 63, 64, 65, 66] (fun ⟨(pre, suf), _⟩ => [(67, .lit (.int .i64 ((pre.length : Int)))), (59, .als 0 0 ([0, r.n - 1]).length)]) (fun ⟨(pre, suf), _⟩ => [(0, ⟨true, 3, 1, ([0, r.n - 1]).map intC, true⟩), (1, ⟨false, 82, 10, [[.lit (str (r.mark)), .lit (.int .i64 (r.tx)), .lit (.int .i64 (r.ty)), .lit (.int .i64 (r.ax)), .lit (.int .i64 (r.ay)), .lit (.int .i64 (r.az)), .lit (.int .i64 (r.sx)), .lit (.int .i64 (r.sy)), .lit (.int .i64 (r.sz)), .lit (.int .i64 (r.n))]], true⟩)]) (fun ⟨(pre, suf), _⟩ => suf.length) ⟨([], (turnedV bars r)), rfl, fun x hx => by simp at hx⟩ (.c (.c (.c (.c (.c (.c (.c (.c (.c (.c .n)))))))))) (keep_c (he := (by first | rfl | (simp; done))) (h := (keep_c (he := (by first | rfl | (simp; done))) (h := keep_n)))) (slots_c (he := (by first | rfl | (congr 2; simp; done))) (h := (slots_c (he := (by first | rfl | (simp; done) | (congr 2; omega))) (h := trivial)))) ?_; rintro ⟨⟨pre, suf⟩, hp, hinv⟩ R2 hR2; dsimp only [List.cons_append, List.nil_append, List.length_cons, List.length_nil]
                      simp only at hp hinv
                      have hpl : pre.length + suf.length = ((turnedV bars r)).length := by rw [← hp, List.length_append]
                      rcases suf with _ | ⟨s, suf⟩
                      · rw [List.append_nil] at hp; simp only [List.length_nil] at hpl; refine Ev.sr fun K hK => S.o q.lss (S.end (hK _ ?_)); clear hK K; refine Ev.ud (fun c17 => ?_) (fun c17 => ?_)
                        · first | omega | contradiction | (exfalso; simp at *; done)
                        · first
                        | omega | contradiction
                        | refine Ev.exit ?_; refine hR2 _ _ ?_; show Ev _ _ _ _; refine Ev.region_S fun K hK => S.o q.add (S.o q.mv (S.end (hK _ ?_))); clear hK K; refine hR0 _ _ ?_; refine roundU [0, 1] [3, 5, 60] ⟨_, by decide, hnx (by rw [← hp]; exact hinv)⟩ ?_ (keep_c (he := (by first | rfl | (simp; done))) (h := (keep_c (he := (by first | rfl | (simp; done))) (h := keep_n)))) (slots_c (he := (by first | rfl | (simp; done) | (congr 2; omega))) (h := (slots_c (he := (by first | rfl | (simp; done) | (congr 2; omega))) (h := trivial)))) (.c (.c (.c .n))); skip; all_goals (dsimp only; omega)
                      · simp only [List.length_cons] at hpl
                        have hidx2 : (turnedV bars r)[pre.length]? = some s := by rw [← hp]; simp
                        have hms : s ∈ turnedV bars r := by rw [← hp]; simp
                        obtain ⟨a, b, c⟩ := s; have hpb := turned_bd hms; have hall := fun h => hall0 h _ hms; refine Ev.sr fun K hK => S.o q.lss (S.end (hK _ ?_)); clear hK K; refine Ev.ud (fun c18 => ?_) (fun c18 => ?_)
                        · first
                        | omega | contradiction
                        | refine Ev.seq ?_; refine Ev.block ?_; refine Ev.sr fun K hK => S.o (q.ix am_el146 am_cl80 (hl := (by first | exact ati hidx (by omega) | exact ati hidx2 (by omega) | exact atig (by omega)))) (S.o (q.lsA [_, _, _] am_ag80 am_cl80) (S.nn (q.al am_ze80) (S.sv [_, _, _] true [_, _] am_in80 am_cl80 (h := S.end (hK _ ?_))))); clear hK K; refine Ev.sr fun K hK => S.o (q.lvA [_, _, _] am_ag80 am_cl80) (S.o (q.fa 3 am_fi82_2 am_cl80) (S.o (q.lvA [_, _, _] am_ag80 am_cl80) (S.c0 (hF := plus_fun (a, b, c) r.at 1 (pl_mono hpb (by omega)) (pl_mono hat (by omega)) (by omega)) (h := S.nn (q.al am_ze80) (S.sv [_, _, _] true [_, _, _] am_in80 am_cl80 (h := S.end (hK _ ?_))))))); clear hK K; refine Ev.seq ?_; refine Ev.sr fun K hK => S.o q.mv (S.o q.gtr (S.end (hK _ ?_))); clear hK K; refine Ev.cd (fun c19 => ?_) (fun c19 => ?_)
                          · first
                          | omega | contradiction
                          | refine Ev.region_S fun K hK => S.o (q.lvA [_, _, _] am_ag80 am_cl80) (S.o (q.fa 6 am_fi82_3 am_cl80) (S.o (q.lvA [_, _, _] am_ag80 am_cl80) (S.o q.mv (S.c0 (hF := plus_fun (plusP (a, b, c) r.at 1) r.st v (plus_bd hpb (pl_mono hat (by omega)) rfl) (hst (by omega)) (by omega)) (h := S.sv [_, _, _] true [_, _, _] am_in80 am_cl80 (h := S.end (hK _ ?_))))))); clear hK K; show Ev _ _ _ _; refine Ev.sr fun K hK => S.o (q.lvA [_, _, _] am_ag80 am_cl80) (S.c0 (hF := (by first | exact isPlace_fun (plusP (plusP (a, b, c) r.at 1) r.st v) 1048576 (by omega) | exact isPlace_fun (plusP (a, b, c) r.at 1) 1048576 (by omega))) (h := S.o q.not (S.end (hK _ ?_)))); clear hK K; refine Ev.cn (fun c20 => ?_) (fun c20 => ?_)
                            · first
                            | omega | contradiction
                            | refine Ev.sr fun K hK => S.o q.as (S.end (hK _ ?_)); clear hK K; refine Ev.ret ?_; refine hR2 _ _ ?_; refine hR0 _ _ ?_; refine Ev.ret1 ?_; refine ⟨?_, rfl⟩
                              first
                               | exact bF (fun h => by have h1 := h.1; omega)
                               | exact bF (fun h => absurd h.2.1 ‹¬ turnOK r.tx r.ty›)
                               | exact bF (fun h => by have h1 := h.2.2.1; omega)
                               | exact bF (fun h => absurd h.2.2.2.1 ‹¬ isPl r.at 1048576›)
                               | exact bF (fun h => absurd (h.2.2.2.2.1 (by omega)).2 ‹¬ isPl r.st 2097152›)
                               | exact bT ⟨by omega, hto, by omega, hat, fun h => ⟨hst2 h, hst h⟩, hok.1 (by omega), hok.2 (by omega)⟩
                               | exact bF (fun h => by have h1 := hall h; rw [pt_t ‹_›] at h1; exact absurd h1 ‹_›)
                               | exact bF (fun h => by have h1 := hall h; rw [pt_f ‹_›] at h1; exact absurd h1 ‹_›)
                               | exact bF (fun h => by have h1 := (h.2.2.2.2.1 (by omega)).1; simp_all)
                            · first
                            | omega | contradiction
                            | refine Ev.skip ?_; show Ev _ _ _ _; refine Ev.region_S fun K hK => S.o q.add (S.o q.mv (S.end (hK _ ?_))); clear hK K; refine hR2 _ _ ?_; refine roundU [0, 1] [3, 5, 7, 60, 61, 62, 63, 64, 65, 66] ⟨(pre ++ [(a, b, c)], suf), by rw [← hp]; simp, ?_⟩ ?_ (keep_c (he := (by first | rfl | (simp; done))) (h := (keep_c (he := (by first | rfl | (simp; done))) (h := keep_n)))) (slots_c (he := (by first | rfl | (congr 2; simp; done))) (h := (slots_c (he := (by first | rfl | (simp; done) | (congr 2; omega))) (h := trivial)))) (.c (.c (.c (.c (.c (.c (.c (.c (.c (.c .n)))))))))); intro x hx
                              rcases List.mem_append.1 hx with hx | hx
                              · exact hinv x hx
                              · rw [List.mem_singleton] at hx; subst hx; first | (rw [pt_t ‹_›]; assumption) | (rw [pt_f ‹_›]; assumption)
                              all_goals (dsimp only; simp only [List.length_cons]; omega)
                          · first
                          | omega | contradiction
                          | refine Ev.skip ?_; show Ev _ _ _ _; refine Ev.sr fun K hK => S.o (q.lvA [_, _, _] am_ag80 am_cl80) (S.c0 (hF := (by first | exact isPlace_fun (plusP (plusP (a, b, c) r.at 1) r.st v) 1048576 (by omega) | exact isPlace_fun (plusP (a, b, c) r.at 1) 1048576 (by omega))) (h := S.o q.not (S.end (hK _ ?_)))); clear hK K; refine Ev.cn (fun c21 => ?_) (fun c21 => ?_)
                            · first
                            | omega | contradiction
                            | refine Ev.sr fun K hK => S.o q.as (S.end (hK _ ?_)); clear hK K; refine Ev.ret ?_; refine hR2 _ _ ?_; refine hR0 _ _ ?_; refine Ev.ret1 ?_; refine ⟨?_, rfl⟩
                              first
                               | exact bF (fun h => by have h1 := h.1; omega)
                               | exact bF (fun h => absurd h.2.1 ‹¬ turnOK r.tx r.ty›)
                               | exact bF (fun h => by have h1 := h.2.2.1; omega)
                               | exact bF (fun h => absurd h.2.2.2.1 ‹¬ isPl r.at 1048576›)
                               | exact bF (fun h => absurd (h.2.2.2.2.1 (by omega)).2 ‹¬ isPl r.st 2097152›)
                               | exact bT ⟨by omega, hto, by omega, hat, fun h => ⟨hst2 h, hst h⟩, hok.1 (by omega), hok.2 (by omega)⟩
                               | exact bF (fun h => by have h1 := hall h; rw [pt_t ‹_›] at h1; exact absurd h1 ‹_›)
                               | exact bF (fun h => by have h1 := hall h; rw [pt_f ‹_›] at h1; exact absurd h1 ‹_›)
                               | exact bF (fun h => by have h1 := (h.2.2.2.2.1 (by omega)).1; simp_all)
                            · first
                            | omega | contradiction
                            | refine Ev.skip ?_; show Ev _ _ _ _; refine Ev.region_S fun K hK => S.o q.add (S.o q.mv (S.end (hK _ ?_))); clear hK K; refine hR2 _ _ ?_; refine roundU [0, 1] [3, 5, 7, 60, 61, 62, 63, 64, 65, 66] ⟨(pre ++ [(a, b, c)], suf), by rw [← hp]; simp, ?_⟩ ?_ (keep_c (he := (by first | rfl | (simp; done))) (h := (keep_c (he := (by first | rfl | (simp; done))) (h := keep_n)))) (slots_c (he := (by first | rfl | (congr 2; simp; done))) (h := (slots_c (he := (by first | rfl | (simp; done) | (congr 2; omega))) (h := trivial)))) (.c (.c (.c (.c (.c (.c (.c (.c (.c (.c .n)))))))))); intro x hx
                              rcases List.mem_append.1 hx with hx | hx
                              · exact hinv x hx
                              · rw [List.mem_singleton] at hx; subst hx; first | (rw [pt_t ‹_›]; assumption) | (rw [pt_f ‹_›]; assumption)
                              all_goals (dsimp only; simp only [List.length_cons]; omega)
                        · first | omega | contradiction | (exfalso; simp at *; done)
                    · first | omega | contradiction | (exfalso; simp at *; done)
            · first
            | omega | contradiction
            | refine S.sk (S.sk (S.sk (S.sk (S.sk (S.sk (S.sk (S.sk (S.sk (S.sk (S.o q.pf (S.end (hK _ ?_)))))))))))); clear hK K; refine Ev.cf ?_; refine Ev.skip ?_; show Ev _ _ _ _; have hto : turnOK r.tx r.ty := ‹_›; have hat : isPl r.at 1048576 := ‹_›
              have hst : r.n > 1 → isPl r.st 2097152 := by first | exact fun _ => ‹isPl r.st 2097152› | exact fun h => absurd h (by omega)
              have hst2 : r.n > 1 → ¬ (r.sx = 0 ∧ r.sy = 0 ∧ r.sz = 0) := by first | exact fun h => absurd h (by omega) | (intro _ hz; simp_all; done)
              refine Ev.sr fun K hK => S.o q.mv (S.o (q.lvA [_, _, _, _, _, _, _, _, _, _] am_ag82 am_cl82) (S.c0 (hF := turned_fun bars r hlen hw (by omega)) (h := S.o q.as (S.end (hK _ ?_))))); clear hK K; refine Ev.seq ?_; refine Ev.sr fun K hK => S.o (q.fa 9 am_fi82_4 am_cl3) (S.o (q.lv am_ag3) (S.o q.sub (S.nn (q.bs [[_], [_]] true am_el66 am_ze3 am_cl3) (S.o (q.lena am_el66) (S.o q.mv (S.end (hK _ ?_))))))); clear hK K; refine Ev.block ?_; refine Ev.loopU (ι := {k : Nat // k ≤ 2 ∧ ptsOK bars r k}) [1, 0] [3, 5, 60] (fun ⟨k, _⟩ => [(61, .lit (.int .i64 ((k : Int)))), (59, .als 0 0 ([0, r.n - 1]).length)]) (fun ⟨k, _⟩ => [(0, ⟨true, 3, 1, ([0, r.n - 1]).map intC, true⟩), (1, ⟨false, 82, 10, [[.lit (str (r.mark)), .lit (.int .i64 (r.tx)), .lit (.int .i64 (r.ty)), .lit (.int .i64 (r.ax)), .lit (.int .i64 (r.ay)), .lit (.int .i64 (r.az)), .lit (.int .i64 (r.sx)), .lit (.int .i64 (r.sy)), .lit (.int .i64 (r.sz)), .lit (.int .i64 (r.n))]], true⟩)]) (fun ⟨k, _⟩ => 2 - k) ⟨0, by decide, fun h => absurd h (by decide), fun h => absurd h (by decide)⟩ (.c (.c (.c .n))) (keep_c (he := (by first | rfl | (simp; done))) (h := (keep_c (he := (by first | rfl | (simp; done))) (h := keep_n)))) (slots_c (he := (by first | rfl | (simp; done) | (congr 2; omega))) (h := (slots_c (he := (by first | rfl | (simp; done) | (congr 2; omega))) (h := trivial)))) ?_; rintro ⟨k, hk, hok⟩ R0 hR0
              dsimp only [List.cons_append, List.nil_append, List.length_cons, List.length_nil]
              have hk3 : k = 2 ∨ k = 0 ∨ k = 1 := by omega
              rcases hk3 with hk3 | hk3 | hk3
              · subst hk3; refine Ev.sr fun K hK => S.o q.lss (S.end (hK _ ?_)); clear hK K; refine Ev.ud (fun c22 => ?_) (fun c22 => ?_)
                · first | omega | contradiction | (exfalso; simp at *; done)
                · first
                | omega | contradiction
                | refine Ev.exit ?_; refine hR0 _ _ ?_; show Ev _ _ _ _; refine Ev.sr fun K hK => S.o q.as (S.end (hK _ ?_)); clear hK K; refine Ev.ret ?_; refine Ev.ret1 ?_; refine ⟨?_, rfl⟩
                  first
                   | exact bF (fun h => by have h1 := h.1; omega)
                   | exact bF (fun h => absurd h.2.1 ‹¬ turnOK r.tx r.ty›)
                   | exact bF (fun h => by have h1 := h.2.2.1; omega)
                   | exact bF (fun h => absurd h.2.2.2.1 ‹¬ isPl r.at 1048576›)
                   | exact bF (fun h => absurd (h.2.2.2.2.1 (by omega)).2 ‹¬ isPl r.st 2097152›)
                   | exact bT ⟨by omega, hto, by omega, hat, fun h => ⟨hst2 h, hst h⟩, hok.1 (by omega), hok.2 (by omega)⟩
                   | exact bF (fun h => by have h1 := hall h; rw [pt_t ‹_›] at h1; exact absurd h1 ‹_›)
                   | exact bF (fun h => by have h1 := hall h; rw [pt_f ‹_›] at h1; exact absurd h1 ‹_›)
                   | exact bF (fun h => by have h1 := (h.2.2.2.2.1 (by omega)).1; simp_all)
              · subst hk3; obtain ⟨v, hv⟩ : ∃ v : Int, v = 0 := ⟨_, rfl⟩
                have hidx : [0, r.n - 1][0]? = some v := by rw [hv]; rfl
                have hv0 : 0 ≤ v ∧ v ≤ 1000 ∧ (v > 0 → r.n > 1) := by omega
                have hnx : (∀ p ∈ turnedV bars r, isPl (ptP r v p) 1048576) → ptsOK bars r 1 := fun h => ⟨fun _ => by rw [← hv]; exact h, fun h2 => absurd h2 (by decide)⟩
                have hall0 : rightP bars r → ∀ p ∈ turnedV bars r, isPl (ptP r v p) 1048576 := fun h => by rw [hv]; exact h.2.2.2.2.2.1
                refine Ev.sr fun K hK => S.o q.lss (S.end (hK _ ?_)); clear hK K; refine Ev.ud (fun c23 => ?_) (fun c23 => ?_)
                · first
                | omega | contradiction
                | refine Ev.seq ?_; refine Ev.block ?_; refine Ev.sr fun K hK => S.o (q.ia am_el66 am_cl3) (S.o (q.lx am_ag3 (hl := (by first | exact at_ hidx (by omega) | exact at_g (by omega)))) (S.o q.as (S.end (hK _ ?_)))); clear hK K; refine Ev.sr fun K hK => S.o q.mv (S.o (q.lens am_el146) (S.o q.mv (S.end (hK _ ?_)))); clear hK K; refine Ev.block ?_
                  refine Ev.loopU (ι := {q : List (Int × Int × Int) × List (Int × Int × Int) // q.1 ++ q.2 = turnedV bars r ∧ ∀ p ∈ q.1, isPl (ptP r v p) 1048576}) [0, 1] [3, 5, 7, 60, 61, 62, 63, 64, 65, 66] (fun ⟨(pre, suf), _⟩ => [(67, .lit (.int .i64 ((pre.length : Int)))), (59, .als 0 0 ([0, r.n - 1]).length)]) (fun ⟨(pre, suf), _⟩ => [(0, ⟨true, 3, 1, ([0, r.n - 1]).map intC, true⟩), (1, ⟨false, 82, 10, [[.lit (str (r.mark)), .lit (.int .i64 (r.tx)), .lit (.int .i64 (r.ty)), .lit (.int .i64 (r.ax)), .lit (.int .i64 (r.ay)), .lit (.int .i64 (r.az)), .lit (.int .i64 (r.sx)), .lit (.int .i64 (r.sy)), .lit (.int .i64 (r.sz)), .lit (.int .i64 (r.n))]], true⟩)]) (fun ⟨(pre, suf), _⟩ => suf.length) ⟨([], (turnedV bars r)), rfl, fun x hx => by simp at hx⟩ (.c (.c (.c (.c (.c (.c (.c (.c (.c (.c .n)))))))))) (keep_c (he := (by first | rfl | (simp; done))) (h := (keep_c (he := (by first | rfl | (simp; done))) (h := keep_n)))) (slots_c (he := (by first | rfl | (congr 2; simp; done))) (h := (slots_c (he := (by first | rfl | (simp; done) | (congr 2; omega))) (h := trivial)))) ?_; rintro ⟨⟨pre, suf⟩, hp, hinv⟩ R2 hR2; dsimp only [List.cons_append, List.nil_append, List.length_cons, List.length_nil]
                  simp only at hp hinv
                  have hpl : pre.length + suf.length = ((turnedV bars r)).length := by rw [← hp, List.length_append]
                  rcases suf with _ | ⟨s, suf⟩
                  · rw [List.append_nil] at hp; simp only [List.length_nil] at hpl; refine Ev.sr fun K hK => S.o q.lss (S.end (hK _ ?_)); clear hK K; refine Ev.ud (fun c24 => ?_) (fun c24 => ?_)
                    · first | omega | contradiction | (exfalso; simp at *; done)
                    · first
                    | omega | contradiction
                    | refine Ev.exit ?_; refine hR2 _ _ ?_; show Ev _ _ _ _; refine Ev.region_S fun K hK => S.o q.add (S.o q.mv (S.end (hK _ ?_))); clear hK K; refine hR0 _ _ ?_; refine roundU [0, 1] [3, 5, 60] ⟨_, by decide, hnx (by rw [← hp]; exact hinv)⟩ ?_ (keep_c (he := (by first | rfl | (simp; done))) (h := (keep_c (he := (by first | rfl | (simp; done))) (h := keep_n)))) (slots_c (he := (by first | rfl | (simp; done) | (congr 2; omega))) (h := (slots_c (he := (by first | rfl | (simp; done) | (congr 2; omega))) (h := trivial)))) (.c (.c (.c .n))); skip; all_goals (dsimp only; omega)
                  · simp only [List.length_cons] at hpl
                    have hidx2 : (turnedV bars r)[pre.length]? = some s := by rw [← hp]; simp
                    have hms : s ∈ turnedV bars r := by rw [← hp]; simp
                    obtain ⟨a, b, c⟩ := s; have hpb := turned_bd hms; have hall := fun h => hall0 h _ hms; refine Ev.sr fun K hK => S.o q.lss (S.end (hK _ ?_)); clear hK K; refine Ev.ud (fun c25 => ?_) (fun c25 => ?_)
                    · first
                    | omega | contradiction
                    | refine Ev.seq ?_; refine Ev.block ?_; refine Ev.sr fun K hK => S.o (q.ix am_el146 am_cl80 (hl := (by first | exact ati hidx (by omega) | exact ati hidx2 (by omega) | exact atig (by omega)))) (S.o (q.lsA [_, _, _] am_ag80 am_cl80) (S.nn (q.al am_ze80) (S.sv [_, _, _] true [_, _] am_in80 am_cl80 (h := S.end (hK _ ?_))))); clear hK K; refine Ev.sr fun K hK => S.o (q.lvA [_, _, _] am_ag80 am_cl80) (S.o (q.fa 3 am_fi82_2 am_cl80) (S.o (q.lvA [_, _, _] am_ag80 am_cl80) (S.c0 (hF := plus_fun (a, b, c) r.at 1 (pl_mono hpb (by omega)) (pl_mono hat (by omega)) (by omega)) (h := S.nn (q.al am_ze80) (S.sv [_, _, _] true [_, _, _] am_in80 am_cl80 (h := S.end (hK _ ?_))))))); clear hK K; refine Ev.seq ?_; refine Ev.sr fun K hK => S.o q.mv (S.o q.gtr (S.end (hK _ ?_))); clear hK K; refine Ev.cd (fun c26 => ?_) (fun c26 => ?_)
                      · first
                      | omega | contradiction
                      | refine Ev.region_S fun K hK => S.o (q.lvA [_, _, _] am_ag80 am_cl80) (S.o (q.fa 6 am_fi82_3 am_cl80) (S.o (q.lvA [_, _, _] am_ag80 am_cl80) (S.o q.mv (S.c0 (hF := plus_fun (plusP (a, b, c) r.at 1) r.st v (plus_bd hpb (pl_mono hat (by omega)) rfl) (hst (by omega)) (by omega)) (h := S.sv [_, _, _] true [_, _, _] am_in80 am_cl80 (h := S.end (hK _ ?_))))))); clear hK K; show Ev _ _ _ _; refine Ev.sr fun K hK => S.o (q.lvA [_, _, _] am_ag80 am_cl80) (S.c0 (hF := (by first | exact isPlace_fun (plusP (plusP (a, b, c) r.at 1) r.st v) 1048576 (by omega) | exact isPlace_fun (plusP (a, b, c) r.at 1) 1048576 (by omega))) (h := S.o q.not (S.end (hK _ ?_)))); clear hK K; refine Ev.cn (fun c27 => ?_) (fun c27 => ?_)
                        · first
                        | omega | contradiction
                        | refine Ev.sr fun K hK => S.o q.as (S.end (hK _ ?_)); clear hK K; refine Ev.ret ?_; refine hR2 _ _ ?_; refine hR0 _ _ ?_; refine Ev.ret1 ?_; refine ⟨?_, rfl⟩
                          first
                           | exact bF (fun h => by have h1 := h.1; omega)
                           | exact bF (fun h => absurd h.2.1 ‹¬ turnOK r.tx r.ty›)
                           | exact bF (fun h => by have h1 := h.2.2.1; omega)
                           | exact bF (fun h => absurd h.2.2.2.1 ‹¬ isPl r.at 1048576›)
                           | exact bF (fun h => absurd (h.2.2.2.2.1 (by omega)).2 ‹¬ isPl r.st 2097152›)
                           | exact bT ⟨by omega, hto, by omega, hat, fun h => ⟨hst2 h, hst h⟩, hok.1 (by omega), hok.2 (by omega)⟩
                           | exact bF (fun h => by have h1 := hall h; rw [pt_t ‹_›] at h1; exact absurd h1 ‹_›)
                           | exact bF (fun h => by have h1 := hall h; rw [pt_f ‹_›] at h1; exact absurd h1 ‹_›)
                           | exact bF (fun h => by have h1 := (h.2.2.2.2.1 (by omega)).1; simp_all)
                        · first
                        | omega | contradiction
                        | refine Ev.skip ?_; show Ev _ _ _ _; refine Ev.region_S fun K hK => S.o q.add (S.o q.mv (S.end (hK _ ?_))); clear hK K; refine hR2 _ _ ?_; refine roundU [0, 1] [3, 5, 7, 60, 61, 62, 63, 64, 65, 66] ⟨(pre ++ [(a, b, c)], suf), by rw [← hp]; simp, ?_⟩ ?_ (keep_c (he := (by first | rfl | (simp; done))) (h := (keep_c (he := (by first | rfl | (simp; done))) (h := keep_n)))) (slots_c (he := (by first | rfl | (congr 2; simp; done))) (h := (slots_c (he := (by first | rfl | (simp; done) | (congr 2; omega))) (h := trivial)))) (.c (.c (.c (.c (.c (.c (.c (.c (.c (.c .n)))))))))); intro x hx
                          rcases List.mem_append.1 hx with hx | hx
                          · exact hinv x hx
                          · rw [List.mem_singleton] at hx; subst hx; first | (rw [pt_t ‹_›]; assumption) | (rw [pt_f ‹_›]; assumption)
                          all_goals (dsimp only; simp only [List.length_cons]; omega)
                      · first
                      | omega | contradiction
                      | refine Ev.skip ?_; show Ev _ _ _ _; refine Ev.sr fun K hK => S.o (q.lvA [_, _, _] am_ag80 am_cl80) (S.c0 (hF := (by first | exact isPlace_fun (plusP (plusP (a, b, c) r.at 1) r.st v) 1048576 (by omega) | exact isPlace_fun (plusP (a, b, c) r.at 1) 1048576 (by omega))) (h := S.o q.not (S.end (hK _ ?_)))); clear hK K; refine Ev.cn (fun c28 => ?_) (fun c28 => ?_)
                        · first
                        | omega | contradiction
                        | refine Ev.sr fun K hK => S.o q.as (S.end (hK _ ?_)); clear hK K; refine Ev.ret ?_; refine hR2 _ _ ?_; refine hR0 _ _ ?_; refine Ev.ret1 ?_; refine ⟨?_, rfl⟩
                          first
                           | exact bF (fun h => by have h1 := h.1; omega)
                           | exact bF (fun h => absurd h.2.1 ‹¬ turnOK r.tx r.ty›)
                           | exact bF (fun h => by have h1 := h.2.2.1; omega)
                           | exact bF (fun h => absurd h.2.2.2.1 ‹¬ isPl r.at 1048576›)
                           | exact bF (fun h => absurd (h.2.2.2.2.1 (by omega)).2 ‹¬ isPl r.st 2097152›)
                           | exact bT ⟨by omega, hto, by omega, hat, fun h => ⟨hst2 h, hst h⟩, hok.1 (by omega), hok.2 (by omega)⟩
                           | exact bF (fun h => by have h1 := hall h; rw [pt_t ‹_›] at h1; exact absurd h1 ‹_›)
                           | exact bF (fun h => by have h1 := hall h; rw [pt_f ‹_›] at h1; exact absurd h1 ‹_›)
                           | exact bF (fun h => by have h1 := (h.2.2.2.2.1 (by omega)).1; simp_all)
                        · first
                        | omega | contradiction
                        | refine Ev.skip ?_; show Ev _ _ _ _; refine Ev.region_S fun K hK => S.o q.add (S.o q.mv (S.end (hK _ ?_))); clear hK K; refine hR2 _ _ ?_; refine roundU [0, 1] [3, 5, 7, 60, 61, 62, 63, 64, 65, 66] ⟨(pre ++ [(a, b, c)], suf), by rw [← hp]; simp, ?_⟩ ?_ (keep_c (he := (by first | rfl | (simp; done))) (h := (keep_c (he := (by first | rfl | (simp; done))) (h := keep_n)))) (slots_c (he := (by first | rfl | (congr 2; simp; done))) (h := (slots_c (he := (by first | rfl | (simp; done) | (congr 2; omega))) (h := trivial)))) (.c (.c (.c (.c (.c (.c (.c (.c (.c (.c .n)))))))))); intro x hx
                          rcases List.mem_append.1 hx with hx | hx
                          · exact hinv x hx
                          · rw [List.mem_singleton] at hx; subst hx; first | (rw [pt_t ‹_›]; assumption) | (rw [pt_f ‹_›]; assumption)
                          all_goals (dsimp only; simp only [List.length_cons]; omega)
                    · first | omega | contradiction | (exfalso; simp at *; done)
                · first | omega | contradiction | (exfalso; simp at *; done)
              · subst hk3; obtain ⟨v, hv⟩ : ∃ v : Int, v = r.n - 1 := ⟨_, rfl⟩
                have hidx : [0, r.n - 1][1]? = some v := by rw [hv]; rfl
                have hv0 : 0 ≤ v ∧ v ≤ 1000 ∧ (v > 0 → r.n > 1) := by omega
                have hnx : (∀ p ∈ turnedV bars r, isPl (ptP r v p) 1048576) → ptsOK bars r 2 := fun h => ⟨fun _ => hok.1 (by decide), fun _ => by rw [← hv]; exact h⟩
                have hall0 : rightP bars r → ∀ p ∈ turnedV bars r, isPl (ptP r v p) 1048576 := fun h => by rw [hv]; exact h.2.2.2.2.2.2
                refine Ev.sr fun K hK => S.o q.lss (S.end (hK _ ?_)); clear hK K; refine Ev.ud (fun c29 => ?_) (fun c29 => ?_)
                · first
                | omega | contradiction
                | refine Ev.seq ?_; refine Ev.block ?_; refine Ev.sr fun K hK => S.o (q.ia am_el66 am_cl3) (S.o (q.lx am_ag3 (hl := (by first | exact at_ hidx (by omega) | exact at_g (by omega)))) (S.o q.as (S.end (hK _ ?_)))); clear hK K; refine Ev.sr fun K hK => S.o q.mv (S.o (q.lens am_el146) (S.o q.mv (S.end (hK _ ?_)))); clear hK K; refine Ev.block ?_
                  refine Ev.loopU (ι := {q : List (Int × Int × Int) × List (Int × Int × Int) // q.1 ++ q.2 = turnedV bars r ∧ ∀ p ∈ q.1, isPl (ptP r v p) 1048576}) [0, 1] [3, 5, 7, 60, 61, 62, 63, 64, 65, 66] (fun ⟨(pre, suf), _⟩ => [(67, .lit (.int .i64 ((pre.length : Int)))), (59, .als 0 0 ([0, r.n - 1]).length)]) (fun ⟨(pre, suf), _⟩ => [(0, ⟨true, 3, 1, ([0, r.n - 1]).map intC, true⟩), (1, ⟨false, 82, 10, [[.lit (str (r.mark)), .lit (.int .i64 (r.tx)), .lit (.int .i64 (r.ty)), .lit (.int .i64 (r.ax)), .lit (.int .i64 (r.ay)), .lit (.int .i64 (r.az)), .lit (.int .i64 (r.sx)), .lit (.int .i64 (r.sy)), .lit (.int .i64 (r.sz)), .lit (.int .i64 (r.n))]], true⟩)]) (fun ⟨(pre, suf), _⟩ => suf.length) ⟨([], (turnedV bars r)), rfl, fun x hx => by simp at hx⟩ (.c (.c (.c (.c (.c (.c (.c (.c (.c (.c .n)))))))))) (keep_c (he := (by first | rfl | (simp; done))) (h := (keep_c (he := (by first | rfl | (simp; done))) (h := keep_n)))) (slots_c (he := (by first | rfl | (congr 2; simp; done))) (h := (slots_c (he := (by first | rfl | (simp; done) | (congr 2; omega))) (h := trivial)))) ?_; rintro ⟨⟨pre, suf⟩, hp, hinv⟩ R2 hR2; dsimp only [List.cons_append, List.nil_append, List.length_cons, List.length_nil]
                  simp only at hp hinv
                  have hpl : pre.length + suf.length = ((turnedV bars r)).length := by rw [← hp, List.length_append]
                  rcases suf with _ | ⟨s, suf⟩
                  · rw [List.append_nil] at hp; simp only [List.length_nil] at hpl; refine Ev.sr fun K hK => S.o q.lss (S.end (hK _ ?_)); clear hK K; refine Ev.ud (fun c30 => ?_) (fun c30 => ?_)
                    · first | omega | contradiction | (exfalso; simp at *; done)
                    · first
                    | omega | contradiction
                    | refine Ev.exit ?_; refine hR2 _ _ ?_; show Ev _ _ _ _; refine Ev.region_S fun K hK => S.o q.add (S.o q.mv (S.end (hK _ ?_))); clear hK K; refine hR0 _ _ ?_; refine roundU [0, 1] [3, 5, 60] ⟨_, by decide, hnx (by rw [← hp]; exact hinv)⟩ ?_ (keep_c (he := (by first | rfl | (simp; done))) (h := (keep_c (he := (by first | rfl | (simp; done))) (h := keep_n)))) (slots_c (he := (by first | rfl | (simp; done) | (congr 2; omega))) (h := (slots_c (he := (by first | rfl | (simp; done) | (congr 2; omega))) (h := trivial)))) (.c (.c (.c .n))); skip; all_goals (dsimp only; omega)
                  · simp only [List.length_cons] at hpl
                    have hidx2 : (turnedV bars r)[pre.length]? = some s := by rw [← hp]; simp
                    have hms : s ∈ turnedV bars r := by rw [← hp]; simp
                    obtain ⟨a, b, c⟩ := s; have hpb := turned_bd hms; have hall := fun h => hall0 h _ hms; refine Ev.sr fun K hK => S.o q.lss (S.end (hK _ ?_)); clear hK K; refine Ev.ud (fun c31 => ?_) (fun c31 => ?_)
                    · first
                    | omega | contradiction
                    | refine Ev.seq ?_; refine Ev.block ?_; refine Ev.sr fun K hK => S.o (q.ix am_el146 am_cl80 (hl := (by first | exact ati hidx (by omega) | exact ati hidx2 (by omega) | exact atig (by omega)))) (S.o (q.lsA [_, _, _] am_ag80 am_cl80) (S.nn (q.al am_ze80) (S.sv [_, _, _] true [_, _] am_in80 am_cl80 (h := S.end (hK _ ?_))))); clear hK K; refine Ev.sr fun K hK => S.o (q.lvA [_, _, _] am_ag80 am_cl80) (S.o (q.fa 3 am_fi82_2 am_cl80) (S.o (q.lvA [_, _, _] am_ag80 am_cl80) (S.c0 (hF := plus_fun (a, b, c) r.at 1 (pl_mono hpb (by omega)) (pl_mono hat (by omega)) (by omega)) (h := S.nn (q.al am_ze80) (S.sv [_, _, _] true [_, _, _] am_in80 am_cl80 (h := S.end (hK _ ?_))))))); clear hK K; refine Ev.seq ?_; refine Ev.sr fun K hK => S.o q.mv (S.o q.gtr (S.end (hK _ ?_))); clear hK K; refine Ev.cd (fun c32 => ?_) (fun c32 => ?_)
                      · first
                      | omega | contradiction
                      | refine Ev.region_S fun K hK => S.o (q.lvA [_, _, _] am_ag80 am_cl80) (S.o (q.fa 6 am_fi82_3 am_cl80) (S.o (q.lvA [_, _, _] am_ag80 am_cl80) (S.o q.mv (S.c0 (hF := plus_fun (plusP (a, b, c) r.at 1) r.st v (plus_bd hpb (pl_mono hat (by omega)) rfl) (hst (by omega)) (by omega)) (h := S.sv [_, _, _] true [_, _, _] am_in80 am_cl80 (h := S.end (hK _ ?_))))))); clear hK K; show Ev _ _ _ _; refine Ev.sr fun K hK => S.o (q.lvA [_, _, _] am_ag80 am_cl80) (S.c0 (hF := (by first | exact isPlace_fun (plusP (plusP (a, b, c) r.at 1) r.st v) 1048576 (by omega) | exact isPlace_fun (plusP (a, b, c) r.at 1) 1048576 (by omega))) (h := S.o q.not (S.end (hK _ ?_)))); clear hK K; refine Ev.cn (fun c33 => ?_) (fun c33 => ?_)
                        · first
                        | omega | contradiction
                        | refine Ev.sr fun K hK => S.o q.as (S.end (hK _ ?_)); clear hK K; refine Ev.ret ?_; refine hR2 _ _ ?_; refine hR0 _ _ ?_; refine Ev.ret1 ?_; refine ⟨?_, rfl⟩
                          first
                           | exact bF (fun h => by have h1 := h.1; omega)
                           | exact bF (fun h => absurd h.2.1 ‹¬ turnOK r.tx r.ty›)
                           | exact bF (fun h => by have h1 := h.2.2.1; omega)
                           | exact bF (fun h => absurd h.2.2.2.1 ‹¬ isPl r.at 1048576›)
                           | exact bF (fun h => absurd (h.2.2.2.2.1 (by omega)).2 ‹¬ isPl r.st 2097152›)
                           | exact bT ⟨by omega, hto, by omega, hat, fun h => ⟨hst2 h, hst h⟩, hok.1 (by omega), hok.2 (by omega)⟩
                           | exact bF (fun h => by have h1 := hall h; rw [pt_t ‹_›] at h1; exact absurd h1 ‹_›)
                           | exact bF (fun h => by have h1 := hall h; rw [pt_f ‹_›] at h1; exact absurd h1 ‹_›)
                           | exact bF (fun h => by have h1 := (h.2.2.2.2.1 (by omega)).1; simp_all)
                        · first
                        | omega | contradiction
                        | refine Ev.skip ?_; show Ev _ _ _ _; refine Ev.region_S fun K hK => S.o q.add (S.o q.mv (S.end (hK _ ?_))); clear hK K; refine hR2 _ _ ?_; refine roundU [0, 1] [3, 5, 7, 60, 61, 62, 63, 64, 65, 66] ⟨(pre ++ [(a, b, c)], suf), by rw [← hp]; simp, ?_⟩ ?_ (keep_c (he := (by first | rfl | (simp; done))) (h := (keep_c (he := (by first | rfl | (simp; done))) (h := keep_n)))) (slots_c (he := (by first | rfl | (congr 2; simp; done))) (h := (slots_c (he := (by first | rfl | (simp; done) | (congr 2; omega))) (h := trivial)))) (.c (.c (.c (.c (.c (.c (.c (.c (.c (.c .n)))))))))); intro x hx
                          rcases List.mem_append.1 hx with hx | hx
                          · exact hinv x hx
                          · rw [List.mem_singleton] at hx; subst hx; first | (rw [pt_t ‹_›]; assumption) | (rw [pt_f ‹_›]; assumption)
                          all_goals (dsimp only; simp only [List.length_cons]; omega)
                      · first
                      | omega | contradiction
                      | refine Ev.skip ?_; show Ev _ _ _ _; refine Ev.sr fun K hK => S.o (q.lvA [_, _, _] am_ag80 am_cl80) (S.c0 (hF := (by first | exact isPlace_fun (plusP (plusP (a, b, c) r.at 1) r.st v) 1048576 (by omega) | exact isPlace_fun (plusP (a, b, c) r.at 1) 1048576 (by omega))) (h := S.o q.not (S.end (hK _ ?_)))); clear hK K; refine Ev.cn (fun c34 => ?_) (fun c34 => ?_)
                        · first
                        | omega | contradiction
                        | refine Ev.sr fun K hK => S.o q.as (S.end (hK _ ?_)); clear hK K; refine Ev.ret ?_; refine hR2 _ _ ?_; refine hR0 _ _ ?_; refine Ev.ret1 ?_; refine ⟨?_, rfl⟩
                          first
                           | exact bF (fun h => by have h1 := h.1; omega)
                           | exact bF (fun h => absurd h.2.1 ‹¬ turnOK r.tx r.ty›)
                           | exact bF (fun h => by have h1 := h.2.2.1; omega)
                           | exact bF (fun h => absurd h.2.2.2.1 ‹¬ isPl r.at 1048576›)
                           | exact bF (fun h => absurd (h.2.2.2.2.1 (by omega)).2 ‹¬ isPl r.st 2097152›)
                           | exact bT ⟨by omega, hto, by omega, hat, fun h => ⟨hst2 h, hst h⟩, hok.1 (by omega), hok.2 (by omega)⟩
                           | exact bF (fun h => by have h1 := hall h; rw [pt_t ‹_›] at h1; exact absurd h1 ‹_›)
                           | exact bF (fun h => by have h1 := hall h; rw [pt_f ‹_›] at h1; exact absurd h1 ‹_›)
                           | exact bF (fun h => by have h1 := (h.2.2.2.2.1 (by omega)).1; simp_all)
                        · first
                        | omega | contradiction
                        | refine Ev.skip ?_; show Ev _ _ _ _; refine Ev.region_S fun K hK => S.o q.add (S.o q.mv (S.end (hK _ ?_))); clear hK K; refine hR2 _ _ ?_; refine roundU [0, 1] [3, 5, 7, 60, 61, 62, 63, 64, 65, 66] ⟨(pre ++ [(a, b, c)], suf), by rw [← hp]; simp, ?_⟩ ?_ (keep_c (he := (by first | rfl | (simp; done))) (h := (keep_c (he := (by first | rfl | (simp; done))) (h := keep_n)))) (slots_c (he := (by first | rfl | (congr 2; simp; done))) (h := (slots_c (he := (by first | rfl | (simp; done) | (congr 2; omega))) (h := trivial)))) (.c (.c (.c (.c (.c (.c (.c (.c (.c (.c .n)))))))))); intro x hx
                          rcases List.mem_append.1 hx with hx | hx
                          · exact hinv x hx
                          · rw [List.mem_singleton] at hx; subst hx; first | (rw [pt_t ‹_›]; assumption) | (rw [pt_f ‹_›]; assumption)
                          all_goals (dsimp only; simp only [List.length_cons]; omega)
                    · first | omega | contradiction | (exfalso; simp at *; done)
                · first | omega | contradiction | (exfalso; simp at *; done)
theorem cnt_nn {l : List Rn} (h : ∀ r ∈ l, 1 ≤ r.n) : 0 ≤ cntS l := by
  induction l with
  | nil => exact Int.le_refl _
  | cons r l ih =>
    have h1 := h r (by simp); have h2 := ih fun x hx => h x (by simp [hx]); simp only [cntS, List.map_cons, List.sum_cons] at *; omega
theorem cnt_cut {pre suf l : List Rn} {s : Rn} (hp : pre ++ s :: suf = l) (h : ∀ r ∈ l, 1 ≤ r.n) : cntS l = cntS pre + s.n + cntS suf ∧ 0 ≤ cntS suf := by
  have h2 := cnt_nn (l := suf) fun r hr => h r (by rw [← hp]; simp [hr]); refine ⟨?_, h2⟩; rw [← hp]; simp only [cntS, List.map_append, List.map_cons, List.sum_append, List.sum_cons]; omega
theorem cnt_snoc (pre : List Rn) (s : Rn) : cntS (pre ++ [s]) = cntS pre + s.n := by simp [cntS]
theorem laidValid_fun (bars : List Bar) (runs : List Rn) (hlen : bars.length ≤ 140737488355328) (hw : schedW bars) (hrl : runs.length ≤ 140737488355328) (hrw : runW runs) : Fun Tryz.prog 30 [.sh 5 (bars.map Bar.c), .sh 10 (runs.map Rn.c)] (Ret (.lit (.bool (decide (laidOK bars runs)))) []) := by
  refine Fun.of (nt := 37) (rs := [.tmp 4]) Tryz.func30 rfl rfl rfl rfl rfl ?_; refine Ev.sr fun K hK => S.o q.as (S.end (hK _ ?_)); clear hK K; refine Ev.seq ?_; refine Ev.sr fun K hK => S.o q.mv (S.c0 (hF := schedValid_fun bars hlen hw) (h := S.o q.not (S.bn q.mv (fun c1 => ?_) (fun c1 => ?_))))
  · first
  | omega | contradiction
  | refine S.sk (S.sk (S.sk (S.o q.pt (S.end (hK _ ?_))))); clear hK K; refine Ev.ct ?_; refine Ev.sr fun K hK => S.o q.as (S.end (hK _ ?_)); clear hK K; refine Ev.ret ?_; refine Ev.ret1 ?_; refine ⟨?_, rfl⟩
    first
     | exact bF (fun h => absurd h.1 ‹¬ okSched bars›)
     | exact bF (fun h => by have h1 := h.2.1; omega)
     | exact bF (fun h => absurd (h.2.2.1 s hms) ‹¬ rightP bars s›)
     | exact bF (fun h => by have h1 := cnt_cut hp (fun x hx => (h.2.2.1 x hx).2.2.1.1); have h2 := h.2.2.2; omega)
     | exact bT ⟨‹okSched bars›, by omega, by rw [← hp]; exact hinv, by rw [← hp]; omega⟩
  · first
  | omega | contradiction
  | refine S.o q.mv (S.o (q.lens am_el28) (S.o q.gtr (S.o q.pf (S.end (hK _ ?_))))); clear hK K; refine Ev.cd (fun c2 => ?_) (fun c2 => ?_)
    · first
    | omega | contradiction
    | refine Ev.sr fun K hK => S.o q.as (S.end (hK _ ?_)); clear hK K; refine Ev.ret ?_; refine Ev.ret1 ?_; refine ⟨?_, rfl⟩
      first
       | exact bF (fun h => absurd h.1 ‹¬ okSched bars›)
       | exact bF (fun h => by have h1 := h.2.1; omega)
       | exact bF (fun h => absurd (h.2.2.1 s hms) ‹¬ rightP bars s›)
       | exact bF (fun h => by have h1 := cnt_cut hp (fun x hx => (h.2.2.1 x hx).2.2.1.1); have h2 := h.2.2.2; omega)
       | exact bT ⟨‹okSched bars›, by omega, by rw [← hp]; exact hinv, by rw [← hp]; omega⟩
    · first
    | omega | contradiction
    | refine Ev.skip ?_; show Ev _ _ _ _; refine Ev.sr fun K hK => S.o q.as (S.end (hK _ ?_)); clear hK K; refine Ev.seq ?_; refine Ev.sr fun K hK => S.o q.mv (S.o (q.lens am_el28) (S.o q.mv (S.end (hK _ ?_)))); clear hK K; refine Ev.block ?_; refine Ev.loopU (ι := {q : List Rn × List Rn // q.1 ++ q.2 = runs ∧ ((∀ r ∈ q.1, rightP bars r) ∧ 0 ≤ cntS q.1 ∧ cntS q.1 ≤ 2000)}) [] [0, 16, 17] (fun ⟨(pre, suf), _⟩ => [(18, .lit (.int .i64 ((pre.length : Int)))), (5, .lit (.int .i64 (2000 - cntS pre)))]) (fun ⟨(pre, suf), _⟩ => []) (fun ⟨(pre, suf), _⟩ => suf.length) ⟨([], runs), rfl, ⟨fun x hx => by simp at hx, Int.le_refl 0, (by show (0:Int) ≤ 2000; omega)⟩⟩ (.c (.c (.c .n))) keep_n (slots_c (he := (by first | rfl | (congr 2; simp; done))) (h := (slots_c (he := (by first | rfl | exact iE (by rw [cnt_snoc]; omega))) (h := trivial)))) ?_; rintro ⟨⟨pre, suf⟩, hp, hinv⟩ R0 hR0; dsimp only [List.cons_append, List.nil_append, List.length_cons, List.length_nil]
      simp only at hp hinv
      have hpl : pre.length + suf.length = (runs).length := by rw [← hp, List.length_append]
      rcases suf with _ | ⟨s, suf⟩
      · rw [List.append_nil] at hp; simp only [List.length_nil] at hpl; obtain ⟨hinv, hi1, hi2⟩ := hinv; refine Ev.sr fun K hK => S.o q.lss (S.end (hK _ ?_)); clear hK K; refine Ev.ud (fun c3 => ?_) (fun c3 => ?_)
        · first | omega | contradiction | (exfalso; simp at *; done)
        · first
        | omega | contradiction
        | refine Ev.exit ?_; refine hR0 _ _ ?_; show Ev _ _ _ _; refine Ev.sr fun K hK => S.o q.as (S.end (hK _ ?_)); clear hK K; refine Ev.ret ?_; refine Ev.ret1 ?_; refine ⟨?_, rfl⟩
          first
           | exact bF (fun h => absurd h.1 ‹¬ okSched bars›)
           | exact bF (fun h => by have h1 := h.2.1; omega)
           | exact bF (fun h => absurd (h.2.2.1 s hms) ‹¬ rightP bars s›)
           | exact bF (fun h => by have h1 := cnt_cut hp (fun x hx => (h.2.2.1 x hx).2.2.1.1); have h2 := h.2.2.2; omega)
           | exact bT ⟨‹okSched bars›, by omega, by rw [← hp]; exact hinv, by rw [← hp]; omega⟩
      · simp only [List.length_cons] at hpl
        have hidx : runs[pre.length]? = some s := by rw [← hp]; simp
        have hms : s ∈ runs := by rw [← hp]; simp
        obtain ⟨hinv, hi1, hi2⟩ := hinv; have hsn := cnt_snoc pre s; refine Ev.sr fun K hK => S.o q.lss (S.end (hK _ ?_)); clear hK K; refine Ev.ud (fun c4 => ?_) (fun c4 => ?_)
        · first
        | omega | contradiction
        | refine Ev.seq ?_; refine Ev.block ?_; refine Ev.sr fun K hK => S.o (q.ix am_el28 am_cl82 (hl := (by first | exact ati hidx (by omega) | exact atig (by omega)))) (S.o (q.lsA [_, _, _, _, _, _, _, _, _, _] am_ag82 am_cl82) (S.nn (q.al am_ze82) (S.sv [_, _, _, _, _, _, _, _, _, _] true [] am_in82 am_cl82 (h := S.end (hK _ ?_))))); clear hK K; refine Ev.seq ?_; refine Ev.sr fun K hK => S.o q.mv (S.o (q.lvA [_, _, _, _, _, _, _, _, _, _] am_ag82 am_cl82) (S.c0 (hF := laidRight_fun bars s hlen hw (hrw s hms)) (h := S.o q.not (S.bn q.mv (fun c5 => ?_) (fun c5 => ?_)))))
          · first
          | omega | contradiction
          | refine S.sk (S.sk (S.sk (S.sk (S.o q.pt (S.end (hK _ ?_)))))); clear hK K; refine Ev.ct ?_; refine Ev.sr fun K hK => S.o q.as (S.end (hK _ ?_)); clear hK K; refine Ev.ret ?_; refine hR0 _ _ ?_; refine Ev.ret1 ?_; refine ⟨?_, rfl⟩
            first
             | exact bF (fun h => absurd h.1 ‹¬ okSched bars›)
             | exact bF (fun h => by have h1 := h.2.1; omega)
             | exact bF (fun h => absurd (h.2.2.1 s hms) ‹¬ rightP bars s›)
             | exact bF (fun h => by have h1 := cnt_cut hp (fun x hx => (h.2.2.1 x hx).2.2.1.1); have h2 := h.2.2.2; omega)
             | exact bT ⟨‹okSched bars›, by omega, by rw [← hp]; exact hinv, by rw [← hp]; omega⟩
          · first
          | omega | contradiction
          | refine S.o (q.fa 9 am_fi82_4 am_cl3) (S.o (q.lv am_ag3) (S.o q.mv (S.o q.gtr (S.o q.pf (S.end (hK _ ?_)))))); clear hK K; refine Ev.cd (fun c6 => ?_) (fun c6 => ?_)
            · first
            | omega | contradiction
            | refine Ev.sr fun K hK => S.o q.as (S.end (hK _ ?_)); clear hK K; refine Ev.ret ?_; refine hR0 _ _ ?_; refine Ev.ret1 ?_; refine ⟨?_, rfl⟩
              first
               | exact bF (fun h => absurd h.1 ‹¬ okSched bars›)
               | exact bF (fun h => by have h1 := h.2.1; omega)
               | exact bF (fun h => absurd (h.2.2.1 s hms) ‹¬ rightP bars s›)
               | exact bF (fun h => by have h1 := cnt_cut hp (fun x hx => (h.2.2.1 x hx).2.2.1.1); have h2 := h.2.2.2; omega)
               | exact bT ⟨‹okSched bars›, by omega, by rw [← hp]; exact hinv, by rw [← hp]; omega⟩
            · first
            | omega | contradiction
            | refine Ev.skip ?_; show Ev _ _ _ _; have hrs0 := (‹rightP bars s›).2.2.1; refine Ev.region_S fun K hK => S.o q.mv (S.o (q.fa 9 am_fi82_4 am_cl3) (S.o (q.lv am_ag3) (S.o q.sub (S.o q.as (S.end (hK _ ?_)))))); clear hK K; show Ev _ _ _ _; refine Ev.region_S fun K hK => S.o q.add (S.o q.mv (S.end (hK _ ?_))); clear hK K; refine hR0 _ _ ?_; refine roundU [] [0, 16, 17] ⟨(pre ++ [s], suf), by rw [← hp]; simp, ?_⟩ ?_ keep_n (slots_c (he := (by first | rfl | (congr 2; simp; done))) (h := (slots_c (he := (by first | rfl | exact iE (by rw [cnt_snoc]; omega))) (h := trivial)))) (.c (.c (.c .n))); have hrs := (‹rightP bars s›).2.2.1; exact ⟨fun x hx => by rcases List.mem_append.1 hx with hx | hx; exact hinv x hx; rw [List.mem_singleton] at hx; subst hx; assumption, by dsimp only; omega, by dsimp only; omega⟩; all_goals (dsimp only; simp only [List.length_cons]; omega)
        · first | omega | contradiction | (exfalso; simp at *; done)
end Go.Proofs.YtkbpignlggahaaaGreatDoor
namespace Go.Proofs.YtkbpignlggahaaaGreatDoor
open Go Go.AM
set_option linter.unusedSimpArgs false
set_option linter.unusedVariables false
set_option maxRecDepth 100000
set_option maxHeartbeats 1000000
def thickB (b : Bx) : Prop := okBx b ∧ b.lx < b.hx ∧ b.ly < b.hy ∧ b.lz < b.hz
instance (b) : Decidable (thickB b) := by unfold thickB; infer_instance
def solOK (bs hs : List Bx) : Prop := (1 ≤ bs.length ∧ bs.length ≤ 20) ∧ hs.length ≤ 20 ∧ (∀ b ∈ bs, thickB b) ∧ ∀ b ∈ hs, thickB b
instance (bs hs) : Decidable (solOK bs hs) := by unfold solOK; infer_instance
structure Mem where
  name : List UInt8
  bs : List Bx
  hs : List Bx
  cov : Int
  agg : Int
  pok : Int
def Mem.c : Mem → List AV
  | ⟨n, bs, hs, a, b, c⟩ => [.lit (str n), .sh 6 (bs.map Bx.c), .sh 6 (hs.map Bx.c), .lit (.int .i64 a), .lit (.int .i64 b), .lit (.int .i64 c)]
def memOK (m : Mem) : Prop := IsName m.name ∧ solOK m.bs m.hs ∧ (0 ≤ m.cov ∧ m.cov ≤ 200) ∧ (1 ≤ m.agg ∧ m.agg ≤ 100) ∧ 1 ≤ m.pok ∧ m.pok ≤ 200
instance (m) : Decidable (memOK m) := by unfold memOK; infer_instance
def Mem.w (m : Mem) : Prop := m.name.length ≤ 140737488355328 ∧ m.bs.length ≤ 140737488355328 ∧ m.hs.length ≤ 140737488355328
structure Rul where
  r1 : Int
  r2 : Int
  r3 : Int
  r4 : Int
  r5 : Int
  r6 : Int
  r7 : Int
  r8 : Int
  r9 : Int
def Rul.c : Rul → List AV
  | ⟨a, b, c, d, e, f, g, h, i⟩ => [.lit (.int .i64 a), .lit (.int .i64 b), .lit (.int .i64 c), .lit (.int .i64 d), .lit (.int .i64 e), .lit (.int .i64 f), .lit (.int .i64 g), .lit (.int .i64 h), .lit (.int .i64 i)]
def Rul.l (r : Rul) : List Int := [r.r1, r.r2, r.r3, r.r4, r.r5, r.r6, r.r7, r.r8]
def ruleOK (r : Rul) : Prop := (∀ n ∈ r.l, 1 ≤ n ∧ n ≤ 1000) ∧ r.r4 ≤ r.r3 ∧ r.r8 ≤ r.r7 ∧ r.r5 ≤ r.r6 ∧ 0 ≤ r.r9 ∧ r.r9 ≤ 1000
instance (r) : Decidable (ruleOK r) := by unfold ruleOK; infer_instance
structure Det where
  mem : Mem
  bars : List Bar
  runs : List Rn
  laps : List (Int × Int)
  dems : List Dem
  rule : Rul
def Det.c : Det → List AV
  | ⟨⟨n, bs, hs, a, b, c⟩, bars, runs, laps, dems, ⟨r1, r2, r3, r4, r5, r6, r7, r8, r9⟩⟩ => [.lit (str n), .sh 6 (bs.map Bx.c), .sh 6 (hs.map Bx.c), .lit (.int .i64 a), .lit (.int .i64 b), .lit (.int .i64 c), .sh 5 (bars.map Bar.c), .sh 10 (runs.map Rn.c), .sh 2 (laps.map pairC), .sh 8 (dems.map Dem.c), .lit (.int .i64 r1), .lit (.int .i64 r2), .lit (.int .i64 r3), .lit (.int .i64 r4), .lit (.int .i64 r5), .lit (.int .i64 r6), .lit (.int .i64 r7), .lit (.int .i64 r8), .lit (.int .i64 r9)]
def Det.w (x : Det) : Prop := x.mem.w ∧ (x.bars.length ≤ 140737488355328 ∧ schedW x.bars) ∧ (x.runs.length ≤ 140737488355328 ∧ runW x.runs) ∧ x.laps.length ≤ 140737488355328 ∧ x.dems.length ≤ 140737488355328 ∧ demW x.dems
structure Mn where
  leg : Bx
  has : Bool
  size : Int
  mark : List UInt8
def Mn.c : Mn → List AV
  | ⟨⟨a, b, c, d, e, f⟩, h, s, m⟩ => [.lit (.int .i64 a), .lit (.int .i64 b), .lit (.int .i64 c), .lit (.int .i64 d), .lit (.int .i64 e), .lit (.int .i64 f), .lit (.bool h), .lit (.int .i64 s), .lit (str m)]
def isLeg (p q : P3) : Prop := p.1 ≠ q.1 ∧ p.2.1 = q.2.1 ∧ p.2.2 = q.2.2
instance (p q) : Decidable (isLeg p q) := by unfold isLeg; infer_instance
def legB (p q : P3) : Bx := ⟨min p.1 q.1, p.2.1, p.2.2, max p.1 q.1, p.2.1, p.2.2⟩
def zeroB : Bx := ⟨0, 0, 0, 0, 0, 0⟩
def legF : List P3 → Bool × Bx
  | p :: q :: l => if isLeg p q then (true, legB p q) else legF (q :: l)
  | _ => (false, zeroB)
def mainOf (b : Bar) (l : List P3) : Mn := ⟨(legF l).2, (legF l).1, b.size, b.mark⟩
def atR (r : Rn) (k : Nat) : P3 := (r.ax + (k : Int) * r.sx, r.ay + (k : Int) * r.sy, r.az + (k : Int) * r.sz)
def runGood (bars : List Bar) (r : Rn) (n : Nat) : Prop := ∀ k, k < n → frE r.tx r.ty (atR r k) (shpV (lineOf bars r.mark)) = 0
instance (bars r n) : Decidable (runGood bars r n) := Nat.decidableBallLT n _
def runMains (bars : List Bar) (r : Rn) (n : Nat) : List Mn := (List.range n).map fun k => mainOf (lineOf bars r.mark) (frV r.tx r.ty (atR r k) (shpV (lineOf bars r.mark)))
def mainsG (bars : List Bar) (runs : List Rn) : List Mn := runs.flatMap fun r => runMains bars r r.n.toNat
def mainsV (bars : List Bar) (runs : List Rn) : List Mn := if ∀ r ∈ runs, runGood bars r r.n.toNat then mainsG bars runs else []
def mnAt (l : List Mn) (i : Int) : Mn := (l[i.toNat]?).getD ⟨zeroB, false, 0, []⟩
def jointP (l : List Mn) (j : Int × Int) : Prop := (0 ≤ j.1 ∧ j.1 < l.length ∧ 0 ≤ j.2 ∧ j.2 < l.length) ∧ (mnAt l j.1).has = true ∧ (mnAt l j.2).has = true ∧ (mnAt l j.1).leg.lx < (mnAt l j.2).leg.lx ∧ (mnAt l j.1).leg.hx < (mnAt l j.2).leg.hx ∧ (mnAt l j.2).leg.lx ≤ (mnAt l j.1).leg.hx
instance (l j) : Decidable (jointP l j) := by unfold jointP; infer_instance
def lapsOK (l : List Mn) (laps : List (Int × Int)) : Prop := (∀ j ∈ laps, jointP l j) ∧ laps.Pairwise fun i j => i.1 ≠ j.1 ∧ i.2 ≠ j.2
instance (l laps) : Decidable (lapsOK l laps) := by unfold lapsOK; infer_instance
def baseOK (x : Det) : Prop := memOK x.mem ∧ laidOK x.bars x.runs ∧ okDems x.dems ∧ ruleOK x.rule ∧ x.laps.length ≤ 1000
instance (x) : Decidable (baseOK x) := by unfold baseOK; infer_instance
def detOK (x : Det) : Prop := baseOK x ∧ lapsOK (mainsV x.bars x.runs) x.laps
instance (x) : Decidable (detOK x) := by unfold detOK; infer_instance
theorem thick_fun (b : Bx) : Fun Tryz.prog 104 [.agg b.c] (Ret (.lit (.bool (decide (thickB b)))) []) := by
  refine Fun.of (nt := 32) (rs := [.tmp 2]) Tryz.func104 rfl rfl rfl rfl rfl ?_; refine Ev.sr fun K hK => S.nn (q.bx [_, _, _, _, _, _] true) (S.o q.as (S.end (hK _ ?_))); clear hK K; refine Ev.sr fun K hK => S.o (q.lvA [_, _, _, _, _, _] am_ag100 am_cl100) (S.c0 (hF := boxValid_fun b) (h := S.bd q.mv (fun c1 => ?_) (fun c1 => ?_)))
  · first
  | omega | contradiction
  | refine S.o (q.fa 0 am_fi100_0 am_cl80) (S.o (q.fa 0 am_fi80_0 am_cl3) (S.o (q.lv am_ag3) (S.o (q.fa 3 am_fi100_1 am_cl80) (S.o (q.fa 3 am_fi80_0 am_cl3) (S.o (q.lv am_ag3) (S.o q.lss (S.o q.pt (S.bd q.mv (fun c2 => ?_) (fun c2 => ?_)))))))))
    · first
    | omega | contradiction
    | refine S.o (q.fa 0 am_fi100_0 am_cl80) (S.o (q.fa 1 am_fi80_1 am_cl3) (S.o (q.lv am_ag3) (S.o (q.fa 3 am_fi100_1 am_cl80) (S.o (q.fa 4 am_fi80_1 am_cl3) (S.o (q.lv am_ag3) (S.o q.lss (S.o q.pt (S.bd q.mv (fun c3 => ?_) (fun c3 => ?_)))))))))
      · first
      | omega | contradiction
      | refine S.o (q.fa 0 am_fi100_0 am_cl80) (S.o (q.fa 2 am_fi80_2 am_cl3) (S.o (q.lv am_ag3) (S.o (q.fa 3 am_fi100_1 am_cl80) (S.o (q.fa 5 am_fi80_2 am_cl3) (S.o (q.lv am_ag3) (S.o q.lss (S.o q.pt (S.o q.as (S.end (hK _ ?_)))))))))); clear hK K; refine Ev.ret ?_; refine Ev.ret1 ?_; refine ⟨?_, rfl⟩
        first
         | exact dI ⟨fun h => ⟨‹_›, by omega, by omega, h⟩, fun h => h.2.2.2⟩
         | exact bF (fun h => absurd h.1 ‹_›)
         | exact bF (fun h => by have h1 := h.2.1; omega)
         | exact bF (fun h => by have h1 := h.2.2.1; omega)
      · first
      | omega | contradiction
      | refine S.sk (S.sk (S.sk (S.sk (S.sk (S.sk (S.sk (S.o q.pf (S.o q.as (S.end (hK _ ?_)))))))))); clear hK K; refine Ev.ret ?_; refine Ev.ret1 ?_; refine ⟨?_, rfl⟩
        first
         | exact dI ⟨fun h => ⟨‹_›, by omega, by omega, h⟩, fun h => h.2.2.2⟩
         | exact bF (fun h => absurd h.1 ‹_›)
         | exact bF (fun h => by have h1 := h.2.1; omega)
         | exact bF (fun h => by have h1 := h.2.2.1; omega)
    · first
    | omega | contradiction
    | refine S.sk (S.sk (S.sk (S.sk (S.sk (S.sk (S.sk (S.o q.pf (S.o q.mv (S.sk (S.sk (S.sk (S.sk (S.sk (S.sk (S.sk (S.o q.pf (S.o q.as (S.end (hK _ ?_))))))))))))))))))); clear hK K; refine Ev.ret ?_; refine Ev.ret1 ?_; refine ⟨?_, rfl⟩
      first
       | exact dI ⟨fun h => ⟨‹_›, by omega, by omega, h⟩, fun h => h.2.2.2⟩
       | exact bF (fun h => absurd h.1 ‹_›)
       | exact bF (fun h => by have h1 := h.2.1; omega)
       | exact bF (fun h => by have h1 := h.2.2.1; omega)
  · first
  | omega | contradiction
  | refine S.sk (S.sk (S.sk (S.sk (S.sk (S.sk (S.sk (S.o q.pf (S.o q.mv (S.sk (S.sk (S.sk (S.sk (S.sk (S.sk (S.sk (S.o q.pf (S.o q.mv (S.sk (S.sk (S.sk (S.sk (S.sk (S.sk (S.sk (S.o q.pf (S.o q.as (S.end (hK _ ?_)))))))))))))))))))))))))))); clear hK K; refine Ev.ret ?_; refine Ev.ret1 ?_; refine ⟨?_, rfl⟩
    first
     | exact dI ⟨fun h => ⟨‹_›, by omega, by omega, h⟩, fun h => h.2.2.2⟩
     | exact bF (fun h => absurd h.1 ‹_›)
     | exact bF (fun h => by have h1 := h.2.1; omega)
     | exact bF (fun h => by have h1 := h.2.2.1; omega)
theorem indexFuncBx0 (g : FuncId)  (p : Bx → Bool) (hg : ∀ s, Fun Tryz.prog g [.agg (Bx.c s)] (Ret (.lit (.bool (p s))) [])) (l : List (Bx)) (hlen : l.length ≤ 140737488355328) :
    Fun Tryz.prog 158 [.sh 6 (l.map Bx.c), .fn (.func g) [] []] (Ret (.lit (.int .i64 (idxP p l 0))) []) := by
  refine Fun.of (nt := 19) (rs := [.tmp 4]) Tryz.func158 rfl rfl rfl rfl rfl ?_; refine Ev.sr fun K hK => S.o q.as (S.end (hK _ ?_)); clear hK K; refine Ev.seq ?_; refine Ev.sr fun K hK => S.o q.mv (S.o (q.lens am_el22) (S.o q.mv (S.end (hK _ ?_)))); clear hK K; refine Ev.block ?_; refine Ev.loopU (ι := {q : List (Bx) × List (Bx) // q.1 ++ q.2 = l ∧ ∀ x ∈ q.1, p x = false}) [] [0, 1, 7] (fun ⟨(pre, suf), _⟩ => [(8, .lit (.int .i64 ((pre.length : Int))))]) (fun ⟨(pre, suf), _⟩ => []) (fun ⟨(pre, suf), _⟩ => suf.length) ⟨([], l), rfl, fun x hx => by simp at hx⟩ (.c (.c (.c .n))) keep_n (slots_c (he := (by first | rfl | (simp; done) | (congr 2; omega))) (h := trivial)) ?_; rintro ⟨⟨pre, suf⟩, hp, hinv⟩ R0 hR0; dsimp only [List.cons_append, List.nil_append, List.length_cons, List.length_nil]
  simp only at hp hinv
  have hpl : pre.length + suf.length = (l).length := by rw [← hp, List.length_append]
  rcases suf with _ | ⟨s, suf⟩
  · rw [List.append_nil] at hp; subst hp; simp only [List.length_nil] at hpl; refine Ev.sr fun K hK => S.o q.lss (S.end (hK _ ?_)); clear hK K; refine Ev.ud (fun c1 => ?_) (fun c1 => ?_)
    · first
    | omega | contradiction
    | refine Ev.seq ?_; refine Ev.block ?_; refine Ev.sr fun K hK => S.o q.mv (S.o q.as (S.end (hK _ ?_))); clear hK K; refine Ev.sr fun K hK => S.o q.mv (S.o q.mv (S.o q.mv (S.o (q.ix am_el22 am_cl100 (hl := (by first | exact atig (by omega)))) (S.o (q.lsA [_, _, _, _, _, _] am_ag100 am_cl100) (S.c0 (hF := hg s) (h := S.end (hK _ ?_))))))); clear hK K; refine Ev.c (fun c2 => ?_) (fun c2 => ?_)
      · first
      | omega | contradiction
      | refine Ev.sr fun K hK => S.o q.mv (S.o q.as (S.end (hK _ ?_))); clear hK K; refine Ev.ret ?_; refine hR0 _ _ ?_; refine Ev.ret1 ?_; refine ⟨?_, rfl⟩
        first | (congr 2; rw [← hp, idxP_append p pre _ 0 hinv, idxP, if_pos ‹_›]; omega) | (congr 2; rw [idxP_none p pre 0 hinv])
      · first
      | omega | contradiction
      | refine Ev.skip ?_; show Ev _ _ _ _; refine Ev.region_S fun K hK => S.o q.add (S.o q.mv (S.end (hK _ ?_))); clear hK K; refine hR0 _ _ ?_; refine roundU [] [0, 1, 7] ⟨(pre ++ [s], suf), by rw [← hp]; simp, ?_⟩ ?_ keep_n (slots_c (he := (by first | rfl | (simp; done) | (congr 2; omega))) (h := trivial)) (.c (.c (.c .n)))
        intro x hx; simp only [List.mem_append, List.mem_singleton] at hx; rcases hx with hx | rfl
        · exact hinv x hx
        · assumption
        all_goals (dsimp only; simp only [List.length_cons]; omega)
    · first
    | omega | contradiction
    | refine Ev.exit ?_; refine hR0 _ _ ?_; show Ev _ _ _ _; refine Ev.sr fun K hK => S.o q.as (S.end (hK _ ?_)); clear hK K; refine Ev.ret ?_; refine Ev.ret1 ?_; refine ⟨?_, rfl⟩
      first | (congr 2; rw [← hp, idxP_append p pre _ 0 hinv, idxP, if_pos ‹_›]; omega) | (congr 2; rw [idxP_none p pre 0 hinv])
  · simp only [List.length_cons] at hpl
    have hidx : (l)[pre.length]? = some s := by rw [← hp]; simp
    refine Ev.sr fun K hK => S.o q.lss (S.end (hK _ ?_)); clear hK K; refine Ev.ud (fun c3 => ?_) (fun c3 => ?_)
    · first
    | omega | contradiction
    | refine Ev.seq ?_; refine Ev.block ?_; refine Ev.sr fun K hK => S.o q.mv (S.o q.as (S.end (hK _ ?_))); clear hK K; refine Ev.sr fun K hK => S.o q.mv (S.o q.mv (S.o q.mv (S.o (q.ix am_el22 am_cl100 (hl := (by first | exact ati hidx (by omega) | exact atig (by omega)))) (S.o (q.lsA [_, _, _, _, _, _] am_ag100 am_cl100) (S.c0 (hF := hg s) (h := S.end (hK _ ?_))))))); clear hK K; refine Ev.c (fun c4 => ?_) (fun c4 => ?_)
      · first
      | omega | contradiction
      | refine Ev.sr fun K hK => S.o q.mv (S.o q.as (S.end (hK _ ?_))); clear hK K; refine Ev.ret ?_; refine hR0 _ _ ?_; refine Ev.ret1 ?_; refine ⟨?_, rfl⟩
        first | (congr 2; rw [← hp, idxP_append p pre _ 0 hinv, idxP, if_pos ‹_›]; omega) | (congr 2; rw [idxP_none p pre 0 hinv])
      · first
      | omega | contradiction
      | refine Ev.skip ?_; show Ev _ _ _ _; refine Ev.region_S fun K hK => S.o q.add (S.o q.mv (S.end (hK _ ?_))); clear hK K; refine hR0 _ _ ?_; refine roundU [] [0, 1, 7] ⟨(pre ++ [s], suf), by rw [← hp]; simp, ?_⟩ ?_ keep_n (slots_c (he := (by first | rfl | (simp; done) | (congr 2; omega))) (h := trivial)) (.c (.c (.c .n)))
        intro x hx; simp only [List.mem_append, List.mem_singleton] at hx; rcases hx with hx | rfl
        · exact hinv x hx
        · assumption
        all_goals (dsimp only; simp only [List.length_cons]; omega)
    · first
    | omega | contradiction
    | refine Ev.exit ?_; refine hR0 _ _ ?_; show Ev _ _ _ _; refine Ev.sr fun K hK => S.o q.as (S.end (hK _ ?_)); clear hK K; refine Ev.ret ?_; refine Ev.ret1 ?_; refine ⟨?_, rfl⟩
      first | (congr 2; rw [← hp, idxP_append p pre _ 0 hinv, idxP, if_pos ‹_›]; omega) | (congr 2; rw [idxP_none p pre 0 hinv])
theorem containsFuncBx0 (g : FuncId)  (p : Bx → Bool) (hg : ∀ s, Fun Tryz.prog g [.agg (Bx.c s)] (Ret (.lit (.bool (p s))) [])) (l : List (Bx)) (hlen : l.length ≤ 140737488355328) :
    Fun Tryz.prog 105 [.sh 6 (l.map Bx.c), .fn (.func g) [] []] (Ret (.lit (.bool (decide (∃ x ∈ l, p x = true)))) []) := by
  have hd : (decide (∃ x ∈ l, p x = true)) = decide (0 ≤ idxP p l 0) := by simp only [idxP_nonneg p l 0 (Int.le_refl _)]
  rw [hd]; refine Fun.of (nt := 9) (rs := [.tmp 4]) Tryz.func105 rfl rfl rfl rfl rfl ?_; refine Ev.sr fun K hK => S.o q.as (S.end (hK _ ?_)); clear hK K; refine Ev.sr fun K hK => S.o q.mv (S.o q.mv (S.c0 (hF := indexFuncBx0 g  p hg l hlen) (h := S.o q.geq (S.o q.as (S.end (hK _ ?_)))))); clear hK K; refine Ev.ret ?_; refine Ev.ret1 ?_; refine ⟨?_, rfl⟩; rfl
theorem indexFuncInt0 (g : FuncId)  (p : Int → Bool) (hg : ∀ s, Fun Tryz.prog g [(intC s).headD .top] (Ret (.lit (.bool (p s))) [])) (l : List (Int)) (hlen : l.length ≤ 140737488355328) :
    Fun Tryz.prog 217 [.sh 1 (l.map intC), .fn (.func g) [] []] (Ret (.lit (.int .i64 (idxP p l 0))) []) := by
  refine Fun.of (nt := 19) (rs := [.tmp 4]) Tryz.func217 rfl rfl rfl rfl rfl ?_; refine Ev.sr fun K hK => S.o q.as (S.end (hK _ ?_)); clear hK K; refine Ev.seq ?_; refine Ev.sr fun K hK => S.o q.mv (S.o (q.lens am_el66) (S.o q.mv (S.end (hK _ ?_)))); clear hK K; refine Ev.block ?_; refine Ev.loopU (ι := {q : List (Int) × List (Int) // q.1 ++ q.2 = l ∧ ∀ x ∈ q.1, p x = false}) [] [0, 1, 7] (fun ⟨(pre, suf), _⟩ => [(8, .lit (.int .i64 ((pre.length : Int))))]) (fun ⟨(pre, suf), _⟩ => []) (fun ⟨(pre, suf), _⟩ => suf.length) ⟨([], l), rfl, fun x hx => by simp at hx⟩ (.c (.c (.c .n))) keep_n (slots_c (he := (by first | rfl | (simp; done) | (congr 2; omega))) (h := trivial)) ?_; rintro ⟨⟨pre, suf⟩, hp, hinv⟩ R0 hR0; dsimp only [List.cons_append, List.nil_append, List.length_cons, List.length_nil]
  simp only at hp hinv
  have hpl : pre.length + suf.length = (l).length := by rw [← hp, List.length_append]
  rcases suf with _ | ⟨s, suf⟩
  · rw [List.append_nil] at hp; subst hp; simp only [List.length_nil] at hpl; refine Ev.sr fun K hK => S.o q.lss (S.end (hK _ ?_)); clear hK K; refine Ev.ud (fun c1 => ?_) (fun c1 => ?_)
    · first
    | omega | contradiction
    | refine Ev.seq ?_; refine Ev.block ?_; refine Ev.sr fun K hK => S.o q.mv (S.o q.as (S.end (hK _ ?_))); clear hK K; refine Ev.sr fun K hK => S.o q.mv (S.o q.mv (S.o q.mv (S.o (q.ix am_el66 am_cl3 (hl := (by first | exact atig (by omega)))) (S.o (q.ls am_ag3) (S.c0 (hF := hg s) (h := S.end (hK _ ?_))))))); clear hK K; refine Ev.c (fun c2 => ?_) (fun c2 => ?_)
      · first
      | omega | contradiction
      | refine Ev.sr fun K hK => S.o q.mv (S.o q.as (S.end (hK _ ?_))); clear hK K; refine Ev.ret ?_; refine hR0 _ _ ?_; refine Ev.ret1 ?_; refine ⟨?_, rfl⟩
        first | (congr 2; rw [← hp, idxP_append p pre _ 0 hinv, idxP, if_pos ‹_›]; omega) | (congr 2; rw [idxP_none p pre 0 hinv])
      · first
      | omega | contradiction
      | refine Ev.skip ?_; show Ev _ _ _ _; refine Ev.region_S fun K hK => S.o q.add (S.o q.mv (S.end (hK _ ?_))); clear hK K; refine hR0 _ _ ?_; refine roundU [] [0, 1, 7] ⟨(pre ++ [s], suf), by rw [← hp]; simp, ?_⟩ ?_ keep_n (slots_c (he := (by first | rfl | (simp; done) | (congr 2; omega))) (h := trivial)) (.c (.c (.c .n)))
        intro x hx; simp only [List.mem_append, List.mem_singleton] at hx; rcases hx with hx | rfl
        · exact hinv x hx
        · assumption
        all_goals (dsimp only; simp only [List.length_cons]; omega)
    · first
    | omega | contradiction
    | refine Ev.exit ?_; refine hR0 _ _ ?_; show Ev _ _ _ _; refine Ev.sr fun K hK => S.o q.as (S.end (hK _ ?_)); clear hK K; refine Ev.ret ?_; refine Ev.ret1 ?_; refine ⟨?_, rfl⟩
      first | (congr 2; rw [← hp, idxP_append p pre _ 0 hinv, idxP, if_pos ‹_›]; omega) | (congr 2; rw [idxP_none p pre 0 hinv])
  · simp only [List.length_cons] at hpl
    have hidx : (l)[pre.length]? = some s := by rw [← hp]; simp
    refine Ev.sr fun K hK => S.o q.lss (S.end (hK _ ?_)); clear hK K; refine Ev.ud (fun c3 => ?_) (fun c3 => ?_)
    · first
    | omega | contradiction
    | refine Ev.seq ?_; refine Ev.block ?_; refine Ev.sr fun K hK => S.o q.mv (S.o q.as (S.end (hK _ ?_))); clear hK K; refine Ev.sr fun K hK => S.o q.mv (S.o q.mv (S.o q.mv (S.o (q.ix am_el66 am_cl3 (hl := (by first | exact ati hidx (by omega) | exact atig (by omega)))) (S.o (q.ls am_ag3) (S.c0 (hF := hg s) (h := S.end (hK _ ?_))))))); clear hK K; refine Ev.c (fun c4 => ?_) (fun c4 => ?_)
      · first
      | omega | contradiction
      | refine Ev.sr fun K hK => S.o q.mv (S.o q.as (S.end (hK _ ?_))); clear hK K; refine Ev.ret ?_; refine hR0 _ _ ?_; refine Ev.ret1 ?_; refine ⟨?_, rfl⟩
        first | (congr 2; rw [← hp, idxP_append p pre _ 0 hinv, idxP, if_pos ‹_›]; omega) | (congr 2; rw [idxP_none p pre 0 hinv])
      · first
      | omega | contradiction
      | refine Ev.skip ?_; show Ev _ _ _ _; refine Ev.region_S fun K hK => S.o q.add (S.o q.mv (S.end (hK _ ?_))); clear hK K; refine hR0 _ _ ?_; refine roundU [] [0, 1, 7] ⟨(pre ++ [s], suf), by rw [← hp]; simp, ?_⟩ ?_ keep_n (slots_c (he := (by first | rfl | (simp; done) | (congr 2; omega))) (h := trivial)) (.c (.c (.c .n)))
        intro x hx; simp only [List.mem_append, List.mem_singleton] at hx; rcases hx with hx | rfl
        · exact hinv x hx
        · assumption
        all_goals (dsimp only; simp only [List.length_cons]; omega)
    · first
    | omega | contradiction
    | refine Ev.exit ?_; refine hR0 _ _ ?_; show Ev _ _ _ _; refine Ev.sr fun K hK => S.o q.as (S.end (hK _ ?_)); clear hK K; refine Ev.ret ?_; refine Ev.ret1 ?_; refine ⟨?_, rfl⟩
      first | (congr 2; rw [← hp, idxP_append p pre _ 0 hinv, idxP, if_pos ‹_›]; omega) | (congr 2; rw [idxP_none p pre 0 hinv])
theorem containsFuncInt0 (g : FuncId)  (p : Int → Bool) (hg : ∀ s, Fun Tryz.prog g [(intC s).headD .top] (Ret (.lit (.bool (p s))) [])) (l : List (Int)) (hlen : l.length ≤ 140737488355328) :
    Fun Tryz.prog 188 [.sh 1 (l.map intC), .fn (.func g) [] []] (Ret (.lit (.bool (decide (∃ x ∈ l, p x = true)))) []) := by
  have hd : (decide (∃ x ∈ l, p x = true)) = decide (0 ≤ idxP p l 0) := by simp only [idxP_nonneg p l 0 (Int.le_refl _)]
  rw [hd]; refine Fun.of (nt := 9) (rs := [.tmp 4]) Tryz.func188 rfl rfl rfl rfl rfl ?_; refine Ev.sr fun K hK => S.o q.as (S.end (hK _ ?_)); clear hK K; refine Ev.sr fun K hK => S.o q.mv (S.o q.mv (S.c0 (hF := indexFuncInt0 g  p hg l hlen) (h := S.o q.geq (S.o q.as (S.end (hK _ ?_)))))); clear hK K; refine Ev.ret ?_; refine Ev.ret1 ?_; refine ⟨?_, rfl⟩; rfl
theorem thin_fun (b : Bx) : Fun Tryz.prog 103 [.agg b.c] (Ret (.lit (.bool (decide (¬ thickB b)))) []) := by
  refine Fun.of (nt := 6) (rs := [.tmp 2]) Tryz.func103 rfl rfl rfl rfl rfl ?_; refine Ev.sr fun K hK => S.nn (q.bx [_, _, _, _, _, _] true) (S.o q.as (S.end (hK _ ?_))); clear hK K; refine Ev.sr fun K hK => S.o (q.lvA [_, _, _, _, _, _] am_ag100 am_cl100) (S.c0 (hF := thick_fun b) (h := S.o q.not (S.o q.as (S.end (hK _ ?_))))); clear hK K; refine Ev.ret ?_; refine Ev.ret1 ?_; refine ⟨?_, rfl⟩; exact dN Iff.rfl
theorem allThick {l : List Bx} : (¬ ∃ x ∈ l, decide (¬ thickB x) = true) ↔ ∀ b ∈ l, thickB b := by
  constructor
  · intro h b hb
    by_cases ht : thickB b
    · exact ht
    · exact absurd ⟨b, hb, decide_eq_true ht⟩ h
  · rintro h ⟨b, hb, hd⟩; exact of_decide_eq_true hd (h b hb)
theorem solValid_fun (bs hs : List Bx) (h1 : bs.length ≤ 140737488355328) (h2 : hs.length ≤ 140737488355328) : Fun Tryz.prog 58 [.agg [.sh 6 (bs.map Bx.c), .sh 6 (hs.map Bx.c)]] (Ret (.lit (.bool (decide (solOK bs hs)))) []) := by
  refine Fun.of (nt := 34) (rs := [.tmp 2]) Tryz.func58 rfl rfl rfl rfl rfl ?_; refine Ev.sr fun K hK => S.nn (q.bx [_, _] true) (S.o q.as (S.end (hK _ ?_))); clear hK K; refine Ev.sr fun K hK => S.o q.as (S.end (hK _ ?_)); clear hK K; refine Ev.sr fun K hK => S.o (q.fa 0 am_fi24_0 am_cl22) (S.o (q.lv am_ag22) (S.o (q.lens am_el22) (S.o q.geq (S.bd q.mv (fun c1 => ?_) (fun c1 => ?_)))))
  · first
  | omega | contradiction
  | refine S.o (q.fa 0 am_fi24_0 am_cl22) (S.o (q.lv am_ag22) (S.o (q.lens am_el22) (S.o q.leq (S.o q.pt (S.bd q.mv (fun c2 => ?_) (fun c2 => ?_))))))
    · first
    | omega | contradiction
    | refine S.o (q.fa 1 am_fi24_1 am_cl22) (S.o (q.lv am_ag22) (S.o (q.lens am_el22) (S.o q.leq (S.o q.pt (S.bd q.mv (fun c3 => ?_) (fun c3 => ?_))))))
      · first
      | omega | contradiction
      | refine S.o (q.fa 0 am_fi24_0 am_cl22) (S.o (q.lv am_ag22) (S.o q.mv (S.c0 (hF := containsFuncBx0 _ _ thin_fun bs (by omega)) (h := S.o q.not (S.o q.pt (S.bn q.mv (fun c4 => ?_) (fun c4 => ?_)))))))
        · first
        | omega | contradiction
        | refine S.o (q.fa 1 am_fi24_1 am_cl22) (S.o (q.lv am_ag22) (S.o q.mv (S.c0 (hF := containsFuncBx0 _ _ thin_fun hs (by omega)) (h := S.o q.not (S.o q.pt (S.o q.as (S.end (hK _ ?_)))))))); clear hK K; refine Ev.ret ?_; refine Ev.ret1 ?_; refine ⟨?_, rfl⟩
          first
           | exact dN ⟨fun h => ⟨⟨by omega, by omega⟩, by omega, allThick.1 ‹_›, allThick.1 h⟩, fun h => allThick.2 h.2.2.2⟩
           | exact bF (fun h => by have h1 := h.1; have h2 := h.2.1; omega)
           | exact bF (fun h => allThick.2 h.2.2.1 ‹_›)
           | exact bF (fun h => allThick.2 h.2.2.1 (Decidable.of_not_not ‹_›))
        · first
        | omega | contradiction
        | refine S.sk (S.sk (S.sk (S.sk (S.sk (S.o q.pf (S.o q.as (S.end (hK _ ?_)))))))); clear hK K; refine Ev.ret ?_; refine Ev.ret1 ?_; refine ⟨?_, rfl⟩
          first
           | exact dN ⟨fun h => ⟨⟨by omega, by omega⟩, by omega, allThick.1 ‹_›, allThick.1 h⟩, fun h => allThick.2 h.2.2.2⟩
           | exact bF (fun h => by have h1 := h.1; have h2 := h.2.1; omega)
           | exact bF (fun h => allThick.2 h.2.2.1 ‹_›)
           | exact bF (fun h => allThick.2 h.2.2.1 (Decidable.of_not_not ‹_›))
      · first
      | omega | contradiction
      | refine S.sk (S.sk (S.sk (S.sk (S.sk (S.o q.pf (S.o q.mv (S.sk (S.sk (S.sk (S.sk (S.sk (S.o q.pf (S.o q.as (S.end (hK _ ?_))))))))))))))); clear hK K; refine Ev.ret ?_; refine Ev.ret1 ?_; refine ⟨?_, rfl⟩
        first
         | exact dN ⟨fun h => ⟨⟨by omega, by omega⟩, by omega, allThick.1 ‹_›, allThick.1 h⟩, fun h => allThick.2 h.2.2.2⟩
         | exact bF (fun h => by have h1 := h.1; have h2 := h.2.1; omega)
         | exact bF (fun h => allThick.2 h.2.2.1 ‹_›)
         | exact bF (fun h => allThick.2 h.2.2.1 (Decidable.of_not_not ‹_›))
    · first
    | omega | contradiction
    | refine S.sk (S.sk (S.sk (S.sk (S.o q.pf (S.o q.mv (S.sk (S.sk (S.sk (S.sk (S.sk (S.o q.pf (S.o q.mv (S.sk (S.sk (S.sk (S.sk (S.sk (S.o q.pf (S.o q.as (S.end (hK _ ?_))))))))))))))))))))); clear hK K; refine Ev.ret ?_; refine Ev.ret1 ?_; refine ⟨?_, rfl⟩
      first
       | exact dN ⟨fun h => ⟨⟨by omega, by omega⟩, by omega, allThick.1 ‹_›, allThick.1 h⟩, fun h => allThick.2 h.2.2.2⟩
       | exact bF (fun h => by have h1 := h.1; have h2 := h.2.1; omega)
       | exact bF (fun h => allThick.2 h.2.2.1 ‹_›)
       | exact bF (fun h => allThick.2 h.2.2.1 (Decidable.of_not_not ‹_›))
  · first
  | omega | contradiction
  | refine S.sk (S.sk (S.sk (S.sk (S.o q.pf (S.o q.mv (S.sk (S.sk (S.sk (S.sk (S.o q.pf (S.o q.mv (S.sk (S.sk (S.sk (S.sk (S.sk (S.o q.pf (S.o q.mv (S.sk (S.sk (S.sk (S.sk (S.sk (S.o q.pf (S.o q.as (S.end (hK _ ?_))))))))))))))))))))))))))); clear hK K; refine Ev.ret ?_; refine Ev.ret1 ?_; refine ⟨?_, rfl⟩
    first
     | exact dN ⟨fun h => ⟨⟨by omega, by omega⟩, by omega, allThick.1 ‹_›, allThick.1 h⟩, fun h => allThick.2 h.2.2.2⟩
     | exact bF (fun h => by have h1 := h.1; have h2 := h.2.1; omega)
     | exact bF (fun h => allThick.2 h.2.2.1 ‹_›)
     | exact bF (fun h => allThick.2 h.2.2.1 (Decidable.of_not_not ‹_›))
theorem mwithin_fun (n lo hi : Int) : Fun Tryz.prog 137 [.lit (.int .i64 n), .lit (.int .i64 lo), .lit (.int .i64 hi)] (Ret (.lit (.bool (decide (lo ≤ n ∧ n ≤ hi)))) []) := by
  refine Fun.of (nt := 15) (rs := [.tmp 6]) Tryz.func137 rfl rfl rfl rfl rfl ?_; refine Ev.sr fun K hK => S.o q.as (S.end (hK _ ?_)); clear hK K; refine Ev.sr fun K hK => S.o q.mv (S.o q.mv (S.o q.geq (S.bd q.mv (fun c1 => ?_) (fun c1 => ?_))))
  · first
  | omega | contradiction
  | refine S.o q.mv (S.o q.mv (S.o q.leq (S.o q.pt (S.o q.as (S.end (hK _ ?_)))))); clear hK K; refine Ev.ret ?_; refine Ev.ret1 ?_; refine ⟨?_, rfl⟩
    first | exact bF (fun h => by omega) | exact dI ⟨fun h => by omega, fun h => by omega⟩
  · first
  | omega | contradiction
  | refine S.sk (S.sk (S.sk (S.o q.pf (S.o q.as (S.end (hK _ ?_)))))); clear hK K; refine Ev.ret ?_; refine Ev.ret1 ?_; refine ⟨?_, rfl⟩
    first | exact bF (fun h => by omega) | exact dI ⟨fun h => by omega, fun h => by omega⟩
theorem member_fun (x : Mem) (hw : x.w) : Fun Tryz.prog 84 [.agg x.c] (Ret (.lit (.bool (decide (memOK x)))) []) := by
  obtain ⟨hw1, hw2, hw3⟩ := hw; refine Fun.of (nt := 30) (rs := [.tmp 2]) Tryz.func84 rfl rfl rfl rfl rfl ?_; refine Ev.sr fun K hK => S.nn (q.bx [_, _, _, _, _, _] true) (S.o q.as (S.end (hK _ ?_))); clear hK K; refine Ev.sr fun K hK => S.o q.as (S.end (hK _ ?_)); clear hK K; refine Ev.sr fun K hK => S.o (q.fa 0 am_fi26_0 am_cl9) (S.o (q.lv am_ag9) (S.c0 (hF := isName_fun x.name (by omega)) (h := S.bd q.mv (fun c1 => ?_) (fun c1 => ?_))))
  · first
  | omega | contradiction
  | refine S.o (q.fa 1 am_fi26_1 am_cl24) (S.o (q.lvA [_, _] am_ag24 am_cl24) (S.c0 (hF := solValid_fun x.bs x.hs (by omega) (by omega)) (h := S.o q.pt (S.bd q.mv (fun c2 => ?_) (fun c2 => ?_)))))
    · first
    | omega | contradiction
    | refine S.o q.mv (S.o (q.fa 3 am_fi26_2 am_cl3) (S.o (q.lv am_ag3) (S.c0 (hF := mwithin_fun x.cov 0 200) (h := S.o q.pt (S.bd q.mv (fun c3 => ?_) (fun c3 => ?_))))))
      · first
      | omega | contradiction
      | refine S.o q.mv (S.o (q.fa 4 am_fi26_3 am_cl3) (S.o (q.lv am_ag3) (S.c0 (hF := mwithin_fun x.agg 1 100) (h := S.o q.pt (S.bd q.mv (fun c4 => ?_) (fun c4 => ?_))))))
        · first
        | omega | contradiction
        | refine S.o q.mv (S.o (q.fa 5 am_fi26_4 am_cl3) (S.o (q.lv am_ag3) (S.c0 (hF := mwithin_fun x.pok 1 200) (h := S.o q.pt (S.o q.as (S.end (hK _ ?_))))))); clear hK K; refine Ev.ret ?_; refine Ev.ret1 ?_; refine ⟨?_, rfl⟩
          first
           | exact dI ⟨fun h => ⟨‹_›, ‹_›, ‹_›, ‹_›, h⟩, fun h => h.2.2.2.2⟩
           | exact bF (fun h => absurd h.1 ‹_›)
           | exact bF (fun h => absurd h.2.1 ‹_›)
           | exact bF (fun h => absurd h.2.2.1 ‹_›)
           | exact bF (fun h => absurd h.2.2.2.1 ‹_›)
        · first
        | omega | contradiction
        | refine S.sk (S.sk (S.sk (S.sk (S.o q.pf (S.o q.as (S.end (hK _ ?_))))))); clear hK K; refine Ev.ret ?_; refine Ev.ret1 ?_; refine ⟨?_, rfl⟩
          first
           | exact dI ⟨fun h => ⟨‹_›, ‹_›, ‹_›, ‹_›, h⟩, fun h => h.2.2.2.2⟩
           | exact bF (fun h => absurd h.1 ‹_›)
           | exact bF (fun h => absurd h.2.1 ‹_›)
           | exact bF (fun h => absurd h.2.2.1 ‹_›)
           | exact bF (fun h => absurd h.2.2.2.1 ‹_›)
      · first
      | omega | contradiction
      | refine S.sk (S.sk (S.sk (S.sk (S.o q.pf (S.o q.mv (S.sk (S.sk (S.sk (S.sk (S.o q.pf (S.o q.as (S.end (hK _ ?_))))))))))))); clear hK K; refine Ev.ret ?_; refine Ev.ret1 ?_; refine ⟨?_, rfl⟩
        first
         | exact dI ⟨fun h => ⟨‹_›, ‹_›, ‹_›, ‹_›, h⟩, fun h => h.2.2.2.2⟩
         | exact bF (fun h => absurd h.1 ‹_›)
         | exact bF (fun h => absurd h.2.1 ‹_›)
         | exact bF (fun h => absurd h.2.2.1 ‹_›)
         | exact bF (fun h => absurd h.2.2.2.1 ‹_›)
    · first
    | omega | contradiction
    | refine S.sk (S.sk (S.sk (S.sk (S.o q.pf (S.o q.mv (S.sk (S.sk (S.sk (S.sk (S.o q.pf (S.o q.mv (S.sk (S.sk (S.sk (S.sk (S.o q.pf (S.o q.as (S.end (hK _ ?_))))))))))))))))))); clear hK K; refine Ev.ret ?_; refine Ev.ret1 ?_; refine ⟨?_, rfl⟩
      first
       | exact dI ⟨fun h => ⟨‹_›, ‹_›, ‹_›, ‹_›, h⟩, fun h => h.2.2.2.2⟩
       | exact bF (fun h => absurd h.1 ‹_›)
       | exact bF (fun h => absurd h.2.1 ‹_›)
       | exact bF (fun h => absurd h.2.2.1 ‹_›)
       | exact bF (fun h => absurd h.2.2.2.1 ‹_›)
  · first
  | omega | contradiction
  | refine S.sk (S.sk (S.sk (S.o q.pf (S.o q.mv (S.sk (S.sk (S.sk (S.sk (S.o q.pf (S.o q.mv (S.sk (S.sk (S.sk (S.sk (S.o q.pf (S.o q.mv (S.sk (S.sk (S.sk (S.sk (S.o q.pf (S.o q.as (S.end (hK _ ?_)))))))))))))))))))))))); clear hK K; refine Ev.ret ?_; refine Ev.ret1 ?_; refine ⟨?_, rfl⟩
    first
     | exact dI ⟨fun h => ⟨‹_›, ‹_›, ‹_›, ‹_›, h⟩, fun h => h.2.2.2.2⟩
     | exact bF (fun h => absurd h.1 ‹_›)
     | exact bF (fun h => absurd h.2.1 ‹_›)
     | exact bF (fun h => absurd h.2.2.1 ‹_›)
     | exact bF (fun h => absurd h.2.2.2.1 ‹_›)
theorem anw_fun (s : Int) : Fun Tryz.prog 189 [.lit (.int .i64 s)] (Ret (.lit (.bool (decide (¬ (1 ≤ s ∧ s ≤ 1000))))) []) := by
  refine Fun.of (nt := 9) (rs := [.tmp 2]) Tryz.func189 rfl rfl rfl rfl rfl ?_; refine Ev.sr fun K hK => S.o q.as (S.end (hK _ ?_)); clear hK K; refine Ev.sr fun K hK => S.o q.mv (S.o q.lss (S.bd q.mv (fun c1 => ?_) (fun c1 => ?_)))
  · first
  | omega | contradiction
  | refine S.sk (S.sk (S.o q.pt (S.o q.as (S.end (hK _ ?_))))); clear hK K; refine Ev.ret ?_; refine Ev.ret1 ?_; refine ⟨?_, rfl⟩
    first | exact bT (fun h => by omega) | exact dI ⟨fun h h2 => by omega, fun h => by omega⟩
  · first
  | omega | contradiction
  | refine S.o q.mv (S.o q.gtr (S.o q.pf (S.o q.as (S.end (hK _ ?_))))); clear hK K; refine Ev.ret ?_; refine Ev.ret1 ?_; refine ⟨?_, rfl⟩
    first | exact bT (fun h => by omega) | exact dI ⟨fun h h2 => by omega, fun h => by omega⟩
theorem allIn {l : List Int} : (¬ ∃ x ∈ l, decide (¬ (1 ≤ x ∧ x ≤ 1000)) = true) ↔ ∀ b ∈ l, 1 ≤ b ∧ b ≤ 1000 := by
  constructor
  · intro h b hb
    by_cases ht : 1 ≤ b ∧ b ≤ 1000
    · exact ht
    · exact absurd ⟨b, hb, decide_eq_true ht⟩ h
  · rintro h ⟨b, hb, hd⟩; exact of_decide_eq_true hd (h b hb)
theorem within_fun (l : List Int) (h1 : l.length ≤ 140737488355328) : Fun Tryz.prog 141 [.sh 1 (l.map intC)] (Ret (.lit (.bool (decide (∀ n ∈ l, 1 ≤ n ∧ n ≤ 1000)))) []) := by
  refine Fun.of (nt := 6) (rs := [.tmp 2]) Tryz.func141 rfl rfl rfl rfl rfl ?_; refine Ev.sr fun K hK => S.o q.as (S.end (hK _ ?_)); clear hK K; refine Ev.sr fun K hK => S.o q.mv (S.c0 (hF := containsFuncInt0 _ _ anw_fun l (by omega)) (h := S.o q.not (S.o q.as (S.end (hK _ ?_))))); clear hK K; refine Ev.ret ?_; refine Ev.ret1 ?_; refine ⟨?_, rfl⟩; exact dN allIn
theorem ruleValid_fun (r : Rul) : Fun Tryz.prog 86 [.agg r.c] (Ret (.lit (.bool (decide (ruleOK r)))) []) := by
  refine Fun.of (nt := 52) (rs := [.tmp 2]) Tryz.func86 rfl rfl rfl rfl rfl ?_; refine Ev.sr fun K hK => S.nn (q.bx [_, _, _, _, _, _, _, _, _] true) (S.o q.as (S.end (hK _ ?_))); clear hK K; refine Ev.sr fun K hK => S.o (q.fa 0 am_fi32_0 am_cl3) (S.o (q.lv am_ag3) (S.o (q.fa 1 am_fi32_1 am_cl3) (S.o (q.lv am_ag3) (S.o (q.fa 2 am_fi32_2 am_cl3) (S.o (q.lv am_ag3) (S.o (q.fa 3 am_fi32_3 am_cl3) (S.o (q.lv am_ag3) (S.o (q.fa 4 am_fi32_4 am_cl3) (S.o (q.lv am_ag3) (S.o (q.fa 5 am_fi32_5 am_cl3) (S.o (q.lv am_ag3) (S.o (q.fa 6 am_fi32_6 am_cl3) (S.o (q.lv am_ag3) (S.o (q.fa 7 am_fi32_7 am_cl3) (S.o (q.lv am_ag3) (S.nn (q.bs [[_], [_], [_], [_], [_], [_], [_], [_]] true am_el66 am_ze3 am_cl3) ?_)))))))))))))))); refine SeqL.weaken (Wk.frzl (f := intC) r.l 19 [_]) ?_; refine S.c0 (hF := within_fun r.l (show 8 ≤ 140737488355328 by decide)) (h := S.bd q.mv (fun c1 => ?_) (fun c1 => ?_))
  · first
  | omega | contradiction
  | refine S.o (q.fa 2 am_fi32_2 am_cl3) (S.o (q.lv am_ag3) (S.o (q.fa 3 am_fi32_3 am_cl3) (S.o (q.lv am_ag3) (S.o q.geq (S.o q.pt (S.bd q.mv (fun c2 => ?_) (fun c2 => ?_)))))))
    · first
    | omega | contradiction
    | refine S.o (q.fa 6 am_fi32_6 am_cl3) (S.o (q.lv am_ag3) (S.o (q.fa 7 am_fi32_7 am_cl3) (S.o (q.lv am_ag3) (S.o q.geq (S.o q.pt (S.bd q.mv (fun c3 => ?_) (fun c3 => ?_)))))))
      · first
      | omega | contradiction
      | refine S.o (q.fa 4 am_fi32_4 am_cl3) (S.o (q.lv am_ag3) (S.o (q.fa 5 am_fi32_5 am_cl3) (S.o (q.lv am_ag3) (S.o q.leq (S.o q.pt (S.bd q.mv (fun c4 => ?_) (fun c4 => ?_)))))))
        · first
        | omega | contradiction
        | refine S.o (q.fa 8 am_fi32_8 am_cl3) (S.o (q.lv am_ag3) (S.o q.geq (S.o q.pt (S.bd q.mv (fun c5 => ?_) (fun c5 => ?_)))))
          · first
          | omega | contradiction
          | refine S.o (q.fa 8 am_fi32_8 am_cl3) (S.o (q.lv am_ag3) (S.o q.leq (S.o q.pt (S.o q.as (S.end (hK _ ?_)))))); clear hK K; refine Ev.ret ?_; refine Ev.ret1 ?_; refine ⟨?_, rfl⟩
            first
             | exact dI ⟨fun h => ⟨‹_›, by omega, by omega, by omega, by omega, h⟩, fun h => h.2.2.2.2.2⟩
             | exact bF (fun h => absurd h.1 ‹_›)
             | exact bF (fun h => by have h1 := h.2; omega)
          · first
          | omega | contradiction
          | refine S.sk (S.sk (S.sk (S.o q.pf (S.o q.as (S.end (hK _ ?_)))))); clear hK K; refine Ev.ret ?_; refine Ev.ret1 ?_; refine ⟨?_, rfl⟩
            first
             | exact dI ⟨fun h => ⟨‹_›, by omega, by omega, by omega, by omega, h⟩, fun h => h.2.2.2.2.2⟩
             | exact bF (fun h => absurd h.1 ‹_›)
             | exact bF (fun h => by have h1 := h.2; omega)
        · first
        | omega | contradiction
        | refine S.sk (S.sk (S.sk (S.o q.pf (S.o q.mv (S.sk (S.sk (S.sk (S.o q.pf (S.o q.as (S.end (hK _ ?_))))))))))); clear hK K; refine Ev.ret ?_; refine Ev.ret1 ?_; refine ⟨?_, rfl⟩
          first
           | exact dI ⟨fun h => ⟨‹_›, by omega, by omega, by omega, by omega, h⟩, fun h => h.2.2.2.2.2⟩
           | exact bF (fun h => absurd h.1 ‹_›)
           | exact bF (fun h => by have h1 := h.2; omega)
      · first
      | omega | contradiction
      | refine S.sk (S.sk (S.sk (S.sk (S.sk (S.o q.pf (S.o q.mv (S.sk (S.sk (S.sk (S.o q.pf (S.o q.mv (S.sk (S.sk (S.sk (S.o q.pf (S.o q.as (S.end (hK _ ?_)))))))))))))))))); clear hK K; refine Ev.ret ?_; refine Ev.ret1 ?_; refine ⟨?_, rfl⟩
        first
         | exact dI ⟨fun h => ⟨‹_›, by omega, by omega, by omega, by omega, h⟩, fun h => h.2.2.2.2.2⟩
         | exact bF (fun h => absurd h.1 ‹_›)
         | exact bF (fun h => by have h1 := h.2; omega)
    · first
    | omega | contradiction
    | refine S.sk (S.sk (S.sk (S.sk (S.sk (S.o q.pf (S.o q.mv (S.sk (S.sk (S.sk (S.sk (S.sk (S.o q.pf (S.o q.mv (S.sk (S.sk (S.sk (S.o q.pf (S.o q.mv (S.sk (S.sk (S.sk (S.o q.pf (S.o q.as (S.end (hK _ ?_))))))))))))))))))))))))); clear hK K; refine Ev.ret ?_; refine Ev.ret1 ?_; refine ⟨?_, rfl⟩
      first
       | exact dI ⟨fun h => ⟨‹_›, by omega, by omega, by omega, by omega, h⟩, fun h => h.2.2.2.2.2⟩
       | exact bF (fun h => absurd h.1 ‹_›)
       | exact bF (fun h => by have h1 := h.2; omega)
  · first
  | omega | contradiction
  | refine S.sk (S.sk (S.sk (S.sk (S.sk (S.o q.pf (S.o q.mv (S.sk (S.sk (S.sk (S.sk (S.sk (S.o q.pf (S.o q.mv (S.sk (S.sk (S.sk (S.sk (S.sk (S.o q.pf (S.o q.mv (S.sk (S.sk (S.sk (S.o q.pf (S.o q.mv (S.sk (S.sk (S.sk (S.o q.pf (S.o q.as (S.end (hK _ ?_)))))))))))))))))))))))))))))))); clear hK K; refine Ev.ret ?_; refine Ev.ret1 ?_; refine ⟨?_, rfl⟩
    first
     | exact dI ⟨fun h => ⟨‹_›, by omega, by omega, by omega, by omega, h⟩, fun h => h.2.2.2.2.2⟩
     | exact bF (fun h => absurd h.1 ‹_›)
     | exact bF (fun h => by have h1 := h.2; omega)
end Go.Proofs.YtkbpignlggahaaaGreatDoor
