/-
  Layer 48: what patterns yield.
  Conditions: none.
-/
import Derived.Test.YtappnbebcjmlbaaPc5
import Derived.Test.YtappnbebcjmlbaaYl1
namespace Go.Proofs.Ytappnbebcjmlbaa
open Go Go.AM
set_option linter.unusedSimpArgs false
set_option linter.unusedVariables false
set_option maxRecDepth 100000
set_option maxHeartbeats 1000000

theorem within_fun (n k : Int) : Fun Try.prog 45 [.lit (.int .i64 n), .lit (.int .i64 k)] (Ret (.lit (.bool (decide (k ≤ n ∧ n ≤ 1000000)))) []) := by
  refine Fun.of (nt := 12) (rs := [.tmp 4]) Try.func45 rfl rfl rfl rfl rfl ?_
  refine Ev.sr fun K hK => S.o q.as (S.end (hK _ ?_))
  clear hK K
  refine Ev.sr fun K hK => S.o q.mv (S.o q.mv (S.o q.geq (S.bd q.mv (fun c1 => ?_) (fun c1 => ?_))))
  · first
  | (first | omega | contradiction)
  | refine S.o q.mv (S.o q.leq (S.o q.pt (S.o q.as (S.end (hK _ ?_)))))
    clear hK K
    refine Ev.ret ?_
    refine Ev.ret1 ?_
    refine ⟨?_, rfl⟩
    first | exact bF (fun h => by omega) | exact dI ⟨fun h => by omega, fun h => by omega⟩
  · first
  | (first | omega | contradiction)
  | refine S.sk (S.sk (S.o q.pf (S.o q.as (S.end (hK _ ?_)))))
    clear hK K
    refine Ev.ret ?_
    refine Ev.ret1 ?_
    refine ⟨?_, rfl⟩
    first | exact bF (fun h => by omega) | exact dI ⟨fun h => by omega, fun h => by omega⟩

def ordE (l : List Bar) (p : List Pat) (d : Int) : Int := if pcE l d = 0 then (if 1000 < (p.length : Int) then 4 else 0) else pcE l d
def ordV (l : List Bar) (p : List Pat) (d : Int) : Bool := decide (ordE l p d = 0 ∧ yieldsP (pcV l d) p)
theorem ord_bad {l : List Bar} {p : List Pat} {d : Int} (h : ¬ pcE l d = 0) : ordE l p d = pcE l d ∧ ordV l p d = false := by
  have h1 : ordE l p d = pcE l d := if_neg h
  exact ⟨h1, decide_eq_false (fun h2 => h (by rw [← h1]; exact h2.1))⟩
theorem ord_full {l : List Bar} {p : List Pat} {d : Int} (h : pcE l d = 0) (hf : 1000 < (p.length : Int)) : ordE l p d = 4 ∧ ordV l p d = false := by
  have h1 : ordE l p d = 4 := (if_pos h).trans (if_pos hf)
  exact ⟨h1, decide_eq_false (fun h2 => by have := h2.1; omega)⟩
theorem ord_good {l : List Bar} {p : List Pat} {d : Int} {q : List (Int × Int)} (hq : pcV l d = q) (h : pcE l d = 0) (hf : ¬ 1000 < (p.length : Int)) : ordE l p d = 0 ∧ ordV l p d = decide (yieldsP q p) := by
  have h1 : ordE l p d = 0 := (if_pos h).trans (if_neg hf)
  refine ⟨h1, ?_⟩
  subst hq
  rw [ordV, decide_eq_decide]
  exact ⟨fun h => h.2, fun h => ⟨h1, h⟩⟩
theorem pcV_len (l : List Bar) (d : Int) : (pcV l d).length ≤ 60 := by
  unfold pcV
  split
  · rename_i h
    have h1 := pcP_len h.1.2.1 d
    have h2 := h.1.1
    omega
  · simp
def patW (p : List Pat) : Prop := ∀ x ∈ p, x.2.1.length ≤ 140737488355328
theorem Ordered_fun (l : List Bar) (p : List Pat) (d : Int) (hlen : l.length ≤ 140737488355328) (hw : schedW l) (hpl0 : p.length ≤ 140737488355328) (hpw : patW p) :
    Fun Try.prog 24 [.sh 5 (l.map Bar.c), .sh 3 (p.map patC), .lit (.int .i64 d)] (Ret (.tup [.lit (.bool (ordV l p d)), .lit (.int .i64 (ordE l p d))]) []) := by
  obtain ⟨z, hq⟩ : ∃ z, pcV l d = z := ⟨_, rfl⟩
  have hql : z.length ≤ 60 := hq ▸ pcV_len l d
  refine Fun.of (nt := 88) (rs := [.tmp 6, .tmp 7]) Try.func24 rfl rfl rfl rfl rfl ?_
  refine Ev.sr fun K hK => S.o q.as (S.o q.as (S.end (hK _ ?_)))
  clear hK K
  refine Ev.sr fun K hK => S.o q.mv (S.o q.mv (S.c0 (hF := (hq ▸ Pieces_fun l d hlen hw)) (h := S.o q.mv (S.o q.ex (S.o q.ex (S.o q.as (S.o q.as (S.end (hK _ ?_)))))))))
  clear hK K
  refine Ev.seq ?_
  refine Ev.sr fun K hK => S.o q.mv (S.o q.neq (S.end (hK _ ?_)))
  clear hK K
  refine Ev.cn (fun c1 => ?_) (fun c1 => ?_)
  · first
  | (first | omega | contradiction)
  | refine Ev.sr fun K hK => S.o q.mv (S.o q.as (S.o q.as (S.end (hK _ ?_))))
    clear hK K
    refine Ev.ret ?_
    refine Ev.ret2 ?_
    refine ⟨?_, rfl⟩
    first
     | (rw [(ord_bad ‹_›).1, (ord_bad ‹_›).2]; done)
     | (rw [(ord_full hE ‹_›).1, (ord_full hE ‹_›).2]; done)
     | (rw [hE0, hV, decide_eq_true hyes]; done)
     | (rw [hE0, hV, decide_eq_false (fun h => by first
      | (have h1 := h.1 (sa, sl, st) (by rw [← hp]; simp); unfold okPat at h1; simp only at h1; omega)
      | (have h1 := (h.1 (sa, sl, st) (by rw [← hp]; simp)).2.2 v (by rw [← hp2]; simp); omega)
      | (have h1 := yields_at h hid3; omega))]; done)
     | (exfalso; omega)
  · first
  | (first | omega | contradiction)
  | refine Ev.skip ?_
    show Ev _ _ _ _
    refine Ev.seq ?_
    have hE : pcE l d = 0 := by omega
    refine Ev.sr fun K hK => S.o q.mv (S.o (q.lens am_el47) (S.o q.gtr (S.end (hK _ ?_))))
    clear hK K
    refine Ev.cd (fun c2 => ?_) (fun c2 => ?_)
    · first
    | (first | omega | contradiction)
    | refine Ev.sr fun K hK => S.o q.as (S.o q.as (S.end (hK _ ?_)))
      clear hK K
      refine Ev.ret ?_
      refine Ev.ret2 ?_
      refine ⟨?_, rfl⟩
      first
       | (rw [(ord_bad ‹_›).1, (ord_bad ‹_›).2]; done)
       | (rw [(ord_full hE ‹_›).1, (ord_full hE ‹_›).2]; done)
       | (rw [hE0, hV, decide_eq_true hyes]; done)
       | (rw [hE0, hV, decide_eq_false (fun h => by first
        | (have h1 := h.1 (sa, sl, st) (by rw [← hp]; simp); unfold okPat at h1; simp only at h1; omega)
        | (have h1 := (h.1 (sa, sl, st) (by rw [← hp]; simp)).2.2 v (by rw [← hp2]; simp); omega)
        | (have h1 := yields_at h hid3; omega))]; done)
       | (exfalso; omega)
    · first
    | (first | omega | contradiction)
    | refine Ev.skip ?_
      show Ev _ _ _ _
      obtain ⟨hE0, hV⟩ := ord_good hq hE ‹_›
      refine Ev.sr fun K hK => S.o q.mv (S.o (q.lens am_el57) (S.mkf (f := intC) (0) am_el38 am_ze3 am_cl3 am_by3 (h := S.o q.as (S.end (hK _ ?_)))))
      clear hK K
      refine Ev.seq ?_
      refine Ev.sr fun K hK => S.o q.mv (S.o (q.lens am_el47) (S.o q.mv (S.end (hK _ ?_))))
      clear hK K
      refine Ev.block ?_
      refine Ev.loopU (ι := {q1 : List Pat × List Pat // q1.1 ++ q1.2 = p ∧ ∀ x ∈ q1.1, okPat z.length x}) [0] [8, 32, 33] (fun ⟨(pre, suf), _⟩ => [(34, .lit (.int .i64 ((pre.length : Int)))), (10, .als 0 0 (sumL pre z.length).length)]) (fun ⟨(pre, suf), _⟩ => [(0, ⟨true, 3, 1, (sumL pre z.length).map intC, true⟩)]) (fun ⟨(pre, suf), _⟩ => suf.length) ⟨([], p), rfl, fun x hx => by simp at hx⟩ (.c (.c (.c .n))) (keep_c (he := (by first | rfl | (rw [sumL_nil]; done) | (rw [hK]; done))) (h := keep_n)) (slots_c (he := (by first | rfl | (congr 2; simp; done))) (h := (slots_c (he := (by first | rfl | (congr 1; simp [sumL_len, sumK_len]; done))) (h := trivial)))) ?_
      rintro ⟨⟨pre, suf⟩, hp, hinv⟩ R0 hR0
      dsimp only [List.cons_append, List.nil_append, List.length_cons, List.length_nil]
      simp only at hp hinv
      have hpl : pre.length + suf.length = p.length := by rw [← hp, List.length_append]
      have hsl := sumL_len pre z.length
      rcases suf with _ | ⟨⟨sa, sl, st⟩, suf⟩
      · rw [List.append_nil] at hp; subst pre; simp only [List.length_nil] at hpl
        refine Ev.sr fun K hK => S.o q.lss (S.end (hK _ ?_))
        clear hK K
        refine Ev.ud (fun c3 => ?_) (fun c3 => ?_)
        · first
        | (first | omega | contradiction)
        | refine Ev.seq ?_
          refine Ev.block ?_
          refine Ev.sr fun K hK => S.o (q.ix am_el47 am_cl50 (hl := (by first | exact atig (by omega)))) (S.o (q.lsA [_, _, _] am_ag50 am_cl50) (S.nn (q.al am_ze50) (S.sv [_, _, _] true [_] am_in50 am_cl50 (h := S.end (hK _ ?_)))))
          clear hK K
          refine Ev.seq ?_
          refine Ev.sr fun K hK => S.o (q.fa 1 am_fi50_1 am_cl38) (S.o (q.lv am_ag38) (S.o (q.lens am_el38) (S.o q.mv (S.o (q.lens am_el57) (S.o q.neq (S.bn q.mv (fun c4 => ?_) (fun c4 => ?_)))))))
          · first
          | (first | omega | contradiction)
          | refine S.sk (S.sk (S.sk (S.sk (S.o q.pt (S.end (hK _ ?_))))))
            clear hK K
            refine Ev.ct ?_
            refine Ev.sr fun K hK => S.o q.as (S.o q.as (S.end (hK _ ?_)))
            clear hK K
            refine Ev.ret ?_
            refine hR0 _ _ ?_
            refine Ev.ret2 ?_
            refine ⟨?_, rfl⟩
            first
             | (rw [(ord_bad ‹_›).1, (ord_bad ‹_›).2]; done)
             | (rw [(ord_full hE ‹_›).1, (ord_full hE ‹_›).2]; done)
             | (rw [hE0, hV, decide_eq_true hyes]; done)
             | (rw [hE0, hV, decide_eq_false (fun h => by first
              | (have h1 := h.1 (sa, sl, st) (by rw [← hp]; simp); unfold okPat at h1; simp only at h1; omega)
              | (have h1 := (h.1 (sa, sl, st) (by rw [← hp]; simp)).2.2 v (by rw [← hp2]; simp); omega)
              | (have h1 := yields_at h hid3; omega))]; done)
             | (exfalso; omega)
          · first
          | (first | omega | contradiction)
          | refine S.o (q.fa 2 am_fi50_2 am_cl3) (S.o (q.lv am_ag3) (S.c0 (hF := within_fun _ _) (h := S.o q.not (S.o q.pf (S.end (hK _ ?_))))))
            clear hK K
            refine Ev.cn (fun c5 => ?_) (fun c5 => ?_)
            · first
            | (first | omega | contradiction)
            | refine Ev.sr fun K hK => S.o q.as (S.o q.as (S.end (hK _ ?_)))
              clear hK K
              refine Ev.ret ?_
              refine hR0 _ _ ?_
              refine Ev.ret2 ?_
              refine ⟨?_, rfl⟩
              first
               | (rw [(ord_bad ‹_›).1, (ord_bad ‹_›).2]; done)
               | (rw [(ord_full hE ‹_›).1, (ord_full hE ‹_›).2]; done)
               | (rw [hE0, hV, decide_eq_true hyes]; done)
               | (rw [hE0, hV, decide_eq_false (fun h => by first
                | (have h1 := h.1 (sa, sl, st) (by rw [← hp]; simp); unfold okPat at h1; simp only at h1; omega)
                | (have h1 := (h.1 (sa, sl, st) (by rw [← hp]; simp)).2.2 v (by rw [← hp2]; simp); omega)
                | (have h1 := yields_at h hid3; omega))]; done)
               | (exfalso; omega)
            · first
            | (first | omega | contradiction)
            | refine Ev.skip ?_
              show Ev _ _ _ _
              refine Ev.sr fun K hK => S.o (q.fa 1 am_fi50_1 am_cl38) (S.o (q.lv am_ag38) (S.o (q.lens am_el38) (S.o q.mv (S.end (hK _ ?_)))))
              clear hK K
              refine Ev.block ?_
              refine Ev.loopU (ι := {q1 : List Int × List Int // q1.1 ++ q1.2 = sl ∧ ∀ k ∈ q1.1, 0 ≤ k ∧ k ≤ 1000000}) [1, 0] [8, 12, 32, 33, 34, 35, 36, 37, 38, 39, 40, 41, 42, 43, 44, 45, 46, 47, 48, 49, 50, 51, 52] (fun ⟨(pre2, suf2), _⟩ => [(53, .lit (.int .i64 ((pre2.length : Int)))), (10, .als 1 0 (sumK pre (sa, sl, st) z.length pre2.length).length)]) (fun ⟨(pre2, suf2), _⟩ => [(0, ⟨false, 50, 3, [[.lit (.int .i64 (sa)), .sh 1 ((sl).map intC), .lit (.int .i64 (st))]], true⟩), (1, ⟨true, 3, 1, (sumK pre (sa, sl, st) z.length pre2.length).map intC, true⟩)]) (fun ⟨(pre2, suf2), _⟩ => suf2.length) ⟨([], sl), rfl, fun x hx => by simp at hx⟩ (.c (.c (.c (.c (.c (.c (.c (.c (.c (.c (.c (.c (.c (.c (.c (.c (.c (.c (.c (.c (.c (.c (.c .n))))))))))))))))))))))) (keep_c (he := (by first | rfl | (simp; done))) (h := (keep_c (he := (by first | rfl | (rw [← sumK_0 pre (sa, sl, st)]; done) | (rw [List.length_append, List.length_singleton]; exact congrArg (List.map intC) (sumK_set pre (sa, sl, st) hidv)))) (h := keep_n)))) (slots_c (he := (by first | rfl | (congr 2; simp; done))) (h := (slots_c (he := (by first | rfl | (congr 1; simp [sumL_len, sumK_len]; done))) (h := trivial)))) ?_
              rintro ⟨⟨pre2, suf2⟩, hp2, hinv2⟩ R2 hR2
              dsimp only [List.cons_append, List.nil_append, List.length_cons, List.length_nil]
              simp only at hp2 hinv2
              have hpl2 : pre2.length + suf2.length = sl.length := by rw [← hp2, List.length_append]
              have hskl := sumK_len pre (sa, sl, st) z.length pre2.length
              rcases suf2 with _ | ⟨v, suf2⟩
              · rw [List.append_nil] at hp2; simp only [List.length_nil] at hpl2
                have hokp : okPat z.length (sa, sl, st) := ⟨by simp only; omega, ⟨by simp only; omega, by simp only; omega⟩, by rw [← hp2]; exact hinv2⟩
                have hK : sumK pre (sa, sl, st) z.length pre2.length = sumL (pre ++ [(sa, sl, st)]) z.length := by rw [show pre2.length = z.length by omega, sumK_n]
                refine Ev.sr fun K hK => S.o q.lss (S.end (hK _ ?_))
                clear hK K
                refine Ev.ud (fun c6 => ?_) (fun c6 => ?_)
                · first
                | (first | omega | contradiction)
                | refine Ev.seq ?_
                  refine Ev.block ?_
                  refine Ev.sr fun K hK => S.o q.mv (S.o (q.ix am_el38 am_cl3 (hl := (by first | exact atig (by omega)))) (S.o (q.ls am_ag3) (S.o q.as (S.o q.as (S.end (hK _ ?_))))))
                  clear hK K
                  refine Ev.seq ?_
                  refine Ev.sr fun K hK => S.o q.mv (S.c0 (hF := within_fun _ _) (h := S.o q.not (S.end (hK _ ?_))))
                  clear hK K
                  refine Ev.cn (fun c7 => ?_) (fun c7 => ?_)
                  · first
                  | (first | omega | contradiction)
                  | refine Ev.sr fun K hK => S.o q.as (S.o q.as (S.end (hK _ ?_)))
                    clear hK K
                    refine Ev.ret ?_
                    refine hR2 _ _ ?_
                    refine hR0 _ _ ?_
                    refine Ev.ret2 ?_
                    refine ⟨?_, rfl⟩
                    first
                     | (rw [(ord_bad ‹_›).1, (ord_bad ‹_›).2]; done)
                     | (rw [(ord_full hE ‹_›).1, (ord_full hE ‹_›).2]; done)
                     | (rw [hE0, hV, decide_eq_true hyes]; done)
                     | (rw [hE0, hV, decide_eq_false (fun h => by first
                      | (have h1 := h.1 (sa, sl, st) (by rw [← hp]; simp); unfold okPat at h1; simp only at h1; omega)
                      | (have h1 := (h.1 (sa, sl, st) (by rw [← hp]; simp)).2.2 v (by rw [← hp2]; simp); omega)
                      | (have h1 := yields_at h hid3; omega))]; done)
                     | (exfalso; omega)
                  · first
                  | (first | omega | contradiction)
                  | refine Ev.skip ?_
                    show Ev _ _ _ _
                    obtain ⟨hm1, hm2⟩ := mul_bd (k := v) (K := 1000000) (a := st) (A := 1000000) (by omega) (by omega) (by omega) (by omega)
                    refine Ev.region_M (tbs [(0, 0), (0, 0), (2, 3), (3, 7), (0, 0), (0, 0), (6, 32), (7, 112), (8, 255), (9, 511), (10, 1023)]) 10 fun K hK => M.o q.mv (M.o q.mv (M.o (q.ia am_el38 am_cl3) (M.o (q.lx am_ag3 (hl := (by first | exact at_g (by omega)))) (M.o q.mv (M.o (q.fa 2 am_fi50_2 am_cl3) (M.o (q.lv am_ag3) (M.o (q.mul (h1 := by omega) (h2 := by omega)) (M.o q.add (M.o (q.ia am_el38 am_cl3) (M.end [_, _] (h := S.sx _ [_] am_in3 am_cl3 (hl := (by first | exact at_g (by omega))) (h := S.end (hK _ ?_)))))))))))))
                    clear hK K
                    show Ev _ _ _ _
                    refine Ev.region_S fun K hK => S.o q.add (S.o q.mv (S.end (hK _ ?_)))
                    clear hK K
                    refine hR2 _ _ ?_
                    refine roundU [0, 1] [8, 12, 32, 33, 34, 35, 36, 37, 38, 39, 40, 41, 42, 43, 44, 45, 46, 47, 48, 49, 50, 51, 52] ⟨(pre2 ++ [v], suf2), by rw [← hp2]; simp, ?_⟩ ?_ (keep_c (he := (by first | rfl | (simp; done))) (h := (keep_c (he := (by first | rfl | (rw [← sumK_0 pre (sa, sl, st)]; done) | (rw [List.length_append, List.length_singleton]; exact congrArg (List.map intC) (sumK_set pre (sa, sl, st) hidv)))) (h := keep_n)))) (slots_c (he := (by first | rfl | (congr 2; simp; done))) (h := (slots_c (he := (by first | rfl | (congr 1; simp [sumL_len, sumK_len]; done))) (h := trivial)))) (.c (.c (.c (.c (.c (.c (.c (.c (.c (.c (.c (.c (.c (.c (.c (.c (.c (.c (.c (.c (.c (.c (.c .n)))))))))))))))))))))))
                    intro x hx; simp only [List.mem_append, List.mem_singleton] at hx; rcases hx with hx | rfl
                    · exact hinv2 x hx
                    · omega
                    all_goals (dsimp only; simp only [List.length_cons]; omega)
                · first
                | (first | omega | contradiction)
                | refine Ev.exit ?_
                  refine hR2 _ _ ?_
                  show Ev _ _ _ _
                  refine Ev.region_S fun K hK => S.o q.add (S.o q.mv (S.end (hK _ ?_)))
                  clear hK K
                  refine hR0 _ _ ?_
                  refine roundU [1] [8, 32, 33] ⟨(pre ++ [(sa, sl, st)], suf), by rw [← hp]; simp, ?_⟩ ?_ (keep_c (he := (by first | rfl | (rw [sumL_nil]; done) | (rw [hK]; done))) (h := keep_n)) (slots_c (he := (by first | rfl | (congr 2; simp; done))) (h := (slots_c (he := (by first | rfl | (congr 1; simp [sumL_len, sumK_len]; done))) (h := trivial)))) (.c (.c (.c .n)))
                  intro x hx; simp only [List.mem_append, List.mem_singleton] at hx; rcases hx with hx | rfl
                  · exact hinv x hx
                  · exact hokp
                  all_goals (dsimp only; simp only [List.length_cons]; omega)
              · simp only [List.length_cons] at hpl2
                have hidv : sl[pre2.length]? = some v := by rw [← hp2]; simp
                have hids : (sumK pre (sa, sl, st) z.length pre2.length)[pre2.length]? = some (sumAt pre pre2.length) := sumK_get _ _ (by omega)
                have hsb := sumAt_bd pre2.length pre hinv
                refine Ev.sr fun K hK => S.o q.lss (S.end (hK _ ?_))
                clear hK K
                refine Ev.ud (fun c8 => ?_) (fun c8 => ?_)
                · first
                | (first | omega | contradiction)
                | refine Ev.seq ?_
                  refine Ev.block ?_
                  refine Ev.sr fun K hK => S.o q.mv (S.o (q.ix am_el38 am_cl3 (hl := (by first | exact ati hidv (by omega) | exact ati hids (by omega) | exact atig (by omega)))) (S.o (q.ls am_ag3) (S.o q.as (S.o q.as (S.end (hK _ ?_))))))
                  clear hK K
                  refine Ev.seq ?_
                  refine Ev.sr fun K hK => S.o q.mv (S.c0 (hF := within_fun _ _) (h := S.o q.not (S.end (hK _ ?_))))
                  clear hK K
                  refine Ev.cn (fun c9 => ?_) (fun c9 => ?_)
                  · first
                  | (first | omega | contradiction)
                  | refine Ev.sr fun K hK => S.o q.as (S.o q.as (S.end (hK _ ?_)))
                    clear hK K
                    refine Ev.ret ?_
                    refine hR2 _ _ ?_
                    refine hR0 _ _ ?_
                    refine Ev.ret2 ?_
                    refine ⟨?_, rfl⟩
                    first
                     | (rw [(ord_bad ‹_›).1, (ord_bad ‹_›).2]; done)
                     | (rw [(ord_full hE ‹_›).1, (ord_full hE ‹_›).2]; done)
                     | (rw [hE0, hV, decide_eq_true hyes]; done)
                     | (rw [hE0, hV, decide_eq_false (fun h => by first
                      | (have h1 := h.1 (sa, sl, st) (by rw [← hp]; simp); unfold okPat at h1; simp only at h1; omega)
                      | (have h1 := (h.1 (sa, sl, st) (by rw [← hp]; simp)).2.2 v (by rw [← hp2]; simp); omega)
                      | (have h1 := yields_at h hid3; omega))]; done)
                     | (exfalso; omega)
                  · first
                  | (first | omega | contradiction)
                  | refine Ev.skip ?_
                    show Ev _ _ _ _
                    obtain ⟨hm1, hm2⟩ := mul_bd (k := v) (K := 1000000) (a := st) (A := 1000000) (by omega) (by omega) (by omega) (by omega)
                    refine Ev.region_M (tbs [(0, 0), (0, 0), (2, 3), (3, 7), (0, 0), (0, 0), (6, 32), (7, 112), (8, 255), (9, 511), (10, 1023)]) 10 fun K hK => M.o q.mv (M.o q.mv (M.o (q.ia am_el38 am_cl3) (M.o (q.lx am_ag3 (hl := (by first | exact at_ hidv (by omega) | exact at_ hids (by omega) | exact at_g (by omega)))) (M.o q.mv (M.o (q.fa 2 am_fi50_2 am_cl3) (M.o (q.lv am_ag3) (M.o (q.mul (h1 := by omega) (h2 := by omega)) (M.o q.add (M.o (q.ia am_el38 am_cl3) (M.end [_, _] (h := S.sx _ [_] am_in3 am_cl3 (hl := (by first | exact at_ hidv (by omega) | exact at_ hids (by omega) | exact at_g (by omega))) (h := S.end (hK _ ?_)))))))))))))
                    clear hK K
                    show Ev _ _ _ _
                    refine Ev.region_S fun K hK => S.o q.add (S.o q.mv (S.end (hK _ ?_)))
                    clear hK K
                    refine hR2 _ _ ?_
                    refine roundU [0, 1] [8, 12, 32, 33, 34, 35, 36, 37, 38, 39, 40, 41, 42, 43, 44, 45, 46, 47, 48, 49, 50, 51, 52] ⟨(pre2 ++ [v], suf2), by rw [← hp2]; simp, ?_⟩ ?_ (keep_c (he := (by first | rfl | (simp; done))) (h := (keep_c (he := (by first | rfl | (rw [← sumK_0 pre (sa, sl, st)]; done) | (rw [List.length_append, List.length_singleton]; exact congrArg (List.map intC) (sumK_set pre (sa, sl, st) hidv)))) (h := keep_n)))) (slots_c (he := (by first | rfl | (congr 2; simp; done))) (h := (slots_c (he := (by first | rfl | (congr 1; simp [sumL_len, sumK_len]; done))) (h := trivial)))) (.c (.c (.c (.c (.c (.c (.c (.c (.c (.c (.c (.c (.c (.c (.c (.c (.c (.c (.c (.c (.c (.c (.c .n)))))))))))))))))))))))
                    intro x hx; simp only [List.mem_append, List.mem_singleton] at hx; rcases hx with hx | rfl
                    · exact hinv2 x hx
                    · omega
                    all_goals (dsimp only; simp only [List.length_cons]; omega)
                · first
                | (first | omega | contradiction)
                | refine Ev.exit ?_
                  refine hR2 _ _ ?_
                  show Ev _ _ _ _
                  refine Ev.region_S fun K hK => S.o q.add (S.o q.mv (S.end (hK _ ?_)))
                  clear hK K
                  refine hR0 _ _ ?_
                  refine roundU [1] [8, 32, 33] ⟨(pre ++ [(sa, sl, st)], suf), by rw [← hp]; simp, ?_⟩ ?_ (keep_c (he := (by first | rfl | (rw [sumL_nil]; done) | (rw [hK]; done))) (h := keep_n)) (slots_c (he := (by first | rfl | (congr 2; simp; done))) (h := (slots_c (he := (by first | rfl | (congr 1; simp [sumL_len, sumK_len]; done))) (h := trivial)))) (.c (.c (.c .n)))
                  intro x hx; simp only [List.mem_append, List.mem_singleton] at hx; rcases hx with hx | rfl
                  · exact hinv x hx
                  · exact hokp
                  all_goals (dsimp only; simp only [List.length_cons]; omega)
        · first
        | (first | omega | contradiction)
        | refine Ev.exit ?_
          refine hR0 _ _ ?_
          show Ev _ _ _ _
          refine Ev.seq ?_
          refine Ev.sr fun K hK => S.o q.mv (S.o (q.lens am_el57) (S.o q.mv (S.end (hK _ ?_))))
          clear hK K
          refine Ev.block ?_
          refine Ev.loopU (ι := {q1 : List (Int × Int) × List (Int × Int) // q1.1 ++ q1.2 = z ∧ ∀ i y, q1.1[i]? = some y → sumAt p i = y.2}) [0] [8, 32, 33, 34, 35, 73, 74] (fun ⟨(pre3, suf3), _⟩ => [(75, .lit (.int .i64 ((pre3.length : Int)))), (10, .als 0 0 (sumL p z.length).length)]) (fun ⟨(pre3, suf3), _⟩ => [(0, ⟨true, 3, 1, (sumL p z.length).map intC, true⟩)]) (fun ⟨(pre3, suf3), _⟩ => suf3.length) ⟨([], z), rfl, fun i y h => by simp at h⟩ (.c (.c (.c (.c (.c (.c (.c .n))))))) (keep_c (he := (by first | rfl | (simp; done))) (h := keep_n)) (slots_c (he := (by first | rfl | (congr 2; simp; done))) (h := (slots_c (he := rfl) (h := trivial)))) ?_
          rintro ⟨⟨pre3, suf3⟩, hp3, hinv3⟩ R4 hR4
          dsimp only [List.cons_append, List.nil_append, List.length_cons, List.length_nil]
          simp only at hp3 hinv3
          have hpl3 : pre3.length + suf3.length = z.length := by rw [← hp3, List.length_append]
          rcases suf3 with _ | ⟨s, suf3⟩
          · rw [List.append_nil] at hp3; simp only [List.length_nil] at hpl3
            have hyes : yieldsP z p := yields_all hinv (by rw [← hp3]; exact hinv3)
            refine Ev.sr fun K hK => S.o q.lss (S.end (hK _ ?_))
            clear hK K
            refine Ev.ud (fun c10 => ?_) (fun c10 => ?_)
            · first
            | (first | omega | contradiction)
            | refine Ev.seq ?_
              refine Ev.block ?_
              refine Ev.sr fun K hK => S.o q.mv (S.o (q.ix am_el57 am_cl63 (hl := (by first | exact atig (by omega)))) (S.o (q.lsA [_, _] am_ag63 am_cl63) (S.nn (q.al am_ze63) (S.o q.as (S.sv [_, _] true [_] am_in63 am_cl63 (h := S.end (hK _ ?_)))))))
              clear hK K
              refine Ev.sm (tbs [(0, 0), (0, 0), (2, 3), (3, 7), (0, 0), (5, 16), (6, 63)]) 7 fun K hK => M.o q.mv (M.o q.mv (M.o (q.ia am_el38 am_cl3) (M.o (q.lx am_ag3 (hl := (by first | exact at_g (by omega)))) (M.o (q.fa 1 am_fi63_1 am_cl3) (M.o (q.lv am_ag3) (M.o q.neq (M.end [_, _] (h := S.end (hK _ ?_)))))))))
              clear hK K
              refine Ev.cn (fun c11 => ?_) (fun c11 => ?_)
              · first
              | (first | omega | contradiction)
              | refine Ev.sr fun K hK => S.o q.as (S.o q.as (S.end (hK _ ?_)))
                clear hK K
                refine Ev.ret ?_
                refine hR4 _ _ ?_
                refine Ev.ret2 ?_
                refine ⟨?_, rfl⟩
                first
                 | (rw [(ord_bad ‹_›).1, (ord_bad ‹_›).2]; done)
                 | (rw [(ord_full hE ‹_›).1, (ord_full hE ‹_›).2]; done)
                 | (rw [hE0, hV, decide_eq_true hyes]; done)
                 | (rw [hE0, hV, decide_eq_false (fun h => by first
                  | (have h1 := h.1 (sa, sl, st) (by rw [← hp]; simp); unfold okPat at h1; simp only at h1; omega)
                  | (have h1 := (h.1 (sa, sl, st) (by rw [← hp]; simp)).2.2 v (by rw [← hp2]; simp); omega)
                  | (have h1 := yields_at h hid3; omega))]; done)
                 | (exfalso; omega)
              · first
              | (first | omega | contradiction)
              | refine Ev.skip ?_
                show Ev _ _ _ _
                refine Ev.region_S fun K hK => S.o q.add (S.o q.mv (S.end (hK _ ?_)))
                clear hK K
                refine hR4 _ _ ?_
                refine roundU [0] [8, 32, 33, 34, 35, 73, 74] ⟨(pre3 ++ [s], suf3), by rw [← hp3]; simp, ?_⟩ ?_ (keep_c (he := (by first | rfl | (simp; done))) (h := keep_n)) (slots_c (he := (by first | rfl | (congr 2; simp; done))) (h := (slots_c (he := rfl) (h := trivial)))) (.c (.c (.c (.c (.c (.c (.c .n)))))))
                exact eqs_snoc hinv3 (by omega)
                all_goals (dsimp only; simp only [List.length_cons]; omega)
            · first
            | (first | omega | contradiction)
            | refine Ev.exit ?_
              refine hR4 _ _ ?_
              show Ev _ _ _ _
              refine Ev.sr fun K hK => S.o q.as (S.o q.as (S.end (hK _ ?_)))
              clear hK K
              refine Ev.ret ?_
              refine Ev.ret2 ?_
              refine ⟨?_, rfl⟩
              first
               | (rw [(ord_bad ‹_›).1, (ord_bad ‹_›).2]; done)
               | (rw [(ord_full hE ‹_›).1, (ord_full hE ‹_›).2]; done)
               | (rw [hE0, hV, decide_eq_true hyes]; done)
               | (rw [hE0, hV, decide_eq_false (fun h => by first
                | (have h1 := h.1 (sa, sl, st) (by rw [← hp]; simp); unfold okPat at h1; simp only at h1; omega)
                | (have h1 := (h.1 (sa, sl, st) (by rw [← hp]; simp)).2.2 v (by rw [← hp2]; simp); omega)
                | (have h1 := yields_at h hid3; omega))]; done)
               | (exfalso; omega)
          · simp only [List.length_cons] at hpl3
            have hid3 : z[pre3.length]? = some s := by rw [← hp3]; simp
            have hids : (sumL p z.length)[pre3.length]? = some (sumAt p pre3.length) := sumL_get _ (by omega)
            refine Ev.sr fun K hK => S.o q.lss (S.end (hK _ ?_))
            clear hK K
            refine Ev.ud (fun c12 => ?_) (fun c12 => ?_)
            · first
            | (first | omega | contradiction)
            | refine Ev.seq ?_
              refine Ev.block ?_
              refine Ev.sr fun K hK => S.o q.mv (S.o (q.ix am_el57 am_cl63 (hl := (by first | exact ati hid3 (by omega) | exact ati hids (by omega) | exact atig (by omega)))) (S.o (q.lsA [_, _] am_ag63 am_cl63) (S.nn (q.al am_ze63) (S.o q.as (S.sv [_, _] true [_] am_in63 am_cl63 (h := S.end (hK _ ?_)))))))
              clear hK K
              refine Ev.sm (tbs [(0, 0), (0, 0), (2, 3), (3, 7), (0, 0), (5, 16), (6, 63)]) 7 fun K hK => M.o q.mv (M.o q.mv (M.o (q.ia am_el38 am_cl3) (M.o (q.lx am_ag3 (hl := (by first | exact at_ hid3 (by omega) | exact at_ hids (by omega) | exact at_g (by omega)))) (M.o (q.fa 1 am_fi63_1 am_cl3) (M.o (q.lv am_ag3) (M.o q.neq (M.end [_, _] (h := S.end (hK _ ?_)))))))))
              clear hK K
              refine Ev.cn (fun c13 => ?_) (fun c13 => ?_)
              · first
              | (first | omega | contradiction)
              | refine Ev.sr fun K hK => S.o q.as (S.o q.as (S.end (hK _ ?_)))
                clear hK K
                refine Ev.ret ?_
                refine hR4 _ _ ?_
                refine Ev.ret2 ?_
                refine ⟨?_, rfl⟩
                first
                 | (rw [(ord_bad ‹_›).1, (ord_bad ‹_›).2]; done)
                 | (rw [(ord_full hE ‹_›).1, (ord_full hE ‹_›).2]; done)
                 | (rw [hE0, hV, decide_eq_true hyes]; done)
                 | (rw [hE0, hV, decide_eq_false (fun h => by first
                  | (have h1 := h.1 (sa, sl, st) (by rw [← hp]; simp); unfold okPat at h1; simp only at h1; omega)
                  | (have h1 := (h.1 (sa, sl, st) (by rw [← hp]; simp)).2.2 v (by rw [← hp2]; simp); omega)
                  | (have h1 := yields_at h hid3; omega))]; done)
                 | (exfalso; omega)
              · first
              | (first | omega | contradiction)
              | refine Ev.skip ?_
                show Ev _ _ _ _
                refine Ev.region_S fun K hK => S.o q.add (S.o q.mv (S.end (hK _ ?_)))
                clear hK K
                refine hR4 _ _ ?_
                refine roundU [0] [8, 32, 33, 34, 35, 73, 74] ⟨(pre3 ++ [s], suf3), by rw [← hp3]; simp, ?_⟩ ?_ (keep_c (he := (by first | rfl | (simp; done))) (h := keep_n)) (slots_c (he := (by first | rfl | (congr 2; simp; done))) (h := (slots_c (he := rfl) (h := trivial)))) (.c (.c (.c (.c (.c (.c (.c .n)))))))
                exact eqs_snoc hinv3 (by omega)
                all_goals (dsimp only; simp only [List.length_cons]; omega)
            · first
            | (first | omega | contradiction)
            | refine Ev.exit ?_
              refine hR4 _ _ ?_
              show Ev _ _ _ _
              refine Ev.sr fun K hK => S.o q.as (S.o q.as (S.end (hK _ ?_)))
              clear hK K
              refine Ev.ret ?_
              refine Ev.ret2 ?_
              refine ⟨?_, rfl⟩
              first
               | (rw [(ord_bad ‹_›).1, (ord_bad ‹_›).2]; done)
               | (rw [(ord_full hE ‹_›).1, (ord_full hE ‹_›).2]; done)
               | (rw [hE0, hV, decide_eq_true hyes]; done)
               | (rw [hE0, hV, decide_eq_false (fun h => by first
                | (have h1 := h.1 (sa, sl, st) (by rw [← hp]; simp); unfold okPat at h1; simp only at h1; omega)
                | (have h1 := (h.1 (sa, sl, st) (by rw [← hp]; simp)).2.2 v (by rw [← hp2]; simp); omega)
                | (have h1 := yields_at h hid3; omega))]; done)
               | (exfalso; omega)
      · simp only [List.length_cons] at hpl
        have hidx : p[pre.length]? = some (sa, sl, st) := by rw [← hp]; simp
        have hslw : sl.length ≤ 140737488355328 := hpw _ (List.mem_of_getElem? hidx)
        refine Ev.sr fun K hK => S.o q.lss (S.end (hK _ ?_))
        clear hK K
        refine Ev.ud (fun c14 => ?_) (fun c14 => ?_)
        · first
        | (first | omega | contradiction)
        | refine Ev.seq ?_
          refine Ev.block ?_
          refine Ev.sr fun K hK => S.o (q.ix am_el47 am_cl50 (hl := (by first | exact ati hidx (by omega) | exact atig (by omega)))) (S.o (q.lsA [_, _, _] am_ag50 am_cl50) (S.nn (q.al am_ze50) (S.sv [_, _, _] true [_] am_in50 am_cl50 (h := S.end (hK _ ?_)))))
          clear hK K
          refine Ev.seq ?_
          refine Ev.sr fun K hK => S.o (q.fa 1 am_fi50_1 am_cl38) (S.o (q.lv am_ag38) (S.o (q.lens am_el38) (S.o q.mv (S.o (q.lens am_el57) (S.o q.neq (S.bn q.mv (fun c15 => ?_) (fun c15 => ?_)))))))
          · first
          | (first | omega | contradiction)
          | refine S.sk (S.sk (S.sk (S.sk (S.o q.pt (S.end (hK _ ?_))))))
            clear hK K
            refine Ev.ct ?_
            refine Ev.sr fun K hK => S.o q.as (S.o q.as (S.end (hK _ ?_)))
            clear hK K
            refine Ev.ret ?_
            refine hR0 _ _ ?_
            refine Ev.ret2 ?_
            refine ⟨?_, rfl⟩
            first
             | (rw [(ord_bad ‹_›).1, (ord_bad ‹_›).2]; done)
             | (rw [(ord_full hE ‹_›).1, (ord_full hE ‹_›).2]; done)
             | (rw [hE0, hV, decide_eq_true hyes]; done)
             | (rw [hE0, hV, decide_eq_false (fun h => by first
              | (have h1 := h.1 (sa, sl, st) (by rw [← hp]; simp); unfold okPat at h1; simp only at h1; omega)
              | (have h1 := (h.1 (sa, sl, st) (by rw [← hp]; simp)).2.2 v (by rw [← hp2]; simp); omega)
              | (have h1 := yields_at h hid3; omega))]; done)
             | (exfalso; omega)
          · first
          | (first | omega | contradiction)
          | refine S.o (q.fa 2 am_fi50_2 am_cl3) (S.o (q.lv am_ag3) (S.c0 (hF := within_fun _ _) (h := S.o q.not (S.o q.pf (S.end (hK _ ?_))))))
            clear hK K
            refine Ev.cn (fun c16 => ?_) (fun c16 => ?_)
            · first
            | (first | omega | contradiction)
            | refine Ev.sr fun K hK => S.o q.as (S.o q.as (S.end (hK _ ?_)))
              clear hK K
              refine Ev.ret ?_
              refine hR0 _ _ ?_
              refine Ev.ret2 ?_
              refine ⟨?_, rfl⟩
              first
               | (rw [(ord_bad ‹_›).1, (ord_bad ‹_›).2]; done)
               | (rw [(ord_full hE ‹_›).1, (ord_full hE ‹_›).2]; done)
               | (rw [hE0, hV, decide_eq_true hyes]; done)
               | (rw [hE0, hV, decide_eq_false (fun h => by first
                | (have h1 := h.1 (sa, sl, st) (by rw [← hp]; simp); unfold okPat at h1; simp only at h1; omega)
                | (have h1 := (h.1 (sa, sl, st) (by rw [← hp]; simp)).2.2 v (by rw [← hp2]; simp); omega)
                | (have h1 := yields_at h hid3; omega))]; done)
               | (exfalso; omega)
            · first
            | (first | omega | contradiction)
            | refine Ev.skip ?_
              show Ev _ _ _ _
              refine Ev.sr fun K hK => S.o (q.fa 1 am_fi50_1 am_cl38) (S.o (q.lv am_ag38) (S.o (q.lens am_el38) (S.o q.mv (S.end (hK _ ?_)))))
              clear hK K
              refine Ev.block ?_
              refine Ev.loopU (ι := {q1 : List Int × List Int // q1.1 ++ q1.2 = sl ∧ ∀ k ∈ q1.1, 0 ≤ k ∧ k ≤ 1000000}) [1, 0] [8, 12, 32, 33, 34, 35, 36, 37, 38, 39, 40, 41, 42, 43, 44, 45, 46, 47, 48, 49, 50, 51, 52] (fun ⟨(pre2, suf2), _⟩ => [(53, .lit (.int .i64 ((pre2.length : Int)))), (10, .als 1 0 (sumK pre (sa, sl, st) z.length pre2.length).length)]) (fun ⟨(pre2, suf2), _⟩ => [(0, ⟨false, 50, 3, [[.lit (.int .i64 (sa)), .sh 1 ((sl).map intC), .lit (.int .i64 (st))]], true⟩), (1, ⟨true, 3, 1, (sumK pre (sa, sl, st) z.length pre2.length).map intC, true⟩)]) (fun ⟨(pre2, suf2), _⟩ => suf2.length) ⟨([], sl), rfl, fun x hx => by simp at hx⟩ (.c (.c (.c (.c (.c (.c (.c (.c (.c (.c (.c (.c (.c (.c (.c (.c (.c (.c (.c (.c (.c (.c (.c .n))))))))))))))))))))))) (keep_c (he := (by first | rfl | (simp; done))) (h := (keep_c (he := (by first | rfl | (rw [← sumK_0 pre (sa, sl, st)]; done) | (rw [List.length_append, List.length_singleton]; exact congrArg (List.map intC) (sumK_set pre (sa, sl, st) hidv)))) (h := keep_n)))) (slots_c (he := (by first | rfl | (congr 2; simp; done))) (h := (slots_c (he := (by first | rfl | (congr 1; simp [sumL_len, sumK_len]; done))) (h := trivial)))) ?_
              rintro ⟨⟨pre2, suf2⟩, hp2, hinv2⟩ R2 hR2
              dsimp only [List.cons_append, List.nil_append, List.length_cons, List.length_nil]
              simp only at hp2 hinv2
              have hpl2 : pre2.length + suf2.length = sl.length := by rw [← hp2, List.length_append]
              have hskl := sumK_len pre (sa, sl, st) z.length pre2.length
              rcases suf2 with _ | ⟨v, suf2⟩
              · rw [List.append_nil] at hp2; simp only [List.length_nil] at hpl2
                have hokp : okPat z.length (sa, sl, st) := ⟨by simp only; omega, ⟨by simp only; omega, by simp only; omega⟩, by rw [← hp2]; exact hinv2⟩
                have hK : sumK pre (sa, sl, st) z.length pre2.length = sumL (pre ++ [(sa, sl, st)]) z.length := by rw [show pre2.length = z.length by omega, sumK_n]
                refine Ev.sr fun K hK => S.o q.lss (S.end (hK _ ?_))
                clear hK K
                refine Ev.ud (fun c17 => ?_) (fun c17 => ?_)
                · first
                | (first | omega | contradiction)
                | refine Ev.seq ?_
                  refine Ev.block ?_
                  refine Ev.sr fun K hK => S.o q.mv (S.o (q.ix am_el38 am_cl3 (hl := (by first | exact ati hidx (by omega) | exact atig (by omega)))) (S.o (q.ls am_ag3) (S.o q.as (S.o q.as (S.end (hK _ ?_))))))
                  clear hK K
                  refine Ev.seq ?_
                  refine Ev.sr fun K hK => S.o q.mv (S.c0 (hF := within_fun _ _) (h := S.o q.not (S.end (hK _ ?_))))
                  clear hK K
                  refine Ev.cn (fun c18 => ?_) (fun c18 => ?_)
                  · first
                  | (first | omega | contradiction)
                  | refine Ev.sr fun K hK => S.o q.as (S.o q.as (S.end (hK _ ?_)))
                    clear hK K
                    refine Ev.ret ?_
                    refine hR2 _ _ ?_
                    refine hR0 _ _ ?_
                    refine Ev.ret2 ?_
                    refine ⟨?_, rfl⟩
                    first
                     | (rw [(ord_bad ‹_›).1, (ord_bad ‹_›).2]; done)
                     | (rw [(ord_full hE ‹_›).1, (ord_full hE ‹_›).2]; done)
                     | (rw [hE0, hV, decide_eq_true hyes]; done)
                     | (rw [hE0, hV, decide_eq_false (fun h => by first
                      | (have h1 := h.1 (sa, sl, st) (by rw [← hp]; simp); unfold okPat at h1; simp only at h1; omega)
                      | (have h1 := (h.1 (sa, sl, st) (by rw [← hp]; simp)).2.2 v (by rw [← hp2]; simp); omega)
                      | (have h1 := yields_at h hid3; omega))]; done)
                     | (exfalso; omega)
                  · first
                  | (first | omega | contradiction)
                  | refine Ev.skip ?_
                    show Ev _ _ _ _
                    obtain ⟨hm1, hm2⟩ := mul_bd (k := v) (K := 1000000) (a := st) (A := 1000000) (by omega) (by omega) (by omega) (by omega)
                    refine Ev.region_M (tbs [(0, 0), (0, 0), (2, 3), (3, 7), (0, 0), (0, 0), (6, 32), (7, 112), (8, 255), (9, 511), (10, 1023)]) 10 fun K hK => M.o q.mv (M.o q.mv (M.o (q.ia am_el38 am_cl3) (M.o (q.lx am_ag3 (hl := (by first | exact at_ hidx (by omega) | exact at_g (by omega)))) (M.o q.mv (M.o (q.fa 2 am_fi50_2 am_cl3) (M.o (q.lv am_ag3) (M.o (q.mul (h1 := by omega) (h2 := by omega)) (M.o q.add (M.o (q.ia am_el38 am_cl3) (M.end [_, _] (h := S.sx _ [_] am_in3 am_cl3 (hl := (by first | exact at_ hidx (by omega) | exact at_g (by omega))) (h := S.end (hK _ ?_)))))))))))))
                    clear hK K
                    show Ev _ _ _ _
                    refine Ev.region_S fun K hK => S.o q.add (S.o q.mv (S.end (hK _ ?_)))
                    clear hK K
                    refine hR2 _ _ ?_
                    refine roundU [0, 1] [8, 12, 32, 33, 34, 35, 36, 37, 38, 39, 40, 41, 42, 43, 44, 45, 46, 47, 48, 49, 50, 51, 52] ⟨(pre2 ++ [v], suf2), by rw [← hp2]; simp, ?_⟩ ?_ (keep_c (he := (by first | rfl | (simp; done))) (h := (keep_c (he := (by first | rfl | (rw [← sumK_0 pre (sa, sl, st)]; done) | (rw [List.length_append, List.length_singleton]; exact congrArg (List.map intC) (sumK_set pre (sa, sl, st) hidv)))) (h := keep_n)))) (slots_c (he := (by first | rfl | (congr 2; simp; done))) (h := (slots_c (he := (by first | rfl | (congr 1; simp [sumL_len, sumK_len]; done))) (h := trivial)))) (.c (.c (.c (.c (.c (.c (.c (.c (.c (.c (.c (.c (.c (.c (.c (.c (.c (.c (.c (.c (.c (.c (.c .n)))))))))))))))))))))))
                    intro x hx; simp only [List.mem_append, List.mem_singleton] at hx; rcases hx with hx | rfl
                    · exact hinv2 x hx
                    · omega
                    all_goals (dsimp only; simp only [List.length_cons]; omega)
                · first
                | (first | omega | contradiction)
                | refine Ev.exit ?_
                  refine hR2 _ _ ?_
                  show Ev _ _ _ _
                  refine Ev.region_S fun K hK => S.o q.add (S.o q.mv (S.end (hK _ ?_)))
                  clear hK K
                  refine hR0 _ _ ?_
                  refine roundU [1] [8, 32, 33] ⟨(pre ++ [(sa, sl, st)], suf), by rw [← hp]; simp, ?_⟩ ?_ (keep_c (he := (by first | rfl | (rw [sumL_nil]; done) | (rw [hK]; done))) (h := keep_n)) (slots_c (he := (by first | rfl | (congr 2; simp; done))) (h := (slots_c (he := (by first | rfl | (congr 1; simp [sumL_len, sumK_len]; done))) (h := trivial)))) (.c (.c (.c .n)))
                  intro x hx; simp only [List.mem_append, List.mem_singleton] at hx; rcases hx with hx | rfl
                  · exact hinv x hx
                  · exact hokp
                  all_goals (dsimp only; simp only [List.length_cons]; omega)
              · simp only [List.length_cons] at hpl2
                have hidv : sl[pre2.length]? = some v := by rw [← hp2]; simp
                have hids : (sumK pre (sa, sl, st) z.length pre2.length)[pre2.length]? = some (sumAt pre pre2.length) := sumK_get _ _ (by omega)
                have hsb := sumAt_bd pre2.length pre hinv
                refine Ev.sr fun K hK => S.o q.lss (S.end (hK _ ?_))
                clear hK K
                refine Ev.ud (fun c19 => ?_) (fun c19 => ?_)
                · first
                | (first | omega | contradiction)
                | refine Ev.seq ?_
                  refine Ev.block ?_
                  refine Ev.sr fun K hK => S.o q.mv (S.o (q.ix am_el38 am_cl3 (hl := (by first | exact ati hidx (by omega) | exact ati hidv (by omega) | exact ati hids (by omega) | exact atig (by omega)))) (S.o (q.ls am_ag3) (S.o q.as (S.o q.as (S.end (hK _ ?_))))))
                  clear hK K
                  refine Ev.seq ?_
                  refine Ev.sr fun K hK => S.o q.mv (S.c0 (hF := within_fun _ _) (h := S.o q.not (S.end (hK _ ?_))))
                  clear hK K
                  refine Ev.cn (fun c20 => ?_) (fun c20 => ?_)
                  · first
                  | (first | omega | contradiction)
                  | refine Ev.sr fun K hK => S.o q.as (S.o q.as (S.end (hK _ ?_)))
                    clear hK K
                    refine Ev.ret ?_
                    refine hR2 _ _ ?_
                    refine hR0 _ _ ?_
                    refine Ev.ret2 ?_
                    refine ⟨?_, rfl⟩
                    first
                     | (rw [(ord_bad ‹_›).1, (ord_bad ‹_›).2]; done)
                     | (rw [(ord_full hE ‹_›).1, (ord_full hE ‹_›).2]; done)
                     | (rw [hE0, hV, decide_eq_true hyes]; done)
                     | (rw [hE0, hV, decide_eq_false (fun h => by first
                      | (have h1 := h.1 (sa, sl, st) (by rw [← hp]; simp); unfold okPat at h1; simp only at h1; omega)
                      | (have h1 := (h.1 (sa, sl, st) (by rw [← hp]; simp)).2.2 v (by rw [← hp2]; simp); omega)
                      | (have h1 := yields_at h hid3; omega))]; done)
                     | (exfalso; omega)
                  · first
                  | (first | omega | contradiction)
                  | refine Ev.skip ?_
                    show Ev _ _ _ _
                    obtain ⟨hm1, hm2⟩ := mul_bd (k := v) (K := 1000000) (a := st) (A := 1000000) (by omega) (by omega) (by omega) (by omega)
                    refine Ev.region_M (tbs [(0, 0), (0, 0), (2, 3), (3, 7), (0, 0), (0, 0), (6, 32), (7, 112), (8, 255), (9, 511), (10, 1023)]) 10 fun K hK => M.o q.mv (M.o q.mv (M.o (q.ia am_el38 am_cl3) (M.o (q.lx am_ag3 (hl := (by first | exact at_ hidx (by omega) | exact at_ hidv (by omega) | exact at_ hids (by omega) | exact at_g (by omega)))) (M.o q.mv (M.o (q.fa 2 am_fi50_2 am_cl3) (M.o (q.lv am_ag3) (M.o (q.mul (h1 := by omega) (h2 := by omega)) (M.o q.add (M.o (q.ia am_el38 am_cl3) (M.end [_, _] (h := S.sx _ [_] am_in3 am_cl3 (hl := (by first | exact at_ hidx (by omega) | exact at_ hidv (by omega) | exact at_ hids (by omega) | exact at_g (by omega))) (h := S.end (hK _ ?_)))))))))))))
                    clear hK K
                    show Ev _ _ _ _
                    refine Ev.region_S fun K hK => S.o q.add (S.o q.mv (S.end (hK _ ?_)))
                    clear hK K
                    refine hR2 _ _ ?_
                    refine roundU [0, 1] [8, 12, 32, 33, 34, 35, 36, 37, 38, 39, 40, 41, 42, 43, 44, 45, 46, 47, 48, 49, 50, 51, 52] ⟨(pre2 ++ [v], suf2), by rw [← hp2]; simp, ?_⟩ ?_ (keep_c (he := (by first | rfl | (simp; done))) (h := (keep_c (he := (by first | rfl | (rw [← sumK_0 pre (sa, sl, st)]; done) | (rw [List.length_append, List.length_singleton]; exact congrArg (List.map intC) (sumK_set pre (sa, sl, st) hidv)))) (h := keep_n)))) (slots_c (he := (by first | rfl | (congr 2; simp; done))) (h := (slots_c (he := (by first | rfl | (congr 1; simp [sumL_len, sumK_len]; done))) (h := trivial)))) (.c (.c (.c (.c (.c (.c (.c (.c (.c (.c (.c (.c (.c (.c (.c (.c (.c (.c (.c (.c (.c (.c (.c .n)))))))))))))))))))))))
                    intro x hx; simp only [List.mem_append, List.mem_singleton] at hx; rcases hx with hx | rfl
                    · exact hinv2 x hx
                    · omega
                    all_goals (dsimp only; simp only [List.length_cons]; omega)
                · first
                | (first | omega | contradiction)
                | refine Ev.exit ?_
                  refine hR2 _ _ ?_
                  show Ev _ _ _ _
                  refine Ev.region_S fun K hK => S.o q.add (S.o q.mv (S.end (hK _ ?_)))
                  clear hK K
                  refine hR0 _ _ ?_
                  refine roundU [1] [8, 32, 33] ⟨(pre ++ [(sa, sl, st)], suf), by rw [← hp]; simp, ?_⟩ ?_ (keep_c (he := (by first | rfl | (rw [sumL_nil]; done) | (rw [hK]; done))) (h := keep_n)) (slots_c (he := (by first | rfl | (congr 2; simp; done))) (h := (slots_c (he := (by first | rfl | (congr 1; simp [sumL_len, sumK_len]; done))) (h := trivial)))) (.c (.c (.c .n)))
                  intro x hx; simp only [List.mem_append, List.mem_singleton] at hx; rcases hx with hx | rfl
                  · exact hinv x hx
                  · exact hokp
                  all_goals (dsimp only; simp only [List.length_cons]; omega)
        · first
        | (first | omega | contradiction)
        | refine Ev.exit ?_
          refine hR0 _ _ ?_
          show Ev _ _ _ _
          refine Ev.seq ?_
          refine Ev.sr fun K hK => S.o q.mv (S.o (q.lens am_el57) (S.o q.mv (S.end (hK _ ?_))))
          clear hK K
          refine Ev.block ?_
          refine Ev.loopU (ι := {q1 : List (Int × Int) × List (Int × Int) // q1.1 ++ q1.2 = z ∧ ∀ i y, q1.1[i]? = some y → sumAt p i = y.2}) [0] [8, 32, 33, 34, 35, 73, 74] (fun ⟨(pre3, suf3), _⟩ => [(75, .lit (.int .i64 ((pre3.length : Int)))), (10, .als 0 0 (sumL p z.length).length)]) (fun ⟨(pre3, suf3), _⟩ => [(0, ⟨true, 3, 1, (sumL p z.length).map intC, true⟩)]) (fun ⟨(pre3, suf3), _⟩ => suf3.length) ⟨([], z), rfl, fun i y h => by simp at h⟩ (.c (.c (.c (.c (.c (.c (.c .n))))))) (keep_c (he := (by first | rfl | (simp; done))) (h := keep_n)) (slots_c (he := (by first | rfl | (congr 2; simp; done))) (h := (slots_c (he := rfl) (h := trivial)))) ?_
          rintro ⟨⟨pre3, suf3⟩, hp3, hinv3⟩ R4 hR4
          dsimp only [List.cons_append, List.nil_append, List.length_cons, List.length_nil]
          simp only at hp3 hinv3
          have hpl3 : pre3.length + suf3.length = z.length := by rw [← hp3, List.length_append]
          rcases suf3 with _ | ⟨s, suf3⟩
          · rw [List.append_nil] at hp3; simp only [List.length_nil] at hpl3
            have hyes : yieldsP z p := yields_all hinv (by rw [← hp3]; exact hinv3)
            refine Ev.sr fun K hK => S.o q.lss (S.end (hK _ ?_))
            clear hK K
            refine Ev.ud (fun c21 => ?_) (fun c21 => ?_)
            · first
            | (first | omega | contradiction)
            | refine Ev.seq ?_
              refine Ev.block ?_
              refine Ev.sr fun K hK => S.o q.mv (S.o (q.ix am_el57 am_cl63 (hl := (by first | exact ati hidx (by omega) | exact atig (by omega)))) (S.o (q.lsA [_, _] am_ag63 am_cl63) (S.nn (q.al am_ze63) (S.o q.as (S.sv [_, _] true [_] am_in63 am_cl63 (h := S.end (hK _ ?_)))))))
              clear hK K
              refine Ev.sm (tbs [(0, 0), (0, 0), (2, 3), (3, 7), (0, 0), (5, 16), (6, 63)]) 7 fun K hK => M.o q.mv (M.o q.mv (M.o (q.ia am_el38 am_cl3) (M.o (q.lx am_ag3 (hl := (by first | exact at_ hidx (by omega) | exact at_g (by omega)))) (M.o (q.fa 1 am_fi63_1 am_cl3) (M.o (q.lv am_ag3) (M.o q.neq (M.end [_, _] (h := S.end (hK _ ?_)))))))))
              clear hK K
              refine Ev.cn (fun c22 => ?_) (fun c22 => ?_)
              · first
              | (first | omega | contradiction)
              | refine Ev.sr fun K hK => S.o q.as (S.o q.as (S.end (hK _ ?_)))
                clear hK K
                refine Ev.ret ?_
                refine hR4 _ _ ?_
                refine Ev.ret2 ?_
                refine ⟨?_, rfl⟩
                first
                 | (rw [(ord_bad ‹_›).1, (ord_bad ‹_›).2]; done)
                 | (rw [(ord_full hE ‹_›).1, (ord_full hE ‹_›).2]; done)
                 | (rw [hE0, hV, decide_eq_true hyes]; done)
                 | (rw [hE0, hV, decide_eq_false (fun h => by first
                  | (have h1 := h.1 (sa, sl, st) (by rw [← hp]; simp); unfold okPat at h1; simp only at h1; omega)
                  | (have h1 := (h.1 (sa, sl, st) (by rw [← hp]; simp)).2.2 v (by rw [← hp2]; simp); omega)
                  | (have h1 := yields_at h hid3; omega))]; done)
                 | (exfalso; omega)
              · first
              | (first | omega | contradiction)
              | refine Ev.skip ?_
                show Ev _ _ _ _
                refine Ev.region_S fun K hK => S.o q.add (S.o q.mv (S.end (hK _ ?_)))
                clear hK K
                refine hR4 _ _ ?_
                refine roundU [0] [8, 32, 33, 34, 35, 73, 74] ⟨(pre3 ++ [s], suf3), by rw [← hp3]; simp, ?_⟩ ?_ (keep_c (he := (by first | rfl | (simp; done))) (h := keep_n)) (slots_c (he := (by first | rfl | (congr 2; simp; done))) (h := (slots_c (he := rfl) (h := trivial)))) (.c (.c (.c (.c (.c (.c (.c .n)))))))
                exact eqs_snoc hinv3 (by omega)
                all_goals (dsimp only; simp only [List.length_cons]; omega)
            · first
            | (first | omega | contradiction)
            | refine Ev.exit ?_
              refine hR4 _ _ ?_
              show Ev _ _ _ _
              refine Ev.sr fun K hK => S.o q.as (S.o q.as (S.end (hK _ ?_)))
              clear hK K
              refine Ev.ret ?_
              refine Ev.ret2 ?_
              refine ⟨?_, rfl⟩
              first
               | (rw [(ord_bad ‹_›).1, (ord_bad ‹_›).2]; done)
               | (rw [(ord_full hE ‹_›).1, (ord_full hE ‹_›).2]; done)
               | (rw [hE0, hV, decide_eq_true hyes]; done)
               | (rw [hE0, hV, decide_eq_false (fun h => by first
                | (have h1 := h.1 (sa, sl, st) (by rw [← hp]; simp); unfold okPat at h1; simp only at h1; omega)
                | (have h1 := (h.1 (sa, sl, st) (by rw [← hp]; simp)).2.2 v (by rw [← hp2]; simp); omega)
                | (have h1 := yields_at h hid3; omega))]; done)
               | (exfalso; omega)
          · simp only [List.length_cons] at hpl3
            have hid3 : z[pre3.length]? = some s := by rw [← hp3]; simp
            have hids : (sumL p z.length)[pre3.length]? = some (sumAt p pre3.length) := sumL_get _ (by omega)
            refine Ev.sr fun K hK => S.o q.lss (S.end (hK _ ?_))
            clear hK K
            refine Ev.ud (fun c23 => ?_) (fun c23 => ?_)
            · first
            | (first | omega | contradiction)
            | refine Ev.seq ?_
              refine Ev.block ?_
              refine Ev.sr fun K hK => S.o q.mv (S.o (q.ix am_el57 am_cl63 (hl := (by first | exact ati hidx (by omega) | exact ati hid3 (by omega) | exact ati hids (by omega) | exact atig (by omega)))) (S.o (q.lsA [_, _] am_ag63 am_cl63) (S.nn (q.al am_ze63) (S.o q.as (S.sv [_, _] true [_] am_in63 am_cl63 (h := S.end (hK _ ?_)))))))
              clear hK K
              refine Ev.sm (tbs [(0, 0), (0, 0), (2, 3), (3, 7), (0, 0), (5, 16), (6, 63)]) 7 fun K hK => M.o q.mv (M.o q.mv (M.o (q.ia am_el38 am_cl3) (M.o (q.lx am_ag3 (hl := (by first | exact at_ hidx (by omega) | exact at_ hid3 (by omega) | exact at_ hids (by omega) | exact at_g (by omega)))) (M.o (q.fa 1 am_fi63_1 am_cl3) (M.o (q.lv am_ag3) (M.o q.neq (M.end [_, _] (h := S.end (hK _ ?_)))))))))
              clear hK K
              refine Ev.cn (fun c24 => ?_) (fun c24 => ?_)
              · first
              | (first | omega | contradiction)
              | refine Ev.sr fun K hK => S.o q.as (S.o q.as (S.end (hK _ ?_)))
                clear hK K
                refine Ev.ret ?_
                refine hR4 _ _ ?_
                refine Ev.ret2 ?_
                refine ⟨?_, rfl⟩
                first
                 | (rw [(ord_bad ‹_›).1, (ord_bad ‹_›).2]; done)
                 | (rw [(ord_full hE ‹_›).1, (ord_full hE ‹_›).2]; done)
                 | (rw [hE0, hV, decide_eq_true hyes]; done)
                 | (rw [hE0, hV, decide_eq_false (fun h => by first
                  | (have h1 := h.1 (sa, sl, st) (by rw [← hp]; simp); unfold okPat at h1; simp only at h1; omega)
                  | (have h1 := (h.1 (sa, sl, st) (by rw [← hp]; simp)).2.2 v (by rw [← hp2]; simp); omega)
                  | (have h1 := yields_at h hid3; omega))]; done)
                 | (exfalso; omega)
              · first
              | (first | omega | contradiction)
              | refine Ev.skip ?_
                show Ev _ _ _ _
                refine Ev.region_S fun K hK => S.o q.add (S.o q.mv (S.end (hK _ ?_)))
                clear hK K
                refine hR4 _ _ ?_
                refine roundU [0] [8, 32, 33, 34, 35, 73, 74] ⟨(pre3 ++ [s], suf3), by rw [← hp3]; simp, ?_⟩ ?_ (keep_c (he := (by first | rfl | (simp; done))) (h := keep_n)) (slots_c (he := (by first | rfl | (congr 2; simp; done))) (h := (slots_c (he := rfl) (h := trivial)))) (.c (.c (.c (.c (.c (.c (.c .n)))))))
                exact eqs_snoc hinv3 (by omega)
                all_goals (dsimp only; simp only [List.length_cons]; omega)
            · first
            | (first | omega | contradiction)
            | refine Ev.exit ?_
              refine hR4 _ _ ?_
              show Ev _ _ _ _
              refine Ev.sr fun K hK => S.o q.as (S.o q.as (S.end (hK _ ?_)))
              clear hK K
              refine Ev.ret ?_
              refine Ev.ret2 ?_
              refine ⟨?_, rfl⟩
              first
               | (rw [(ord_bad ‹_›).1, (ord_bad ‹_›).2]; done)
               | (rw [(ord_full hE ‹_›).1, (ord_full hE ‹_›).2]; done)
               | (rw [hE0, hV, decide_eq_true hyes]; done)
               | (rw [hE0, hV, decide_eq_false (fun h => by first
                | (have h1 := h.1 (sa, sl, st) (by rw [← hp]; simp); unfold okPat at h1; simp only at h1; omega)
                | (have h1 := (h.1 (sa, sl, st) (by rw [← hp]; simp)).2.2 v (by rw [← hp2]; simp); omega)
                | (have h1 := yields_at h hid3; omega))]; done)
               | (exfalso; omega)
end Go.Proofs.Ytappnbebcjmlbaa
