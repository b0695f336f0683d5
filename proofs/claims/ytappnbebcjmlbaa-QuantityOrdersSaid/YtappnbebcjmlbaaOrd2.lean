/-
  Layer 48: the reference on patterns.
  Conditions: none.
-/
import Derived.Test.YtappnbebcjmlbaaPc2
import Derived.Test.YtappnbebcjmlbaaYl1
import Derived.Test.YtappnbebcjmlbaaPc5
import Derived.Test.YtappnbebcjmlbaaOrd1
import Derived.Test.YtappnbebcjmlbaaRbend
namespace Go.Proofs.Ytappnbebcjmlbaa
open Go Go.AM
set_option linter.unusedSimpArgs false
set_option linter.unusedVariables false
set_option maxRecDepth 100000
set_option maxHeartbeats 1000000

theorem rYields_fun (z : List (Int × Int)) (p : List Pat) (hql : z.length ≤ 60) (hpl0 : p.length ≤ 1000) (hpw : patW p) :
    Fun Try.prog 47 [.sh 2 (z.map pairC), .sh 3 (p.map patC)] (Ret (.lit (.bool (decide (yieldsP z p)))) []) := by
  refine Fun.of (nt := 95) (rs := [.tmp 4]) Try.func47 rfl rfl rfl rfl rfl ?_
  refine Ev.sr fun K hK => S.o q.as (S.end (hK _ ?_))
  clear hK K
  refine Ev.sr fun K hK => S.o q.mv (S.o (q.lens am_el57) (S.mkf (f := intC) (0) am_el38 am_ze3 am_cl3 am_by3 (h := S.o q.as (S.end (hK _ ?_)))))
  clear hK K
  refine Ev.seq ?_
  refine Ev.sr fun K hK => S.o q.as (S.end (hK _ ?_))
  clear hK K
  refine Ev.block ?_
  refine Ev.loopU (ι := {q1 : List Pat × List Pat // q1.1 ++ q1.2 = p ∧ ∀ x ∈ q1.1, okPat z.length x}) [0] [0, 1] (fun ⟨(pre, suf), _⟩ => [(6, .lit (.int .i64 ((pre.length : Int)))), (5, .als 0 0 (sumL pre z.length).length)]) (fun ⟨(pre, suf), _⟩ => [(0, ⟨true, 3, 1, (sumL pre z.length).map intC, true⟩)]) (fun ⟨(pre, suf), _⟩ => suf.length) ⟨([], p), rfl, fun x hx => by simp at hx⟩ (.c (.c .n)) (keep_c (he := (by first | rfl | (rw [sumL_nil]; done) | (rw [hK]; done))) (h := keep_n)) (slots_c (he := (by first | rfl | (congr 2; simp; done))) (h := (slots_c (he := (by first | rfl | (congr 1; simp [sumL_len, sumK_len]; done))) (h := trivial)))) ?_
  rintro ⟨⟨pre, suf⟩, hp, hinv⟩ R0 hR0
  dsimp only [List.cons_append, List.nil_append, List.length_cons, List.length_nil]
  simp only at hp hinv
  have hpl : pre.length + suf.length = p.length := by rw [← hp, List.length_append]
  have hsl := sumL_len pre z.length
  rcases suf with _ | ⟨⟨sa, sl, st⟩, suf⟩
  · rw [List.append_nil] at hp; subst pre; simp only [List.length_nil] at hpl
    refine Ev.seq ?_
    refine Ev.sr fun K hK => S.o q.mv (S.o q.mv (S.o (q.lens am_el47) (S.o q.lss (S.end (hK _ ?_)))))
    clear hK K
    refine Ev.cd (fun c1 => ?_) (fun c1 => ?_)
    · first
    | (first | omega | contradiction)
    | refine Ev.skip ?_
      show Ev _ _ _ _
      refine Ev.seq ?_
      refine Ev.block ?_
      refine Ev.seq ?_
      refine Ev.sr fun K hK => S.o q.mv (S.o q.mv (S.o (q.ix am_el47 am_cl50 (hl := (by first | exact atig (by omega)))) (S.o (q.fs 1 am_fi50_1 am_cl38) (S.o (q.ls am_ag38) (S.o (q.lens am_el38) (S.o q.mv (S.o (q.lens am_el57) (S.o q.neq (S.bn q.mv (fun c2 => ?_) (fun c2 => ?_))))))))))
      · first
      | (first | omega | contradiction)
      | refine S.sk (S.sk (S.sk (S.sk (S.sk (S.sk (S.o q.pt (S.o q.mv (S.sk (S.sk (S.sk (S.sk (S.sk (S.sk (S.o q.pt (S.end (hK _ ?_))))))))))))))))
        clear hK K
        refine Ev.ct ?_
        refine Ev.sr fun K hK => S.o q.as (S.end (hK _ ?_))
        clear hK K
        refine Ev.ret ?_
        refine hR0 _ _ ?_
        refine Ev.ret1 ?_
        refine ⟨?_, rfl⟩
        first | exact bT hyes | exact bF (fun h => by first
          | (have h1 := h.1 (sa, sl, st) (by rw [← hp]; simp); unfold okPat at h1; simp only at h1; omega)
          | (have h1 := (h.1 (sa, sl, st) (by rw [← hp]; simp)).2.2 v (by rw [← hp2]; simp); omega)
          | (have h1 := yields_at h hid3; omega)) | (exfalso; omega)
      · first
      | (first | omega | contradiction)
      | refine S.o q.mv (S.o q.mv (S.o (q.ix am_el47 am_cl50 (hl := (by first | exact atig (by omega)))) (S.o (q.fs 2 am_fi50_2 am_cl3) (S.o (q.ls am_ag3) (S.o q.lss (S.o q.pf (S.bd q.mv (fun c3 => ?_) (fun c3 => ?_))))))))
        · first
        | (first | omega | contradiction)
        | refine S.sk (S.sk (S.sk (S.sk (S.sk (S.sk (S.o q.pt (S.end (hK _ ?_))))))))
          clear hK K
          refine Ev.ct ?_
          refine Ev.sr fun K hK => S.o q.as (S.end (hK _ ?_))
          clear hK K
          refine Ev.ret ?_
          refine hR0 _ _ ?_
          refine Ev.ret1 ?_
          refine ⟨?_, rfl⟩
          first | exact bT hyes | exact bF (fun h => by first
            | (have h1 := h.1 (sa, sl, st) (by rw [← hp]; simp); unfold okPat at h1; simp only at h1; omega)
            | (have h1 := (h.1 (sa, sl, st) (by rw [← hp]; simp)).2.2 v (by rw [← hp2]; simp); omega)
            | (have h1 := yields_at h hid3; omega)) | (exfalso; omega)
        · first
        | (first | omega | contradiction)
        | refine S.o q.mv (S.o q.mv (S.o (q.ix am_el47 am_cl50 (hl := (by first | exact atig (by omega)))) (S.o (q.fs 2 am_fi50_2 am_cl3) (S.o (q.ls am_ag3) (S.o q.gtr (S.o q.pf (S.end (hK _ ?_))))))))
          clear hK K
          refine Ev.cd (fun c4 => ?_) (fun c4 => ?_)
          · first
          | (first | omega | contradiction)
          | refine Ev.sr fun K hK => S.o q.as (S.end (hK _ ?_))
            clear hK K
            refine Ev.ret ?_
            refine hR0 _ _ ?_
            refine Ev.ret1 ?_
            refine ⟨?_, rfl⟩
            first | exact bT hyes | exact bF (fun h => by first
              | (have h1 := h.1 (sa, sl, st) (by rw [← hp]; simp); unfold okPat at h1; simp only at h1; omega)
              | (have h1 := (h.1 (sa, sl, st) (by rw [← hp]; simp)).2.2 v (by rw [← hp2]; simp); omega)
              | (have h1 := yields_at h hid3; omega)) | (exfalso; omega)
          · first
          | (first | omega | contradiction)
          | refine Ev.skip ?_
            show Ev _ _ _ _
            refine Ev.sr fun K hK => S.o q.as (S.end (hK _ ?_))
            clear hK K
            refine Ev.block ?_
            refine Ev.loopU (ι := {q1 : List Int × List Int // q1.1 ++ q1.2 = sl ∧ ∀ k ∈ q1.1, 0 ≤ k ∧ k ≤ 1000000}) [0] [0, 1, 6, 13, 14, 15, 16, 19, 20, 21, 22, 23, 24, 25, 26, 27, 28, 29, 30, 31, 32, 33, 34, 35, 36, 37, 38, 39, 40, 41, 42, 43] (fun ⟨(pre2, suf2), _⟩ => [(7, .lit (.int .i64 ((pre2.length : Int)))), (5, .als 0 0 (sumK pre (sa, sl, st) z.length pre2.length).length)]) (fun ⟨(pre2, suf2), _⟩ => [(0, ⟨true, 3, 1, (sumK pre (sa, sl, st) z.length pre2.length).map intC, true⟩)]) (fun ⟨(pre2, suf2), _⟩ => suf2.length) ⟨([], sl), rfl, fun x hx => by simp at hx⟩ (.c (.c (.c (.c (.c (.c (.c (.c (.c (.c (.c (.c (.c (.c (.c (.c (.c (.c (.c (.c (.c (.c (.c (.c (.c (.c (.c (.c (.c (.c (.c (.c .n)))))))))))))))))))))))))))))))) (keep_c (he := (by first | rfl | (rw [← sumK_0 pre (sa, sl, st)]; done) | (rw [List.length_append, List.length_singleton]; exact congrArg (List.map intC) (sumK_set pre (sa, sl, st) hidv)))) (h := keep_n)) (slots_c (he := (by first | rfl | (congr 2; simp; done))) (h := (slots_c (he := (by first | rfl | (congr 1; simp [sumL_len, sumK_len]; done))) (h := trivial)))) ?_
            rintro ⟨⟨pre2, suf2⟩, hp2, hinv2⟩ R2 hR2
            dsimp only [List.cons_append, List.nil_append, List.length_cons, List.length_nil]
            simp only at hp2 hinv2
            have hpl2 : pre2.length + suf2.length = sl.length := by rw [← hp2, List.length_append]
            have hskl := sumK_len pre (sa, sl, st) z.length pre2.length
            rcases suf2 with _ | ⟨v, suf2⟩
            · rw [List.append_nil] at hp2; simp only [List.length_nil] at hpl2
              have hokp : okPat z.length (sa, sl, st) := ⟨by simp only; omega, ⟨by simp only; omega, by simp only; omega⟩, by rw [← hp2]; exact hinv2⟩
              have hK : sumK pre (sa, sl, st) z.length pre2.length = sumL (pre ++ [(sa, sl, st)]) z.length := by rw [show pre2.length = z.length by omega, sumK_n]
              refine Ev.seq ?_
              refine Ev.sr fun K hK => S.o q.mv (S.o q.mv (S.o (q.lens am_el57) (S.o q.lss (S.end (hK _ ?_)))))
              clear hK K
              refine Ev.cd (fun c5 => ?_) (fun c5 => ?_)
              · first
              | (first | omega | contradiction)
              | refine Ev.skip ?_
                show Ev _ _ _ _
                refine Ev.seq ?_
                refine Ev.block ?_
                refine Ev.sr fun K hK => S.o q.mv (S.o q.mv (S.o (q.ix am_el47 am_cl50 (hl := (by first | exact atig (by omega)))) (S.o (q.fs 1 am_fi50_1 am_cl38) (S.o (q.ls am_ag38) (S.o q.mv (S.o (q.ix am_el38 am_cl3 (hl := (by first | exact atig (by omega)))) (S.o (q.ls am_ag3) (S.o q.as (S.end (hK _ ?_))))))))))
                clear hK K
                refine Ev.seq ?_
                refine Ev.sr fun K hK => S.o q.mv (S.o q.lss (S.bd q.mv (fun c6 => ?_) (fun c6 => ?_)))
                · first
                | (first | omega | contradiction)
                | refine S.sk (S.sk (S.o q.pt (S.end (hK _ ?_))))
                  clear hK K
                  refine Ev.ct ?_
                  refine Ev.sr fun K hK => S.o q.as (S.end (hK _ ?_))
                  clear hK K
                  refine Ev.ret ?_
                  refine hR2 _ _ ?_
                  refine hR0 _ _ ?_
                  refine Ev.ret1 ?_
                  refine ⟨?_, rfl⟩
                  first | exact bT hyes | exact bF (fun h => by first
                    | (have h1 := h.1 (sa, sl, st) (by rw [← hp]; simp); unfold okPat at h1; simp only at h1; omega)
                    | (have h1 := (h.1 (sa, sl, st) (by rw [← hp]; simp)).2.2 v (by rw [← hp2]; simp); omega)
                    | (have h1 := yields_at h hid3; omega)) | (exfalso; omega)
                · first
                | (first | omega | contradiction)
                | refine S.o q.mv (S.o q.gtr (S.o q.pf (S.end (hK _ ?_))))
                  clear hK K
                  refine Ev.cd (fun c7 => ?_) (fun c7 => ?_)
                  · first
                  | (first | omega | contradiction)
                  | refine Ev.sr fun K hK => S.o q.as (S.end (hK _ ?_))
                    clear hK K
                    refine Ev.ret ?_
                    refine hR2 _ _ ?_
                    refine hR0 _ _ ?_
                    refine Ev.ret1 ?_
                    refine ⟨?_, rfl⟩
                    first | exact bT hyes | exact bF (fun h => by first
                      | (have h1 := h.1 (sa, sl, st) (by rw [← hp]; simp); unfold okPat at h1; simp only at h1; omega)
                      | (have h1 := (h.1 (sa, sl, st) (by rw [← hp]; simp)).2.2 v (by rw [← hp2]; simp); omega)
                      | (have h1 := yields_at h hid3; omega)) | (exfalso; omega)
                  · first
                  | (first | omega | contradiction)
                  | refine Ev.skip ?_
                    show Ev _ _ _ _
                    obtain ⟨hm1, hm2⟩ := mul_bd (k := v) (K := 1000000) (a := st) (A := 1000000) (by omega) (by omega) (by omega) (by omega)
                    refine Ev.region_M (tbs [(0, 0), (0, 0), (0, 0), (0, 0), (4, 12), (5, 28), (0, 0), (0, 0), (0, 0), (9, 384), (10, 896), (11, 1920), (12, 4032), (13, 8188), (14, 16383), (15, 32767)]) 15 fun K hK => M.o q.mv (M.o q.mv (M.o q.mv (M.o q.mv (M.o (q.ia am_el38 am_cl3) (M.o (q.lx am_ag3 (hl := (by first | exact at_g (by omega)))) (M.o q.mv (M.o q.mv (M.o q.mv (M.o (q.ix am_el47 am_cl50 (hl := (by first | exact atig (by omega)))) (M.o (q.fs 2 am_fi50_2 am_cl3) (M.o (q.ls am_ag3) (M.o (q.mul (h1 := by omega) (h2 := by omega)) (M.o q.add (M.o (q.ia am_el38 am_cl3) (M.end [_] (h := S.sx _ [] am_in3 am_cl3 (hl := (by first | exact at_g (by omega))) (h := S.end (hK _ ?_))))))))))))))))))
                    clear hK K
                    show Ev _ _ _ _
                    refine Ev.region_S fun K hK => S.o q.mv (S.o q.add (S.o q.as (S.end (hK _ ?_))))
                    clear hK K
                    refine hR2 _ _ ?_
                    refine roundU [0] [0, 1, 6, 13, 14, 15, 16, 19, 20, 21, 22, 23, 24, 25, 26, 27, 28, 29, 30, 31, 32, 33, 34, 35, 36, 37, 38, 39, 40, 41, 42, 43] ⟨(pre2 ++ [v], suf2), by rw [← hp2]; simp, ?_⟩ ?_ (keep_c (he := (by first | rfl | (rw [← sumK_0 pre (sa, sl, st)]; done) | (rw [List.length_append, List.length_singleton]; exact congrArg (List.map intC) (sumK_set pre (sa, sl, st) hidv)))) (h := keep_n)) (slots_c (he := (by first | rfl | (congr 2; simp; done))) (h := (slots_c (he := (by first | rfl | (congr 1; simp [sumL_len, sumK_len]; done))) (h := trivial)))) (.c (.c (.c (.c (.c (.c (.c (.c (.c (.c (.c (.c (.c (.c (.c (.c (.c (.c (.c (.c (.c (.c (.c (.c (.c (.c (.c (.c (.c (.c (.c (.c .n))))))))))))))))))))))))))))))))
                    intro x hx; simp only [List.mem_append, List.mem_singleton] at hx; rcases hx with hx | rfl
                    · exact hinv2 x hx
                    · omega
                    all_goals (dsimp only; simp only [List.length_cons]; omega)
              · first
              | (first | omega | contradiction)
              | refine Ev.exit ?_
                refine hR2 _ _ ?_
                show Ev _ _ _ _
                refine Ev.region_S fun K hK => S.o q.mv (S.o q.add (S.o q.as (S.end (hK _ ?_))))
                clear hK K
                refine hR0 _ _ ?_
                refine roundU [0] [0, 1] ⟨(pre ++ [(sa, sl, st)], suf), by rw [← hp]; simp, ?_⟩ ?_ (keep_c (he := (by first | rfl | (rw [sumL_nil]; done) | (rw [hK]; done))) (h := keep_n)) (slots_c (he := (by first | rfl | (congr 2; simp; done))) (h := (slots_c (he := (by first | rfl | (congr 1; simp [sumL_len, sumK_len]; done))) (h := trivial)))) (.c (.c .n))
                intro x hx; simp only [List.mem_append, List.mem_singleton] at hx; rcases hx with hx | rfl
                · exact hinv x hx
                · exact hokp
                all_goals (dsimp only; simp only [List.length_cons]; omega)
            · simp only [List.length_cons] at hpl2
              have hidv : sl[pre2.length]? = some v := by rw [← hp2]; simp
              have hids : (sumK pre (sa, sl, st) z.length pre2.length)[pre2.length]? = some (sumAt pre pre2.length) := sumK_get _ _ (by omega)
              have hsb := sumAt_bd pre2.length pre hinv
              refine Ev.seq ?_
              refine Ev.sr fun K hK => S.o q.mv (S.o q.mv (S.o (q.lens am_el57) (S.o q.lss (S.end (hK _ ?_)))))
              clear hK K
              refine Ev.cd (fun c8 => ?_) (fun c8 => ?_)
              · first
              | (first | omega | contradiction)
              | refine Ev.skip ?_
                show Ev _ _ _ _
                refine Ev.seq ?_
                refine Ev.block ?_
                refine Ev.sr fun K hK => S.o q.mv (S.o q.mv (S.o (q.ix am_el47 am_cl50 (hl := (by first | exact ati hidv (by omega) | exact ati hids (by omega) | exact atig (by omega)))) (S.o (q.fs 1 am_fi50_1 am_cl38) (S.o (q.ls am_ag38) (S.o q.mv (S.o (q.ix am_el38 am_cl3 (hl := (by first | exact ati hidv (by omega) | exact ati hids (by omega) | exact atig (by omega)))) (S.o (q.ls am_ag3) (S.o q.as (S.end (hK _ ?_))))))))))
                clear hK K
                refine Ev.seq ?_
                refine Ev.sr fun K hK => S.o q.mv (S.o q.lss (S.bd q.mv (fun c9 => ?_) (fun c9 => ?_)))
                · first
                | (first | omega | contradiction)
                | refine S.sk (S.sk (S.o q.pt (S.end (hK _ ?_))))
                  clear hK K
                  refine Ev.ct ?_
                  refine Ev.sr fun K hK => S.o q.as (S.end (hK _ ?_))
                  clear hK K
                  refine Ev.ret ?_
                  refine hR2 _ _ ?_
                  refine hR0 _ _ ?_
                  refine Ev.ret1 ?_
                  refine ⟨?_, rfl⟩
                  first | exact bT hyes | exact bF (fun h => by first
                    | (have h1 := h.1 (sa, sl, st) (by rw [← hp]; simp); unfold okPat at h1; simp only at h1; omega)
                    | (have h1 := (h.1 (sa, sl, st) (by rw [← hp]; simp)).2.2 v (by rw [← hp2]; simp); omega)
                    | (have h1 := yields_at h hid3; omega)) | (exfalso; omega)
                · first
                | (first | omega | contradiction)
                | refine S.o q.mv (S.o q.gtr (S.o q.pf (S.end (hK _ ?_))))
                  clear hK K
                  refine Ev.cd (fun c10 => ?_) (fun c10 => ?_)
                  · first
                  | (first | omega | contradiction)
                  | refine Ev.sr fun K hK => S.o q.as (S.end (hK _ ?_))
                    clear hK K
                    refine Ev.ret ?_
                    refine hR2 _ _ ?_
                    refine hR0 _ _ ?_
                    refine Ev.ret1 ?_
                    refine ⟨?_, rfl⟩
                    first | exact bT hyes | exact bF (fun h => by first
                      | (have h1 := h.1 (sa, sl, st) (by rw [← hp]; simp); unfold okPat at h1; simp only at h1; omega)
                      | (have h1 := (h.1 (sa, sl, st) (by rw [← hp]; simp)).2.2 v (by rw [← hp2]; simp); omega)
                      | (have h1 := yields_at h hid3; omega)) | (exfalso; omega)
                  · first
                  | (first | omega | contradiction)
                  | refine Ev.skip ?_
                    show Ev _ _ _ _
                    obtain ⟨hm1, hm2⟩ := mul_bd (k := v) (K := 1000000) (a := st) (A := 1000000) (by omega) (by omega) (by omega) (by omega)
                    refine Ev.region_M (tbs [(0, 0), (0, 0), (0, 0), (0, 0), (4, 12), (5, 28), (0, 0), (0, 0), (0, 0), (9, 384), (10, 896), (11, 1920), (12, 4032), (13, 8188), (14, 16383), (15, 32767)]) 15 fun K hK => M.o q.mv (M.o q.mv (M.o q.mv (M.o q.mv (M.o (q.ia am_el38 am_cl3) (M.o (q.lx am_ag3 (hl := (by first | exact at_ hidv (by omega) | exact at_ hids (by omega) | exact at_g (by omega)))) (M.o q.mv (M.o q.mv (M.o q.mv (M.o (q.ix am_el47 am_cl50 (hl := (by first | exact ati hidv (by omega) | exact ati hids (by omega) | exact atig (by omega)))) (M.o (q.fs 2 am_fi50_2 am_cl3) (M.o (q.ls am_ag3) (M.o (q.mul (h1 := by omega) (h2 := by omega)) (M.o q.add (M.o (q.ia am_el38 am_cl3) (M.end [_] (h := S.sx _ [] am_in3 am_cl3 (hl := (by first | exact at_ hidv (by omega) | exact at_ hids (by omega) | exact at_g (by omega))) (h := S.end (hK _ ?_))))))))))))))))))
                    clear hK K
                    show Ev _ _ _ _
                    refine Ev.region_S fun K hK => S.o q.mv (S.o q.add (S.o q.as (S.end (hK _ ?_))))
                    clear hK K
                    refine hR2 _ _ ?_
                    refine roundU [0] [0, 1, 6, 13, 14, 15, 16, 19, 20, 21, 22, 23, 24, 25, 26, 27, 28, 29, 30, 31, 32, 33, 34, 35, 36, 37, 38, 39, 40, 41, 42, 43] ⟨(pre2 ++ [v], suf2), by rw [← hp2]; simp, ?_⟩ ?_ (keep_c (he := (by first | rfl | (rw [← sumK_0 pre (sa, sl, st)]; done) | (rw [List.length_append, List.length_singleton]; exact congrArg (List.map intC) (sumK_set pre (sa, sl, st) hidv)))) (h := keep_n)) (slots_c (he := (by first | rfl | (congr 2; simp; done))) (h := (slots_c (he := (by first | rfl | (congr 1; simp [sumL_len, sumK_len]; done))) (h := trivial)))) (.c (.c (.c (.c (.c (.c (.c (.c (.c (.c (.c (.c (.c (.c (.c (.c (.c (.c (.c (.c (.c (.c (.c (.c (.c (.c (.c (.c (.c (.c (.c (.c .n))))))))))))))))))))))))))))))))
                    intro x hx; simp only [List.mem_append, List.mem_singleton] at hx; rcases hx with hx | rfl
                    · exact hinv2 x hx
                    · omega
                    all_goals (dsimp only; simp only [List.length_cons]; omega)
              · first
              | (first | omega | contradiction)
              | refine Ev.exit ?_
                refine hR2 _ _ ?_
                show Ev _ _ _ _
                refine Ev.region_S fun K hK => S.o q.mv (S.o q.add (S.o q.as (S.end (hK _ ?_))))
                clear hK K
                refine hR0 _ _ ?_
                refine roundU [0] [0, 1] ⟨(pre ++ [(sa, sl, st)], suf), by rw [← hp]; simp, ?_⟩ ?_ (keep_c (he := (by first | rfl | (rw [sumL_nil]; done) | (rw [hK]; done))) (h := keep_n)) (slots_c (he := (by first | rfl | (congr 2; simp; done))) (h := (slots_c (he := (by first | rfl | (congr 1; simp [sumL_len, sumK_len]; done))) (h := trivial)))) (.c (.c .n))
                intro x hx; simp only [List.mem_append, List.mem_singleton] at hx; rcases hx with hx | rfl
                · exact hinv x hx
                · exact hokp
                all_goals (dsimp only; simp only [List.length_cons]; omega)
    · first
    | (first | omega | contradiction)
    | refine Ev.exit ?_
      refine hR0 _ _ ?_
      show Ev _ _ _ _
      refine Ev.seq ?_
      refine Ev.sr fun K hK => S.o q.as (S.end (hK _ ?_))
      clear hK K
      refine Ev.block ?_
      refine Ev.loopU (ι := {q1 : List (Int × Int) × List (Int × Int) // q1.1 ++ q1.2 = z ∧ ∀ i y, q1.1[i]? = some y → sumAt p i = y.2}) [0] [0, 1, 6, 13, 14, 15, 16] (fun ⟨(pre3, suf3), _⟩ => [(9, .lit (.int .i64 ((pre3.length : Int)))), (5, .als 0 0 (sumL p z.length).length)]) (fun ⟨(pre3, suf3), _⟩ => [(0, ⟨true, 3, 1, (sumL p z.length).map intC, true⟩)]) (fun ⟨(pre3, suf3), _⟩ => suf3.length) ⟨([], z), rfl, fun i y h => by simp at h⟩ (.c (.c (.c (.c (.c (.c (.c .n))))))) (keep_c (he := (by first | rfl | (simp; done))) (h := keep_n)) (slots_c (he := (by first | rfl | (congr 2; simp; done))) (h := (slots_c (he := rfl) (h := trivial)))) ?_
      rintro ⟨⟨pre3, suf3⟩, hp3, hinv3⟩ R4 hR4
      dsimp only [List.cons_append, List.nil_append, List.length_cons, List.length_nil]
      simp only at hp3 hinv3
      have hpl3 : pre3.length + suf3.length = z.length := by rw [← hp3, List.length_append]
      rcases suf3 with _ | ⟨s, suf3⟩
      · rw [List.append_nil] at hp3; simp only [List.length_nil] at hpl3
        have hyes : yieldsP z p := yields_all hinv (by rw [← hp3]; exact hinv3)
        refine Ev.seq ?_
        refine Ev.sr fun K hK => S.o q.mv (S.o q.mv (S.o (q.lens am_el57) (S.o q.lss (S.end (hK _ ?_)))))
        clear hK K
        refine Ev.cd (fun c11 => ?_) (fun c11 => ?_)
        · first
        | (first | omega | contradiction)
        | refine Ev.skip ?_
          show Ev _ _ _ _
          refine Ev.seq ?_
          refine Ev.block ?_
          refine Ev.sm (tbs [(0, 0), (0, 0), (2, 3), (3, 7), (0, 0), (0, 0), (6, 48), (7, 112), (8, 240), (9, 511)]) 10 fun K hK => M.o q.mv (M.o q.mv (M.o (q.ia am_el38 am_cl3) (M.o (q.lx am_ag3 (hl := (by first | exact at_g (by omega)))) (M.o q.mv (M.o q.mv (M.o (q.ix am_el57 am_cl63 (hl := (by first | exact atig (by omega)))) (M.o (q.fs 1 am_fi63_1 am_cl3) (M.o (q.ls am_ag3) (M.o q.neq (M.end [_] (h := S.end (hK _ ?_))))))))))))
          clear hK K
          refine Ev.cn (fun c12 => ?_) (fun c12 => ?_)
          · first
          | (first | omega | contradiction)
          | refine Ev.sr fun K hK => S.o q.as (S.end (hK _ ?_))
            clear hK K
            refine Ev.ret ?_
            refine hR4 _ _ ?_
            refine Ev.ret1 ?_
            refine ⟨?_, rfl⟩
            first | exact bT hyes | exact bF (fun h => by first
              | (have h1 := h.1 (sa, sl, st) (by rw [← hp]; simp); unfold okPat at h1; simp only at h1; omega)
              | (have h1 := (h.1 (sa, sl, st) (by rw [← hp]; simp)).2.2 v (by rw [← hp2]; simp); omega)
              | (have h1 := yields_at h hid3; omega)) | (exfalso; omega)
          · first
          | (first | omega | contradiction)
          | refine Ev.skip ?_
            show Ev _ _ _ _
            refine Ev.region_S fun K hK => S.o q.mv (S.o q.add (S.o q.as (S.end (hK _ ?_))))
            clear hK K
            refine hR4 _ _ ?_
            refine roundU [0] [0, 1, 6, 13, 14, 15, 16] ⟨(pre3 ++ [s], suf3), by rw [← hp3]; simp, ?_⟩ ?_ (keep_c (he := (by first | rfl | (simp; done))) (h := keep_n)) (slots_c (he := (by first | rfl | (congr 2; simp; done))) (h := (slots_c (he := rfl) (h := trivial)))) (.c (.c (.c (.c (.c (.c (.c .n)))))))
            exact eqs_snoc hinv3 (by omega)
            all_goals (dsimp only; simp only [List.length_cons]; omega)
        · first
        | (first | omega | contradiction)
        | refine Ev.exit ?_
          refine hR4 _ _ ?_
          show Ev _ _ _ _
          refine Ev.sr fun K hK => S.o q.as (S.end (hK _ ?_))
          clear hK K
          refine Ev.ret ?_
          refine Ev.ret1 ?_
          refine ⟨?_, rfl⟩
          first | exact bT hyes | exact bF (fun h => by first
            | (have h1 := h.1 (sa, sl, st) (by rw [← hp]; simp); unfold okPat at h1; simp only at h1; omega)
            | (have h1 := (h.1 (sa, sl, st) (by rw [← hp]; simp)).2.2 v (by rw [← hp2]; simp); omega)
            | (have h1 := yields_at h hid3; omega)) | (exfalso; omega)
      · simp only [List.length_cons] at hpl3
        have hid3 : z[pre3.length]? = some s := by rw [← hp3]; simp
        have hids : (sumL p z.length)[pre3.length]? = some (sumAt p pre3.length) := sumL_get _ (by omega)
        refine Ev.seq ?_
        refine Ev.sr fun K hK => S.o q.mv (S.o q.mv (S.o (q.lens am_el57) (S.o q.lss (S.end (hK _ ?_)))))
        clear hK K
        refine Ev.cd (fun c13 => ?_) (fun c13 => ?_)
        · first
        | (first | omega | contradiction)
        | refine Ev.skip ?_
          show Ev _ _ _ _
          refine Ev.seq ?_
          refine Ev.block ?_
          refine Ev.sm (tbs [(0, 0), (0, 0), (2, 3), (3, 7), (0, 0), (0, 0), (6, 48), (7, 112), (8, 240), (9, 511)]) 10 fun K hK => M.o q.mv (M.o q.mv (M.o (q.ia am_el38 am_cl3) (M.o (q.lx am_ag3 (hl := (by first | exact at_ hid3 (by omega) | exact at_ hids (by omega) | exact at_g (by omega)))) (M.o q.mv (M.o q.mv (M.o (q.ix am_el57 am_cl63 (hl := (by first | exact ati hid3 (by omega) | exact ati hids (by omega) | exact atig (by omega)))) (M.o (q.fs 1 am_fi63_1 am_cl3) (M.o (q.ls am_ag3) (M.o q.neq (M.end [_] (h := S.end (hK _ ?_))))))))))))
          clear hK K
          refine Ev.cn (fun c14 => ?_) (fun c14 => ?_)
          · first
          | (first | omega | contradiction)
          | refine Ev.sr fun K hK => S.o q.as (S.end (hK _ ?_))
            clear hK K
            refine Ev.ret ?_
            refine hR4 _ _ ?_
            refine Ev.ret1 ?_
            refine ⟨?_, rfl⟩
            first | exact bT hyes | exact bF (fun h => by first
              | (have h1 := h.1 (sa, sl, st) (by rw [← hp]; simp); unfold okPat at h1; simp only at h1; omega)
              | (have h1 := (h.1 (sa, sl, st) (by rw [← hp]; simp)).2.2 v (by rw [← hp2]; simp); omega)
              | (have h1 := yields_at h hid3; omega)) | (exfalso; omega)
          · first
          | (first | omega | contradiction)
          | refine Ev.skip ?_
            show Ev _ _ _ _
            refine Ev.region_S fun K hK => S.o q.mv (S.o q.add (S.o q.as (S.end (hK _ ?_))))
            clear hK K
            refine hR4 _ _ ?_
            refine roundU [0] [0, 1, 6, 13, 14, 15, 16] ⟨(pre3 ++ [s], suf3), by rw [← hp3]; simp, ?_⟩ ?_ (keep_c (he := (by first | rfl | (simp; done))) (h := keep_n)) (slots_c (he := (by first | rfl | (congr 2; simp; done))) (h := (slots_c (he := rfl) (h := trivial)))) (.c (.c (.c (.c (.c (.c (.c .n)))))))
            exact eqs_snoc hinv3 (by omega)
            all_goals (dsimp only; simp only [List.length_cons]; omega)
        · first
        | (first | omega | contradiction)
        | refine Ev.exit ?_
          refine hR4 _ _ ?_
          show Ev _ _ _ _
          refine Ev.sr fun K hK => S.o q.as (S.end (hK _ ?_))
          clear hK K
          refine Ev.ret ?_
          refine Ev.ret1 ?_
          refine ⟨?_, rfl⟩
          first | exact bT hyes | exact bF (fun h => by first
            | (have h1 := h.1 (sa, sl, st) (by rw [← hp]; simp); unfold okPat at h1; simp only at h1; omega)
            | (have h1 := (h.1 (sa, sl, st) (by rw [← hp]; simp)).2.2 v (by rw [← hp2]; simp); omega)
            | (have h1 := yields_at h hid3; omega)) | (exfalso; omega)
  · simp only [List.length_cons] at hpl
    have hidx : p[pre.length]? = some (sa, sl, st) := by rw [← hp]; simp
    have hslw : sl.length ≤ 140737488355328 := hpw _ (List.mem_of_getElem? hidx)
    refine Ev.seq ?_
    refine Ev.sr fun K hK => S.o q.mv (S.o q.mv (S.o (q.lens am_el47) (S.o q.lss (S.end (hK _ ?_)))))
    clear hK K
    refine Ev.cd (fun c15 => ?_) (fun c15 => ?_)
    · first
    | (first | omega | contradiction)
    | refine Ev.skip ?_
      show Ev _ _ _ _
      refine Ev.seq ?_
      refine Ev.block ?_
      refine Ev.seq ?_
      refine Ev.sr fun K hK => S.o q.mv (S.o q.mv (S.o (q.ix am_el47 am_cl50 (hl := (by first | exact ati hidx (by omega) | exact atig (by omega)))) (S.o (q.fs 1 am_fi50_1 am_cl38) (S.o (q.ls am_ag38) (S.o (q.lens am_el38) (S.o q.mv (S.o (q.lens am_el57) (S.o q.neq (S.bn q.mv (fun c16 => ?_) (fun c16 => ?_))))))))))
      · first
      | (first | omega | contradiction)
      | refine S.sk (S.sk (S.sk (S.sk (S.sk (S.sk (S.o q.pt (S.o q.mv (S.sk (S.sk (S.sk (S.sk (S.sk (S.sk (S.o q.pt (S.end (hK _ ?_))))))))))))))))
        clear hK K
        refine Ev.ct ?_
        refine Ev.sr fun K hK => S.o q.as (S.end (hK _ ?_))
        clear hK K
        refine Ev.ret ?_
        refine hR0 _ _ ?_
        refine Ev.ret1 ?_
        refine ⟨?_, rfl⟩
        first | exact bT hyes | exact bF (fun h => by first
          | (have h1 := h.1 (sa, sl, st) (by rw [← hp]; simp); unfold okPat at h1; simp only at h1; omega)
          | (have h1 := (h.1 (sa, sl, st) (by rw [← hp]; simp)).2.2 v (by rw [← hp2]; simp); omega)
          | (have h1 := yields_at h hid3; omega)) | (exfalso; omega)
      · first
      | (first | omega | contradiction)
      | refine S.o q.mv (S.o q.mv (S.o (q.ix am_el47 am_cl50 (hl := (by first | exact ati hidx (by omega) | exact atig (by omega)))) (S.o (q.fs 2 am_fi50_2 am_cl3) (S.o (q.ls am_ag3) (S.o q.lss (S.o q.pf (S.bd q.mv (fun c17 => ?_) (fun c17 => ?_))))))))
        · first
        | (first | omega | contradiction)
        | refine S.sk (S.sk (S.sk (S.sk (S.sk (S.sk (S.o q.pt (S.end (hK _ ?_))))))))
          clear hK K
          refine Ev.ct ?_
          refine Ev.sr fun K hK => S.o q.as (S.end (hK _ ?_))
          clear hK K
          refine Ev.ret ?_
          refine hR0 _ _ ?_
          refine Ev.ret1 ?_
          refine ⟨?_, rfl⟩
          first | exact bT hyes | exact bF (fun h => by first
            | (have h1 := h.1 (sa, sl, st) (by rw [← hp]; simp); unfold okPat at h1; simp only at h1; omega)
            | (have h1 := (h.1 (sa, sl, st) (by rw [← hp]; simp)).2.2 v (by rw [← hp2]; simp); omega)
            | (have h1 := yields_at h hid3; omega)) | (exfalso; omega)
        · first
        | (first | omega | contradiction)
        | refine S.o q.mv (S.o q.mv (S.o (q.ix am_el47 am_cl50 (hl := (by first | exact ati hidx (by omega) | exact atig (by omega)))) (S.o (q.fs 2 am_fi50_2 am_cl3) (S.o (q.ls am_ag3) (S.o q.gtr (S.o q.pf (S.end (hK _ ?_))))))))
          clear hK K
          refine Ev.cd (fun c18 => ?_) (fun c18 => ?_)
          · first
          | (first | omega | contradiction)
          | refine Ev.sr fun K hK => S.o q.as (S.end (hK _ ?_))
            clear hK K
            refine Ev.ret ?_
            refine hR0 _ _ ?_
            refine Ev.ret1 ?_
            refine ⟨?_, rfl⟩
            first | exact bT hyes | exact bF (fun h => by first
              | (have h1 := h.1 (sa, sl, st) (by rw [← hp]; simp); unfold okPat at h1; simp only at h1; omega)
              | (have h1 := (h.1 (sa, sl, st) (by rw [← hp]; simp)).2.2 v (by rw [← hp2]; simp); omega)
              | (have h1 := yields_at h hid3; omega)) | (exfalso; omega)
          · first
          | (first | omega | contradiction)
          | refine Ev.skip ?_
            show Ev _ _ _ _
            refine Ev.sr fun K hK => S.o q.as (S.end (hK _ ?_))
            clear hK K
            refine Ev.block ?_
            refine Ev.loopU (ι := {q1 : List Int × List Int // q1.1 ++ q1.2 = sl ∧ ∀ k ∈ q1.1, 0 ≤ k ∧ k ≤ 1000000}) [0] [0, 1, 6, 13, 14, 15, 16, 19, 20, 21, 22, 23, 24, 25, 26, 27, 28, 29, 30, 31, 32, 33, 34, 35, 36, 37, 38, 39, 40, 41, 42, 43] (fun ⟨(pre2, suf2), _⟩ => [(7, .lit (.int .i64 ((pre2.length : Int)))), (5, .als 0 0 (sumK pre (sa, sl, st) z.length pre2.length).length)]) (fun ⟨(pre2, suf2), _⟩ => [(0, ⟨true, 3, 1, (sumK pre (sa, sl, st) z.length pre2.length).map intC, true⟩)]) (fun ⟨(pre2, suf2), _⟩ => suf2.length) ⟨([], sl), rfl, fun x hx => by simp at hx⟩ (.c (.c (.c (.c (.c (.c (.c (.c (.c (.c (.c (.c (.c (.c (.c (.c (.c (.c (.c (.c (.c (.c (.c (.c (.c (.c (.c (.c (.c (.c (.c (.c .n)))))))))))))))))))))))))))))))) (keep_c (he := (by first | rfl | (rw [← sumK_0 pre (sa, sl, st)]; done) | (rw [List.length_append, List.length_singleton]; exact congrArg (List.map intC) (sumK_set pre (sa, sl, st) hidv)))) (h := keep_n)) (slots_c (he := (by first | rfl | (congr 2; simp; done))) (h := (slots_c (he := (by first | rfl | (congr 1; simp [sumL_len, sumK_len]; done))) (h := trivial)))) ?_
            rintro ⟨⟨pre2, suf2⟩, hp2, hinv2⟩ R2 hR2
            dsimp only [List.cons_append, List.nil_append, List.length_cons, List.length_nil]
            simp only at hp2 hinv2
            have hpl2 : pre2.length + suf2.length = sl.length := by rw [← hp2, List.length_append]
            have hskl := sumK_len pre (sa, sl, st) z.length pre2.length
            rcases suf2 with _ | ⟨v, suf2⟩
            · rw [List.append_nil] at hp2; simp only [List.length_nil] at hpl2
              have hokp : okPat z.length (sa, sl, st) := ⟨by simp only; omega, ⟨by simp only; omega, by simp only; omega⟩, by rw [← hp2]; exact hinv2⟩
              have hK : sumK pre (sa, sl, st) z.length pre2.length = sumL (pre ++ [(sa, sl, st)]) z.length := by rw [show pre2.length = z.length by omega, sumK_n]
              refine Ev.seq ?_
              refine Ev.sr fun K hK => S.o q.mv (S.o q.mv (S.o (q.lens am_el57) (S.o q.lss (S.end (hK _ ?_)))))
              clear hK K
              refine Ev.cd (fun c19 => ?_) (fun c19 => ?_)
              · first
              | (first | omega | contradiction)
              | refine Ev.skip ?_
                show Ev _ _ _ _
                refine Ev.seq ?_
                refine Ev.block ?_
                refine Ev.sr fun K hK => S.o q.mv (S.o q.mv (S.o (q.ix am_el47 am_cl50 (hl := (by first | exact ati hidx (by omega) | exact atig (by omega)))) (S.o (q.fs 1 am_fi50_1 am_cl38) (S.o (q.ls am_ag38) (S.o q.mv (S.o (q.ix am_el38 am_cl3 (hl := (by first | exact ati hidx (by omega) | exact atig (by omega)))) (S.o (q.ls am_ag3) (S.o q.as (S.end (hK _ ?_))))))))))
                clear hK K
                refine Ev.seq ?_
                refine Ev.sr fun K hK => S.o q.mv (S.o q.lss (S.bd q.mv (fun c20 => ?_) (fun c20 => ?_)))
                · first
                | (first | omega | contradiction)
                | refine S.sk (S.sk (S.o q.pt (S.end (hK _ ?_))))
                  clear hK K
                  refine Ev.ct ?_
                  refine Ev.sr fun K hK => S.o q.as (S.end (hK _ ?_))
                  clear hK K
                  refine Ev.ret ?_
                  refine hR2 _ _ ?_
                  refine hR0 _ _ ?_
                  refine Ev.ret1 ?_
                  refine ⟨?_, rfl⟩
                  first | exact bT hyes | exact bF (fun h => by first
                    | (have h1 := h.1 (sa, sl, st) (by rw [← hp]; simp); unfold okPat at h1; simp only at h1; omega)
                    | (have h1 := (h.1 (sa, sl, st) (by rw [← hp]; simp)).2.2 v (by rw [← hp2]; simp); omega)
                    | (have h1 := yields_at h hid3; omega)) | (exfalso; omega)
                · first
                | (first | omega | contradiction)
                | refine S.o q.mv (S.o q.gtr (S.o q.pf (S.end (hK _ ?_))))
                  clear hK K
                  refine Ev.cd (fun c21 => ?_) (fun c21 => ?_)
                  · first
                  | (first | omega | contradiction)
                  | refine Ev.sr fun K hK => S.o q.as (S.end (hK _ ?_))
                    clear hK K
                    refine Ev.ret ?_
                    refine hR2 _ _ ?_
                    refine hR0 _ _ ?_
                    refine Ev.ret1 ?_
                    refine ⟨?_, rfl⟩
                    first | exact bT hyes | exact bF (fun h => by first
                      | (have h1 := h.1 (sa, sl, st) (by rw [← hp]; simp); unfold okPat at h1; simp only at h1; omega)
                      | (have h1 := (h.1 (sa, sl, st) (by rw [← hp]; simp)).2.2 v (by rw [← hp2]; simp); omega)
                      | (have h1 := yields_at h hid3; omega)) | (exfalso; omega)
                  · first
                  | (first | omega | contradiction)
                  | refine Ev.skip ?_
                    show Ev _ _ _ _
                    obtain ⟨hm1, hm2⟩ := mul_bd (k := v) (K := 1000000) (a := st) (A := 1000000) (by omega) (by omega) (by omega) (by omega)
                    refine Ev.region_M (tbs [(0, 0), (0, 0), (0, 0), (0, 0), (4, 12), (5, 28), (0, 0), (0, 0), (0, 0), (9, 384), (10, 896), (11, 1920), (12, 4032), (13, 8188), (14, 16383), (15, 32767)]) 15 fun K hK => M.o q.mv (M.o q.mv (M.o q.mv (M.o q.mv (M.o (q.ia am_el38 am_cl3) (M.o (q.lx am_ag3 (hl := (by first | exact at_ hidx (by omega) | exact at_g (by omega)))) (M.o q.mv (M.o q.mv (M.o q.mv (M.o (q.ix am_el47 am_cl50 (hl := (by first | exact ati hidx (by omega) | exact atig (by omega)))) (M.o (q.fs 2 am_fi50_2 am_cl3) (M.o (q.ls am_ag3) (M.o (q.mul (h1 := by omega) (h2 := by omega)) (M.o q.add (M.o (q.ia am_el38 am_cl3) (M.end [_] (h := S.sx _ [] am_in3 am_cl3 (hl := (by first | exact at_ hidx (by omega) | exact at_g (by omega))) (h := S.end (hK _ ?_))))))))))))))))))
                    clear hK K
                    show Ev _ _ _ _
                    refine Ev.region_S fun K hK => S.o q.mv (S.o q.add (S.o q.as (S.end (hK _ ?_))))
                    clear hK K
                    refine hR2 _ _ ?_
                    refine roundU [0] [0, 1, 6, 13, 14, 15, 16, 19, 20, 21, 22, 23, 24, 25, 26, 27, 28, 29, 30, 31, 32, 33, 34, 35, 36, 37, 38, 39, 40, 41, 42, 43] ⟨(pre2 ++ [v], suf2), by rw [← hp2]; simp, ?_⟩ ?_ (keep_c (he := (by first | rfl | (rw [← sumK_0 pre (sa, sl, st)]; done) | (rw [List.length_append, List.length_singleton]; exact congrArg (List.map intC) (sumK_set pre (sa, sl, st) hidv)))) (h := keep_n)) (slots_c (he := (by first | rfl | (congr 2; simp; done))) (h := (slots_c (he := (by first | rfl | (congr 1; simp [sumL_len, sumK_len]; done))) (h := trivial)))) (.c (.c (.c (.c (.c (.c (.c (.c (.c (.c (.c (.c (.c (.c (.c (.c (.c (.c (.c (.c (.c (.c (.c (.c (.c (.c (.c (.c (.c (.c (.c (.c .n))))))))))))))))))))))))))))))))
                    intro x hx; simp only [List.mem_append, List.mem_singleton] at hx; rcases hx with hx | rfl
                    · exact hinv2 x hx
                    · omega
                    all_goals (dsimp only; simp only [List.length_cons]; omega)
              · first
              | (first | omega | contradiction)
              | refine Ev.exit ?_
                refine hR2 _ _ ?_
                show Ev _ _ _ _
                refine Ev.region_S fun K hK => S.o q.mv (S.o q.add (S.o q.as (S.end (hK _ ?_))))
                clear hK K
                refine hR0 _ _ ?_
                refine roundU [0] [0, 1] ⟨(pre ++ [(sa, sl, st)], suf), by rw [← hp]; simp, ?_⟩ ?_ (keep_c (he := (by first | rfl | (rw [sumL_nil]; done) | (rw [hK]; done))) (h := keep_n)) (slots_c (he := (by first | rfl | (congr 2; simp; done))) (h := (slots_c (he := (by first | rfl | (congr 1; simp [sumL_len, sumK_len]; done))) (h := trivial)))) (.c (.c .n))
                intro x hx; simp only [List.mem_append, List.mem_singleton] at hx; rcases hx with hx | rfl
                · exact hinv x hx
                · exact hokp
                all_goals (dsimp only; simp only [List.length_cons]; omega)
            · simp only [List.length_cons] at hpl2
              have hidv : sl[pre2.length]? = some v := by rw [← hp2]; simp
              have hids : (sumK pre (sa, sl, st) z.length pre2.length)[pre2.length]? = some (sumAt pre pre2.length) := sumK_get _ _ (by omega)
              have hsb := sumAt_bd pre2.length pre hinv
              refine Ev.seq ?_
              refine Ev.sr fun K hK => S.o q.mv (S.o q.mv (S.o (q.lens am_el57) (S.o q.lss (S.end (hK _ ?_)))))
              clear hK K
              refine Ev.cd (fun c22 => ?_) (fun c22 => ?_)
              · first
              | (first | omega | contradiction)
              | refine Ev.skip ?_
                show Ev _ _ _ _
                refine Ev.seq ?_
                refine Ev.block ?_
                refine Ev.sr fun K hK => S.o q.mv (S.o q.mv (S.o (q.ix am_el47 am_cl50 (hl := (by first | exact ati hidx (by omega) | exact ati hidv (by omega) | exact ati hids (by omega) | exact atig (by omega)))) (S.o (q.fs 1 am_fi50_1 am_cl38) (S.o (q.ls am_ag38) (S.o q.mv (S.o (q.ix am_el38 am_cl3 (hl := (by first | exact ati hidx (by omega) | exact ati hidv (by omega) | exact ati hids (by omega) | exact atig (by omega)))) (S.o (q.ls am_ag3) (S.o q.as (S.end (hK _ ?_))))))))))
                clear hK K
                refine Ev.seq ?_
                refine Ev.sr fun K hK => S.o q.mv (S.o q.lss (S.bd q.mv (fun c23 => ?_) (fun c23 => ?_)))
                · first
                | (first | omega | contradiction)
                | refine S.sk (S.sk (S.o q.pt (S.end (hK _ ?_))))
                  clear hK K
                  refine Ev.ct ?_
                  refine Ev.sr fun K hK => S.o q.as (S.end (hK _ ?_))
                  clear hK K
                  refine Ev.ret ?_
                  refine hR2 _ _ ?_
                  refine hR0 _ _ ?_
                  refine Ev.ret1 ?_
                  refine ⟨?_, rfl⟩
                  first | exact bT hyes | exact bF (fun h => by first
                    | (have h1 := h.1 (sa, sl, st) (by rw [← hp]; simp); unfold okPat at h1; simp only at h1; omega)
                    | (have h1 := (h.1 (sa, sl, st) (by rw [← hp]; simp)).2.2 v (by rw [← hp2]; simp); omega)
                    | (have h1 := yields_at h hid3; omega)) | (exfalso; omega)
                · first
                | (first | omega | contradiction)
                | refine S.o q.mv (S.o q.gtr (S.o q.pf (S.end (hK _ ?_))))
                  clear hK K
                  refine Ev.cd (fun c24 => ?_) (fun c24 => ?_)
                  · first
                  | (first | omega | contradiction)
                  | refine Ev.sr fun K hK => S.o q.as (S.end (hK _ ?_))
                    clear hK K
                    refine Ev.ret ?_
                    refine hR2 _ _ ?_
                    refine hR0 _ _ ?_
                    refine Ev.ret1 ?_
                    refine ⟨?_, rfl⟩
                    first | exact bT hyes | exact bF (fun h => by first
                      | (have h1 := h.1 (sa, sl, st) (by rw [← hp]; simp); unfold okPat at h1; simp only at h1; omega)
                      | (have h1 := (h.1 (sa, sl, st) (by rw [← hp]; simp)).2.2 v (by rw [← hp2]; simp); omega)
                      | (have h1 := yields_at h hid3; omega)) | (exfalso; omega)
                  · first
                  | (first | omega | contradiction)
                  | refine Ev.skip ?_
                    show Ev _ _ _ _
                    obtain ⟨hm1, hm2⟩ := mul_bd (k := v) (K := 1000000) (a := st) (A := 1000000) (by omega) (by omega) (by omega) (by omega)
                    refine Ev.region_M (tbs [(0, 0), (0, 0), (0, 0), (0, 0), (4, 12), (5, 28), (0, 0), (0, 0), (0, 0), (9, 384), (10, 896), (11, 1920), (12, 4032), (13, 8188), (14, 16383), (15, 32767)]) 15 fun K hK => M.o q.mv (M.o q.mv (M.o q.mv (M.o q.mv (M.o (q.ia am_el38 am_cl3) (M.o (q.lx am_ag3 (hl := (by first | exact at_ hidx (by omega) | exact at_ hidv (by omega) | exact at_ hids (by omega) | exact at_g (by omega)))) (M.o q.mv (M.o q.mv (M.o q.mv (M.o (q.ix am_el47 am_cl50 (hl := (by first | exact ati hidx (by omega) | exact ati hidv (by omega) | exact ati hids (by omega) | exact atig (by omega)))) (M.o (q.fs 2 am_fi50_2 am_cl3) (M.o (q.ls am_ag3) (M.o (q.mul (h1 := by omega) (h2 := by omega)) (M.o q.add (M.o (q.ia am_el38 am_cl3) (M.end [_] (h := S.sx _ [] am_in3 am_cl3 (hl := (by first | exact at_ hidx (by omega) | exact at_ hidv (by omega) | exact at_ hids (by omega) | exact at_g (by omega))) (h := S.end (hK _ ?_))))))))))))))))))
                    clear hK K
                    show Ev _ _ _ _
                    refine Ev.region_S fun K hK => S.o q.mv (S.o q.add (S.o q.as (S.end (hK _ ?_))))
                    clear hK K
                    refine hR2 _ _ ?_
                    refine roundU [0] [0, 1, 6, 13, 14, 15, 16, 19, 20, 21, 22, 23, 24, 25, 26, 27, 28, 29, 30, 31, 32, 33, 34, 35, 36, 37, 38, 39, 40, 41, 42, 43] ⟨(pre2 ++ [v], suf2), by rw [← hp2]; simp, ?_⟩ ?_ (keep_c (he := (by first | rfl | (rw [← sumK_0 pre (sa, sl, st)]; done) | (rw [List.length_append, List.length_singleton]; exact congrArg (List.map intC) (sumK_set pre (sa, sl, st) hidv)))) (h := keep_n)) (slots_c (he := (by first | rfl | (congr 2; simp; done))) (h := (slots_c (he := (by first | rfl | (congr 1; simp [sumL_len, sumK_len]; done))) (h := trivial)))) (.c (.c (.c (.c (.c (.c (.c (.c (.c (.c (.c (.c (.c (.c (.c (.c (.c (.c (.c (.c (.c (.c (.c (.c (.c (.c (.c (.c (.c (.c (.c (.c .n))))))))))))))))))))))))))))))))
                    intro x hx; simp only [List.mem_append, List.mem_singleton] at hx; rcases hx with hx | rfl
                    · exact hinv2 x hx
                    · omega
                    all_goals (dsimp only; simp only [List.length_cons]; omega)
              · first
              | (first | omega | contradiction)
              | refine Ev.exit ?_
                refine hR2 _ _ ?_
                show Ev _ _ _ _
                refine Ev.region_S fun K hK => S.o q.mv (S.o q.add (S.o q.as (S.end (hK _ ?_))))
                clear hK K
                refine hR0 _ _ ?_
                refine roundU [0] [0, 1] ⟨(pre ++ [(sa, sl, st)], suf), by rw [← hp]; simp, ?_⟩ ?_ (keep_c (he := (by first | rfl | (rw [sumL_nil]; done) | (rw [hK]; done))) (h := keep_n)) (slots_c (he := (by first | rfl | (congr 2; simp; done))) (h := (slots_c (he := (by first | rfl | (congr 1; simp [sumL_len, sumK_len]; done))) (h := trivial)))) (.c (.c .n))
                intro x hx; simp only [List.mem_append, List.mem_singleton] at hx; rcases hx with hx | rfl
                · exact hinv x hx
                · exact hokp
                all_goals (dsimp only; simp only [List.length_cons]; omega)
    · first
    | (first | omega | contradiction)
    | refine Ev.exit ?_
      refine hR0 _ _ ?_
      show Ev _ _ _ _
      refine Ev.seq ?_
      refine Ev.sr fun K hK => S.o q.as (S.end (hK _ ?_))
      clear hK K
      refine Ev.block ?_
      refine Ev.loopU (ι := {q1 : List (Int × Int) × List (Int × Int) // q1.1 ++ q1.2 = z ∧ ∀ i y, q1.1[i]? = some y → sumAt p i = y.2}) [0] [0, 1, 6, 13, 14, 15, 16] (fun ⟨(pre3, suf3), _⟩ => [(9, .lit (.int .i64 ((pre3.length : Int)))), (5, .als 0 0 (sumL p z.length).length)]) (fun ⟨(pre3, suf3), _⟩ => [(0, ⟨true, 3, 1, (sumL p z.length).map intC, true⟩)]) (fun ⟨(pre3, suf3), _⟩ => suf3.length) ⟨([], z), rfl, fun i y h => by simp at h⟩ (.c (.c (.c (.c (.c (.c (.c .n))))))) (keep_c (he := (by first | rfl | (simp; done))) (h := keep_n)) (slots_c (he := (by first | rfl | (congr 2; simp; done))) (h := (slots_c (he := rfl) (h := trivial)))) ?_
      rintro ⟨⟨pre3, suf3⟩, hp3, hinv3⟩ R4 hR4
      dsimp only [List.cons_append, List.nil_append, List.length_cons, List.length_nil]
      simp only at hp3 hinv3
      have hpl3 : pre3.length + suf3.length = z.length := by rw [← hp3, List.length_append]
      rcases suf3 with _ | ⟨s, suf3⟩
      · rw [List.append_nil] at hp3; simp only [List.length_nil] at hpl3
        have hyes : yieldsP z p := yields_all hinv (by rw [← hp3]; exact hinv3)
        refine Ev.seq ?_
        refine Ev.sr fun K hK => S.o q.mv (S.o q.mv (S.o (q.lens am_el57) (S.o q.lss (S.end (hK _ ?_)))))
        clear hK K
        refine Ev.cd (fun c25 => ?_) (fun c25 => ?_)
        · first
        | (first | omega | contradiction)
        | refine Ev.skip ?_
          show Ev _ _ _ _
          refine Ev.seq ?_
          refine Ev.block ?_
          refine Ev.sm (tbs [(0, 0), (0, 0), (2, 3), (3, 7), (0, 0), (0, 0), (6, 48), (7, 112), (8, 240), (9, 511)]) 10 fun K hK => M.o q.mv (M.o q.mv (M.o (q.ia am_el38 am_cl3) (M.o (q.lx am_ag3 (hl := (by first | exact at_ hidx (by omega) | exact at_g (by omega)))) (M.o q.mv (M.o q.mv (M.o (q.ix am_el57 am_cl63 (hl := (by first | exact ati hidx (by omega) | exact atig (by omega)))) (M.o (q.fs 1 am_fi63_1 am_cl3) (M.o (q.ls am_ag3) (M.o q.neq (M.end [_] (h := S.end (hK _ ?_))))))))))))
          clear hK K
          refine Ev.cn (fun c26 => ?_) (fun c26 => ?_)
          · first
          | (first | omega | contradiction)
          | refine Ev.sr fun K hK => S.o q.as (S.end (hK _ ?_))
            clear hK K
            refine Ev.ret ?_
            refine hR4 _ _ ?_
            refine Ev.ret1 ?_
            refine ⟨?_, rfl⟩
            first | exact bT hyes | exact bF (fun h => by first
              | (have h1 := h.1 (sa, sl, st) (by rw [← hp]; simp); unfold okPat at h1; simp only at h1; omega)
              | (have h1 := (h.1 (sa, sl, st) (by rw [← hp]; simp)).2.2 v (by rw [← hp2]; simp); omega)
              | (have h1 := yields_at h hid3; omega)) | (exfalso; omega)
          · first
          | (first | omega | contradiction)
          | refine Ev.skip ?_
            show Ev _ _ _ _
            refine Ev.region_S fun K hK => S.o q.mv (S.o q.add (S.o q.as (S.end (hK _ ?_))))
            clear hK K
            refine hR4 _ _ ?_
            refine roundU [0] [0, 1, 6, 13, 14, 15, 16] ⟨(pre3 ++ [s], suf3), by rw [← hp3]; simp, ?_⟩ ?_ (keep_c (he := (by first | rfl | (simp; done))) (h := keep_n)) (slots_c (he := (by first | rfl | (congr 2; simp; done))) (h := (slots_c (he := rfl) (h := trivial)))) (.c (.c (.c (.c (.c (.c (.c .n)))))))
            exact eqs_snoc hinv3 (by omega)
            all_goals (dsimp only; simp only [List.length_cons]; omega)
        · first
        | (first | omega | contradiction)
        | refine Ev.exit ?_
          refine hR4 _ _ ?_
          show Ev _ _ _ _
          refine Ev.sr fun K hK => S.o q.as (S.end (hK _ ?_))
          clear hK K
          refine Ev.ret ?_
          refine Ev.ret1 ?_
          refine ⟨?_, rfl⟩
          first | exact bT hyes | exact bF (fun h => by first
            | (have h1 := h.1 (sa, sl, st) (by rw [← hp]; simp); unfold okPat at h1; simp only at h1; omega)
            | (have h1 := (h.1 (sa, sl, st) (by rw [← hp]; simp)).2.2 v (by rw [← hp2]; simp); omega)
            | (have h1 := yields_at h hid3; omega)) | (exfalso; omega)
      · simp only [List.length_cons] at hpl3
        have hid3 : z[pre3.length]? = some s := by rw [← hp3]; simp
        have hids : (sumL p z.length)[pre3.length]? = some (sumAt p pre3.length) := sumL_get _ (by omega)
        refine Ev.seq ?_
        refine Ev.sr fun K hK => S.o q.mv (S.o q.mv (S.o (q.lens am_el57) (S.o q.lss (S.end (hK _ ?_)))))
        clear hK K
        refine Ev.cd (fun c27 => ?_) (fun c27 => ?_)
        · first
        | (first | omega | contradiction)
        | refine Ev.skip ?_
          show Ev _ _ _ _
          refine Ev.seq ?_
          refine Ev.block ?_
          refine Ev.sm (tbs [(0, 0), (0, 0), (2, 3), (3, 7), (0, 0), (0, 0), (6, 48), (7, 112), (8, 240), (9, 511)]) 10 fun K hK => M.o q.mv (M.o q.mv (M.o (q.ia am_el38 am_cl3) (M.o (q.lx am_ag3 (hl := (by first | exact at_ hidx (by omega) | exact at_ hid3 (by omega) | exact at_ hids (by omega) | exact at_g (by omega)))) (M.o q.mv (M.o q.mv (M.o (q.ix am_el57 am_cl63 (hl := (by first | exact ati hidx (by omega) | exact ati hid3 (by omega) | exact ati hids (by omega) | exact atig (by omega)))) (M.o (q.fs 1 am_fi63_1 am_cl3) (M.o (q.ls am_ag3) (M.o q.neq (M.end [_] (h := S.end (hK _ ?_))))))))))))
          clear hK K
          refine Ev.cn (fun c28 => ?_) (fun c28 => ?_)
          · first
          | (first | omega | contradiction)
          | refine Ev.sr fun K hK => S.o q.as (S.end (hK _ ?_))
            clear hK K
            refine Ev.ret ?_
            refine hR4 _ _ ?_
            refine Ev.ret1 ?_
            refine ⟨?_, rfl⟩
            first | exact bT hyes | exact bF (fun h => by first
              | (have h1 := h.1 (sa, sl, st) (by rw [← hp]; simp); unfold okPat at h1; simp only at h1; omega)
              | (have h1 := (h.1 (sa, sl, st) (by rw [← hp]; simp)).2.2 v (by rw [← hp2]; simp); omega)
              | (have h1 := yields_at h hid3; omega)) | (exfalso; omega)
          · first
          | (first | omega | contradiction)
          | refine Ev.skip ?_
            show Ev _ _ _ _
            refine Ev.region_S fun K hK => S.o q.mv (S.o q.add (S.o q.as (S.end (hK _ ?_))))
            clear hK K
            refine hR4 _ _ ?_
            refine roundU [0] [0, 1, 6, 13, 14, 15, 16] ⟨(pre3 ++ [s], suf3), by rw [← hp3]; simp, ?_⟩ ?_ (keep_c (he := (by first | rfl | (simp; done))) (h := keep_n)) (slots_c (he := (by first | rfl | (congr 2; simp; done))) (h := (slots_c (he := rfl) (h := trivial)))) (.c (.c (.c (.c (.c (.c (.c .n)))))))
            exact eqs_snoc hinv3 (by omega)
            all_goals (dsimp only; simp only [List.length_cons]; omega)
        · first
        | (first | omega | contradiction)
        | refine Ev.exit ?_
          refine hR4 _ _ ?_
          show Ev _ _ _ _
          refine Ev.sr fun K hK => S.o q.as (S.end (hK _ ?_))
          clear hK K
          refine Ev.ret ?_
          refine Ev.ret1 ?_
          refine ⟨?_, rfl⟩
          first | exact bT hyes | exact bF (fun h => by first
            | (have h1 := h.1 (sa, sl, st) (by rw [← hp]; simp); unfold okPat at h1; simp only at h1; omega)
            | (have h1 := (h.1 (sa, sl, st) (by rw [← hp]; simp)).2.2 v (by rw [← hp2]; simp); omega)
            | (have h1 := yields_at h hid3; omega)) | (exfalso; omega)

theorem rOrdered_fun (l : List Bar) (p : List Pat) (d : Int) (hlen : l.length ≤ 140737488355328) (hw : schedW l) (hpl0 : p.length ≤ 140737488355328) (hpw : patW p) :
    Fun Try.prog 25 [.sh 5 (l.map Bar.c), .sh 3 (p.map patC), .lit (.int .i64 d)] (Ret (.tup [.lit (.bool (ordV l p d)), .lit (.int .i64 (ordE l p d))]) []) := by
  refine Fun.of (nt := 22) (rs := [.tmp 6, .tmp 7]) Try.func25 rfl rfl rfl rfl rfl ?_
  refine Ev.sr fun K hK => S.o q.as (S.o q.as (S.end (hK _ ?_)))
  clear hK K
  refine Ev.seq ?_
  refine Ev.sr fun K hK => S.o q.mv (S.c0 (hF := rschedValid_fun _ (by omega) (by assumption)) (h := S.o q.not (S.end (hK _ ?_))))
  clear hK K
  refine Ev.cn (fun c1 => ?_) (fun c1 => ?_)
  · first
  | (first | omega | contradiction)
  | refine Ev.sr fun K hK => S.o q.as (S.o q.as (S.end (hK _ ?_)))
    clear hK K
    refine Ev.ret ?_
    refine Ev.ret2 ?_
    refine ⟨?_, rfl⟩
    first
     | (have hE : pcE l d = 1 := if_neg ‹_›; rw [(ord_bad (by omega)).1, (ord_bad (by omega)).2, hE]; done)
     | (have hE : pcE l d = 11 := (if_pos ‹_›).trans (if_neg ‹_›); rw [(ord_bad (by omega)).1, (ord_bad (by omega)).2, hE]; done)
     | (have hE : pcE l d = 0 := (if_pos ‹_›).trans (if_pos ‹_›); rw [(ord_full hE ‹_›).1, (ord_full hE ‹_›).2]; done)
     | (rw [hE0, hV]; done)
     | (exfalso; omega)
  · first
  | (first | omega | contradiction)
  | refine Ev.skip ?_
    show Ev _ _ _ _
    refine Ev.seq ?_
    refine Ev.sr fun K hK => S.o q.mv (S.c0 (hF := rsize_fun _) (h := S.o q.not (S.end (hK _ ?_))))
    clear hK K
    refine Ev.cn (fun c2 => ?_) (fun c2 => ?_)
    · first
    | (first | omega | contradiction)
    | refine Ev.sr fun K hK => S.o q.as (S.o q.as (S.end (hK _ ?_)))
      clear hK K
      refine Ev.ret ?_
      refine Ev.ret2 ?_
      refine ⟨?_, rfl⟩
      first
       | (have hE : pcE l d = 1 := if_neg ‹_›; rw [(ord_bad (by omega)).1, (ord_bad (by omega)).2, hE]; done)
       | (have hE : pcE l d = 11 := (if_pos ‹_›).trans (if_neg ‹_›); rw [(ord_bad (by omega)).1, (ord_bad (by omega)).2, hE]; done)
       | (have hE : pcE l d = 0 := (if_pos ‹_›).trans (if_pos ‹_›); rw [(ord_full hE ‹_›).1, (ord_full hE ‹_›).2]; done)
       | (rw [hE0, hV]; done)
       | (exfalso; omega)
    · first
    | (first | omega | contradiction)
    | refine Ev.skip ?_
      show Ev _ _ _ _
      refine Ev.seq ?_
      refine Ev.sr fun K hK => S.o q.mv (S.o (q.lens am_el47) (S.o q.gtr (S.end (hK _ ?_))))
      clear hK K
      refine Ev.cd (fun c3 => ?_) (fun c3 => ?_)
      · first
      | (first | omega | contradiction)
      | refine Ev.sr fun K hK => S.o q.as (S.o q.as (S.end (hK _ ?_)))
        clear hK K
        refine Ev.ret ?_
        refine Ev.ret2 ?_
        refine ⟨?_, rfl⟩
        first
         | (have hE : pcE l d = 1 := if_neg ‹_›; rw [(ord_bad (by omega)).1, (ord_bad (by omega)).2, hE]; done)
         | (have hE : pcE l d = 11 := (if_pos ‹_›).trans (if_neg ‹_›); rw [(ord_bad (by omega)).1, (ord_bad (by omega)).2, hE]; done)
         | (have hE : pcE l d = 0 := (if_pos ‹_›).trans (if_pos ‹_›); rw [(ord_full hE ‹_›).1, (ord_full hE ‹_›).2]; done)
         | (rw [hE0, hV]; done)
         | (exfalso; omega)
      · first
      | (first | omega | contradiction)
      | refine Ev.skip ?_
        show Ev _ _ _ _
        have hok : okSched l := ‹_›
        have hsz : d ∈ sizes := ‹_›
        have hE : pcE l d = 0 := (if_pos hok).trans (if_pos hsz)
        have hq : pcV l d = pcP l d := if_pos ⟨hok, hsz⟩
        obtain ⟨hE0, hV⟩ := ord_good hq hE ‹_›
        have hql : (pcP l d).length ≤ 60 := hq ▸ pcV_len l d
        refine Ev.sr fun K hK => S.o q.mv (S.o q.mv (S.c0 (hF := rpieces_fun _ _ (by assumption)) (h := S.o q.mv (S.c0 (hF := rYields_fun (pcP l d) p hql (by omega) hpw) (h := S.o q.as (S.o q.as (S.end (hK _ ?_))))))))
        clear hK K
        refine Ev.ret ?_
        refine Ev.ret2 ?_
        refine ⟨?_, rfl⟩
        first
         | (have hE : pcE l d = 1 := if_neg ‹_›; rw [(ord_bad (by omega)).1, (ord_bad (by omega)).2, hE]; done)
         | (have hE : pcE l d = 11 := (if_pos ‹_›).trans (if_neg ‹_›); rw [(ord_bad (by omega)).1, (ord_bad (by omega)).2, hE]; done)
         | (have hE : pcE l d = 0 := (if_pos ‹_›).trans (if_pos ‹_›); rw [(ord_full hE ‹_›).1, (ord_full hE ‹_›).2]; done)
         | (rw [hE0, hV]; done)
         | (exfalso; omega)
end Go.Proofs.Ytappnbebcjmlbaa
