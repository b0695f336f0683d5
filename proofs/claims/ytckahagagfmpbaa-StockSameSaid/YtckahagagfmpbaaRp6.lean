/-
  The law StockSame, walked.
  Conditions: none.
-/
import Derived.Test.YtckahagagfmpbaaRp5
import Derived.Shelf.Lay
import Derived.Ground.NamesProg
namespace Go.Proofs.Ytckahagagfmpbaa
open Go Go.AM
set_option linter.unusedSimpArgs false
set_option linter.unusedVariables false
set_option maxRecDepth 100000
set_option maxHeartbeats 1000000

open Go.Shelf in
shelf_lay Lays.n189 Nm 189 at Try as lays189
open Go.Shelf in
shelf_lay Lays.n112 Nm 112 at Try as lays112
theorem sortI2 (l : List Int) (n : Nat) (hn : n = l.length) (hl : l.length ≤ 1000000) : FunR Try.prog 35 [.als 0 0 n] [(0, ⟨true, 3, 1, l.map intC, true⟩)] 1 (Ret (.tup []) [(0, ⟨true, 3, 1, (l.mergeSort fun x y => decide (x ≤ y)).map intC, true⟩)]) := by
  subst hn
  exact (sortI_R lays189 ⟨_, Try.func35, rfl, rfl⟩ l hl).mono fun v objs ⟨l', h, h1, h2⟩ => by subst h; exact ⟨h1, h2⟩
theorem reverseI2 (l : List Int) (n : Nat) (hn : n = l.length) (hl : l.length ≤ 1000000) : FunR Try.prog 36 [.als 0 0 n] [(0, ⟨true, 3, 1, l.map intC, true⟩)] 1 (Ret (.tup []) [(0, ⟨true, 3, 1, l.reverse.map intC, true⟩)]) := by
  subst hn
  exact (reverseI_R lays112 ⟨_, Try.func36, rfl, rfl⟩ l hl).mono fun v objs ⟨l', h, h1, h2⟩ => by subst h; exact ⟨h1, h2⟩
theorem same_list {l : List (Int × Int)} (h : sE l = 0) : lsE (sV l) = lsE l ∧ ((lsV l).mergeSort fun x y => decide (x ≤ y)).reverse = lsV (sV l) := by
  obtain ⟨h1, h2, h3, h4, h5, h6⟩ := s_ok h
  have hn := skP_num h1.2
  rw [h3]
  unfold lsE lsV
  rw [if_pos h4, if_pos h1, if_pos h4, if_pos h1, hn]
  refine ⟨rfl, ?_⟩
  split
  · exact sorted_list h1.2 h2
  · simp
theorem same_tot {l : List (Int × Int)} (h : sE l = 0) : tlE l = 0 ∧ tlE (sV l) = 0 ∧ tlV (sV l) = tlV l := by
  obtain ⟨h1, h2, h3, h4, h5, h6⟩ := s_ok h
  rw [h3, (tl_ok h1).1, (tl_ok h1).2, (tl_ok h4).1, (tl_ok h4).2, skP_tot h1.2]
  exact ⟨rfl, rfl, rfl⟩
theorem same_at {l : List (Int × Int)} (h : sE l = 0) {i : Nat} (h0 : 1 ≤ i) {x y : Int × Int} (hx : (sV l)[i]? = some x) (hy : (sV l)[i - 1]? = some y) : x.1 < y.1 := by
  obtain ⟨h1, h2, h3, h4, h5, h6⟩ := s_ok h
  rw [h3] at hx hy
  obtain ⟨a, e1⟩ := List.getElem?_eq_some_iff.1 hx
  obtain ⟨b, e2⟩ := List.getElem?_eq_some_iff.1 hy
  have := List.pairwise_iff_getElem.1 (skP_sorted l) (i - 1) i b a (by omega)
  rw [e1, e2] at this
  exact this
theorem same_law (l : List (Int × Int)) (hl : l.length ≤ 140737488355328) : Fun Try.prog 8 [.sh 2 (l.map pairC)] (Ret (.lit (.bool true)) []) := by
  have hsl := sV_len l
  have hsl2 := sV_len (sV l)
  have hll := lsV_len l
  have hlm : ((lsV l).mergeSort fun x y => decide (x ≤ y)).length = (lsV l).length := List.length_mergeSort _
  refine Fun.of (nt := 113) (rs := [.tmp 2]) Try.func8 rfl rfl rfl rfl rfl ?_
  refine Ev.sr fun K hK => S.o q.as (S.end (hK _ ?_))
  clear hK K
  refine Ev.seq ?_
  refine Ev.sr fun K hK => S.c0 (hF := awake_fun) (h := S.o q.nott (S.end (hK _ ?_)))
  clear hK K
  refine Ev.cf ?_
  refine Ev.skip ?_
  show Ev _ _ _ _
  refine Ev.seq ?_
  refine Ev.sr fun K hK => S.o q.mv (S.nn (q.bs [[_]] true am_el59 am_ze23 am_cl23) (S.c0 (hF := few_fun [l] (by simp) (fun x hx => by simp only [List.mem_cons, List.not_mem_nil, or_false] at hx; first | (rcases hx with rfl | rfl <;> assumption) | (subst hx; assumption))) (h := S.o q.not (S.end (hK _ ?_)))))
  clear hK K
  refine Ev.cn (fun c1 => ?_) (fun c1 => ?_)
  · first
  | (first | omega | contradiction)
  | refine Ev.sr fun K hK => S.o q.as (S.end (hK _ ?_))
    clear hK K
    refine Ev.ret ?_
    refine Ev.ret1 ?_
    refine ⟨?_, rfl⟩
    first | rfl | exact lawT rfl | exact lawT (by omega) | exact lawT (by assumption) | (exfalso; omega) | contradiction | (exfalso; simp_all; done) | (exfalso; simp at *; done)
  · first
  | (first | omega | contradiction)
  | refine Ev.skip ?_
    show Ev _ _ _ _
    have hfl : l.length ≤ 220 := (‹∀ x ∈ [l], x.length ≤ 220› : ∀ x ∈ [l], x.length ≤ 220) l (by simp)
    refine Ev.sr fun K hK => S.o q.mv (S.c0 (hF := sShort_fun _ (by omega)) (h := S.o q.mv (S.o q.ex (S.o q.ex (S.o q.as (S.o q.as (S.end (hK _ ?_))))))))
    clear hK K
    refine Ev.seq ?_
    refine Ev.sr fun K hK => S.o q.mv (S.o q.neq (S.end (hK _ ?_)))
    clear hK K
    refine Ev.cn (fun c2 => ?_) (fun c2 => ?_)
    · first
    | (first | omega | contradiction)
    | have e1 := s_ne ‹¬ sE l = 0›
      refine Ev.sr fun K hK => S.o q.mv (S.o (q.lens am_el23) (S.o q.eql (S.o q.as (S.end (hK _ ?_)))))
      clear hK K
      refine Ev.ret ?_
      refine Ev.ret1 ?_
      refine ⟨?_, rfl⟩
      first | rfl | exact lawT rfl | exact lawT (by omega) | exact lawT (by assumption) | (exfalso; omega) | contradiction | (exfalso; simp_all; done) | (exfalso; simp at *; done)
    · first
    | (first | omega | contradiction)
    | refine Ev.skip ?_
      show Ev _ _ _ _
      have he : sE l = 0 := by omega
      obtain ⟨h1, h2, h3, h4, h5, h6⟩ := s_ok he
      have hss : sV (sV l) = sV l := by rw [h3]; exact h5
      have hse : sE (sV l) = 0 := by rw [h3]; exact h6
      obtain ⟨t1, t2, t3⟩ := same_tot he
      obtain ⟨u1, u2⟩ := same_list he
      have hlsl := lsV_len (sV l)
      have hss2 : sV l = sV (sV l) := hss.symm
      refine Ev.sr fun K hK => S.o q.mv (S.c0 (hF := sShort_fun _ (by omega)) (h := S.o q.mv (S.o q.ex (S.o q.ex (S.o q.as (S.o q.as (S.end (hK _ ?_))))))))
      clear hK K
      refine Ev.sr fun K hK => S.o q.mv (S.c0 (hF := stTotal_fun _ (by omega)) (h := S.o q.mv (S.o q.ex (S.o q.ex (S.o q.as (S.o q.as (S.end (hK _ ?_))))))))
      clear hK K
      refine Ev.sr fun K hK => S.o q.mv (S.c0 (hF := stTotal_fun _ (by omega)) (h := S.o q.mv (S.o q.ex (S.o q.ex (S.o q.as (S.o q.as (S.end (hK _ ?_))))))))
      clear hK K
      refine Ev.seq ?_
      refine Ev.sr fun K hK => S.o q.mv (S.o q.neq (S.bn q.mv (fun c3 => ?_) (fun c3 => ?_)))
      · first
      | (first | omega | contradiction)
      | refine S.sk (S.sk (S.sk (S.sk (S.o q.pt (S.o q.mv (S.sk (S.sk (S.o q.pt (S.o q.mv (S.sk (S.sk (S.o q.pt (S.o q.mv (S.sk (S.sk (S.sk (S.o q.pt (S.o q.mv (S.sk (S.sk (S.sk (S.sk (S.sk (S.o q.pt (S.end (hK _ ?_))))))))))))))))))))))))))
        clear hK K
        refine Ev.ct ?_
        refine Ev.sr fun K hK => S.o q.as (S.end (hK _ ?_))
        clear hK K
        refine Ev.ret ?_
        refine Ev.ret1 ?_
        refine ⟨?_, rfl⟩
        first | rfl | exact lawT rfl | exact lawT (by omega) | exact lawT (by assumption) | (exfalso; omega) | contradiction | (exfalso; simp_all; done) | (exfalso; simp at *; done)
      · first
      | (first | omega | contradiction)
      | refine S.o q.mv (S.o q.mv (S.c0 (hF := eqPc_fun _ _ (by omega) (by omega)) (h := S.o q.not (S.o q.pf (S.bn q.mv (fun c4 => ?_) (fun c4 => ?_))))))
        · first
        | (first | omega | contradiction)
        | refine S.sk (S.sk (S.o q.pt (S.o q.mv (S.sk (S.sk (S.o q.pt (S.o q.mv (S.sk (S.sk (S.sk (S.o q.pt (S.o q.mv (S.sk (S.sk (S.sk (S.sk (S.sk (S.o q.pt (S.end (hK _ ?_))))))))))))))))))))
          clear hK K
          refine Ev.ct ?_
          refine Ev.sr fun K hK => S.o q.as (S.end (hK _ ?_))
          clear hK K
          refine Ev.ret ?_
          refine Ev.ret1 ?_
          refine ⟨?_, rfl⟩
          first | rfl | exact lawT rfl | exact lawT (by omega) | exact lawT (by assumption) | (exfalso; omega) | contradiction | (exfalso; simp_all; done) | (exfalso; simp at *; done)
        · first
        | (first | omega | contradiction)
        | refine S.o q.mv (S.o q.neq (S.o q.pf (S.bn q.mv (fun c5 => ?_) (fun c5 => ?_))))
          · first
          | (first | omega | contradiction)
          | refine S.sk (S.sk (S.o q.pt (S.o q.mv (S.sk (S.sk (S.sk (S.o q.pt (S.o q.mv (S.sk (S.sk (S.sk (S.sk (S.sk (S.o q.pt (S.end (hK _ ?_))))))))))))))))
            clear hK K
            refine Ev.ct ?_
            refine Ev.sr fun K hK => S.o q.as (S.end (hK _ ?_))
            clear hK K
            refine Ev.ret ?_
            refine Ev.ret1 ?_
            refine ⟨?_, rfl⟩
            first | rfl | exact lawT rfl | exact lawT (by omega) | exact lawT (by assumption) | (exfalso; omega) | contradiction | (exfalso; simp_all; done) | (exfalso; simp at *; done)
          · first
          | (first | omega | contradiction)
          | refine S.o q.mv (S.o q.neq (S.o q.pf (S.bn q.mv (fun c6 => ?_) (fun c6 => ?_))))
            · first
            | (first | omega | contradiction)
            | refine S.sk (S.sk (S.sk (S.o q.pt (S.o q.mv (S.sk (S.sk (S.sk (S.sk (S.sk (S.o q.pt (S.end (hK _ ?_))))))))))))
              clear hK K
              refine Ev.ct ?_
              refine Ev.sr fun K hK => S.o q.as (S.end (hK _ ?_))
              clear hK K
              refine Ev.ret ?_
              refine Ev.ret1 ?_
              refine ⟨?_, rfl⟩
              first | rfl | exact lawT rfl | exact lawT (by omega) | exact lawT (by assumption) | (exfalso; omega) | contradiction | (exfalso; simp_all; done) | (exfalso; simp at *; done)
            · first
            | (first | omega | contradiction)
            | refine S.o q.mv (S.o q.mv (S.o q.neq (S.o q.pf (S.bn q.mv (fun c7 => ?_) (fun c7 => ?_)))))
              · first
              | (first | omega | contradiction)
              | refine S.sk (S.sk (S.sk (S.sk (S.sk (S.o q.pt (S.end (hK _ ?_)))))))
                clear hK K
                refine Ev.ct ?_
                refine Ev.sr fun K hK => S.o q.as (S.end (hK _ ?_))
                clear hK K
                refine Ev.ret ?_
                refine Ev.ret1 ?_
                refine ⟨?_, rfl⟩
                first | rfl | exact lawT rfl | exact lawT (by omega) | exact lawT (by assumption) | (exfalso; omega) | contradiction | (exfalso; simp_all; done) | (exfalso; simp at *; done)
              · first
              | (first | omega | contradiction)
              | refine S.o q.mv (S.o (q.lens am_el23) (S.o q.mv (S.o (q.lens am_el23) (S.o q.gtr (S.o q.pf (S.end (hK _ ?_)))))))
                clear hK K
                refine Ev.cd (fun c8 => ?_) (fun c8 => ?_)
                · first
                | (first | omega | contradiction)
                | refine Ev.sr fun K hK => S.o q.as (S.end (hK _ ?_))
                  clear hK K
                  refine Ev.ret ?_
                  refine Ev.ret1 ?_
                  refine ⟨?_, rfl⟩
                  first | rfl | exact lawT rfl | exact lawT (by omega) | exact lawT (by assumption) | (exfalso; omega) | contradiction | (exfalso; simp_all; done) | (exfalso; simp at *; done)
                · first
                | (first | omega | contradiction)
                | refine Ev.skip ?_
                  show Ev _ _ _ _
                  refine Ev.seq ?_
                  refine Ev.sr fun K hK => S.o q.as (S.end (hK _ ?_))
                  clear hK K
                  refine Ev.block ?_
                  refine Ev.loopU (ι := {i : Nat // 1 ≤ i}) [] [0, 3] (fun ⟨i, _⟩ => [(11, .lit (.int .i64 ((i : Int))))]) (fun ⟨i, _⟩ => []) (fun ⟨i, _⟩ => (sV l).length - i) ⟨1, by decide⟩ (.c (.c .n)) keep_n (slots_c (he := (by first | rfl | (simp; done) | (congr 2; omega))) (h := trivial)) ?_
                  rintro ⟨i, hi⟩ R0 hR0
                  dsimp only [List.cons_append, List.nil_append, List.length_cons, List.length_nil]
                  by_cases hlt : i < (sV l).length
                  rotate_left
                  · skip
                    refine Ev.seq ?_
                    refine Ev.sr fun K hK => S.o q.mv (S.o q.mv (S.o (q.lens am_el23) (S.o q.lss (S.end (hK _ ?_)))))
                    clear hK K
                    refine Ev.cd (fun c9 => ?_) (fun c9 => ?_)
                    · first | omega | contradiction
                    · first
                    | (first | omega | contradiction)
                    | refine Ev.exit ?_
                      refine hR0 _ _ ?_
                      show Ev _ _ _ _
                      refine Ev.sr fun K hK => S.o q.mv (S.c1t (hF := stListO_fun l (by omega)) (h := S.o q.mv (S.o q.ex (S.o q.ex (S.o q.as (S.o q.as (S.end (hK _ ?_))))))))
                      clear hK K
                      refine Ev.sr fun K hK => S.o q.mv (S.c0 (hF := stList_fun _ (by omega)) (h := S.o q.mv (S.o q.ex (S.o q.ex (S.o q.as (S.o q.as (S.end (hK _ ?_))))))))
                      clear hK K
                      refine Ev.seq ?_
                      refine Ev.sr fun K hK => S.o q.mv (S.o q.mv (S.o q.neq (S.end (hK _ ?_))))
                      clear hK K
                      refine Ev.cn (fun c10 => ?_) (fun c10 => ?_)
                      · first
                      | (first | omega | contradiction)
                      | refine Ev.sr fun K hK => S.o q.as (S.end (hK _ ?_))
                        clear hK K
                        refine Ev.ret ?_
                        refine Ev.ret1 ?_
                        refine ⟨?_, rfl⟩
                        first | rfl | exact lawT rfl | exact lawT (by omega) | exact lawT (by assumption) | (exfalso; omega) | contradiction | (exfalso; simp_all; done) | (exfalso; simp at *; done)
                      · first
                      | (first | omega | contradiction)
                      | refine Ev.skip ?_
                        show Ev _ _ _ _
                        refine Ev.sr fun K hK => S.o q.mv (S.cR [0] _ [_] (hob := (keep_c (he := rfl) (h := keep_n))) (hF := sortI2 (lsV l) _ rfl (by omega)) (hn' := below1 (by decide)) (h := S.end (hK _ ?_)))
                        clear hK K
                        refine Ev.sr fun K hK => S.o q.mv (S.cR [0] _ [_] (hob := (keep_c (he := rfl) (h := keep_n))) (hF := reverseI2 _ _ hlm.symm (by omega)) (hn' := below1 (by decide)) (h := S.end (hK _ ?_)))
                        clear hK K
                        refine Ev.weaken (Wk.frz 12 []) ?_
                        rw [u2]
                        refine Ev.sr fun K hK => S.o q.mv (S.o q.mv (S.c0 (hF := eqInts_fun _ _ (by omega) (by omega)) (h := S.o q.as (S.end (hK _ ?_)))))
                        clear hK K
                        refine Ev.ret ?_
                        refine Ev.ret1 ?_
                        refine ⟨?_, rfl⟩
                        first | rfl | exact lawT rfl | exact lawT (by omega) | exact lawT (by assumption) | (exfalso; omega) | contradiction | (exfalso; simp_all; done) | (exfalso; simp at *; done)
                  · obtain ⟨x, hidx⟩ : ∃ x, (sV l)[i]? = some x := ⟨_, List.getElem?_eq_getElem hlt⟩
                    obtain ⟨y, hidy⟩ : ∃ y, (sV l)[i - 1]? = some y := ⟨_, List.getElem?_eq_getElem (by omega)⟩
                    have hxy := same_at he hi hidx hidy
                    obtain ⟨x1, x2⟩ := x
                    obtain ⟨y1, y2⟩ := y
                    simp only at hxy
                    refine Ev.seq ?_
                    refine Ev.sr fun K hK => S.o q.mv (S.o q.mv (S.o (q.lens am_el23) (S.o q.lss (S.end (hK _ ?_)))))
                    clear hK K
                    refine Ev.cd (fun c11 => ?_) (fun c11 => ?_)
                    · first
                    | (first | omega | contradiction)
                    | refine Ev.skip ?_
                      show Ev _ _ _ _
                      refine Ev.seq ?_
                      refine Ev.block ?_
                      refine Ev.sm (tbs [(0, 0), (0, 0), (2, 3), (3, 7), (4, 15), (0, 0), (0, 0), (7, 64), (8, 224), (9, 480), (10, 992), (11, 2047)]) 12 fun K hK => M.o q.mv (M.o q.mv (M.o (q.ix am_el23 am_cl40 (hl := (by first | exact ati hidx (by omega) | exact ati hidy (by omega) | exact atig (by omega)))) (M.o (q.fs 0 am_fi40_0 am_cl3) (M.o (q.ls am_ag3) (M.o q.mv (M.o q.mv (M.o q.sub (M.o (q.ix am_el23 am_cl40 (hl := (by first | exact ati hidx (by omega) | exact ati hidy (by omega) | exact atig (by omega)))) (M.o (q.fs 0 am_fi40_0 am_cl3) (M.o (q.ls am_ag3) (M.o q.geq (M.end [] (h := S.end (hK _ ?_))))))))))))))
                      clear hK K
                      refine Ev.cd (fun c12 => ?_) (fun c12 => ?_)
                      · first
                      | (first | omega | contradiction)
                      | refine Ev.sr fun K hK => S.o q.as (S.end (hK _ ?_))
                        clear hK K
                        refine Ev.ret ?_
                        refine hR0 _ _ ?_
                        refine Ev.ret1 ?_
                        refine ⟨?_, rfl⟩
                        first | rfl | exact lawT rfl | exact lawT (by omega) | exact lawT (by assumption) | (exfalso; omega) | contradiction | (exfalso; simp_all; done) | (exfalso; simp at *; done)
                      · first
                      | (first | omega | contradiction)
                      | refine Ev.skip ?_
                        show Ev _ _ _ _
                        refine Ev.region_S fun K hK => S.o q.mv (S.o q.add (S.o q.as (S.end (hK _ ?_))))
                        clear hK K
                        refine hR0 _ _ ?_
                        refine roundU [] [0, 3] ⟨i + 1, by omega⟩ ?_ keep_n (slots_c (he := (by first | rfl | (simp; done) | (congr 2; omega))) (h := trivial)) (.c (.c .n))
                        skip
                        all_goals (dsimp only; omega)
                    · first | omega | contradiction
end Go.Proofs.Ytckahagagfmpbaa
