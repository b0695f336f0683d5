/-
  The law CurtailMore, walked.
  Conditions: none.
-/
import Derived.Test.YtigjoaejncfmdaaAd2
import Derived.Test.YtigjoaejncfmdaaAd4
import Derived.Test.YtigjoaejncfmdaaB8
namespace Go.Proofs.Ytigjoaejncfmdaa
open Go Go.AM
set_option linter.unusedSimpArgs false
set_option linter.unusedVariables false
set_option maxRecDepth 100000
set_option maxHeartbeats 1000000

theorem Add_fun (a b : List (Int × Int)) (xs : List Int) (hxs : Brk a b xs) : Fun Try.prog 30 [.sh 2 (a.map stepC), .sh 2 (b.map stepC)] (Ret (.tup [.sh 2 ((joinV a b xs).map stepC), .lit (.int .i64 (joinE a b xs))]) []) := by
  refine Fun.of (nt := 11) (rs := [.tmp 4, .tmp 5]) Try.func30 rfl rfl rfl rfl rfl ?_
  refine Ev.sr fun K hK => S.o q.as (S.o q.as (S.end (hK _ ?_)))
  clear hK K
  refine Ev.sr fun K hK => S.o q.mv (S.o q.mv (S.c0 (hF := sjoined_fun _ _ xs hxs) (h := S.o q.ex (S.o q.ex (S.o q.as (S.o q.as (S.end (hK _ ?_))))))))
  clear hK K
  refine Ev.ret ?_
  refine Ev.ret2 ?_
  refine ⟨?_, rfl⟩
  rfl

theorem wf_u8 {k : Int} (h : (Go.Lit.int .u8 k).wf = true) : 0 ≤ k ∧ k ≤ 255 := by
  have e1 : IntKind.u8.min = 0 := rfl
  have e2 : IntKind.u8.max = 255 := rfl
  simp only [Go.Lit.wf, e1, e2, Bool.and_eq_true, decide_eq_true_eq] at h
  exact h
theorem more_law (l more : List (Int × Int)) (d a i : Int) (hl0 : l.length ≤ 140737488355328) (hm0 : more.length ≤ 140737488355328) (hi : (Go.Lit.int .u8 i).wf = true) : Fun Try.prog 6 [.sh 2 (l.map stepC), .sh 2 (more.map stepC), .lit (.int .i64 d), .lit (.int .i64 a), .lit (.int .u8 i)] (Ret (.lit (.bool true)) []) := by
  obtain ⟨hi0, hi1⟩ := wf_u8 hi
  obtain ⟨xs, hxs⟩ := brk_ex (l.length + more.length) l more (Nat.le_refl _)
  refine Fun.of (nt := 166) (rs := [.tmp 10]) Try.func6 rfl rfl rfl rfl rfl ?_
  refine Ev.sr fun K hK => S.o q.as (S.end (hK _ ?_))
  clear hK K
  refine Ev.seq ?_
  refine Ev.sr fun K hK => S.c0 (hF := awake_fun) (h := S.o q.nott (S.end (hK _ ?_)))
  clear hK K
  refine Ev.cf ?_
  refine Ev.skip ?_
  show Ev _ _ _ _
  refine Ev.seq ?_
  refine Ev.sr fun K hK => S.o q.mv (S.c0 (hF := large_fun l hl0) (h := S.bd q.mv (fun c1 => ?_) (fun c1 => ?_)))
  · first
  | (first | omega | contradiction)
  | refine S.sk (S.sk (S.o q.pt (S.o q.mv (S.sk (S.sk (S.o q.pt (S.o q.mv (S.sk (S.sk (S.o q.pt (S.end (hK _ ?_))))))))))))
    clear hK K
    refine Ev.ct ?_
    refine Ev.sr fun K hK => S.o q.as (S.end (hK _ ?_))
    clear hK K
    refine Ev.ret ?_
    refine Ev.ret1 ?_
    refine ⟨?_, rfl⟩
    first
     | rfl
     | exact lawT (by omega)
     | (exfalso; omega)
  · first
  | (first | omega | contradiction)
  | refine S.o q.mv (S.c0 (hF := high_fun l hl0) (h := S.o q.pf (S.bd q.mv (fun c2 => ?_) (fun c2 => ?_))))
    · first
    | (first | omega | contradiction)
    | refine S.sk (S.sk (S.o q.pt (S.o q.mv (S.sk (S.sk (S.o q.pt (S.end (hK _ ?_))))))))
      clear hK K
      refine Ev.ct ?_
      refine Ev.sr fun K hK => S.o q.as (S.end (hK _ ?_))
      clear hK K
      refine Ev.ret ?_
      refine Ev.ret1 ?_
      refine ⟨?_, rfl⟩
      first
       | rfl
       | exact lawT (by omega)
       | (exfalso; omega)
    · first
    | (first | omega | contradiction)
    | refine S.o q.mv (S.c0 (hF := large_fun more hm0) (h := S.o q.pf (S.bd q.mv (fun c3 => ?_) (fun c3 => ?_))))
      · first
      | (first | omega | contradiction)
      | refine S.sk (S.sk (S.o q.pt (S.end (hK _ ?_))))
        clear hK K
        refine Ev.ct ?_
        refine Ev.sr fun K hK => S.o q.as (S.end (hK _ ?_))
        clear hK K
        refine Ev.ret ?_
        refine Ev.ret1 ?_
        refine ⟨?_, rfl⟩
        first
         | rfl
         | exact lawT (by omega)
         | (exfalso; omega)
      · first
      | (first | omega | contradiction)
      | refine S.o q.mv (S.c0 (hF := high_fun more hm0) (h := S.o q.pf (S.end (hK _ ?_))))
        clear hK K
        refine Ev.cd (fun c4 => ?_) (fun c4 => ?_)
        · first
        | (first | omega | contradiction)
        | refine Ev.sr fun K hK => S.o q.as (S.end (hK _ ?_))
          clear hK K
          refine Ev.ret ?_
          refine Ev.ret1 ?_
          refine ⟨?_, rfl⟩
          first
           | rfl
           | exact lawT (by omega)
           | (exfalso; omega)
        · first
        | (first | omega | contradiction)
        | refine Ev.skip ?_
          show Ev _ _ _ _
          refine Ev.sr fun K hK => S.o q.mv (S.o q.mv (S.o q.mv (S.c0 (hF := bound_fun _ _ _) (h := S.o q.mv (S.o q.ex (S.o q.ex (S.o q.as (S.o q.as (S.end (hK _ ?_))))))))))
          clear hK K
          refine Ev.seq ?_
          refine Ev.sr fun K hK => S.o q.mv (S.o q.neq (S.end (hK _ ?_)))
          clear hK K
          refine Ev.cn (fun c5 => ?_) (fun c5 => ?_)
          · first
          | (first | omega | contradiction)
          | rw [mbad (l := l) (d := d) (a := a) (by omega)]
            refine Ev.sr fun K hK => S.o q.mv (S.o q.eql (S.o q.as (S.end (hK _ ?_))))
            clear hK K
            refine Ev.ret ?_
            refine Ev.ret1 ?_
            refine ⟨?_, rfl⟩
            first
             | rfl
             | exact lawT (by omega)
             | (exfalso; omega)
          · first
          | (first | omega | contradiction)
          | refine Ev.skip ?_
            show Ev _ _ _ _
            obtain ⟨hg, hln⟩ := mgood (l := l) (d := d) (a := a) (by omega)
            have hg0 := mgiven0 hg
            have hlv : leastV l d = leastN l d := if_pos hg0
            have hnn := leastN_nn (givenZ hg).2.1 (givenZ hg).2.2.2.2.2.2.1
            refine Ev.sr fun K hK => S.o q.mv (S.o q.mv (S.c0 (hF := Least_fun _ _) (h := S.o q.mv (S.o q.ex (S.o q.ex (S.o q.as (S.o q.as (S.end (hK _ ?_)))))))))
            clear hK K
            refine Ev.sr fun K hK => S.c1 (hF := sizes_fun) (h := S.o q.as (S.end (hK _ ?_)))
            clear hK K
            refine Ev.seq ?_
            refine Ev.sr fun K hK => S.o q.mv (S.o q.neq (S.bn q.mv (fun c6 => ?_) (fun c6 => ?_)))
            · first
            | (first | omega | contradiction)
            | refine S.sk (S.sk (S.sk (S.o q.pt (S.end (hK _ ?_)))))
              clear hK K
              refine Ev.ct ?_
              refine Ev.sr fun K hK => S.o q.as (S.end (hK _ ?_))
              clear hK K
              refine Ev.ret ?_
              refine Ev.ret1 ?_
              refine ⟨?_, rfl⟩
              first
               | rfl
               | exact lawT (by omega)
               | (exfalso; omega)
            · first
            | (first | omega | contradiction)
            | refine S.o q.mv (S.o (q.lena am_el43) (S.o q.eql (S.o q.pf (S.end (hK _ ?_)))))
              clear hK K
              refine Ev.cd (fun c7 => ?_) (fun c7 => ?_)
              · first
              | (first | omega | contradiction)
              | refine Ev.sr fun K hK => S.o q.as (S.end (hK _ ?_))
                clear hK K
                refine Ev.ret ?_
                refine Ev.ret1 ?_
                refine ⟨?_, rfl⟩
                first
                 | rfl
                 | exact lawT (by omega)
                 | (exfalso; omega)
              · first
              | (first | omega | contradiction)
              | refine Ev.skip ?_
                show Ev _ _ _ _
                refine Ev.seq ?_
                obtain ⟨cu, hq⟩ : ∃ cu, i % 9 = cu := ⟨_, rfl⟩
                have hq0 : 0 ≤ cu := by rw [← hq]; exact Int.emod_nonneg _ (by omega)
                have hq1 : cu < 9 := by rw [← hq]; exact Int.emod_lt_of_pos _ (by omega)
                have hs9 : sizes.length = 9 := rfl
                obtain ⟨c, hidx⟩ : ∃ c, sizes[cu.toNat]? = some c := ⟨_, List.getElem?_eq_getElem (by omega)⟩
                have hcm : c ∈ sizes := List.mem_of_getElem? hidx
                refine Ev.sr fun K hK => S.o q.mv (S.o q.mv (S.o (q.cvi am_un3 am_us5) (S.o q.mv (S.o (q.lena am_el43) (S.o q.rem (S.o (q.ia am_el43 am_cl3) (S.o (q.lx am_ag3 (hl := (by first | exact at_ hidx (by omega) | exact at_g (by omega)))) (S.o q.as (S.end (hK _ ?_))))))))))
                clear hK K
                refine Ev.sr fun K hK => S.o q.mv (S.o q.mv (S.o q.geq (S.end (hK _ ?_))))
                clear hK K
                refine Ev.cd (fun c8 => ?_) (fun c8 => ?_)
                · first
                | (first | omega | contradiction)
                | obtain ⟨hc1, hc2⟩ := least_c hg hcm (by omega)
                  refine Ev.sr fun K hK => S.o q.mv (S.o q.mv (S.c0 (hF := Least_fun _ _) (h := S.o q.mv (S.o q.ex (S.o q.ex (S.o q.as (S.o q.as (S.end (hK _ ?_)))))))))
                  clear hK K
                  refine Ev.sr fun K hK => S.o q.mv (S.o q.neq (S.bn q.mv (fun c9 => ?_) (fun c9 => ?_)))
                  · first
                  | (first | omega | contradiction)
                  | refine S.sk (S.sk (S.sk (S.o q.pt (S.end (hK _ ?_)))))
                    clear hK K
                    refine Ev.ct ?_
                    refine Ev.sr fun K hK => S.o q.as (S.end (hK _ ?_))
                    clear hK K
                    refine Ev.ret ?_
                    refine Ev.ret1 ?_
                    refine ⟨?_, rfl⟩
                    first
                     | rfl
                     | exact lawT (by omega)
                     | (exfalso; omega)
                  · first
                  | (first | omega | contradiction)
                  | refine S.o q.mv (S.o q.mv (S.o q.gtr (S.o q.pf (S.end (hK _ ?_)))))
                    clear hK K
                    refine Ev.cd (fun c10 => ?_) (fun c10 => ?_)
                    · first
                    | (first | omega | contradiction)
                    | refine Ev.sr fun K hK => S.o q.as (S.end (hK _ ?_))
                      clear hK K
                      refine Ev.ret ?_
                      refine Ev.ret1 ?_
                      refine ⟨?_, rfl⟩
                      first
                       | rfl
                       | exact lawT (by omega)
                       | (exfalso; omega)
                    · first
                    | (first | omega | contradiction)
                    | refine Ev.skip ?_
                      show Ev _ _ _ _
                      refine Ev.sr fun K hK => S.o q.as (S.end (hK _ ?_))
                      clear hK K
                      refine Ev.seq ?_
                      refine Ev.sr fun K hK => S.o q.as (S.end (hK _ ?_))
                      clear hK K
                      refine Ev.block ?_
                      refine Ev.loopU (ι := {k : Nat // (k : Int) ≤ leastN l d}) [] [0, 1, 2, 3, 11, 13] (fun ⟨k, _⟩ => [(20, .lit (.int .i64 ((k : Int) + 1))), (19, .lit (.int .i64 (sumK (fun j => spanS (levK l d j)) k)))]) (fun ⟨k, _⟩ => []) (fun ⟨k, _⟩ => (leastN l d).toNat - k) ⟨0, hnn⟩ (.c (.c (.c (.c (.c (.c .n)))))) keep_n (slots_c (he := (by first | rfl | exact iE (by omega) | exact iE (by rw [sumK]; omega))) (h := (slots_c (he := (by first | rfl | exact iE (by omega) | exact iE (by rw [sumK]; omega))) (h := trivial)))) ?_
                      rintro ⟨k, hk⟩ R0 hR0
                      dsimp only [List.cons_append, List.nil_append, List.length_cons, List.length_nil]
                      have hsb := sum_bd hg k
                      have hlb := lev_bars hg k
                      rcases (Int.lt_or_le (k : Int) (leastN l d)).symm with hge | hlt
                      · obtain rfl : k = (leastN l d).toNat := by omega
                        refine Ev.seq ?_
                        refine Ev.sr fun K hK => S.o q.mv (S.o q.mv (S.o q.min (S.o q.leq (S.end (hK _ ?_)))))
                        clear hK K
                        refine Ev.cd (fun c11 => ?_) (fun c11 => ?_)
                        · first | omega | contradiction | (exfalso; simp at *; done)
                        · first
                        | (first | omega | contradiction)
                        | refine Ev.exit ?_
                          refine hR0 _ _ ?_
                          show Ev _ _ _ _
                          refine Ev.seq ?_
                          obtain ⟨hn1, hn2⟩ := bound_none hg hln
                          refine Ev.sr fun K hK => S.o q.mv (S.o q.mv (S.c0 (hF := bound_fun _ _ _) (h := S.o q.mv (S.o q.ex (S.o q.ex (S.o q.as (S.o q.as (S.end (hK _ ?_)))))))))
                          clear hK K
                          refine Ev.sr fun K hK => S.o q.mv (S.o q.neq (S.bn q.mv (fun c12 => ?_) (fun c12 => ?_)))
                          · first
                          | (first | omega | contradiction)
                          | refine S.sk (S.sk (S.sk (S.o q.pt (S.end (hK _ ?_)))))
                            clear hK K
                            refine Ev.ct ?_
                            refine Ev.sr fun K hK => S.o q.as (S.end (hK _ ?_))
                            clear hK K
                            refine Ev.ret ?_
                            refine Ev.ret1 ?_
                            refine ⟨?_, rfl⟩
                            first
                             | rfl
                             | exact lawT (by omega)
                             | (exfalso; omega)
                          · first
                          | (first | omega | contradiction)
                          | refine S.o q.mv (S.o q.mv (S.o q.neq (S.o q.pf (S.end (hK _ ?_)))))
                            clear hK K
                            refine Ev.cn (fun c13 => ?_) (fun c13 => ?_)
                            · first
                            | (first | omega | contradiction)
                            | refine Ev.sr fun K hK => S.o q.as (S.end (hK _ ?_))
                              clear hK K
                              refine Ev.ret ?_
                              refine Ev.ret1 ?_
                              refine ⟨?_, rfl⟩
                              first
                               | rfl
                               | exact lawT (by omega)
                               | (exfalso; omega)
                            · first
                            | (first | omega | contradiction)
                            | refine Ev.skip ?_
                              show Ev _ _ _ _
                              refine Ev.sr fun K hK => S.o q.mv (S.o q.mv (S.c0 (hF := Add_fun l more xs hxs) (h := S.o q.mv (S.o q.ex (S.o q.ex (S.o q.as (S.o q.as (S.end (hK _ ?_)))))))))
                              clear hK K
                              refine Ev.seq ?_
                              refine Ev.sr fun K hK => S.o q.mv (S.o q.neq (S.end (hK _ ?_)))
                              clear hK K
                              refine Ev.cn (fun c14 => ?_) (fun c14 => ?_)
                              · first
                              | (first | omega | contradiction)
                              | refine Ev.sr fun K hK => S.o q.as (S.end (hK _ ?_))
                                clear hK K
                                refine Ev.ret ?_
                                refine Ev.ret1 ?_
                                refine ⟨?_, rfl⟩
                                first
                                 | rfl
                                 | exact lawT (by omega)
                                 | (exfalso; omega)
                              · first
                              | (first | omega | contradiction)
                              | refine Ev.skip ?_
                                show Ev _ _ _ _
                                have hJ := more_low hxs (by omega) (show boundE l d a = 0 by omega)
                                refine Ev.sr fun K hK => S.o q.mv (S.o q.mv (S.o q.mv (S.c0 (hF := bound_fun _ _ _) (h := S.o q.mv (S.o q.ex (S.o q.ex (S.o q.as (S.o q.as (S.end (hK _ ?_))))))))))
                                clear hK K
                                refine Ev.sr fun K hK => S.o q.mv (S.o q.eql (S.bd q.mv (fun c15 => ?_) (fun c15 => ?_)))
                                · first
                                | (first | omega | contradiction)
                                | refine S.sk (S.sk (S.o q.pt (S.o q.mv (S.sk (S.sk (S.sk (S.sk (S.sk (S.sk (S.sk (S.o q.pt (S.o q.as (S.end (hK _ ?_))))))))))))))
                                  clear hK K
                                  refine Ev.ret ?_
                                  refine Ev.ret1 ?_
                                  refine ⟨?_, rfl⟩
                                  first
                                   | rfl
                                   | exact lawT (by omega)
                                   | (exfalso; omega)
                                · first
                                | (first | omega | contradiction)
                                | refine S.o q.mv (S.o q.eql (S.o q.pf (S.bd q.mv (fun c16 => ?_) (fun c16 => ?_))))
                                  · first
                                  | (first | omega | contradiction)
                                  | refine S.sk (S.sk (S.sk (S.sk (S.sk (S.sk (S.sk (S.o q.pt (S.o q.as (S.end (hK _ ?_))))))))))
                                    clear hK K
                                    refine Ev.ret ?_
                                    refine Ev.ret1 ?_
                                    refine ⟨?_, rfl⟩
                                    first
                                     | rfl
                                     | exact lawT (by omega)
                                     | (exfalso; omega)
                                  · first
                                  | (first | omega | contradiction)
                                  | refine S.o q.mv (S.o q.eql (S.bd q.mv (fun c17 => ?_) (fun c17 => ?_)))
                                    · first
                                    | (first | omega | contradiction)
                                    | refine S.o q.mv (S.o q.mv (S.o q.geq (S.o q.pt (S.o q.pf (S.o q.as (S.end (hK _ ?_)))))))
                                      clear hK K
                                      refine Ev.ret ?_
                                      refine Ev.ret1 ?_
                                      refine ⟨?_, rfl⟩
                                      first
                                       | rfl
                                       | exact lawT (by omega)
                                       | (exfalso; omega)
                                    · first
                                    | (first | omega | contradiction)
                                    | refine S.sk (S.sk (S.sk (S.o q.pf (S.o q.pf (S.o q.as (S.end (hK _ ?_)))))))
                                      clear hK K
                                      refine Ev.ret ?_
                                      refine Ev.ret1 ?_
                                      refine ⟨?_, rfl⟩
                                      first
                                       | rfl
                                       | exact lawT (by omega)
                                       | (exfalso; omega)
                      · obtain ⟨e1, e2⟩ := level_k hg k (by omega)
                        obtain ⟨b1, b2, b3, b4⟩ := hlb
                        have b5 : barsE (levelV l d ((k : Int) + 1)) = 0 := by rw [e2]; exact b1
                        have b6 : totV (levelV l d ((k : Int) + 1)) = spanS (levK l d k) := by rw [e2]; exact b2
                        have hlen : (levelV l d ((k : Int) + 1)).length ≤ 140737488355328 := by rw [e2]; have := (spans_bd (givenZ hg).1 (givenZ hg).2.1 ((k : Int) * areaOf d)).1; exact Nat.le_trans this (by omega)
                        refine Ev.seq ?_
                        refine Ev.sr fun K hK => S.o q.mv (S.o q.mv (S.o q.min (S.o q.leq (S.end (hK _ ?_)))))
                        clear hK K
                        refine Ev.cd (fun c18 => ?_) (fun c18 => ?_)
                        · first
                        | (first | omega | contradiction)
                        | refine Ev.skip ?_
                          show Ev _ _ _ _
                          refine Ev.seq ?_
                          refine Ev.block ?_
                          refine Ev.sr fun K hK => S.o q.mv (S.o q.mv (S.o q.mv (S.c0 (hF := Level_fun _ _ _) (h := S.o q.mv (S.o q.ex (S.o q.ex (S.o q.as (S.o q.as (S.end (hK _ ?_))))))))))
                          clear hK K
                          refine Ev.sr fun K hK => S.o q.mv (S.c0 (hF := Total_fun _ (by omega)) (h := S.o q.mv (S.o q.ex (S.o q.ex (S.o q.as (S.o q.as (S.end (hK _ ?_))))))))
                          clear hK K
                          refine Ev.seq ?_
                          refine Ev.sr fun K hK => S.o q.mv (S.o q.neq (S.bn q.mv (fun c19 => ?_) (fun c19 => ?_)))
                          · first
                          | (first | omega | contradiction)
                          | refine S.sk (S.sk (S.o q.pt (S.end (hK _ ?_))))
                            clear hK K
                            refine Ev.ct ?_
                            refine Ev.sr fun K hK => S.o q.as (S.end (hK _ ?_))
                            clear hK K
                            refine Ev.ret ?_
                            refine hR0 _ _ ?_
                            refine Ev.ret1 ?_
                            refine ⟨?_, rfl⟩
                            first
                             | rfl
                             | exact lawT (by omega)
                             | (exfalso; omega)
                          · first
                          | (first | omega | contradiction)
                          | refine S.o q.mv (S.o q.neq (S.o q.pf (S.end (hK _ ?_))))
                            clear hK K
                            refine Ev.cn (fun c20 => ?_) (fun c20 => ?_)
                            · first
                            | (first | omega | contradiction)
                            | refine Ev.sr fun K hK => S.o q.as (S.end (hK _ ?_))
                              clear hK K
                              refine Ev.ret ?_
                              refine hR0 _ _ ?_
                              refine Ev.ret1 ?_
                              refine ⟨?_, rfl⟩
                              first
                               | rfl
                               | exact lawT (by omega)
                               | (exfalso; omega)
                            · first
                            | (first | omega | contradiction)
                            | refine Ev.skip ?_
                              show Ev _ _ _ _
                              refine Ev.region_S fun K hK => S.o q.mv (S.o q.mv (S.o (q.add (h1 := by omega) (h2 := by omega)) (S.o q.as (S.end (hK _ ?_)))))
                              clear hK K
                              show Ev _ _ _ _
                              refine Ev.region_S fun K hK => S.o q.mv (S.o q.add (S.o q.as (S.end (hK _ ?_))))
                              clear hK K
                              refine hR0 _ _ ?_
                              refine roundU [] [0, 1, 2, 3, 11, 13] ⟨k + 1, by omega⟩ ?_ keep_n (slots_c (he := (by first | rfl | exact iE (by omega) | exact iE (by rw [sumK]; omega))) (h := (slots_c (he := (by first | rfl | exact iE (by omega) | exact iE (by rw [sumK]; omega))) (h := trivial)))) (.c (.c (.c (.c (.c (.c .n))))))
                              skip
                              all_goals (dsimp only; omega)
                        · first | omega | contradiction | (exfalso; simp at *; done)
                · first
                | (first | omega | contradiction)
                | refine Ev.skip ?_
                  show Ev _ _ _ _
                  refine Ev.sr fun K hK => S.o q.as (S.end (hK _ ?_))
                  clear hK K
                  refine Ev.seq ?_
                  refine Ev.sr fun K hK => S.o q.as (S.end (hK _ ?_))
                  clear hK K
                  refine Ev.block ?_
                  refine Ev.loopU (ι := {k : Nat // (k : Int) ≤ leastN l d}) [] [0, 1, 2, 3, 11, 13] (fun ⟨k, _⟩ => [(20, .lit (.int .i64 ((k : Int) + 1))), (19, .lit (.int .i64 (sumK (fun j => spanS (levK l d j)) k)))]) (fun ⟨k, _⟩ => []) (fun ⟨k, _⟩ => (leastN l d).toNat - k) ⟨0, hnn⟩ (.c (.c (.c (.c (.c (.c .n)))))) keep_n (slots_c (he := (by first | rfl | exact iE (by omega) | exact iE (by rw [sumK]; omega))) (h := (slots_c (he := (by first | rfl | exact iE (by omega) | exact iE (by rw [sumK]; omega))) (h := trivial)))) ?_
                  rintro ⟨k, hk⟩ R0 hR0
                  dsimp only [List.cons_append, List.nil_append, List.length_cons, List.length_nil]
                  have hsb := sum_bd hg k
                  have hlb := lev_bars hg k
                  rcases (Int.lt_or_le (k : Int) (leastN l d)).symm with hge | hlt
                  · obtain rfl : k = (leastN l d).toNat := by omega
                    refine Ev.seq ?_
                    refine Ev.sr fun K hK => S.o q.mv (S.o q.mv (S.o q.min (S.o q.leq (S.end (hK _ ?_)))))
                    clear hK K
                    refine Ev.cd (fun c21 => ?_) (fun c21 => ?_)
                    · first | omega | contradiction | (exfalso; simp at *; done)
                    · first
                    | (first | omega | contradiction)
                    | refine Ev.exit ?_
                      refine hR0 _ _ ?_
                      show Ev _ _ _ _
                      refine Ev.seq ?_
                      obtain ⟨hn1, hn2⟩ := bound_none hg hln
                      refine Ev.sr fun K hK => S.o q.mv (S.o q.mv (S.c0 (hF := bound_fun _ _ _) (h := S.o q.mv (S.o q.ex (S.o q.ex (S.o q.as (S.o q.as (S.end (hK _ ?_)))))))))
                      clear hK K
                      refine Ev.sr fun K hK => S.o q.mv (S.o q.neq (S.bn q.mv (fun c22 => ?_) (fun c22 => ?_)))
                      · first
                      | (first | omega | contradiction)
                      | refine S.sk (S.sk (S.sk (S.o q.pt (S.end (hK _ ?_)))))
                        clear hK K
                        refine Ev.ct ?_
                        refine Ev.sr fun K hK => S.o q.as (S.end (hK _ ?_))
                        clear hK K
                        refine Ev.ret ?_
                        refine Ev.ret1 ?_
                        refine ⟨?_, rfl⟩
                        first
                         | rfl
                         | exact lawT (by omega)
                         | (exfalso; omega)
                      · first
                      | (first | omega | contradiction)
                      | refine S.o q.mv (S.o q.mv (S.o q.neq (S.o q.pf (S.end (hK _ ?_)))))
                        clear hK K
                        refine Ev.cn (fun c23 => ?_) (fun c23 => ?_)
                        · first
                        | (first | omega | contradiction)
                        | refine Ev.sr fun K hK => S.o q.as (S.end (hK _ ?_))
                          clear hK K
                          refine Ev.ret ?_
                          refine Ev.ret1 ?_
                          refine ⟨?_, rfl⟩
                          first
                           | rfl
                           | exact lawT (by omega)
                           | (exfalso; omega)
                        · first
                        | (first | omega | contradiction)
                        | refine Ev.skip ?_
                          show Ev _ _ _ _
                          refine Ev.sr fun K hK => S.o q.mv (S.o q.mv (S.c0 (hF := Add_fun l more xs hxs) (h := S.o q.mv (S.o q.ex (S.o q.ex (S.o q.as (S.o q.as (S.end (hK _ ?_)))))))))
                          clear hK K
                          refine Ev.seq ?_
                          refine Ev.sr fun K hK => S.o q.mv (S.o q.neq (S.end (hK _ ?_)))
                          clear hK K
                          refine Ev.cn (fun c24 => ?_) (fun c24 => ?_)
                          · first
                          | (first | omega | contradiction)
                          | refine Ev.sr fun K hK => S.o q.as (S.end (hK _ ?_))
                            clear hK K
                            refine Ev.ret ?_
                            refine Ev.ret1 ?_
                            refine ⟨?_, rfl⟩
                            first
                             | rfl
                             | exact lawT (by omega)
                             | (exfalso; omega)
                          · first
                          | (first | omega | contradiction)
                          | refine Ev.skip ?_
                            show Ev _ _ _ _
                            have hJ := more_low hxs (by omega) (show boundE l d a = 0 by omega)
                            refine Ev.sr fun K hK => S.o q.mv (S.o q.mv (S.o q.mv (S.c0 (hF := bound_fun _ _ _) (h := S.o q.mv (S.o q.ex (S.o q.ex (S.o q.as (S.o q.as (S.end (hK _ ?_))))))))))
                            clear hK K
                            refine Ev.sr fun K hK => S.o q.mv (S.o q.eql (S.bd q.mv (fun c25 => ?_) (fun c25 => ?_)))
                            · first
                            | (first | omega | contradiction)
                            | refine S.sk (S.sk (S.o q.pt (S.o q.mv (S.sk (S.sk (S.sk (S.sk (S.sk (S.sk (S.sk (S.o q.pt (S.o q.as (S.end (hK _ ?_))))))))))))))
                              clear hK K
                              refine Ev.ret ?_
                              refine Ev.ret1 ?_
                              refine ⟨?_, rfl⟩
                              first
                               | rfl
                               | exact lawT (by omega)
                               | (exfalso; omega)
                            · first
                            | (first | omega | contradiction)
                            | refine S.o q.mv (S.o q.eql (S.o q.pf (S.bd q.mv (fun c26 => ?_) (fun c26 => ?_))))
                              · first
                              | (first | omega | contradiction)
                              | refine S.sk (S.sk (S.sk (S.sk (S.sk (S.sk (S.sk (S.o q.pt (S.o q.as (S.end (hK _ ?_))))))))))
                                clear hK K
                                refine Ev.ret ?_
                                refine Ev.ret1 ?_
                                refine ⟨?_, rfl⟩
                                first
                                 | rfl
                                 | exact lawT (by omega)
                                 | (exfalso; omega)
                              · first
                              | (first | omega | contradiction)
                              | refine S.o q.mv (S.o q.eql (S.bd q.mv (fun c27 => ?_) (fun c27 => ?_)))
                                · first
                                | (first | omega | contradiction)
                                | refine S.o q.mv (S.o q.mv (S.o q.geq (S.o q.pt (S.o q.pf (S.o q.as (S.end (hK _ ?_)))))))
                                  clear hK K
                                  refine Ev.ret ?_
                                  refine Ev.ret1 ?_
                                  refine ⟨?_, rfl⟩
                                  first
                                   | rfl
                                   | exact lawT (by omega)
                                   | (exfalso; omega)
                                · first
                                | (first | omega | contradiction)
                                | refine S.sk (S.sk (S.sk (S.o q.pf (S.o q.pf (S.o q.as (S.end (hK _ ?_)))))))
                                  clear hK K
                                  refine Ev.ret ?_
                                  refine Ev.ret1 ?_
                                  refine ⟨?_, rfl⟩
                                  first
                                   | rfl
                                   | exact lawT (by omega)
                                   | (exfalso; omega)
                  · obtain ⟨e1, e2⟩ := level_k hg k (by omega)
                    obtain ⟨b1, b2, b3, b4⟩ := hlb
                    have b5 : barsE (levelV l d ((k : Int) + 1)) = 0 := by rw [e2]; exact b1
                    have b6 : totV (levelV l d ((k : Int) + 1)) = spanS (levK l d k) := by rw [e2]; exact b2
                    have hlen : (levelV l d ((k : Int) + 1)).length ≤ 140737488355328 := by rw [e2]; have := (spans_bd (givenZ hg).1 (givenZ hg).2.1 ((k : Int) * areaOf d)).1; exact Nat.le_trans this (by omega)
                    refine Ev.seq ?_
                    refine Ev.sr fun K hK => S.o q.mv (S.o q.mv (S.o q.min (S.o q.leq (S.end (hK _ ?_)))))
                    clear hK K
                    refine Ev.cd (fun c28 => ?_) (fun c28 => ?_)
                    · first
                    | (first | omega | contradiction)
                    | refine Ev.skip ?_
                      show Ev _ _ _ _
                      refine Ev.seq ?_
                      refine Ev.block ?_
                      refine Ev.sr fun K hK => S.o q.mv (S.o q.mv (S.o q.mv (S.c0 (hF := Level_fun _ _ _) (h := S.o q.mv (S.o q.ex (S.o q.ex (S.o q.as (S.o q.as (S.end (hK _ ?_))))))))))
                      clear hK K
                      refine Ev.sr fun K hK => S.o q.mv (S.c0 (hF := Total_fun _ (by omega)) (h := S.o q.mv (S.o q.ex (S.o q.ex (S.o q.as (S.o q.as (S.end (hK _ ?_))))))))
                      clear hK K
                      refine Ev.seq ?_
                      refine Ev.sr fun K hK => S.o q.mv (S.o q.neq (S.bn q.mv (fun c29 => ?_) (fun c29 => ?_)))
                      · first
                      | (first | omega | contradiction)
                      | refine S.sk (S.sk (S.o q.pt (S.end (hK _ ?_))))
                        clear hK K
                        refine Ev.ct ?_
                        refine Ev.sr fun K hK => S.o q.as (S.end (hK _ ?_))
                        clear hK K
                        refine Ev.ret ?_
                        refine hR0 _ _ ?_
                        refine Ev.ret1 ?_
                        refine ⟨?_, rfl⟩
                        first
                         | rfl
                         | exact lawT (by omega)
                         | (exfalso; omega)
                      · first
                      | (first | omega | contradiction)
                      | refine S.o q.mv (S.o q.neq (S.o q.pf (S.end (hK _ ?_))))
                        clear hK K
                        refine Ev.cn (fun c30 => ?_) (fun c30 => ?_)
                        · first
                        | (first | omega | contradiction)
                        | refine Ev.sr fun K hK => S.o q.as (S.end (hK _ ?_))
                          clear hK K
                          refine Ev.ret ?_
                          refine hR0 _ _ ?_
                          refine Ev.ret1 ?_
                          refine ⟨?_, rfl⟩
                          first
                           | rfl
                           | exact lawT (by omega)
                           | (exfalso; omega)
                        · first
                        | (first | omega | contradiction)
                        | refine Ev.skip ?_
                          show Ev _ _ _ _
                          refine Ev.region_S fun K hK => S.o q.mv (S.o q.mv (S.o (q.add (h1 := by omega) (h2 := by omega)) (S.o q.as (S.end (hK _ ?_)))))
                          clear hK K
                          show Ev _ _ _ _
                          refine Ev.region_S fun K hK => S.o q.mv (S.o q.add (S.o q.as (S.end (hK _ ?_))))
                          clear hK K
                          refine hR0 _ _ ?_
                          refine roundU [] [0, 1, 2, 3, 11, 13] ⟨k + 1, by omega⟩ ?_ keep_n (slots_c (he := (by first | rfl | exact iE (by omega) | exact iE (by rw [sumK]; omega))) (h := (slots_c (he := (by first | rfl | exact iE (by omega) | exact iE (by rw [sumK]; omega))) (h := trivial)))) (.c (.c (.c (.c (.c (.c .n))))))
                          skip
                          all_goals (dsimp only; omega)
                    · first | omega | contradiction | (exfalso; simp at *; done)
end Go.Proofs.Ytigjoaejncfmdaa
