/-
  The law ScheduleAdds, walked.
  Conditions: none.
-/
import Derived.Test.YtddogeicmhbidaaDoorAw1
import Derived.Test.YtddogeicmhbidaaDoorAd1
import Derived.Test.YtddogeicmhbidaaDoorCc1
namespace Go.Proofs.YtddogeicmhbidaaDoor
open Go Go.AM
set_option linter.unusedSimpArgs false
set_option linter.unusedVariables false
set_option maxRecDepth 100000
set_option maxHeartbeats 1000000

theorem mergeV_in2 (a b : List Bar) : (mergeV a b).length ≤ 120 ∧ (∀ x ∈ mergeV a b, x.dims.length ≤ 140737488355328) ∧ (¬ mergeE a b = 0 → (mergeV a b).length = 0) := by
  by_cases h : mergeE a b = 0
  · obtain ⟨h1, h2, h3, h4, _⟩ := mg_ok h
    rw [h3]
    have := h4.1
    exact ⟨by omega, fun x hx => by have := (okBar_w (h4.2.1 x hx)).2; omega, fun hn => absurd h hn⟩
  · have hv : mergeV a b = [] := if_neg h
    rw [hv]
    exact ⟨by decide, fun x hx => (by cases hx), fun _ => rfl⟩
theorem fl3 (p q r : List (Int × Int)) : [p, q, r].flatten = p ++ (q ++ r) := by simp
theorem adds_law (a b : List Bar) (hal : a.length ≤ 140737488355328) (hbl : b.length ≤ 140737488355328) : Fun Tryd.prog 6 [.sh 5 (a.map Bar.c), .sh 5 (b.map Bar.c)] (Ret (.lit (.bool true)) []) := by
  have hs9 : sizes.length = 9 := rfl
  obtain ⟨hml, hmd, hmz⟩ := mergeV_in2 a b
  obtain ⟨hnl, hnd, hnz⟩ := mergeV_in2 a []
  obtain ⟨hn1, hn2⟩ := mg_nilL a
  refine Fun.of (nt := 160) (rs := [.tmp 4]) Tryd.func6 rfl rfl rfl rfl rfl ?_
  refine Ev.sr fun K hK => S.o q.as (S.end (hK _ ?_))
  clear hK K
  refine Ev.seq ?_
  refine Ev.sr fun K hK => S.c0 (hF := awake_fun) (h := S.o q.nott (S.end (hK _ ?_)))
  clear hK K
  refine Ev.cf ?_
  refine Ev.skip ?_
  show Ev _ _ _ _
  refine Ev.seq ?_
  refine Ev.sr fun K hK => S.o q.mv (S.o q.mv (S.nn (q.bs [[_], [_]] true am_el55 am_ze22 am_cl22) (S.c0 (hF := few_fun [a, b] (by simp) (fun x hx => by simp only [List.mem_cons, List.not_mem_nil, or_false] at hx; rcases hx with rfl | rfl <;> assumption)) (h := S.o q.not (S.end (hK _ ?_))))))
  clear hK K
  refine Ev.cn (fun c1 => ?_) (fun c1 => ?_)
  · first
  | (first | omega | contradiction)
  | refine Ev.sr fun K hK => S.o q.as (S.end (hK _ ?_))
    clear hK K
    refine Ev.ret ?_
    refine Ev.ret1 ?_
    refine ⟨?_, rfl⟩
    first | rfl | exact lawT rfl | exact lawT (by omega) | (exfalso; omega) | contradiction | (exfalso; simp_all; done) | (exfalso; simp at *; done)
  · first
  | (first | omega | contradiction)
  | refine Ev.skip ?_
    show Ev _ _ _ _
    have hsm : ∀ x ∈ [a, b], smallL x 70 := ‹_›
    have hsa := hsm a (by simp)
    have hsb := hsm b (by simp)
    have hwa := small_w hsa
    have hwb := small_w hsb
    have ha8 := hsa.1
    have hb8 := hsb.1
    have hda : ∀ x ∈ a, x.dims.length ≤ 140737488355328 := fun x hx => by have := hsa.2 x hx; omega
    refine Ev.sr fun K hK => S.o q.mv (S.o q.mv (S.c0 (hF := merge_fun a b hal hbl hwa hwb) (h := S.o q.mv (S.o q.ex (S.o q.ex (S.o q.as (S.o q.as (S.end (hK _ ?_)))))))))
    clear hK K
    refine Ev.seq ?_
    refine Ev.sr fun K hK => S.o q.mv (S.c0 (hF := mergeN_fun a hal hwa) (h := S.o q.mv (S.o q.ex (S.o q.ex (S.o q.as (S.o q.as (S.end (hK _ ?_))))))))
    clear hK K
    refine Ev.sr fun K hK => S.o q.mv (S.o q.eql (S.bd q.mv (fun c2 => ?_) (fun c2 => ?_)))
    · first
    | (first | omega | contradiction)
    | refine S.o q.mv (S.o q.mv (S.c0 (hF := same14_fun _ _ (by omega) (by omega) hnd hda) (h := S.o q.not (S.o q.pt (S.bn q.mv (fun c3 => ?_) (fun c3 => ?_))))))
      · first
      | (first | omega | contradiction)
      | refine S.sk (S.sk (S.sk (S.sk (S.sk (S.sk (S.o q.pt (S.end (hK _ ?_))))))))
        clear hK K
        refine Ev.ct ?_
        refine Ev.sr fun K hK => S.o q.as (S.end (hK _ ?_))
        clear hK K
        refine Ev.ret ?_
        refine Ev.ret1 ?_
        refine ⟨?_, rfl⟩
        first | rfl | exact lawT rfl | exact lawT (by omega) | (exfalso; omega) | contradiction | (exfalso; simp_all; done) | (exfalso; simp at *; done)
      · first
      | (first | omega | contradiction)
      | refine S.o q.mv (S.o q.neq (S.bn q.mv (fun c4 => ?_) (fun c4 => ?_)))
        · first
        | (first | omega | contradiction)
        | refine S.o q.mv (S.c0 (hF := schedValid_fun _ (by omega) (by assumption)) (h := S.o q.pt (S.o q.pf (S.end (hK _ ?_)))))
          clear hK K
          refine Ev.cd (fun c5 => ?_) (fun c5 => ?_)
          · first
          | (first | omega | contradiction)
          | refine Ev.sr fun K hK => S.o q.as (S.end (hK _ ?_))
            clear hK K
            refine Ev.ret ?_
            refine Ev.ret1 ?_
            refine ⟨?_, rfl⟩
            first | rfl | exact lawT rfl | exact lawT (by omega) | (exfalso; omega) | contradiction | (exfalso; simp_all; done) | (exfalso; simp at *; done)
          · first
          | (first | omega | contradiction)
          | refine Ev.skip ?_
            show Ev _ _ _ _
            refine Ev.seq ?_
            refine Ev.sr fun K hK => S.o q.mv (S.o q.neq (S.end (hK _ ?_)))
            clear hK K
            refine Ev.cn (fun c6 => ?_) (fun c6 => ?_)
            · first
            | (first | omega | contradiction)
            | have e3 := hmz ‹_›
              refine Ev.sr fun K hK => S.o q.mv (S.o (q.lens am_el22) (S.o q.eql (S.o q.as (S.end (hK _ ?_)))))
              clear hK K
              refine Ev.ret ?_
              refine Ev.ret1 ?_
              refine ⟨?_, rfl⟩
              first | rfl | exact lawT rfl | exact lawT (by omega) | (exfalso; omega) | contradiction | (exfalso; simp_all; done) | (exfalso; simp at *; done)
            · first
            | (first | omega | contradiction)
            | refine Ev.skip ?_
              show Ev _ _ _ _
              obtain ⟨hoa, hob, hmv, hom, hnb⟩ := mg_ok ‹mergeE a b = 0›
              rw [← hmv] at hom
              have hwm : schedW (mergeV a b) := fun x hx => okBar_w (hom.2.1 x hx)
              have hla := hoa.1
              have hlb := hob.1
              have hlm := hom.1
              have f1 : totalV a = cntT a := if_pos hoa
              have f2 : totalV b = cntT b := if_pos hob
              have f3 : totalV (mergeV a b) = cntT (mergeV a b) := if_pos hom
              have f4 : okS a = 0 := if_pos hoa
              have f5 : okS b = 0 := if_pos hob
              have f6 : okS (mergeV a b) = 0 := if_pos hom
              have f7 : cntT (mergeV a b) = cntT a + cntT b := by rw [hmv]; exact mg_cnt ‹mergeE a b = 0›
              obtain ⟨f8, f9⟩ := cntT_bd a hoa.2.1
              obtain ⟨f10, f11⟩ := cntT_bd b hob.2.1
              refine Ev.sr fun K hK => S.o q.mv (S.c0 (hF := stotal_fun _ (by omega) (by assumption)) (h := S.o q.mv (S.o q.ex (S.o q.ex (S.o q.as (S.o q.as (S.end (hK _ ?_))))))))
              clear hK K
              refine Ev.sr fun K hK => S.o q.mv (S.c0 (hF := stotal_fun _ (by omega) (by assumption)) (h := S.o q.mv (S.o q.ex (S.o q.ex (S.o q.as (S.o q.as (S.end (hK _ ?_))))))))
              clear hK K
              refine Ev.sr fun K hK => S.o q.mv (S.c0 (hF := stotal_fun _ (by omega) (by assumption)) (h := S.o q.mv (S.o q.ex (S.o q.ex (S.o q.as (S.o q.as (S.end (hK _ ?_))))))))
              clear hK K
              refine Ev.seq ?_
              refine Ev.sr fun K hK => S.o q.mv (S.o q.neq (S.bn q.mv (fun c7 => ?_) (fun c7 => ?_)))
              · first
              | (first | omega | contradiction)
              | refine S.sk (S.sk (S.o q.pt (S.o q.mv (S.sk (S.sk (S.o q.pt (S.o q.mv (S.sk (S.sk (S.sk (S.sk (S.sk (S.o q.pt (S.end (hK _ ?_)))))))))))))))
                clear hK K
                refine Ev.ct ?_
                refine Ev.sr fun K hK => S.o q.as (S.end (hK _ ?_))
                clear hK K
                refine Ev.ret ?_
                refine Ev.ret1 ?_
                refine ⟨?_, rfl⟩
                first | rfl | exact lawT rfl | exact lawT (by omega) | (exfalso; omega) | contradiction | (exfalso; simp_all; done) | (exfalso; simp at *; done)
              · first
              | (first | omega | contradiction)
              | refine S.o q.mv (S.o q.neq (S.o q.pf (S.bn q.mv (fun c8 => ?_) (fun c8 => ?_))))
                · first
                | (first | omega | contradiction)
                | refine S.sk (S.sk (S.o q.pt (S.o q.mv (S.sk (S.sk (S.sk (S.sk (S.sk (S.o q.pt (S.end (hK _ ?_)))))))))))
                  clear hK K
                  refine Ev.ct ?_
                  refine Ev.sr fun K hK => S.o q.as (S.end (hK _ ?_))
                  clear hK K
                  refine Ev.ret ?_
                  refine Ev.ret1 ?_
                  refine ⟨?_, rfl⟩
                  first | rfl | exact lawT rfl | exact lawT (by omega) | (exfalso; omega) | contradiction | (exfalso; simp_all; done) | (exfalso; simp at *; done)
                · first
                | (first | omega | contradiction)
                | refine S.o q.mv (S.o q.neq (S.o q.pf (S.bn q.mv (fun c9 => ?_) (fun c9 => ?_))))
                  · first
                  | (first | omega | contradiction)
                  | refine S.sk (S.sk (S.sk (S.sk (S.sk (S.o q.pt (S.end (hK _ ?_)))))))
                    clear hK K
                    refine Ev.ct ?_
                    refine Ev.sr fun K hK => S.o q.as (S.end (hK _ ?_))
                    clear hK K
                    refine Ev.ret ?_
                    refine Ev.ret1 ?_
                    refine ⟨?_, rfl⟩
                    first | rfl | exact lawT rfl | exact lawT (by omega) | (exfalso; omega) | contradiction | (exfalso; simp_all; done) | (exfalso; simp at *; done)
                  · first
                  | (first | omega | contradiction)
                  | refine S.o q.mv (S.o q.mv (S.o q.mv (S.o q.add (S.o q.neq (S.o q.pf (S.end (hK _ ?_)))))))
                    clear hK K
                    refine Ev.cn (fun c10 => ?_) (fun c10 => ?_)
                    · first
                    | (first | omega | contradiction)
                    | refine Ev.sr fun K hK => S.o q.as (S.end (hK _ ?_))
                      clear hK K
                      refine Ev.ret ?_
                      refine Ev.ret1 ?_
                      refine ⟨?_, rfl⟩
                      first | rfl | exact lawT rfl | exact lawT (by omega) | (exfalso; omega) | contradiction | (exfalso; simp_all; done) | (exfalso; simp at *; done)
                    · first
                    | (first | omega | contradiction)
                    | refine Ev.skip ?_
                      show Ev _ _ _ _
                      refine Ev.sr fun K hK => S.o q.as (S.end (hK _ ?_))
                      clear hK K
                      refine Ev.seq ?_
                      refine Ev.sr fun K hK => S.c0 (hF := sizes_fun) (h := S.o (q.lens am_el36) (S.o q.mv (S.end (hK _ ?_))))
                      clear hK K
                      refine Ev.block ?_
                      refine Ev.loopU (ι := {p : List (Int) × List (Int) // p.1 ++ p.2 = sizes ∧ True}) [] [0, 1, 5, 15, 97, 98] (fun ⟨(pre, suf), _⟩ => [(99, .lit (.int .i64 ((pre.length : Int))))]) (fun ⟨(pre, suf), _⟩ => []) (fun ⟨(pre, suf), _⟩ => suf.length) ⟨([], sizes), rfl, trivial⟩ (.c (.c (.c (.c (.c (.c .n)))))) keep_n (slots_c (he := (by first | rfl | (congr 2; simp; done))) (h := trivial)) ?_
                      rintro ⟨⟨pre, suf⟩, hp, hinv⟩ R0 hR0
                      dsimp only [List.cons_append, List.nil_append, List.length_cons, List.length_nil]
                      simp only at hp hinv
                      have hpl : pre.length + suf.length = (sizes).length := by rw [← hp, List.length_append]
                      rcases suf with _ | ⟨s, suf⟩
                      · rw [List.append_nil] at hp; simp only [List.length_nil] at hpl
                        refine Ev.sr fun K hK => S.o q.lss (S.end (hK _ ?_))
                        clear hK K
                        refine Ev.ud (fun c11 => ?_) (fun c11 => ?_)
                        · first | omega | contradiction
                        · first
                        | (first | omega | contradiction)
                        | refine Ev.exit ?_
                          refine hR0 _ _ ?_
                          show Ev _ _ _ _
                          refine Ev.sr fun K hK => S.o q.as (S.end (hK _ ?_))
                          clear hK K
                          refine Ev.ret ?_
                          refine Ev.ret1 ?_
                          refine ⟨?_, rfl⟩
                          first | rfl | exact lawT rfl | exact lawT (by omega) | (exfalso; omega) | contradiction | (exfalso; simp_all; done) | (exfalso; simp at *; done)
                      · simp only [List.length_cons] at hpl
                        have hidx : sizes[pre.length]? = some s := by rw [← hp]; simp
                        have hsz : s ∈ sizes := by rw [← hp]; simp
                        refine Ev.sr fun K hK => S.o q.lss (S.end (hK _ ?_))
                        clear hK K
                        refine Ev.ud (fun c12 => ?_) (fun c12 => ?_)
                        · first
                        | (first | omega | contradiction)
                        | refine Ev.seq ?_
                          refine Ev.block ?_
                          refine Ev.sr fun K hK => S.o (q.ix am_el36 am_cl3 (hl := (by first | exact ati hidx (by omega) | exact atig (by omega)))) (S.o (q.ls am_ag3) (S.o q.as (S.end (hK _ ?_))))
                          clear hK K
                          obtain ⟨v1, w1⟩ := pcV_eq hoa hsz
                          obtain ⟨v2, w2⟩ := pcV_eq hob hsz
                          obtain ⟨v3, w3⟩ := pcV_eq hom hsz
                          obtain ⟨z1, y1⟩ := pcP_bd hoa s
                          obtain ⟨z2, y2⟩ := pcP_bd hob s
                          obtain ⟨z3, y3⟩ := pcP_bd hom s
                          rw [← v1] at z1 y1
                          rw [← v2] at z2 y2
                          rw [← v3] at z3 y3
                          have hfl : ([pcV a s, pcV b s, pcV (mergeV a b) s].flatten).length ≤ 180 := by rw [fl3, List.length_append, List.length_append]; omega
                          refine Ev.sr fun K hK => S.o q.mv (S.o q.mv (S.c0 (hF := Pieces_fun a s (by omega) hwa) (h := S.o q.mv (S.o q.ex (S.o q.ex (S.o q.as (S.o q.as (S.end (hK _ ?_)))))))))
                          clear hK K
                          refine Ev.sr fun K hK => S.o q.mv (S.o q.mv (S.c0 (hF := Pieces_fun b s (by omega) hwb) (h := S.o q.mv (S.o q.ex (S.o q.ex (S.o q.as (S.o q.as (S.end (hK _ ?_)))))))))
                          clear hK K
                          refine Ev.sr fun K hK => S.o q.mv (S.o q.mv (S.c0 (hF := Pieces_fun (mergeV a b) s (by omega) hwm) (h := S.o q.mv (S.o q.ex (S.o q.ex (S.o q.as (S.o q.as (S.end (hK _ ?_)))))))))
                          clear hK K
                          refine Ev.seq ?_
                          refine Ev.sr fun K hK => S.o q.mv (S.o q.neq (S.bn q.mv (fun c13 => ?_) (fun c13 => ?_)))
                          · first
                          | (first | omega | contradiction)
                          | refine S.sk (S.sk (S.o q.pt (S.o q.mv (S.sk (S.sk (S.o q.pt (S.end (hK _ ?_))))))))
                            clear hK K
                            refine Ev.ct ?_
                            refine Ev.sr fun K hK => S.o q.as (S.end (hK _ ?_))
                            clear hK K
                            refine Ev.ret ?_
                            refine hR0 _ _ ?_
                            refine Ev.ret1 ?_
                            refine ⟨?_, rfl⟩
                            first | rfl | exact lawT rfl | exact lawT (by omega) | (exfalso; omega) | contradiction | (exfalso; simp_all; done) | (exfalso; simp at *; done)
                          · first
                          | (first | omega | contradiction)
                          | refine S.o q.mv (S.o q.neq (S.o q.pf (S.bn q.mv (fun c14 => ?_) (fun c14 => ?_))))
                            · first
                            | (first | omega | contradiction)
                            | refine S.sk (S.sk (S.o q.pt (S.end (hK _ ?_))))
                              clear hK K
                              refine Ev.ct ?_
                              refine Ev.sr fun K hK => S.o q.as (S.end (hK _ ?_))
                              clear hK K
                              refine Ev.ret ?_
                              refine hR0 _ _ ?_
                              refine Ev.ret1 ?_
                              refine ⟨?_, rfl⟩
                              first | rfl | exact lawT rfl | exact lawT (by omega) | (exfalso; omega) | contradiction | (exfalso; simp_all; done) | (exfalso; simp at *; done)
                            · first
                            | (first | omega | contradiction)
                            | refine S.o q.mv (S.o q.neq (S.o q.pf (S.end (hK _ ?_))))
                              clear hK K
                              refine Ev.cn (fun c15 => ?_) (fun c15 => ?_)
                              · first
                              | (first | omega | contradiction)
                              | refine Ev.sr fun K hK => S.o q.as (S.end (hK _ ?_))
                                clear hK K
                                refine Ev.ret ?_
                                refine hR0 _ _ ?_
                                refine Ev.ret1 ?_
                                refine ⟨?_, rfl⟩
                                first | rfl | exact lawT rfl | exact lawT (by omega) | (exfalso; omega) | contradiction | (exfalso; simp_all; done) | (exfalso; simp at *; done)
                              · first
                              | (first | omega | contradiction)
                              | refine Ev.skip ?_
                                show Ev _ _ _ _
                                refine Ev.sr fun K hK => S.o q.mv (S.o q.mv (S.o q.mv (S.nn (q.bs [[_], [_], [_]] true am_el69 am_ze40 am_cl40) ?_)))
                                refine SeqL.weaken (Wk.frzl (f := pcsC) [pcV a s, pcV b s, pcV (mergeV a b) s] 134 []) ?_
                                refine S.c1 (hF := concatPc_fun [pcV a s, pcV b s, pcV (mergeV a b) s] (by simp) (fun x hx => by simp only [List.mem_cons, List.not_mem_nil, or_false] at hx; rcases hx with rfl | rfl | rfl <;> omega)) (h := ?_)
                                refine SeqL.weaken (Wk.frz 135 []) ?_
                                refine S.o (q.lens am_el40) (S.o q.mv (S.end (hK _ ?_)))
                                clear hK K
                                refine Ev.block ?_
                                refine Ev.loopU (ι := {q : List (Int × Int) × List (Int × Int) // q.1 ++ q.2 = [pcV a s, pcV b s, pcV (mergeV a b) s].flatten}) [] [0, 1, 5, 15, 17, 18, 19, 20, 21, 22, 23, 97, 98, 99, 100, 101, 102, 103, 104, 105, 106, 107, 108, 109, 110, 111, 112, 113, 114, 115, 116, 117, 118, 119, 120, 121, 122, 123, 124, 125, 126, 127, 128, 129, 130, 131, 132, 133, 134, 135, 136] (fun ⟨(prek, sufk), _⟩ => [(137, .lit (.int .i64 ((prek.length : Int))))]) (fun ⟨(prek, sufk), _⟩ => []) (fun ⟨(prek, sufk), _⟩ => sufk.length) ⟨([], _), rfl⟩ (.c (.c (.c (.c (.c (.c (.c (.c (.c (.c (.c (.c (.c (.c (.c (.c (.c (.c (.c (.c (.c (.c (.c (.c (.c (.c (.c (.c (.c (.c (.c (.c (.c (.c (.c (.c (.c (.c (.c (.c (.c (.c (.c (.c (.c (.c (.c (.c (.c (.c (.c .n))))))))))))))))))))))))))))))))))))))))))))))))))) keep_n (slots_c (he := (by first | rfl | (congr 2; simp; done))) (h := trivial)) ?_
                                rintro ⟨⟨prek, sufk⟩, hpk⟩ R2 hR2
                                dsimp only [List.cons_append, List.nil_append, List.length_cons, List.length_nil]
                                simp only at hpk
                                have hplk : prek.length + sufk.length = ([pcV a s, pcV b s, pcV (mergeV a b) s].flatten).length := by rw [← hpk, List.length_append]
                                rcases sufk with _ | ⟨⟨kx, ky⟩, sufk⟩
                                · rw [List.append_nil] at hpk; simp only [List.length_nil] at hplk
                                  refine Ev.sr fun K hK => S.o q.lss (S.end (hK _ ?_))
                                  clear hK K
                                  refine Ev.ud (fun c16 => ?_) (fun c16 => ?_)
                                  · first | omega | contradiction
                                  · first
                                  | (first | omega | contradiction)
                                  | refine Ev.exit ?_
                                    refine hR2 _ _ ?_
                                    show Ev _ _ _ _
                                    refine Ev.region_S fun K hK => S.o q.add (S.o q.mv (S.end (hK _ ?_)))
                                    clear hK K
                                    refine hR0 _ _ ?_
                                    refine roundU [] [0, 1, 5, 15, 97, 98] ⟨(pre ++ [s], suf), by rw [← hp]; simp, ?_⟩ ?_ keep_n (slots_c (he := (by first | rfl | (congr 2; simp; done))) (h := trivial)) (.c (.c (.c (.c (.c (.c .n))))))
                                    trivial
                                    all_goals (dsimp only; simp only [List.length_cons]; omega)
                                · simp only [List.length_cons] at hplk
                                  have hidk : ([pcV a s, pcV b s, pcV (mergeV a b) s].flatten)[prek.length]? = some (kx, ky) := by rw [← hpk]; simp
                                  have hadd : pcN (pcV (mergeV a b) s) kx = pcN (pcV a s) kx + pcN (pcV b s) kx := by rw [v1, v2, v3, pcN_P hoa.2.1, pcN_P hob.2.1, pcN_P hom.2.1, hmv]; exact mg_pc ‹mergeE a b = 0› s kx
                                  obtain ⟨n1, n2⟩ := pcN_bd kx _ z1
                                  obtain ⟨n3, n4⟩ := pcN_bd kx _ z2
                                  obtain ⟨n5, n6⟩ := pcN_bd kx _ z3
                                  refine Ev.sr fun K hK => S.o q.lss (S.end (hK _ ?_))
                                  clear hK K
                                  refine Ev.ud (fun c17 => ?_) (fun c17 => ?_)
                                  · first
                                  | (first | omega | contradiction)
                                  | refine Ev.seq ?_
                                    refine Ev.block ?_
                                    refine Ev.sr fun K hK => S.o (q.ix am_el40 am_cl45 (hl := (by first | exact ati hidx (by omega) | exact ati hidk (by omega) | exact atig (by omega)))) (S.o (q.lsA [_, _] am_ag45 am_cl45) (S.nn (q.al am_ze45) (S.sv [_, _] true [] am_in45 am_cl45 (h := S.end (hK _ ?_)))))
                                    clear hK K
                                    refine Ev.sm (tbs [(0, 0), (0, 0), (0, 0), (3, 4), (4, 15), (0, 0), (0, 0), (0, 0), (8, 128), (9, 511), (0, 0), (0, 0), (0, 0), (13, 4096), (14, 16383), (15, 32767), (16, 65535)]) 17 fun K hK => M.o q.mv (M.o q.mv (M.o (q.fa 0 am_fi45_0 am_cl3) (M.o (q.lv am_ag3) (M.c0 (hF := count_fun (pcV (mergeV a b) s) kx z3 (by omega)) (h := M.o q.mv (M.o q.mv (M.o (q.fa 0 am_fi45_0 am_cl3) (M.o (q.lv am_ag3) (M.c0 (hF := count_fun (pcV a s) kx z1 (by omega)) (h := M.o q.mv (M.o q.mv (M.o (q.fa 0 am_fi45_0 am_cl3) (M.o (q.lv am_ag3) (M.c0 (hF := count_fun (pcV b s) kx z2 (by omega)) (h := M.o q.add (M.o q.neq (M.end [_] (h := S.end (hK _ ?_)))))))))))))))))))
                                    clear hK K
                                    refine Ev.cn (fun c18 => ?_) (fun c18 => ?_)
                                    · first
                                    | (first | omega | contradiction)
                                    | refine Ev.sr fun K hK => S.o q.as (S.end (hK _ ?_))
                                      clear hK K
                                      refine Ev.ret ?_
                                      refine hR2 _ _ ?_
                                      refine hR0 _ _ ?_
                                      refine Ev.ret1 ?_
                                      refine ⟨?_, rfl⟩
                                      first | rfl | exact lawT rfl | exact lawT (by omega) | (exfalso; omega) | contradiction | (exfalso; simp_all; done) | (exfalso; simp at *; done)
                                    · first
                                    | (first | omega | contradiction)
                                    | refine Ev.skip ?_
                                      show Ev _ _ _ _
                                      refine Ev.region_S fun K hK => S.o q.add (S.o q.mv (S.end (hK _ ?_)))
                                      clear hK K
                                      refine hR2 _ _ ?_
                                      refine roundU [] [0, 1, 5, 15, 17, 18, 19, 20, 21, 22, 23, 97, 98, 99, 100, 101, 102, 103, 104, 105, 106, 107, 108, 109, 110, 111, 112, 113, 114, 115, 116, 117, 118, 119, 120, 121, 122, 123, 124, 125, 126, 127, 128, 129, 130, 131, 132, 133, 134, 135, 136] ⟨(prek ++ [(kx, ky)], sufk), by rw [← hpk]; simp⟩ ?_ keep_n (slots_c (he := (by first | rfl | (congr 2; simp; done))) (h := trivial)) (.c (.c (.c (.c (.c (.c (.c (.c (.c (.c (.c (.c (.c (.c (.c (.c (.c (.c (.c (.c (.c (.c (.c (.c (.c (.c (.c (.c (.c (.c (.c (.c (.c (.c (.c (.c (.c (.c (.c (.c (.c (.c (.c (.c (.c (.c (.c (.c (.c (.c (.c .n)))))))))))))))))))))))))))))))))))))))))))))))))))
                                      skip
                                      all_goals (dsimp only; simp only [List.length_cons]; omega)
                                  · first | omega | contradiction
                        · first | omega | contradiction
        · first
        | (first | omega | contradiction)
        | refine S.sk (S.sk (S.o q.pf (S.o q.pf (S.end (hK _ ?_)))))
          clear hK K
          refine Ev.cf ?_
          refine Ev.skip ?_
          show Ev _ _ _ _
          refine Ev.seq ?_
          refine Ev.sr fun K hK => S.o q.mv (S.o q.neq (S.end (hK _ ?_)))
          clear hK K
          refine Ev.cn (fun c19 => ?_) (fun c19 => ?_)
          · first
          | (first | omega | contradiction)
          | have e3 := hmz ‹_›
            refine Ev.sr fun K hK => S.o q.mv (S.o (q.lens am_el22) (S.o q.eql (S.o q.as (S.end (hK _ ?_)))))
            clear hK K
            refine Ev.ret ?_
            refine Ev.ret1 ?_
            refine ⟨?_, rfl⟩
            first | rfl | exact lawT rfl | exact lawT (by omega) | (exfalso; omega) | contradiction | (exfalso; simp_all; done) | (exfalso; simp at *; done)
          · first
          | (first | omega | contradiction)
          | refine Ev.skip ?_
            show Ev _ _ _ _
            obtain ⟨hoa, hob, hmv, hom, hnb⟩ := mg_ok ‹mergeE a b = 0›
            rw [← hmv] at hom
            have hwm : schedW (mergeV a b) := fun x hx => okBar_w (hom.2.1 x hx)
            have hla := hoa.1
            have hlb := hob.1
            have hlm := hom.1
            have f1 : totalV a = cntT a := if_pos hoa
            have f2 : totalV b = cntT b := if_pos hob
            have f3 : totalV (mergeV a b) = cntT (mergeV a b) := if_pos hom
            have f4 : okS a = 0 := if_pos hoa
            have f5 : okS b = 0 := if_pos hob
            have f6 : okS (mergeV a b) = 0 := if_pos hom
            have f7 : cntT (mergeV a b) = cntT a + cntT b := by rw [hmv]; exact mg_cnt ‹mergeE a b = 0›
            obtain ⟨f8, f9⟩ := cntT_bd a hoa.2.1
            obtain ⟨f10, f11⟩ := cntT_bd b hob.2.1
            refine Ev.sr fun K hK => S.o q.mv (S.c0 (hF := stotal_fun _ (by omega) (by assumption)) (h := S.o q.mv (S.o q.ex (S.o q.ex (S.o q.as (S.o q.as (S.end (hK _ ?_))))))))
            clear hK K
            refine Ev.sr fun K hK => S.o q.mv (S.c0 (hF := stotal_fun _ (by omega) (by assumption)) (h := S.o q.mv (S.o q.ex (S.o q.ex (S.o q.as (S.o q.as (S.end (hK _ ?_))))))))
            clear hK K
            refine Ev.sr fun K hK => S.o q.mv (S.c0 (hF := stotal_fun _ (by omega) (by assumption)) (h := S.o q.mv (S.o q.ex (S.o q.ex (S.o q.as (S.o q.as (S.end (hK _ ?_))))))))
            clear hK K
            refine Ev.seq ?_
            refine Ev.sr fun K hK => S.o q.mv (S.o q.neq (S.bn q.mv (fun c20 => ?_) (fun c20 => ?_)))
            · first
            | (first | omega | contradiction)
            | refine S.sk (S.sk (S.o q.pt (S.o q.mv (S.sk (S.sk (S.o q.pt (S.o q.mv (S.sk (S.sk (S.sk (S.sk (S.sk (S.o q.pt (S.end (hK _ ?_)))))))))))))))
              clear hK K
              refine Ev.ct ?_
              refine Ev.sr fun K hK => S.o q.as (S.end (hK _ ?_))
              clear hK K
              refine Ev.ret ?_
              refine Ev.ret1 ?_
              refine ⟨?_, rfl⟩
              first | rfl | exact lawT rfl | exact lawT (by omega) | (exfalso; omega) | contradiction | (exfalso; simp_all; done) | (exfalso; simp at *; done)
            · first
            | (first | omega | contradiction)
            | refine S.o q.mv (S.o q.neq (S.o q.pf (S.bn q.mv (fun c21 => ?_) (fun c21 => ?_))))
              · first
              | (first | omega | contradiction)
              | refine S.sk (S.sk (S.o q.pt (S.o q.mv (S.sk (S.sk (S.sk (S.sk (S.sk (S.o q.pt (S.end (hK _ ?_)))))))))))
                clear hK K
                refine Ev.ct ?_
                refine Ev.sr fun K hK => S.o q.as (S.end (hK _ ?_))
                clear hK K
                refine Ev.ret ?_
                refine Ev.ret1 ?_
                refine ⟨?_, rfl⟩
                first | rfl | exact lawT rfl | exact lawT (by omega) | (exfalso; omega) | contradiction | (exfalso; simp_all; done) | (exfalso; simp at *; done)
              · first
              | (first | omega | contradiction)
              | refine S.o q.mv (S.o q.neq (S.o q.pf (S.bn q.mv (fun c22 => ?_) (fun c22 => ?_))))
                · first
                | (first | omega | contradiction)
                | refine S.sk (S.sk (S.sk (S.sk (S.sk (S.o q.pt (S.end (hK _ ?_)))))))
                  clear hK K
                  refine Ev.ct ?_
                  refine Ev.sr fun K hK => S.o q.as (S.end (hK _ ?_))
                  clear hK K
                  refine Ev.ret ?_
                  refine Ev.ret1 ?_
                  refine ⟨?_, rfl⟩
                  first | rfl | exact lawT rfl | exact lawT (by omega) | (exfalso; omega) | contradiction | (exfalso; simp_all; done) | (exfalso; simp at *; done)
                · first
                | (first | omega | contradiction)
                | refine S.o q.mv (S.o q.mv (S.o q.mv (S.o q.add (S.o q.neq (S.o q.pf (S.end (hK _ ?_)))))))
                  clear hK K
                  refine Ev.cn (fun c23 => ?_) (fun c23 => ?_)
                  · first
                  | (first | omega | contradiction)
                  | refine Ev.sr fun K hK => S.o q.as (S.end (hK _ ?_))
                    clear hK K
                    refine Ev.ret ?_
                    refine Ev.ret1 ?_
                    refine ⟨?_, rfl⟩
                    first | rfl | exact lawT rfl | exact lawT (by omega) | (exfalso; omega) | contradiction | (exfalso; simp_all; done) | (exfalso; simp at *; done)
                  · first
                  | (first | omega | contradiction)
                  | refine Ev.skip ?_
                    show Ev _ _ _ _
                    refine Ev.sr fun K hK => S.o q.as (S.end (hK _ ?_))
                    clear hK K
                    refine Ev.seq ?_
                    refine Ev.sr fun K hK => S.c0 (hF := sizes_fun) (h := S.o (q.lens am_el36) (S.o q.mv (S.end (hK _ ?_))))
                    clear hK K
                    refine Ev.block ?_
                    refine Ev.loopU (ι := {p : List (Int) × List (Int) // p.1 ++ p.2 = sizes ∧ True}) [] [0, 1, 5, 15, 97, 98] (fun ⟨(pre, suf), _⟩ => [(99, .lit (.int .i64 ((pre.length : Int))))]) (fun ⟨(pre, suf), _⟩ => []) (fun ⟨(pre, suf), _⟩ => suf.length) ⟨([], sizes), rfl, trivial⟩ (.c (.c (.c (.c (.c (.c .n)))))) keep_n (slots_c (he := (by first | rfl | (congr 2; simp; done))) (h := trivial)) ?_
                    rintro ⟨⟨pre, suf⟩, hp, hinv⟩ R0 hR0
                    dsimp only [List.cons_append, List.nil_append, List.length_cons, List.length_nil]
                    simp only at hp hinv
                    have hpl : pre.length + suf.length = (sizes).length := by rw [← hp, List.length_append]
                    rcases suf with _ | ⟨s, suf⟩
                    · rw [List.append_nil] at hp; simp only [List.length_nil] at hpl
                      refine Ev.sr fun K hK => S.o q.lss (S.end (hK _ ?_))
                      clear hK K
                      refine Ev.ud (fun c24 => ?_) (fun c24 => ?_)
                      · first | omega | contradiction
                      · first
                      | (first | omega | contradiction)
                      | refine Ev.exit ?_
                        refine hR0 _ _ ?_
                        show Ev _ _ _ _
                        refine Ev.sr fun K hK => S.o q.as (S.end (hK _ ?_))
                        clear hK K
                        refine Ev.ret ?_
                        refine Ev.ret1 ?_
                        refine ⟨?_, rfl⟩
                        first | rfl | exact lawT rfl | exact lawT (by omega) | (exfalso; omega) | contradiction | (exfalso; simp_all; done) | (exfalso; simp at *; done)
                    · simp only [List.length_cons] at hpl
                      have hidx : sizes[pre.length]? = some s := by rw [← hp]; simp
                      have hsz : s ∈ sizes := by rw [← hp]; simp
                      refine Ev.sr fun K hK => S.o q.lss (S.end (hK _ ?_))
                      clear hK K
                      refine Ev.ud (fun c25 => ?_) (fun c25 => ?_)
                      · first
                      | (first | omega | contradiction)
                      | refine Ev.seq ?_
                        refine Ev.block ?_
                        refine Ev.sr fun K hK => S.o (q.ix am_el36 am_cl3 (hl := (by first | exact ati hidx (by omega) | exact atig (by omega)))) (S.o (q.ls am_ag3) (S.o q.as (S.end (hK _ ?_))))
                        clear hK K
                        obtain ⟨v1, w1⟩ := pcV_eq hoa hsz
                        obtain ⟨v2, w2⟩ := pcV_eq hob hsz
                        obtain ⟨v3, w3⟩ := pcV_eq hom hsz
                        obtain ⟨z1, y1⟩ := pcP_bd hoa s
                        obtain ⟨z2, y2⟩ := pcP_bd hob s
                        obtain ⟨z3, y3⟩ := pcP_bd hom s
                        rw [← v1] at z1 y1
                        rw [← v2] at z2 y2
                        rw [← v3] at z3 y3
                        have hfl : ([pcV a s, pcV b s, pcV (mergeV a b) s].flatten).length ≤ 180 := by rw [fl3, List.length_append, List.length_append]; omega
                        refine Ev.sr fun K hK => S.o q.mv (S.o q.mv (S.c0 (hF := Pieces_fun a s (by omega) hwa) (h := S.o q.mv (S.o q.ex (S.o q.ex (S.o q.as (S.o q.as (S.end (hK _ ?_)))))))))
                        clear hK K
                        refine Ev.sr fun K hK => S.o q.mv (S.o q.mv (S.c0 (hF := Pieces_fun b s (by omega) hwb) (h := S.o q.mv (S.o q.ex (S.o q.ex (S.o q.as (S.o q.as (S.end (hK _ ?_)))))))))
                        clear hK K
                        refine Ev.sr fun K hK => S.o q.mv (S.o q.mv (S.c0 (hF := Pieces_fun (mergeV a b) s (by omega) hwm) (h := S.o q.mv (S.o q.ex (S.o q.ex (S.o q.as (S.o q.as (S.end (hK _ ?_)))))))))
                        clear hK K
                        refine Ev.seq ?_
                        refine Ev.sr fun K hK => S.o q.mv (S.o q.neq (S.bn q.mv (fun c26 => ?_) (fun c26 => ?_)))
                        · first
                        | (first | omega | contradiction)
                        | refine S.sk (S.sk (S.o q.pt (S.o q.mv (S.sk (S.sk (S.o q.pt (S.end (hK _ ?_))))))))
                          clear hK K
                          refine Ev.ct ?_
                          refine Ev.sr fun K hK => S.o q.as (S.end (hK _ ?_))
                          clear hK K
                          refine Ev.ret ?_
                          refine hR0 _ _ ?_
                          refine Ev.ret1 ?_
                          refine ⟨?_, rfl⟩
                          first | rfl | exact lawT rfl | exact lawT (by omega) | (exfalso; omega) | contradiction | (exfalso; simp_all; done) | (exfalso; simp at *; done)
                        · first
                        | (first | omega | contradiction)
                        | refine S.o q.mv (S.o q.neq (S.o q.pf (S.bn q.mv (fun c27 => ?_) (fun c27 => ?_))))
                          · first
                          | (first | omega | contradiction)
                          | refine S.sk (S.sk (S.o q.pt (S.end (hK _ ?_))))
                            clear hK K
                            refine Ev.ct ?_
                            refine Ev.sr fun K hK => S.o q.as (S.end (hK _ ?_))
                            clear hK K
                            refine Ev.ret ?_
                            refine hR0 _ _ ?_
                            refine Ev.ret1 ?_
                            refine ⟨?_, rfl⟩
                            first | rfl | exact lawT rfl | exact lawT (by omega) | (exfalso; omega) | contradiction | (exfalso; simp_all; done) | (exfalso; simp at *; done)
                          · first
                          | (first | omega | contradiction)
                          | refine S.o q.mv (S.o q.neq (S.o q.pf (S.end (hK _ ?_))))
                            clear hK K
                            refine Ev.cn (fun c28 => ?_) (fun c28 => ?_)
                            · first
                            | (first | omega | contradiction)
                            | refine Ev.sr fun K hK => S.o q.as (S.end (hK _ ?_))
                              clear hK K
                              refine Ev.ret ?_
                              refine hR0 _ _ ?_
                              refine Ev.ret1 ?_
                              refine ⟨?_, rfl⟩
                              first | rfl | exact lawT rfl | exact lawT (by omega) | (exfalso; omega) | contradiction | (exfalso; simp_all; done) | (exfalso; simp at *; done)
                            · first
                            | (first | omega | contradiction)
                            | refine Ev.skip ?_
                              show Ev _ _ _ _
                              refine Ev.sr fun K hK => S.o q.mv (S.o q.mv (S.o q.mv (S.nn (q.bs [[_], [_], [_]] true am_el69 am_ze40 am_cl40) ?_)))
                              refine SeqL.weaken (Wk.frzl (f := pcsC) [pcV a s, pcV b s, pcV (mergeV a b) s] 134 []) ?_
                              refine S.c1 (hF := concatPc_fun [pcV a s, pcV b s, pcV (mergeV a b) s] (by simp) (fun x hx => by simp only [List.mem_cons, List.not_mem_nil, or_false] at hx; rcases hx with rfl | rfl | rfl <;> omega)) (h := ?_)
                              refine SeqL.weaken (Wk.frz 135 []) ?_
                              refine S.o (q.lens am_el40) (S.o q.mv (S.end (hK _ ?_)))
                              clear hK K
                              refine Ev.block ?_
                              refine Ev.loopU (ι := {q : List (Int × Int) × List (Int × Int) // q.1 ++ q.2 = [pcV a s, pcV b s, pcV (mergeV a b) s].flatten}) [] [0, 1, 5, 15, 17, 18, 19, 20, 21, 22, 23, 97, 98, 99, 100, 101, 102, 103, 104, 105, 106, 107, 108, 109, 110, 111, 112, 113, 114, 115, 116, 117, 118, 119, 120, 121, 122, 123, 124, 125, 126, 127, 128, 129, 130, 131, 132, 133, 134, 135, 136] (fun ⟨(prek, sufk), _⟩ => [(137, .lit (.int .i64 ((prek.length : Int))))]) (fun ⟨(prek, sufk), _⟩ => []) (fun ⟨(prek, sufk), _⟩ => sufk.length) ⟨([], _), rfl⟩ (.c (.c (.c (.c (.c (.c (.c (.c (.c (.c (.c (.c (.c (.c (.c (.c (.c (.c (.c (.c (.c (.c (.c (.c (.c (.c (.c (.c (.c (.c (.c (.c (.c (.c (.c (.c (.c (.c (.c (.c (.c (.c (.c (.c (.c (.c (.c (.c (.c (.c (.c .n))))))))))))))))))))))))))))))))))))))))))))))))))) keep_n (slots_c (he := (by first | rfl | (congr 2; simp; done))) (h := trivial)) ?_
                              rintro ⟨⟨prek, sufk⟩, hpk⟩ R2 hR2
                              dsimp only [List.cons_append, List.nil_append, List.length_cons, List.length_nil]
                              simp only at hpk
                              have hplk : prek.length + sufk.length = ([pcV a s, pcV b s, pcV (mergeV a b) s].flatten).length := by rw [← hpk, List.length_append]
                              rcases sufk with _ | ⟨⟨kx, ky⟩, sufk⟩
                              · rw [List.append_nil] at hpk; simp only [List.length_nil] at hplk
                                refine Ev.sr fun K hK => S.o q.lss (S.end (hK _ ?_))
                                clear hK K
                                refine Ev.ud (fun c29 => ?_) (fun c29 => ?_)
                                · first | omega | contradiction
                                · first
                                | (first | omega | contradiction)
                                | refine Ev.exit ?_
                                  refine hR2 _ _ ?_
                                  show Ev _ _ _ _
                                  refine Ev.region_S fun K hK => S.o q.add (S.o q.mv (S.end (hK _ ?_)))
                                  clear hK K
                                  refine hR0 _ _ ?_
                                  refine roundU [] [0, 1, 5, 15, 97, 98] ⟨(pre ++ [s], suf), by rw [← hp]; simp, ?_⟩ ?_ keep_n (slots_c (he := (by first | rfl | (congr 2; simp; done))) (h := trivial)) (.c (.c (.c (.c (.c (.c .n))))))
                                  trivial
                                  all_goals (dsimp only; simp only [List.length_cons]; omega)
                              · simp only [List.length_cons] at hplk
                                have hidk : ([pcV a s, pcV b s, pcV (mergeV a b) s].flatten)[prek.length]? = some (kx, ky) := by rw [← hpk]; simp
                                have hadd : pcN (pcV (mergeV a b) s) kx = pcN (pcV a s) kx + pcN (pcV b s) kx := by rw [v1, v2, v3, pcN_P hoa.2.1, pcN_P hob.2.1, pcN_P hom.2.1, hmv]; exact mg_pc ‹mergeE a b = 0› s kx
                                obtain ⟨n1, n2⟩ := pcN_bd kx _ z1
                                obtain ⟨n3, n4⟩ := pcN_bd kx _ z2
                                obtain ⟨n5, n6⟩ := pcN_bd kx _ z3
                                refine Ev.sr fun K hK => S.o q.lss (S.end (hK _ ?_))
                                clear hK K
                                refine Ev.ud (fun c30 => ?_) (fun c30 => ?_)
                                · first
                                | (first | omega | contradiction)
                                | refine Ev.seq ?_
                                  refine Ev.block ?_
                                  refine Ev.sr fun K hK => S.o (q.ix am_el40 am_cl45 (hl := (by first | exact ati hidx (by omega) | exact ati hidk (by omega) | exact atig (by omega)))) (S.o (q.lsA [_, _] am_ag45 am_cl45) (S.nn (q.al am_ze45) (S.sv [_, _] true [] am_in45 am_cl45 (h := S.end (hK _ ?_)))))
                                  clear hK K
                                  refine Ev.sm (tbs [(0, 0), (0, 0), (0, 0), (3, 4), (4, 15), (0, 0), (0, 0), (0, 0), (8, 128), (9, 511), (0, 0), (0, 0), (0, 0), (13, 4096), (14, 16383), (15, 32767), (16, 65535)]) 17 fun K hK => M.o q.mv (M.o q.mv (M.o (q.fa 0 am_fi45_0 am_cl3) (M.o (q.lv am_ag3) (M.c0 (hF := count_fun (pcV (mergeV a b) s) kx z3 (by omega)) (h := M.o q.mv (M.o q.mv (M.o (q.fa 0 am_fi45_0 am_cl3) (M.o (q.lv am_ag3) (M.c0 (hF := count_fun (pcV a s) kx z1 (by omega)) (h := M.o q.mv (M.o q.mv (M.o (q.fa 0 am_fi45_0 am_cl3) (M.o (q.lv am_ag3) (M.c0 (hF := count_fun (pcV b s) kx z2 (by omega)) (h := M.o q.add (M.o q.neq (M.end [_] (h := S.end (hK _ ?_)))))))))))))))))))
                                  clear hK K
                                  refine Ev.cn (fun c31 => ?_) (fun c31 => ?_)
                                  · first
                                  | (first | omega | contradiction)
                                  | refine Ev.sr fun K hK => S.o q.as (S.end (hK _ ?_))
                                    clear hK K
                                    refine Ev.ret ?_
                                    refine hR2 _ _ ?_
                                    refine hR0 _ _ ?_
                                    refine Ev.ret1 ?_
                                    refine ⟨?_, rfl⟩
                                    first | rfl | exact lawT rfl | exact lawT (by omega) | (exfalso; omega) | contradiction | (exfalso; simp_all; done) | (exfalso; simp at *; done)
                                  · first
                                  | (first | omega | contradiction)
                                  | refine Ev.skip ?_
                                    show Ev _ _ _ _
                                    refine Ev.region_S fun K hK => S.o q.add (S.o q.mv (S.end (hK _ ?_)))
                                    clear hK K
                                    refine hR2 _ _ ?_
                                    refine roundU [] [0, 1, 5, 15, 17, 18, 19, 20, 21, 22, 23, 97, 98, 99, 100, 101, 102, 103, 104, 105, 106, 107, 108, 109, 110, 111, 112, 113, 114, 115, 116, 117, 118, 119, 120, 121, 122, 123, 124, 125, 126, 127, 128, 129, 130, 131, 132, 133, 134, 135, 136] ⟨(prek ++ [(kx, ky)], sufk), by rw [← hpk]; simp⟩ ?_ keep_n (slots_c (he := (by first | rfl | (congr 2; simp; done))) (h := trivial)) (.c (.c (.c (.c (.c (.c (.c (.c (.c (.c (.c (.c (.c (.c (.c (.c (.c (.c (.c (.c (.c (.c (.c (.c (.c (.c (.c (.c (.c (.c (.c (.c (.c (.c (.c (.c (.c (.c (.c (.c (.c (.c (.c (.c (.c (.c (.c (.c (.c (.c (.c .n)))))))))))))))))))))))))))))))))))))))))))))))))))
                                    skip
                                    all_goals (dsimp only; simp only [List.length_cons]; omega)
                                · first | omega | contradiction
                      · first | omega | contradiction
    · first
    | (first | omega | contradiction)
    | refine S.sk (S.sk (S.sk (S.sk (S.o q.pf (S.o q.mv (S.o q.mv (S.o q.neq (S.bn q.mv (fun c32 => ?_) (fun c32 => ?_)))))))))
      · first
      | (first | omega | contradiction)
      | refine S.o q.mv (S.c0 (hF := schedValid_fun _ (by omega) (by assumption)) (h := S.o q.pt (S.o q.pf (S.end (hK _ ?_)))))
        clear hK K
        refine Ev.cd (fun c33 => ?_) (fun c33 => ?_)
        · first
        | (first | omega | contradiction)
        | refine Ev.sr fun K hK => S.o q.as (S.end (hK _ ?_))
          clear hK K
          refine Ev.ret ?_
          refine Ev.ret1 ?_
          refine ⟨?_, rfl⟩
          first | rfl | exact lawT rfl | exact lawT (by omega) | (exfalso; omega) | contradiction | (exfalso; simp_all; done) | (exfalso; simp at *; done)
        · first
        | (first | omega | contradiction)
        | refine Ev.skip ?_
          show Ev _ _ _ _
          refine Ev.seq ?_
          refine Ev.sr fun K hK => S.o q.mv (S.o q.neq (S.end (hK _ ?_)))
          clear hK K
          refine Ev.cn (fun c34 => ?_) (fun c34 => ?_)
          · first
          | (first | omega | contradiction)
          | have e3 := hmz ‹_›
            refine Ev.sr fun K hK => S.o q.mv (S.o (q.lens am_el22) (S.o q.eql (S.o q.as (S.end (hK _ ?_)))))
            clear hK K
            refine Ev.ret ?_
            refine Ev.ret1 ?_
            refine ⟨?_, rfl⟩
            first | rfl | exact lawT rfl | exact lawT (by omega) | (exfalso; omega) | contradiction | (exfalso; simp_all; done) | (exfalso; simp at *; done)
          · first
          | (first | omega | contradiction)
          | refine Ev.skip ?_
            show Ev _ _ _ _
            obtain ⟨hoa, hob, hmv, hom, hnb⟩ := mg_ok ‹mergeE a b = 0›
            rw [← hmv] at hom
            have hwm : schedW (mergeV a b) := fun x hx => okBar_w (hom.2.1 x hx)
            have hla := hoa.1
            have hlb := hob.1
            have hlm := hom.1
            have f1 : totalV a = cntT a := if_pos hoa
            have f2 : totalV b = cntT b := if_pos hob
            have f3 : totalV (mergeV a b) = cntT (mergeV a b) := if_pos hom
            have f4 : okS a = 0 := if_pos hoa
            have f5 : okS b = 0 := if_pos hob
            have f6 : okS (mergeV a b) = 0 := if_pos hom
            have f7 : cntT (mergeV a b) = cntT a + cntT b := by rw [hmv]; exact mg_cnt ‹mergeE a b = 0›
            obtain ⟨f8, f9⟩ := cntT_bd a hoa.2.1
            obtain ⟨f10, f11⟩ := cntT_bd b hob.2.1
            refine Ev.sr fun K hK => S.o q.mv (S.c0 (hF := stotal_fun _ (by omega) (by assumption)) (h := S.o q.mv (S.o q.ex (S.o q.ex (S.o q.as (S.o q.as (S.end (hK _ ?_))))))))
            clear hK K
            refine Ev.sr fun K hK => S.o q.mv (S.c0 (hF := stotal_fun _ (by omega) (by assumption)) (h := S.o q.mv (S.o q.ex (S.o q.ex (S.o q.as (S.o q.as (S.end (hK _ ?_))))))))
            clear hK K
            refine Ev.sr fun K hK => S.o q.mv (S.c0 (hF := stotal_fun _ (by omega) (by assumption)) (h := S.o q.mv (S.o q.ex (S.o q.ex (S.o q.as (S.o q.as (S.end (hK _ ?_))))))))
            clear hK K
            refine Ev.seq ?_
            refine Ev.sr fun K hK => S.o q.mv (S.o q.neq (S.bn q.mv (fun c35 => ?_) (fun c35 => ?_)))
            · first
            | (first | omega | contradiction)
            | refine S.sk (S.sk (S.o q.pt (S.o q.mv (S.sk (S.sk (S.o q.pt (S.o q.mv (S.sk (S.sk (S.sk (S.sk (S.sk (S.o q.pt (S.end (hK _ ?_)))))))))))))))
              clear hK K
              refine Ev.ct ?_
              refine Ev.sr fun K hK => S.o q.as (S.end (hK _ ?_))
              clear hK K
              refine Ev.ret ?_
              refine Ev.ret1 ?_
              refine ⟨?_, rfl⟩
              first | rfl | exact lawT rfl | exact lawT (by omega) | (exfalso; omega) | contradiction | (exfalso; simp_all; done) | (exfalso; simp at *; done)
            · first
            | (first | omega | contradiction)
            | refine S.o q.mv (S.o q.neq (S.o q.pf (S.bn q.mv (fun c36 => ?_) (fun c36 => ?_))))
              · first
              | (first | omega | contradiction)
              | refine S.sk (S.sk (S.o q.pt (S.o q.mv (S.sk (S.sk (S.sk (S.sk (S.sk (S.o q.pt (S.end (hK _ ?_)))))))))))
                clear hK K
                refine Ev.ct ?_
                refine Ev.sr fun K hK => S.o q.as (S.end (hK _ ?_))
                clear hK K
                refine Ev.ret ?_
                refine Ev.ret1 ?_
                refine ⟨?_, rfl⟩
                first | rfl | exact lawT rfl | exact lawT (by omega) | (exfalso; omega) | contradiction | (exfalso; simp_all; done) | (exfalso; simp at *; done)
              · first
              | (first | omega | contradiction)
              | refine S.o q.mv (S.o q.neq (S.o q.pf (S.bn q.mv (fun c37 => ?_) (fun c37 => ?_))))
                · first
                | (first | omega | contradiction)
                | refine S.sk (S.sk (S.sk (S.sk (S.sk (S.o q.pt (S.end (hK _ ?_)))))))
                  clear hK K
                  refine Ev.ct ?_
                  refine Ev.sr fun K hK => S.o q.as (S.end (hK _ ?_))
                  clear hK K
                  refine Ev.ret ?_
                  refine Ev.ret1 ?_
                  refine ⟨?_, rfl⟩
                  first | rfl | exact lawT rfl | exact lawT (by omega) | (exfalso; omega) | contradiction | (exfalso; simp_all; done) | (exfalso; simp at *; done)
                · first
                | (first | omega | contradiction)
                | refine S.o q.mv (S.o q.mv (S.o q.mv (S.o q.add (S.o q.neq (S.o q.pf (S.end (hK _ ?_)))))))
                  clear hK K
                  refine Ev.cn (fun c38 => ?_) (fun c38 => ?_)
                  · first
                  | (first | omega | contradiction)
                  | refine Ev.sr fun K hK => S.o q.as (S.end (hK _ ?_))
                    clear hK K
                    refine Ev.ret ?_
                    refine Ev.ret1 ?_
                    refine ⟨?_, rfl⟩
                    first | rfl | exact lawT rfl | exact lawT (by omega) | (exfalso; omega) | contradiction | (exfalso; simp_all; done) | (exfalso; simp at *; done)
                  · first
                  | (first | omega | contradiction)
                  | refine Ev.skip ?_
                    show Ev _ _ _ _
                    refine Ev.sr fun K hK => S.o q.as (S.end (hK _ ?_))
                    clear hK K
                    refine Ev.seq ?_
                    refine Ev.sr fun K hK => S.c0 (hF := sizes_fun) (h := S.o (q.lens am_el36) (S.o q.mv (S.end (hK _ ?_))))
                    clear hK K
                    refine Ev.block ?_
                    refine Ev.loopU (ι := {p : List (Int) × List (Int) // p.1 ++ p.2 = sizes ∧ True}) [] [0, 1, 5, 15, 97, 98] (fun ⟨(pre, suf), _⟩ => [(99, .lit (.int .i64 ((pre.length : Int))))]) (fun ⟨(pre, suf), _⟩ => []) (fun ⟨(pre, suf), _⟩ => suf.length) ⟨([], sizes), rfl, trivial⟩ (.c (.c (.c (.c (.c (.c .n)))))) keep_n (slots_c (he := (by first | rfl | (congr 2; simp; done))) (h := trivial)) ?_
                    rintro ⟨⟨pre, suf⟩, hp, hinv⟩ R0 hR0
                    dsimp only [List.cons_append, List.nil_append, List.length_cons, List.length_nil]
                    simp only at hp hinv
                    have hpl : pre.length + suf.length = (sizes).length := by rw [← hp, List.length_append]
                    rcases suf with _ | ⟨s, suf⟩
                    · rw [List.append_nil] at hp; simp only [List.length_nil] at hpl
                      refine Ev.sr fun K hK => S.o q.lss (S.end (hK _ ?_))
                      clear hK K
                      refine Ev.ud (fun c39 => ?_) (fun c39 => ?_)
                      · first | omega | contradiction
                      · first
                      | (first | omega | contradiction)
                      | refine Ev.exit ?_
                        refine hR0 _ _ ?_
                        show Ev _ _ _ _
                        refine Ev.sr fun K hK => S.o q.as (S.end (hK _ ?_))
                        clear hK K
                        refine Ev.ret ?_
                        refine Ev.ret1 ?_
                        refine ⟨?_, rfl⟩
                        first | rfl | exact lawT rfl | exact lawT (by omega) | (exfalso; omega) | contradiction | (exfalso; simp_all; done) | (exfalso; simp at *; done)
                    · simp only [List.length_cons] at hpl
                      have hidx : sizes[pre.length]? = some s := by rw [← hp]; simp
                      have hsz : s ∈ sizes := by rw [← hp]; simp
                      refine Ev.sr fun K hK => S.o q.lss (S.end (hK _ ?_))
                      clear hK K
                      refine Ev.ud (fun c40 => ?_) (fun c40 => ?_)
                      · first
                      | (first | omega | contradiction)
                      | refine Ev.seq ?_
                        refine Ev.block ?_
                        refine Ev.sr fun K hK => S.o (q.ix am_el36 am_cl3 (hl := (by first | exact ati hidx (by omega) | exact atig (by omega)))) (S.o (q.ls am_ag3) (S.o q.as (S.end (hK _ ?_))))
                        clear hK K
                        obtain ⟨v1, w1⟩ := pcV_eq hoa hsz
                        obtain ⟨v2, w2⟩ := pcV_eq hob hsz
                        obtain ⟨v3, w3⟩ := pcV_eq hom hsz
                        obtain ⟨z1, y1⟩ := pcP_bd hoa s
                        obtain ⟨z2, y2⟩ := pcP_bd hob s
                        obtain ⟨z3, y3⟩ := pcP_bd hom s
                        rw [← v1] at z1 y1
                        rw [← v2] at z2 y2
                        rw [← v3] at z3 y3
                        have hfl : ([pcV a s, pcV b s, pcV (mergeV a b) s].flatten).length ≤ 180 := by rw [fl3, List.length_append, List.length_append]; omega
                        refine Ev.sr fun K hK => S.o q.mv (S.o q.mv (S.c0 (hF := Pieces_fun a s (by omega) hwa) (h := S.o q.mv (S.o q.ex (S.o q.ex (S.o q.as (S.o q.as (S.end (hK _ ?_)))))))))
                        clear hK K
                        refine Ev.sr fun K hK => S.o q.mv (S.o q.mv (S.c0 (hF := Pieces_fun b s (by omega) hwb) (h := S.o q.mv (S.o q.ex (S.o q.ex (S.o q.as (S.o q.as (S.end (hK _ ?_)))))))))
                        clear hK K
                        refine Ev.sr fun K hK => S.o q.mv (S.o q.mv (S.c0 (hF := Pieces_fun (mergeV a b) s (by omega) hwm) (h := S.o q.mv (S.o q.ex (S.o q.ex (S.o q.as (S.o q.as (S.end (hK _ ?_)))))))))
                        clear hK K
                        refine Ev.seq ?_
                        refine Ev.sr fun K hK => S.o q.mv (S.o q.neq (S.bn q.mv (fun c41 => ?_) (fun c41 => ?_)))
                        · first
                        | (first | omega | contradiction)
                        | refine S.sk (S.sk (S.o q.pt (S.o q.mv (S.sk (S.sk (S.o q.pt (S.end (hK _ ?_))))))))
                          clear hK K
                          refine Ev.ct ?_
                          refine Ev.sr fun K hK => S.o q.as (S.end (hK _ ?_))
                          clear hK K
                          refine Ev.ret ?_
                          refine hR0 _ _ ?_
                          refine Ev.ret1 ?_
                          refine ⟨?_, rfl⟩
                          first | rfl | exact lawT rfl | exact lawT (by omega) | (exfalso; omega) | contradiction | (exfalso; simp_all; done) | (exfalso; simp at *; done)
                        · first
                        | (first | omega | contradiction)
                        | refine S.o q.mv (S.o q.neq (S.o q.pf (S.bn q.mv (fun c42 => ?_) (fun c42 => ?_))))
                          · first
                          | (first | omega | contradiction)
                          | refine S.sk (S.sk (S.o q.pt (S.end (hK _ ?_))))
                            clear hK K
                            refine Ev.ct ?_
                            refine Ev.sr fun K hK => S.o q.as (S.end (hK _ ?_))
                            clear hK K
                            refine Ev.ret ?_
                            refine hR0 _ _ ?_
                            refine Ev.ret1 ?_
                            refine ⟨?_, rfl⟩
                            first | rfl | exact lawT rfl | exact lawT (by omega) | (exfalso; omega) | contradiction | (exfalso; simp_all; done) | (exfalso; simp at *; done)
                          · first
                          | (first | omega | contradiction)
                          | refine S.o q.mv (S.o q.neq (S.o q.pf (S.end (hK _ ?_))))
                            clear hK K
                            refine Ev.cn (fun c43 => ?_) (fun c43 => ?_)
                            · first
                            | (first | omega | contradiction)
                            | refine Ev.sr fun K hK => S.o q.as (S.end (hK _ ?_))
                              clear hK K
                              refine Ev.ret ?_
                              refine hR0 _ _ ?_
                              refine Ev.ret1 ?_
                              refine ⟨?_, rfl⟩
                              first | rfl | exact lawT rfl | exact lawT (by omega) | (exfalso; omega) | contradiction | (exfalso; simp_all; done) | (exfalso; simp at *; done)
                            · first
                            | (first | omega | contradiction)
                            | refine Ev.skip ?_
                              show Ev _ _ _ _
                              refine Ev.sr fun K hK => S.o q.mv (S.o q.mv (S.o q.mv (S.nn (q.bs [[_], [_], [_]] true am_el69 am_ze40 am_cl40) ?_)))
                              refine SeqL.weaken (Wk.frzl (f := pcsC) [pcV a s, pcV b s, pcV (mergeV a b) s] 134 []) ?_
                              refine S.c1 (hF := concatPc_fun [pcV a s, pcV b s, pcV (mergeV a b) s] (by simp) (fun x hx => by simp only [List.mem_cons, List.not_mem_nil, or_false] at hx; rcases hx with rfl | rfl | rfl <;> omega)) (h := ?_)
                              refine SeqL.weaken (Wk.frz 135 []) ?_
                              refine S.o (q.lens am_el40) (S.o q.mv (S.end (hK _ ?_)))
                              clear hK K
                              refine Ev.block ?_
                              refine Ev.loopU (ι := {q : List (Int × Int) × List (Int × Int) // q.1 ++ q.2 = [pcV a s, pcV b s, pcV (mergeV a b) s].flatten}) [] [0, 1, 5, 15, 17, 18, 19, 20, 21, 22, 23, 97, 98, 99, 100, 101, 102, 103, 104, 105, 106, 107, 108, 109, 110, 111, 112, 113, 114, 115, 116, 117, 118, 119, 120, 121, 122, 123, 124, 125, 126, 127, 128, 129, 130, 131, 132, 133, 134, 135, 136] (fun ⟨(prek, sufk), _⟩ => [(137, .lit (.int .i64 ((prek.length : Int))))]) (fun ⟨(prek, sufk), _⟩ => []) (fun ⟨(prek, sufk), _⟩ => sufk.length) ⟨([], _), rfl⟩ (.c (.c (.c (.c (.c (.c (.c (.c (.c (.c (.c (.c (.c (.c (.c (.c (.c (.c (.c (.c (.c (.c (.c (.c (.c (.c (.c (.c (.c (.c (.c (.c (.c (.c (.c (.c (.c (.c (.c (.c (.c (.c (.c (.c (.c (.c (.c (.c (.c (.c (.c .n))))))))))))))))))))))))))))))))))))))))))))))))))) keep_n (slots_c (he := (by first | rfl | (congr 2; simp; done))) (h := trivial)) ?_
                              rintro ⟨⟨prek, sufk⟩, hpk⟩ R2 hR2
                              dsimp only [List.cons_append, List.nil_append, List.length_cons, List.length_nil]
                              simp only at hpk
                              have hplk : prek.length + sufk.length = ([pcV a s, pcV b s, pcV (mergeV a b) s].flatten).length := by rw [← hpk, List.length_append]
                              rcases sufk with _ | ⟨⟨kx, ky⟩, sufk⟩
                              · rw [List.append_nil] at hpk; simp only [List.length_nil] at hplk
                                refine Ev.sr fun K hK => S.o q.lss (S.end (hK _ ?_))
                                clear hK K
                                refine Ev.ud (fun c44 => ?_) (fun c44 => ?_)
                                · first | omega | contradiction
                                · first
                                | (first | omega | contradiction)
                                | refine Ev.exit ?_
                                  refine hR2 _ _ ?_
                                  show Ev _ _ _ _
                                  refine Ev.region_S fun K hK => S.o q.add (S.o q.mv (S.end (hK _ ?_)))
                                  clear hK K
                                  refine hR0 _ _ ?_
                                  refine roundU [] [0, 1, 5, 15, 97, 98] ⟨(pre ++ [s], suf), by rw [← hp]; simp, ?_⟩ ?_ keep_n (slots_c (he := (by first | rfl | (congr 2; simp; done))) (h := trivial)) (.c (.c (.c (.c (.c (.c .n))))))
                                  trivial
                                  all_goals (dsimp only; simp only [List.length_cons]; omega)
                              · simp only [List.length_cons] at hplk
                                have hidk : ([pcV a s, pcV b s, pcV (mergeV a b) s].flatten)[prek.length]? = some (kx, ky) := by rw [← hpk]; simp
                                have hadd : pcN (pcV (mergeV a b) s) kx = pcN (pcV a s) kx + pcN (pcV b s) kx := by rw [v1, v2, v3, pcN_P hoa.2.1, pcN_P hob.2.1, pcN_P hom.2.1, hmv]; exact mg_pc ‹mergeE a b = 0› s kx
                                obtain ⟨n1, n2⟩ := pcN_bd kx _ z1
                                obtain ⟨n3, n4⟩ := pcN_bd kx _ z2
                                obtain ⟨n5, n6⟩ := pcN_bd kx _ z3
                                refine Ev.sr fun K hK => S.o q.lss (S.end (hK _ ?_))
                                clear hK K
                                refine Ev.ud (fun c45 => ?_) (fun c45 => ?_)
                                · first
                                | (first | omega | contradiction)
                                | refine Ev.seq ?_
                                  refine Ev.block ?_
                                  refine Ev.sr fun K hK => S.o (q.ix am_el40 am_cl45 (hl := (by first | exact ati hidx (by omega) | exact ati hidk (by omega) | exact atig (by omega)))) (S.o (q.lsA [_, _] am_ag45 am_cl45) (S.nn (q.al am_ze45) (S.sv [_, _] true [] am_in45 am_cl45 (h := S.end (hK _ ?_)))))
                                  clear hK K
                                  refine Ev.sm (tbs [(0, 0), (0, 0), (0, 0), (3, 4), (4, 15), (0, 0), (0, 0), (0, 0), (8, 128), (9, 511), (0, 0), (0, 0), (0, 0), (13, 4096), (14, 16383), (15, 32767), (16, 65535)]) 17 fun K hK => M.o q.mv (M.o q.mv (M.o (q.fa 0 am_fi45_0 am_cl3) (M.o (q.lv am_ag3) (M.c0 (hF := count_fun (pcV (mergeV a b) s) kx z3 (by omega)) (h := M.o q.mv (M.o q.mv (M.o (q.fa 0 am_fi45_0 am_cl3) (M.o (q.lv am_ag3) (M.c0 (hF := count_fun (pcV a s) kx z1 (by omega)) (h := M.o q.mv (M.o q.mv (M.o (q.fa 0 am_fi45_0 am_cl3) (M.o (q.lv am_ag3) (M.c0 (hF := count_fun (pcV b s) kx z2 (by omega)) (h := M.o q.add (M.o q.neq (M.end [_] (h := S.end (hK _ ?_)))))))))))))))))))
                                  clear hK K
                                  refine Ev.cn (fun c46 => ?_) (fun c46 => ?_)
                                  · first
                                  | (first | omega | contradiction)
                                  | refine Ev.sr fun K hK => S.o q.as (S.end (hK _ ?_))
                                    clear hK K
                                    refine Ev.ret ?_
                                    refine hR2 _ _ ?_
                                    refine hR0 _ _ ?_
                                    refine Ev.ret1 ?_
                                    refine ⟨?_, rfl⟩
                                    first | rfl | exact lawT rfl | exact lawT (by omega) | (exfalso; omega) | contradiction | (exfalso; simp_all; done) | (exfalso; simp at *; done)
                                  · first
                                  | (first | omega | contradiction)
                                  | refine Ev.skip ?_
                                    show Ev _ _ _ _
                                    refine Ev.region_S fun K hK => S.o q.add (S.o q.mv (S.end (hK _ ?_)))
                                    clear hK K
                                    refine hR2 _ _ ?_
                                    refine roundU [] [0, 1, 5, 15, 17, 18, 19, 20, 21, 22, 23, 97, 98, 99, 100, 101, 102, 103, 104, 105, 106, 107, 108, 109, 110, 111, 112, 113, 114, 115, 116, 117, 118, 119, 120, 121, 122, 123, 124, 125, 126, 127, 128, 129, 130, 131, 132, 133, 134, 135, 136] ⟨(prek ++ [(kx, ky)], sufk), by rw [← hpk]; simp⟩ ?_ keep_n (slots_c (he := (by first | rfl | (congr 2; simp; done))) (h := trivial)) (.c (.c (.c (.c (.c (.c (.c (.c (.c (.c (.c (.c (.c (.c (.c (.c (.c (.c (.c (.c (.c (.c (.c (.c (.c (.c (.c (.c (.c (.c (.c (.c (.c (.c (.c (.c (.c (.c (.c (.c (.c (.c (.c (.c (.c (.c (.c (.c (.c (.c (.c .n)))))))))))))))))))))))))))))))))))))))))))))))))))
                                    skip
                                    all_goals (dsimp only; simp only [List.length_cons]; omega)
                                · first | omega | contradiction
                      · first | omega | contradiction
      · first
      | (first | omega | contradiction)
      | refine S.sk (S.sk (S.o q.pf (S.o q.pf (S.end (hK _ ?_)))))
        clear hK K
        refine Ev.cf ?_
        refine Ev.skip ?_
        show Ev _ _ _ _
        refine Ev.seq ?_
        refine Ev.sr fun K hK => S.o q.mv (S.o q.neq (S.end (hK _ ?_)))
        clear hK K
        refine Ev.cn (fun c47 => ?_) (fun c47 => ?_)
        · first
        | (first | omega | contradiction)
        | have e3 := hmz ‹_›
          refine Ev.sr fun K hK => S.o q.mv (S.o (q.lens am_el22) (S.o q.eql (S.o q.as (S.end (hK _ ?_)))))
          clear hK K
          refine Ev.ret ?_
          refine Ev.ret1 ?_
          refine ⟨?_, rfl⟩
          first | rfl | exact lawT rfl | exact lawT (by omega) | (exfalso; omega) | contradiction | (exfalso; simp_all; done) | (exfalso; simp at *; done)
        · first
        | (first | omega | contradiction)
        | refine Ev.skip ?_
          show Ev _ _ _ _
          obtain ⟨hoa, hob, hmv, hom, hnb⟩ := mg_ok ‹mergeE a b = 0›
          rw [← hmv] at hom
          have hwm : schedW (mergeV a b) := fun x hx => okBar_w (hom.2.1 x hx)
          have hla := hoa.1
          have hlb := hob.1
          have hlm := hom.1
          have f1 : totalV a = cntT a := if_pos hoa
          have f2 : totalV b = cntT b := if_pos hob
          have f3 : totalV (mergeV a b) = cntT (mergeV a b) := if_pos hom
          have f4 : okS a = 0 := if_pos hoa
          have f5 : okS b = 0 := if_pos hob
          have f6 : okS (mergeV a b) = 0 := if_pos hom
          have f7 : cntT (mergeV a b) = cntT a + cntT b := by rw [hmv]; exact mg_cnt ‹mergeE a b = 0›
          obtain ⟨f8, f9⟩ := cntT_bd a hoa.2.1
          obtain ⟨f10, f11⟩ := cntT_bd b hob.2.1
          refine Ev.sr fun K hK => S.o q.mv (S.c0 (hF := stotal_fun _ (by omega) (by assumption)) (h := S.o q.mv (S.o q.ex (S.o q.ex (S.o q.as (S.o q.as (S.end (hK _ ?_))))))))
          clear hK K
          refine Ev.sr fun K hK => S.o q.mv (S.c0 (hF := stotal_fun _ (by omega) (by assumption)) (h := S.o q.mv (S.o q.ex (S.o q.ex (S.o q.as (S.o q.as (S.end (hK _ ?_))))))))
          clear hK K
          refine Ev.sr fun K hK => S.o q.mv (S.c0 (hF := stotal_fun _ (by omega) (by assumption)) (h := S.o q.mv (S.o q.ex (S.o q.ex (S.o q.as (S.o q.as (S.end (hK _ ?_))))))))
          clear hK K
          refine Ev.seq ?_
          refine Ev.sr fun K hK => S.o q.mv (S.o q.neq (S.bn q.mv (fun c48 => ?_) (fun c48 => ?_)))
          · first
          | (first | omega | contradiction)
          | refine S.sk (S.sk (S.o q.pt (S.o q.mv (S.sk (S.sk (S.o q.pt (S.o q.mv (S.sk (S.sk (S.sk (S.sk (S.sk (S.o q.pt (S.end (hK _ ?_)))))))))))))))
            clear hK K
            refine Ev.ct ?_
            refine Ev.sr fun K hK => S.o q.as (S.end (hK _ ?_))
            clear hK K
            refine Ev.ret ?_
            refine Ev.ret1 ?_
            refine ⟨?_, rfl⟩
            first | rfl | exact lawT rfl | exact lawT (by omega) | (exfalso; omega) | contradiction | (exfalso; simp_all; done) | (exfalso; simp at *; done)
          · first
          | (first | omega | contradiction)
          | refine S.o q.mv (S.o q.neq (S.o q.pf (S.bn q.mv (fun c49 => ?_) (fun c49 => ?_))))
            · first
            | (first | omega | contradiction)
            | refine S.sk (S.sk (S.o q.pt (S.o q.mv (S.sk (S.sk (S.sk (S.sk (S.sk (S.o q.pt (S.end (hK _ ?_)))))))))))
              clear hK K
              refine Ev.ct ?_
              refine Ev.sr fun K hK => S.o q.as (S.end (hK _ ?_))
              clear hK K
              refine Ev.ret ?_
              refine Ev.ret1 ?_
              refine ⟨?_, rfl⟩
              first | rfl | exact lawT rfl | exact lawT (by omega) | (exfalso; omega) | contradiction | (exfalso; simp_all; done) | (exfalso; simp at *; done)
            · first
            | (first | omega | contradiction)
            | refine S.o q.mv (S.o q.neq (S.o q.pf (S.bn q.mv (fun c50 => ?_) (fun c50 => ?_))))
              · first
              | (first | omega | contradiction)
              | refine S.sk (S.sk (S.sk (S.sk (S.sk (S.o q.pt (S.end (hK _ ?_)))))))
                clear hK K
                refine Ev.ct ?_
                refine Ev.sr fun K hK => S.o q.as (S.end (hK _ ?_))
                clear hK K
                refine Ev.ret ?_
                refine Ev.ret1 ?_
                refine ⟨?_, rfl⟩
                first | rfl | exact lawT rfl | exact lawT (by omega) | (exfalso; omega) | contradiction | (exfalso; simp_all; done) | (exfalso; simp at *; done)
              · first
              | (first | omega | contradiction)
              | refine S.o q.mv (S.o q.mv (S.o q.mv (S.o q.add (S.o q.neq (S.o q.pf (S.end (hK _ ?_)))))))
                clear hK K
                refine Ev.cn (fun c51 => ?_) (fun c51 => ?_)
                · first
                | (first | omega | contradiction)
                | refine Ev.sr fun K hK => S.o q.as (S.end (hK _ ?_))
                  clear hK K
                  refine Ev.ret ?_
                  refine Ev.ret1 ?_
                  refine ⟨?_, rfl⟩
                  first | rfl | exact lawT rfl | exact lawT (by omega) | (exfalso; omega) | contradiction | (exfalso; simp_all; done) | (exfalso; simp at *; done)
                · first
                | (first | omega | contradiction)
                | refine Ev.skip ?_
                  show Ev _ _ _ _
                  refine Ev.sr fun K hK => S.o q.as (S.end (hK _ ?_))
                  clear hK K
                  refine Ev.seq ?_
                  refine Ev.sr fun K hK => S.c0 (hF := sizes_fun) (h := S.o (q.lens am_el36) (S.o q.mv (S.end (hK _ ?_))))
                  clear hK K
                  refine Ev.block ?_
                  refine Ev.loopU (ι := {p : List (Int) × List (Int) // p.1 ++ p.2 = sizes ∧ True}) [] [0, 1, 5, 15, 97, 98] (fun ⟨(pre, suf), _⟩ => [(99, .lit (.int .i64 ((pre.length : Int))))]) (fun ⟨(pre, suf), _⟩ => []) (fun ⟨(pre, suf), _⟩ => suf.length) ⟨([], sizes), rfl, trivial⟩ (.c (.c (.c (.c (.c (.c .n)))))) keep_n (slots_c (he := (by first | rfl | (congr 2; simp; done))) (h := trivial)) ?_
                  rintro ⟨⟨pre, suf⟩, hp, hinv⟩ R0 hR0
                  dsimp only [List.cons_append, List.nil_append, List.length_cons, List.length_nil]
                  simp only at hp hinv
                  have hpl : pre.length + suf.length = (sizes).length := by rw [← hp, List.length_append]
                  rcases suf with _ | ⟨s, suf⟩
                  · rw [List.append_nil] at hp; simp only [List.length_nil] at hpl
                    refine Ev.sr fun K hK => S.o q.lss (S.end (hK _ ?_))
                    clear hK K
                    refine Ev.ud (fun c52 => ?_) (fun c52 => ?_)
                    · first | omega | contradiction
                    · first
                    | (first | omega | contradiction)
                    | refine Ev.exit ?_
                      refine hR0 _ _ ?_
                      show Ev _ _ _ _
                      refine Ev.sr fun K hK => S.o q.as (S.end (hK _ ?_))
                      clear hK K
                      refine Ev.ret ?_
                      refine Ev.ret1 ?_
                      refine ⟨?_, rfl⟩
                      first | rfl | exact lawT rfl | exact lawT (by omega) | (exfalso; omega) | contradiction | (exfalso; simp_all; done) | (exfalso; simp at *; done)
                  · simp only [List.length_cons] at hpl
                    have hidx : sizes[pre.length]? = some s := by rw [← hp]; simp
                    have hsz : s ∈ sizes := by rw [← hp]; simp
                    refine Ev.sr fun K hK => S.o q.lss (S.end (hK _ ?_))
                    clear hK K
                    refine Ev.ud (fun c53 => ?_) (fun c53 => ?_)
                    · first
                    | (first | omega | contradiction)
                    | refine Ev.seq ?_
                      refine Ev.block ?_
                      refine Ev.sr fun K hK => S.o (q.ix am_el36 am_cl3 (hl := (by first | exact ati hidx (by omega) | exact atig (by omega)))) (S.o (q.ls am_ag3) (S.o q.as (S.end (hK _ ?_))))
                      clear hK K
                      obtain ⟨v1, w1⟩ := pcV_eq hoa hsz
                      obtain ⟨v2, w2⟩ := pcV_eq hob hsz
                      obtain ⟨v3, w3⟩ := pcV_eq hom hsz
                      obtain ⟨z1, y1⟩ := pcP_bd hoa s
                      obtain ⟨z2, y2⟩ := pcP_bd hob s
                      obtain ⟨z3, y3⟩ := pcP_bd hom s
                      rw [← v1] at z1 y1
                      rw [← v2] at z2 y2
                      rw [← v3] at z3 y3
                      have hfl : ([pcV a s, pcV b s, pcV (mergeV a b) s].flatten).length ≤ 180 := by rw [fl3, List.length_append, List.length_append]; omega
                      refine Ev.sr fun K hK => S.o q.mv (S.o q.mv (S.c0 (hF := Pieces_fun a s (by omega) hwa) (h := S.o q.mv (S.o q.ex (S.o q.ex (S.o q.as (S.o q.as (S.end (hK _ ?_)))))))))
                      clear hK K
                      refine Ev.sr fun K hK => S.o q.mv (S.o q.mv (S.c0 (hF := Pieces_fun b s (by omega) hwb) (h := S.o q.mv (S.o q.ex (S.o q.ex (S.o q.as (S.o q.as (S.end (hK _ ?_)))))))))
                      clear hK K
                      refine Ev.sr fun K hK => S.o q.mv (S.o q.mv (S.c0 (hF := Pieces_fun (mergeV a b) s (by omega) hwm) (h := S.o q.mv (S.o q.ex (S.o q.ex (S.o q.as (S.o q.as (S.end (hK _ ?_)))))))))
                      clear hK K
                      refine Ev.seq ?_
                      refine Ev.sr fun K hK => S.o q.mv (S.o q.neq (S.bn q.mv (fun c54 => ?_) (fun c54 => ?_)))
                      · first
                      | (first | omega | contradiction)
                      | refine S.sk (S.sk (S.o q.pt (S.o q.mv (S.sk (S.sk (S.o q.pt (S.end (hK _ ?_))))))))
                        clear hK K
                        refine Ev.ct ?_
                        refine Ev.sr fun K hK => S.o q.as (S.end (hK _ ?_))
                        clear hK K
                        refine Ev.ret ?_
                        refine hR0 _ _ ?_
                        refine Ev.ret1 ?_
                        refine ⟨?_, rfl⟩
                        first | rfl | exact lawT rfl | exact lawT (by omega) | (exfalso; omega) | contradiction | (exfalso; simp_all; done) | (exfalso; simp at *; done)
                      · first
                      | (first | omega | contradiction)
                      | refine S.o q.mv (S.o q.neq (S.o q.pf (S.bn q.mv (fun c55 => ?_) (fun c55 => ?_))))
                        · first
                        | (first | omega | contradiction)
                        | refine S.sk (S.sk (S.o q.pt (S.end (hK _ ?_))))
                          clear hK K
                          refine Ev.ct ?_
                          refine Ev.sr fun K hK => S.o q.as (S.end (hK _ ?_))
                          clear hK K
                          refine Ev.ret ?_
                          refine hR0 _ _ ?_
                          refine Ev.ret1 ?_
                          refine ⟨?_, rfl⟩
                          first | rfl | exact lawT rfl | exact lawT (by omega) | (exfalso; omega) | contradiction | (exfalso; simp_all; done) | (exfalso; simp at *; done)
                        · first
                        | (first | omega | contradiction)
                        | refine S.o q.mv (S.o q.neq (S.o q.pf (S.end (hK _ ?_))))
                          clear hK K
                          refine Ev.cn (fun c56 => ?_) (fun c56 => ?_)
                          · first
                          | (first | omega | contradiction)
                          | refine Ev.sr fun K hK => S.o q.as (S.end (hK _ ?_))
                            clear hK K
                            refine Ev.ret ?_
                            refine hR0 _ _ ?_
                            refine Ev.ret1 ?_
                            refine ⟨?_, rfl⟩
                            first | rfl | exact lawT rfl | exact lawT (by omega) | (exfalso; omega) | contradiction | (exfalso; simp_all; done) | (exfalso; simp at *; done)
                          · first
                          | (first | omega | contradiction)
                          | refine Ev.skip ?_
                            show Ev _ _ _ _
                            refine Ev.sr fun K hK => S.o q.mv (S.o q.mv (S.o q.mv (S.nn (q.bs [[_], [_], [_]] true am_el69 am_ze40 am_cl40) ?_)))
                            refine SeqL.weaken (Wk.frzl (f := pcsC) [pcV a s, pcV b s, pcV (mergeV a b) s] 134 []) ?_
                            refine S.c1 (hF := concatPc_fun [pcV a s, pcV b s, pcV (mergeV a b) s] (by simp) (fun x hx => by simp only [List.mem_cons, List.not_mem_nil, or_false] at hx; rcases hx with rfl | rfl | rfl <;> omega)) (h := ?_)
                            refine SeqL.weaken (Wk.frz 135 []) ?_
                            refine S.o (q.lens am_el40) (S.o q.mv (S.end (hK _ ?_)))
                            clear hK K
                            refine Ev.block ?_
                            refine Ev.loopU (ι := {q : List (Int × Int) × List (Int × Int) // q.1 ++ q.2 = [pcV a s, pcV b s, pcV (mergeV a b) s].flatten}) [] [0, 1, 5, 15, 17, 18, 19, 20, 21, 22, 23, 97, 98, 99, 100, 101, 102, 103, 104, 105, 106, 107, 108, 109, 110, 111, 112, 113, 114, 115, 116, 117, 118, 119, 120, 121, 122, 123, 124, 125, 126, 127, 128, 129, 130, 131, 132, 133, 134, 135, 136] (fun ⟨(prek, sufk), _⟩ => [(137, .lit (.int .i64 ((prek.length : Int))))]) (fun ⟨(prek, sufk), _⟩ => []) (fun ⟨(prek, sufk), _⟩ => sufk.length) ⟨([], _), rfl⟩ (.c (.c (.c (.c (.c (.c (.c (.c (.c (.c (.c (.c (.c (.c (.c (.c (.c (.c (.c (.c (.c (.c (.c (.c (.c (.c (.c (.c (.c (.c (.c (.c (.c (.c (.c (.c (.c (.c (.c (.c (.c (.c (.c (.c (.c (.c (.c (.c (.c (.c (.c .n))))))))))))))))))))))))))))))))))))))))))))))))))) keep_n (slots_c (he := (by first | rfl | (congr 2; simp; done))) (h := trivial)) ?_
                            rintro ⟨⟨prek, sufk⟩, hpk⟩ R2 hR2
                            dsimp only [List.cons_append, List.nil_append, List.length_cons, List.length_nil]
                            simp only at hpk
                            have hplk : prek.length + sufk.length = ([pcV a s, pcV b s, pcV (mergeV a b) s].flatten).length := by rw [← hpk, List.length_append]
                            rcases sufk with _ | ⟨⟨kx, ky⟩, sufk⟩
                            · rw [List.append_nil] at hpk; simp only [List.length_nil] at hplk
                              refine Ev.sr fun K hK => S.o q.lss (S.end (hK _ ?_))
                              clear hK K
                              refine Ev.ud (fun c57 => ?_) (fun c57 => ?_)
                              · first | omega | contradiction
                              · first
                              | (first | omega | contradiction)
                              | refine Ev.exit ?_
                                refine hR2 _ _ ?_
                                show Ev _ _ _ _
                                refine Ev.region_S fun K hK => S.o q.add (S.o q.mv (S.end (hK _ ?_)))
                                clear hK K
                                refine hR0 _ _ ?_
                                refine roundU [] [0, 1, 5, 15, 97, 98] ⟨(pre ++ [s], suf), by rw [← hp]; simp, ?_⟩ ?_ keep_n (slots_c (he := (by first | rfl | (congr 2; simp; done))) (h := trivial)) (.c (.c (.c (.c (.c (.c .n))))))
                                trivial
                                all_goals (dsimp only; simp only [List.length_cons]; omega)
                            · simp only [List.length_cons] at hplk
                              have hidk : ([pcV a s, pcV b s, pcV (mergeV a b) s].flatten)[prek.length]? = some (kx, ky) := by rw [← hpk]; simp
                              have hadd : pcN (pcV (mergeV a b) s) kx = pcN (pcV a s) kx + pcN (pcV b s) kx := by rw [v1, v2, v3, pcN_P hoa.2.1, pcN_P hob.2.1, pcN_P hom.2.1, hmv]; exact mg_pc ‹mergeE a b = 0› s kx
                              obtain ⟨n1, n2⟩ := pcN_bd kx _ z1
                              obtain ⟨n3, n4⟩ := pcN_bd kx _ z2
                              obtain ⟨n5, n6⟩ := pcN_bd kx _ z3
                              refine Ev.sr fun K hK => S.o q.lss (S.end (hK _ ?_))
                              clear hK K
                              refine Ev.ud (fun c58 => ?_) (fun c58 => ?_)
                              · first
                              | (first | omega | contradiction)
                              | refine Ev.seq ?_
                                refine Ev.block ?_
                                refine Ev.sr fun K hK => S.o (q.ix am_el40 am_cl45 (hl := (by first | exact ati hidx (by omega) | exact ati hidk (by omega) | exact atig (by omega)))) (S.o (q.lsA [_, _] am_ag45 am_cl45) (S.nn (q.al am_ze45) (S.sv [_, _] true [] am_in45 am_cl45 (h := S.end (hK _ ?_)))))
                                clear hK K
                                refine Ev.sm (tbs [(0, 0), (0, 0), (0, 0), (3, 4), (4, 15), (0, 0), (0, 0), (0, 0), (8, 128), (9, 511), (0, 0), (0, 0), (0, 0), (13, 4096), (14, 16383), (15, 32767), (16, 65535)]) 17 fun K hK => M.o q.mv (M.o q.mv (M.o (q.fa 0 am_fi45_0 am_cl3) (M.o (q.lv am_ag3) (M.c0 (hF := count_fun (pcV (mergeV a b) s) kx z3 (by omega)) (h := M.o q.mv (M.o q.mv (M.o (q.fa 0 am_fi45_0 am_cl3) (M.o (q.lv am_ag3) (M.c0 (hF := count_fun (pcV a s) kx z1 (by omega)) (h := M.o q.mv (M.o q.mv (M.o (q.fa 0 am_fi45_0 am_cl3) (M.o (q.lv am_ag3) (M.c0 (hF := count_fun (pcV b s) kx z2 (by omega)) (h := M.o q.add (M.o q.neq (M.end [_] (h := S.end (hK _ ?_)))))))))))))))))))
                                clear hK K
                                refine Ev.cn (fun c59 => ?_) (fun c59 => ?_)
                                · first
                                | (first | omega | contradiction)
                                | refine Ev.sr fun K hK => S.o q.as (S.end (hK _ ?_))
                                  clear hK K
                                  refine Ev.ret ?_
                                  refine hR2 _ _ ?_
                                  refine hR0 _ _ ?_
                                  refine Ev.ret1 ?_
                                  refine ⟨?_, rfl⟩
                                  first | rfl | exact lawT rfl | exact lawT (by omega) | (exfalso; omega) | contradiction | (exfalso; simp_all; done) | (exfalso; simp at *; done)
                                · first
                                | (first | omega | contradiction)
                                | refine Ev.skip ?_
                                  show Ev _ _ _ _
                                  refine Ev.region_S fun K hK => S.o q.add (S.o q.mv (S.end (hK _ ?_)))
                                  clear hK K
                                  refine hR2 _ _ ?_
                                  refine roundU [] [0, 1, 5, 15, 17, 18, 19, 20, 21, 22, 23, 97, 98, 99, 100, 101, 102, 103, 104, 105, 106, 107, 108, 109, 110, 111, 112, 113, 114, 115, 116, 117, 118, 119, 120, 121, 122, 123, 124, 125, 126, 127, 128, 129, 130, 131, 132, 133, 134, 135, 136] ⟨(prek ++ [(kx, ky)], sufk), by rw [← hpk]; simp⟩ ?_ keep_n (slots_c (he := (by first | rfl | (congr 2; simp; done))) (h := trivial)) (.c (.c (.c (.c (.c (.c (.c (.c (.c (.c (.c (.c (.c (.c (.c (.c (.c (.c (.c (.c (.c (.c (.c (.c (.c (.c (.c (.c (.c (.c (.c (.c (.c (.c (.c (.c (.c (.c (.c (.c (.c (.c (.c (.c (.c (.c (.c (.c (.c (.c (.c .n)))))))))))))))))))))))))))))))))))))))))))))))))))
                                  skip
                                  all_goals (dsimp only; simp only [List.length_cons]; omega)
                              · first | omega | contradiction
                    · first | omega | contradiction
end Go.Proofs.YtddogeicmhbidaaDoor
