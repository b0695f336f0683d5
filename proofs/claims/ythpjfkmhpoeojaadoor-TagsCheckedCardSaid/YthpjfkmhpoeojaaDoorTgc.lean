/-
  Tags: TagsChecked, walked.
  Conditions: none.
-/
import Derived.Test.YthpjfkmhpoeojaaDoorTga
import Derived.Test.YthpjfkmhpoeojaaDoorTg7
namespace Go.Proofs.YthpjfkmhpoeojaaDoor
open Go Go.AM
set_option linter.unusedSimpArgs false
set_option linter.unusedVariables false
set_option maxRecDepth 100000
set_option maxHeartbeats 4000000

def stepC (x : List Bar × List Bar) : List AV := [.sh 5 (x.1.map Bar.c), .sh 5 (x.2.map Bar.c)]
def curL (a : List Bar) : List (List Bar × List Bar) → List Bar
  | [] => a
  | x :: _ => x.1
theorem cur_next {a b c : List Bar} {pre suf : List (List Bar × List Bar)} {s : List Bar × List Bar} (h : pre ++ s :: suf = [(a, b), (b, c), (c, a)]) : curL a suf = s.2 := by
  rcases pre with _ | ⟨x, _ | ⟨y, _ | ⟨z, pre⟩⟩⟩ <;> simp at h
  · obtain ⟨rfl, rfl⟩ := h; rfl
  · obtain ⟨_, rfl, rfl⟩ := h; rfl
  · obtain ⟨_, _, rfl, rfl⟩ := h; rfl
theorem cur_small {a b c : List Bar} {pre suf : List (List Bar × List Bar)} {s : List Bar × List Bar} (h : pre ++ s :: suf = [(a, b), (b, c), (c, a)]) (ha : smallL a 10) (hb : smallL b 10) (hc : smallL c 10) : smallL s.1 10 ∧ smallL s.2 10 := by
  have hs : s ∈ [(a, b), (b, c), (c, a)] := by rw [← h]; simp
  simp only [List.mem_cons, List.not_mem_nil, or_false] at hs
  rcases hs with rfl | rfl | rfl
  · exact ⟨ha, hb⟩
  · exact ⟨hb, hc⟩
  · exact ⟨hc, ha⟩
theorem chk_nil {l : List Bar} {es : List Ent} (hF : Fits l (openL es)) (hG : Good es) : chkV l (openL es) = [] ∧ chkE l (openL es) = 0 := by
  have h : okSched l ∧ okBuns (openL es) := ⟨hF.sched, hG.open⟩
  exact ⟨(if_pos h).trans hF.check, if_pos h⟩
theorem checked_law (a b c : List Bar) (most : Int) (ha : a.length ≤ 140737488355328) (hb : b.length ≤ 140737488355328) (hc : c.length ≤ 140737488355328) : Fun Tryd.prog 4 [.sh 5 (a.map Bar.c), .sh 5 (b.map Bar.c), .sh 5 (c.map Bar.c), .lit (.int .i64 most)] (Ret (.lit (.bool true)) []) := by
  refine Fun.of (nt := 117) (rs := [.tmp 8]) Tryd.func4 rfl rfl rfl rfl rfl ?_
  refine Ev.sr fun K hK => S.o q.as (S.end (hK _ ?_))
  clear hK K
  refine Ev.seq ?_
  refine Ev.sr fun K hK => S.c0 (hF := awake_fun) (h := S.o q.nott (S.end (hK _ ?_)))
  clear hK K
  refine Ev.cf ?_
  refine Ev.skip ?_
  show Ev _ _ _ _
  refine Ev.seq ?_
  refine Ev.sr fun K hK => S.o q.mv (S.c0 (hF := small_fun a 10 (by omega)) (h := S.o q.not (S.bn q.mv (fun c1 => ?_) (fun c1 => ?_))))
  · first
  | (first | omega | contradiction)
  | refine S.sk (S.sk (S.sk (S.o q.pt (S.o q.mv (S.sk (S.sk (S.sk (S.o q.pt (S.end (hK _ ?_))))))))))
    clear hK K
    refine Ev.ct ?_
    refine Ev.sr fun K hK => S.o q.as (S.end (hK _ ?_))
    clear hK K
    refine Ev.ret ?_
    refine Ev.ret1 ?_
    refine ⟨?_, rfl⟩
    first | rfl | exact lawT rfl | exact lawT (by omega) | (exfalso; omega) | contradiction | (exfalso; simp at *; done)
  · first
  | (first | omega | contradiction)
  | refine S.o q.mv (S.c0 (hF := small_fun b 10 (by omega)) (h := S.o q.not (S.o q.pf (S.bn q.mv (fun c2 => ?_) (fun c2 => ?_)))))
    · first
    | (first | omega | contradiction)
    | refine S.sk (S.sk (S.sk (S.o q.pt (S.end (hK _ ?_)))))
      clear hK K
      refine Ev.ct ?_
      refine Ev.sr fun K hK => S.o q.as (S.end (hK _ ?_))
      clear hK K
      refine Ev.ret ?_
      refine Ev.ret1 ?_
      refine ⟨?_, rfl⟩
      first | rfl | exact lawT rfl | exact lawT (by omega) | (exfalso; omega) | contradiction | (exfalso; simp at *; done)
    · first
    | (first | omega | contradiction)
    | refine S.o q.mv (S.c0 (hF := small_fun c 10 (by omega)) (h := S.o q.not (S.o q.pf (S.end (hK _ ?_)))))
      clear hK K
      refine Ev.cn (fun c3 => ?_) (fun c3 => ?_)
      · first
      | (first | omega | contradiction)
      | refine Ev.sr fun K hK => S.o q.as (S.end (hK _ ?_))
        clear hK K
        refine Ev.ret ?_
        refine Ev.ret1 ?_
        refine ⟨?_, rfl⟩
        first | rfl | exact lawT rfl | exact lawT (by omega) | (exfalso; omega) | contradiction | (exfalso; simp at *; done)
      · first
      | (first | omega | contradiction)
      | refine Ev.skip ?_
        show Ev _ _ _ _
        have hsa : smallL a 10 := by first | assumption | exact Decidable.not_not.1 ‹_›
        have hsb : smallL b 10 := by first | assumption | exact Decidable.not_not.1 ‹_›
        have hsc : smallL c 10 := by first | assumption | exact Decidable.not_not.1 ‹_›
        have hwa := small_w hsa
        have hml := makeV_le a most
        refine Ev.sr fun K hK => S.o q.mv (S.o q.mv (S.c0 (hF := bmake_fun a most (by omega) hwa) (h := S.o q.mv (S.o q.ex (S.o q.ex (S.o q.as (S.o q.as (S.end (hK _ ?_)))))))))
        clear hK K
        refine Ev.seq ?_
        refine Ev.sr fun K hK => S.o q.mv (S.o q.neq (S.bn q.mv (fun c4 => ?_) (fun c4 => ?_)))
        · first
        | (first | omega | contradiction)
        | refine S.sk (S.sk (S.sk (S.o q.pt (S.end (hK _ ?_)))))
          clear hK K
          refine Ev.ct ?_
          have hmv : makeE a most = 0 ∨ (makeV a most).length = 0 := by
            by_cases h : makeE a most = 0
            · exact .inl h
            · exact .inr (by rw [makeV, if_neg h]; rfl)
          refine Ev.sr fun K hK => S.o q.mv (S.o q.eql (S.bd q.mv (fun c5 => ?_) (fun c5 => ?_)))
          · first
          | (first | omega | contradiction)
          | refine S.sk (S.sk (S.sk (S.o q.pt (S.o q.as (S.end (hK _ ?_))))))
            clear hK K
            refine Ev.ret ?_
            refine Ev.ret1 ?_
            refine ⟨?_, rfl⟩
            first | rfl | exact lawT rfl | exact lawT (by omega) | (exfalso; omega) | contradiction | (exfalso; simp at *; done)
          · first
          | (first | omega | contradiction)
          | refine S.o q.mv (S.o (q.lens am_el31) (S.o q.eql (S.o q.pf (S.o q.as (S.end (hK _ ?_))))))
            clear hK K
            refine Ev.ret ?_
            refine Ev.ret1 ?_
            refine ⟨?_, rfl⟩
            first | rfl | exact lawT rfl | exact lawT (by omega) | (exfalso; omega) | contradiction | (exfalso; simp at *; done)
        · first
        | (first | omega | contradiction)
        | refine S.o q.mv (S.o (q.lens am_el31) (S.o q.gtr (S.o q.pf (S.end (hK _ ?_)))))
          clear hK K
          refine Ev.cd (fun c6 => ?_) (fun c6 => ?_)
          · first
          | (first | omega | contradiction)
          | have hmv : makeE a most = 0 ∨ (makeV a most).length = 0 := by
              by_cases h : makeE a most = 0
              · exact .inl h
              · exact .inr (by rw [makeV, if_neg h]; rfl)
            refine Ev.sr fun K hK => S.o q.mv (S.o q.eql (S.bd q.mv (fun c7 => ?_) (fun c7 => ?_)))
            · first
            | (first | omega | contradiction)
            | refine S.sk (S.sk (S.sk (S.o q.pt (S.o q.as (S.end (hK _ ?_))))))
              clear hK K
              refine Ev.ret ?_
              refine Ev.ret1 ?_
              refine ⟨?_, rfl⟩
              first | rfl | exact lawT rfl | exact lawT (by omega) | (exfalso; omega) | contradiction | (exfalso; simp at *; done)
            · first
            | (first | omega | contradiction)
            | refine S.o q.mv (S.o (q.lens am_el31) (S.o q.eql (S.o q.pf (S.o q.as (S.end (hK _ ?_))))))
              clear hK K
              refine Ev.ret ?_
              refine Ev.ret1 ?_
              refine ⟨?_, rfl⟩
              first | rfl | exact lawT rfl | exact lawT (by omega) | (exfalso; omega) | contradiction | (exfalso; simp at *; done)
          · first
          | (first | omega | contradiction)
          | refine Ev.skip ?_
            show Ev _ _ _ _
            have hE : makeE a most = 0 := by omega
            obtain ⟨hi1, hi2, hFit, hGood, hbw, hmost⟩ := fits_make hE
            refine Ev.sr fun K hK => S.c1g (hF := new_fun) (h := S.o q.as (S.end (hK _ ?_)))
            clear hK K
            refine Ev.seq ?_
            refine Ev.weaken (Wk.nilv (f := Ent.c) 0 0 78 5 []) ?_
            refine Ev.sr fun K hK => S.o q.mv (S.peqa (by kernel_rfl : Tryd.prog.underlying 27 = some (.pointer 76)) (h := S.o q.mv (S.o q.mv (S.o q.mv (S.cR [0, 1] 3 [_, _] (hob := (keep_d (he := rfl) (h := (keep_c (he := rfl) (h := keep_n))))) (hF := issueR [] (makeV a most) (by decide) (by omega) hbw) (hn' := belowL rfl rfl) (h := ?_))))))
            rw [hi1, hi2]
            refine S.o q.neq (S.o q.pf (S.end (hK _ ?_)))
            clear hK K
            refine Ev.cn (fun c8 => ?_) (fun c8 => ?_)
            · first
            | (first | omega | contradiction)
            | refine Ev.sr fun K hK => S.o q.as (S.end (hK _ ?_))
              clear hK K
              refine Ev.ret ?_
              refine Ev.ret1 ?_
              refine ⟨?_, rfl⟩
              first | rfl | exact lawT rfl | exact lawT (by omega) | (exfalso; omega) | contradiction | (exfalso; simp at *; done)
            · first
            | (first | omega | contradiction)
            | refine Ev.skip ?_
              show Ev _ _ _ _
              refine Ev.seq ?_
              refine Ev.sr fun K hK => S.o q.mv (S.o q.mv (S.o (q.bda [_, _] am_ze48 am_pn48 am_ar48 am_cl23) (S.o q.mv (S.o q.mv (S.o (q.bda [_, _] am_ze48 am_pn48 am_ar48 am_cl23) (S.o q.mv (S.o q.mv (S.o (q.bda [_, _] am_ze48 am_pn48 am_ar48 am_cl23) (S.nn (q.bs [[_, _], [_, _], [_, _]] true am_el49 am_ze48 am_cl48) (S.o (q.lena am_el49) (S.o q.mv (S.end (hK _ ?_)))))))))))))
              clear hK K
              refine Ev.block ?_
              refine Ev.loopU (ι := {q : List (List Bar × List Bar) × List (List Bar × List Bar) × List Ent // q.1 ++ q.2.1 = [(a, b), (b, c), (c, a)] ∧ Fits (curL a q.2.1) (openL q.2.2) ∧ Good q.2.2}) [0, 2, 3] [3, 11, 73] (fun ⟨(pre, suf, es), _⟩ => [(74, .lit (.int .i64 ((pre.length : Int)))), (72, .als 2 0 ([(a, b), (b, c), (c, a)]).length)]) (fun ⟨(pre, suf, es), _⟩ => [(0, ⟨false, 76, 1, [[.als 1 0 (es).length]], false⟩), (1, ⟨true, 78, 5, (es).map Ent.c, true⟩), (2, ⟨true, 48, 2, ([(a, b), (b, c), (c, a)]).map stepC, true⟩)]) (fun ⟨(pre, suf, es), _⟩ => suf.length) ⟨([], [(a, b), (b, c), (c, a)], (makeV a most).map newE), rfl, hFit, hGood⟩ (.c (.c (.c .n))) (keep_d (he := (by first | rfl | (simp; done))) (h := (keep_c (he := (by first | rfl | (simp; done))) (h := (keep_c (he := (by first | rfl | (simp; done))) (h := keep_n)))))) (slots_c (he := (by first | rfl | (congr 2; simp; done))) (h := (slots_c (he := (by first | rfl | (simp; done) | (congr 2; omega))) (h := trivial)))) ?_
              rintro ⟨⟨pre, suf, es⟩, hp, hF, hG⟩ R0 hR0
              dsimp only [List.cons_append, List.nil_append, List.length_cons, List.length_nil]
              simp only at hp hF hG
              have hpl : pre.length + suf.length = 3 := by rw [← List.length_append, hp]; rfl
              have hel := hG.len
              rcases suf with _ | ⟨s, suf⟩
              · rw [List.append_nil] at hp; subst hp; simp only [List.length_nil] at hpl
                refine Ev.sr fun K hK => S.o q.lss (S.end (hK _ ?_))
                clear hK K
                refine Ev.ud (fun c9 => ?_) (fun c9 => ?_)
                · first | omega | contradiction | (exfalso; simp at *; done)
                · first
                | (first | omega | contradiction)
                | refine Ev.exit ?_
                  refine hR0 _ _ ?_
                  show Ev _ _ _ _
                  refine Ev.sr fun K hK => S.o q.as (S.end (hK _ ?_))
                  clear hK K
                  refine Ev.ret ?_
                  refine Ev.ret1 ?_
                  refine ⟨?_, rfl⟩
                  first | rfl | exact lawT rfl | exact lawT (by omega) | (exfalso; omega) | contradiction | (exfalso; simp at *; done)
              · simp only [List.length_cons] at hpl
                have hidx : ([(a, b), (b, c), (c, a)])[pre.length]? = some s := by rw [← hp]; simp
                obtain ⟨hs1, hs2⟩ := cur_small hp hsa hsb hsc
                have hw1 := small_w hs1
                have hw2 := small_w hs2
                have hl1 := hs1.1
                have hl2 := hs2.1
                have hrc := rev_codes (n := es.length) (a := s.1) (b := s.2) hmost
                refine Ev.sr fun K hK => S.o q.lss (S.end (hK _ ?_))
                clear hK K
                refine Ev.ud (fun c10 => ?_) (fun c10 => ?_)
                · first
                | (first | omega | contradiction)
                | refine Ev.seq ?_
                  refine Ev.block ?_
                  refine Ev.sr fun K hK => S.o (q.ia am_el49 am_cl48) (S.o (q.lxA [_, _] am_ag48 am_cl48 (hl := (by first | exact at_ hidx (by omega) | exact at_g (by omega)))) (S.nn (q.al am_ze48) (S.sv [_, _] true [_, _, _] am_in48 am_cl48 (h := S.end (hK _ ?_)))))
                  clear hK K
                  refine Ev.seq ?_
                  refine Ev.sr fun K hK => S.o q.mv (S.o (q.iaa am_el48 am_ar48 am_cl23) (S.o (q.lv am_ag23) (S.o (q.iaa am_el48 am_ar48 am_cl23) (S.o (q.lv am_ag23) (S.o q.mv (S.cR [0, 1] 5 [_, _, _, _] (hob := (keep_d (he := rfl) (h := (keep_c (he := rfl) (h := keep_n))))) (hF := reviseR es s.1 s.2 most (by omega) (by omega) (by omega) hw1 hw2) (hn' := belowL rfl rfl) (h := S.o q.mv (S.o q.ex (S.o q.ex (S.o q.ex (S.o q.as (S.o q.as (S.o q.as (S.end (hK _ ?_)))))))))))))))
                  clear hK K
                  refine Ev.sr fun K hK => S.o q.mv (S.o q.neq (S.end (hK _ ?_)))
                  clear hK K
                  refine Ev.cn (fun c11 => ?_) (fun c11 => ?_)
                  · first
                  | (first | omega | contradiction)
                  | refine Ev.sr fun K hK => S.o q.mv (S.o q.eql (S.bd q.mv (fun c12 => ?_) (fun c12 => ?_)))
                    · first
                    | (first | omega | contradiction)
                    | refine S.sk (S.sk (S.o q.pt (S.o q.mv (S.sk (S.sk (S.o q.pt (S.o q.as (S.end (hK _ ?_)))))))))
                      clear hK K
                      refine Ev.ret ?_
                      refine hR0 _ _ ?_
                      refine Ev.ret1 ?_
                      refine ⟨?_, rfl⟩
                      first | rfl | exact lawT rfl | exact lawT (by omega) | (exfalso; omega) | contradiction | (exfalso; simp at *; done)
                    · first
                    | (first | omega | contradiction)
                    | refine S.o q.mv (S.o q.eql (S.o q.pf (S.bd q.mv (fun c13 => ?_) (fun c13 => ?_))))
                      · first
                      | (first | omega | contradiction)
                      | refine S.sk (S.sk (S.o q.pt (S.o q.as (S.end (hK _ ?_)))))
                        clear hK K
                        refine Ev.ret ?_
                        refine hR0 _ _ ?_
                        refine Ev.ret1 ?_
                        refine ⟨?_, rfl⟩
                        first | rfl | exact lawT rfl | exact lawT (by omega) | (exfalso; omega) | contradiction | (exfalso; simp at *; done)
                      · first
                      | (first | omega | contradiction)
                      | refine S.o q.mv (S.o q.eql (S.o q.pf (S.o q.as (S.end (hK _ ?_)))))
                        clear hK K
                        refine Ev.ret ?_
                        refine hR0 _ _ ?_
                        refine Ev.ret1 ?_
                        refine ⟨?_, rfl⟩
                        first | rfl | exact lawT rfl | exact lawT (by omega) | (exfalso; omega) | contradiction | (exfalso; simp at *; done)
                  · first
                  | (first | omega | contradiction)
                  | refine Ev.skip ?_
                    show Ev _ _ _ _
                    have hE2 : revE es.length s.1 s.2 most = 0 := by omega
                    obtain ⟨hF2, hG2⟩ := fits_rev (a := s.1) (b := s.2) (most := most) hF hG hE2
                    have hel2 := hG2.len
                    have hol2 := openL_len (revV es s.1 s.2 most)
                    obtain ⟨hv0, he0⟩ := chk_nil hF2 hG2
                    have hl0 : (chkV s.2 (openL (revV es s.1 s.2 most))).length = 0 := by rw [hv0]; rfl
                    refine Ev.str (m := 10) (L0 := #[false, false, false, false, false, false, false, false, false, false]) 1000000 rfl (by kernel_rfl) (by exact rfl) fun K hK => ?_
                    refine HT.two (i := 0) (j := 2) #[true, false, false, false, false, false, false, false, false, false] #[false, false, true, false, false, false, false, false, false, false] trivial (by kernel_rfl) (by kernel_rfl) (by kernel_rfl) rfl rfl (by decide) (by decide) (S.o (q.iaa am_el48 am_ar48 am_cl23) (S.end ?_)) (S.o q.mv (S.end ?_))
                    · skip
                      refine HT.two (i := 1) (j := 2) #[true, true, false, false, false, false, false, false, false, false] #[true, false, true, false, false, false, false, false, false, false] trivial (by kernel_rfl) (by kernel_rfl) (by kernel_rfl) rfl rfl (by decide) (by decide) (S.o (q.lv am_ag23) (S.end ?_)) (S.o q.mv (S.end ?_))
                      · skip
                        refine HT.one (i := 2) #[true, true, true, false, false, false, false, false, false, false] trivial (by kernel_rfl) (by kernel_rfl) rfl (by decide) (S.o q.mv (S.end ?_))
                        refine HT.one (i := 3) #[true, true, true, true, false, false, false, false, false, false] trivial (by kernel_rfl) (by kernel_rfl) rfl (by decide) (S.cR [0, 4] 5 [_, _, _, _] (hob := (keep_d (he := rfl) (h := (keep_c (he := rfl) (h := keep_n))))) (hF := openR (revV es s.1 s.2 most) (by omega)) (hn' := belowL rfl rfl) (h := S.end ?_))
                        refine HT.one (i := 4) #[true, true, true, true, true, false, false, false, false, false] trivial (by kernel_rfl) (by kernel_rfl) rfl (by decide) (S.c0 (hF := bcheck_fun s.2 (openL (revV es s.1 s.2 most)) (by omega) (by omega) hw2 hG2.bw) (h := S.end ?_))
                        refine HT.one (i := 5) #[true, true, true, true, true, true, false, false, false, false] trivial (by kernel_rfl) (by kernel_rfl) rfl (by decide) (S.o q.mv (S.end ?_))
                        refine HT.two (i := 6) (j := 7) #[true, true, true, true, true, true, true, false, false, false] #[true, true, true, true, true, true, false, true, false, false] trivial (by kernel_rfl) (by kernel_rfl) (by kernel_rfl) rfl rfl (by decide) (by decide) (S.o q.ex (S.end ?_)) (S.o q.ex (S.end ?_))
                        · skip
                          refine HT.two (i := 7) (j := 8) #[true, true, true, true, true, true, true, true, false, false] #[true, true, true, true, true, true, true, false, true, false] trivial (by kernel_rfl) (by kernel_rfl) (by kernel_rfl) rfl rfl (by decide) (by decide) (S.o q.ex (S.end ?_)) (S.o q.as (S.end ?_))
                          · skip
                            refine HT.one (i := 8) #[true, true, true, true, true, true, true, true, true, false] trivial (by kernel_rfl) (by kernel_rfl) rfl (by decide) (S.o q.as (S.end ?_))
                            refine HT.one (i := 9) #[true, true, true, true, true, true, true, true, true, true] trivial (by kernel_rfl) (by kernel_rfl) rfl (by decide) (S.o q.as (S.end ?_))
                            refine HT.nil trivial (by kernel_rfl) (hK _ ?_)
                            clear hK K
                            refine Ev.sr fun K hK => S.o q.mv (S.o q.neq (S.bn q.mv (fun c14 => ?_) (fun c14 => ?_)))
                            · first
                            | (first | omega | contradiction)
                            | refine S.sk (S.sk (S.sk (S.o q.pt (S.end (hK _ ?_)))))
                              clear hK K
                              refine Ev.ct ?_
                              refine Ev.sr fun K hK => S.o q.as (S.end (hK _ ?_))
                              clear hK K
                              refine Ev.ret ?_
                              refine hR0 _ _ ?_
                              refine Ev.ret1 ?_
                              refine ⟨?_, rfl⟩
                              first | rfl | exact lawT rfl | exact lawT (by omega) | (exfalso; omega) | contradiction | (exfalso; simp at *; done)
                            · first
                            | (first | omega | contradiction)
                            | refine S.o q.mv (S.o (q.lens am_el50) (S.o q.neq (S.o q.pf (S.end (hK _ ?_)))))
                              clear hK K
                              refine Ev.cn (fun c15 => ?_) (fun c15 => ?_)
                              · first
                              | (first | omega | contradiction)
                              | refine Ev.sr fun K hK => S.o q.as (S.end (hK _ ?_))
                                clear hK K
                                refine Ev.ret ?_
                                refine hR0 _ _ ?_
                                refine Ev.ret1 ?_
                                refine ⟨?_, rfl⟩
                                first | rfl | exact lawT rfl | exact lawT (by omega) | (exfalso; omega) | contradiction | (exfalso; simp at *; done)
                              · first
                              | (first | omega | contradiction)
                              | refine Ev.skip ?_
                                show Ev _ _ _ _
                                refine Ev.region_S fun K hK => S.o q.add (S.o q.mv (S.end (hK _ ?_)))
                                clear hK K
                                refine hR0 _ _ ?_
                                refine roundU [0, 4, 2] [3, 11, 73] ⟨(pre ++ [s], suf, revV es s.1 s.2 most), by rw [← hp]; simp, by rw [show curL a suf = s.2 from cur_next hp]; exact hF2, hG2⟩ ?_ (keep_d (he := (by first | rfl | (simp; done))) (h := (keep_c (he := (by first | rfl | (simp; done))) (h := (keep_c (he := (by first | rfl | (simp; done))) (h := keep_n)))))) (slots_c (he := (by first | rfl | (congr 2; simp; done))) (h := (slots_c (he := (by first | rfl | (simp; done) | (congr 2; omega))) (h := trivial)))) (.c (.c (.c .n)))
                                skip
                                all_goals (dsimp only; simp only [List.length_cons]; omega)
                          · skip
                            refine HT.one (i := 7) #[true, true, true, true, true, true, true, true, true, false] trivial (by kernel_rfl) (by kernel_rfl) rfl (by decide) (S.o q.ex (S.end ?_))
                            refine HT.one (i := 9) #[true, true, true, true, true, true, true, true, true, true] trivial (by kernel_rfl) (by kernel_rfl) rfl (by decide) (S.o q.as (S.end ?_))
                            refine HT.nil trivial (by kernel_rfl) (hK _ ?_)
                            clear hK K
                            refine Ev.sr fun K hK => S.o q.mv (S.o q.neq (S.bn q.mv (fun c16 => ?_) (fun c16 => ?_)))
                            · first
                            | (first | omega | contradiction)
                            | refine S.sk (S.sk (S.sk (S.o q.pt (S.end (hK _ ?_)))))
                              clear hK K
                              refine Ev.ct ?_
                              refine Ev.sr fun K hK => S.o q.as (S.end (hK _ ?_))
                              clear hK K
                              refine Ev.ret ?_
                              refine hR0 _ _ ?_
                              refine Ev.ret1 ?_
                              refine ⟨?_, rfl⟩
                              first | rfl | exact lawT rfl | exact lawT (by omega) | (exfalso; omega) | contradiction | (exfalso; simp at *; done)
                            · first
                            | (first | omega | contradiction)
                            | refine S.o q.mv (S.o (q.lens am_el50) (S.o q.neq (S.o q.pf (S.end (hK _ ?_)))))
                              clear hK K
                              refine Ev.cn (fun c17 => ?_) (fun c17 => ?_)
                              · first
                              | (first | omega | contradiction)
                              | refine Ev.sr fun K hK => S.o q.as (S.end (hK _ ?_))
                                clear hK K
                                refine Ev.ret ?_
                                refine hR0 _ _ ?_
                                refine Ev.ret1 ?_
                                refine ⟨?_, rfl⟩
                                first | rfl | exact lawT rfl | exact lawT (by omega) | (exfalso; omega) | contradiction | (exfalso; simp at *; done)
                              · first
                              | (first | omega | contradiction)
                              | refine Ev.skip ?_
                                show Ev _ _ _ _
                                refine Ev.region_S fun K hK => S.o q.add (S.o q.mv (S.end (hK _ ?_)))
                                clear hK K
                                refine hR0 _ _ ?_
                                refine roundU [0, 4, 2] [3, 11, 73] ⟨(pre ++ [s], suf, revV es s.1 s.2 most), by rw [← hp]; simp, by rw [show curL a suf = s.2 from cur_next hp]; exact hF2, hG2⟩ ?_ (keep_d (he := (by first | rfl | (simp; done))) (h := (keep_c (he := (by first | rfl | (simp; done))) (h := (keep_c (he := (by first | rfl | (simp; done))) (h := keep_n)))))) (slots_c (he := (by first | rfl | (congr 2; simp; done))) (h := (slots_c (he := (by first | rfl | (simp; done) | (congr 2; omega))) (h := trivial)))) (.c (.c (.c .n)))
                                skip
                                all_goals (dsimp only; simp only [List.length_cons]; omega)
                        · skip
                          refine HT.one (i := 6) #[true, true, true, true, true, true, true, true, false, false] trivial (by kernel_rfl) (by kernel_rfl) rfl (by decide) (S.o q.ex (S.end ?_))
                          refine HT.one (i := 8) #[true, true, true, true, true, true, true, true, true, false] trivial (by kernel_rfl) (by kernel_rfl) rfl (by decide) (S.o q.as (S.end ?_))
                          refine HT.one (i := 9) #[true, true, true, true, true, true, true, true, true, true] trivial (by kernel_rfl) (by kernel_rfl) rfl (by decide) (S.o q.as (S.end ?_))
                          refine HT.nil trivial (by kernel_rfl) (hK _ ?_)
                          clear hK K
                          refine Ev.sr fun K hK => S.o q.mv (S.o q.neq (S.bn q.mv (fun c18 => ?_) (fun c18 => ?_)))
                          · first
                          | (first | omega | contradiction)
                          | refine S.sk (S.sk (S.sk (S.o q.pt (S.end (hK _ ?_)))))
                            clear hK K
                            refine Ev.ct ?_
                            refine Ev.sr fun K hK => S.o q.as (S.end (hK _ ?_))
                            clear hK K
                            refine Ev.ret ?_
                            refine hR0 _ _ ?_
                            refine Ev.ret1 ?_
                            refine ⟨?_, rfl⟩
                            first | rfl | exact lawT rfl | exact lawT (by omega) | (exfalso; omega) | contradiction | (exfalso; simp at *; done)
                          · first
                          | (first | omega | contradiction)
                          | refine S.o q.mv (S.o (q.lens am_el50) (S.o q.neq (S.o q.pf (S.end (hK _ ?_)))))
                            clear hK K
                            refine Ev.cn (fun c19 => ?_) (fun c19 => ?_)
                            · first
                            | (first | omega | contradiction)
                            | refine Ev.sr fun K hK => S.o q.as (S.end (hK _ ?_))
                              clear hK K
                              refine Ev.ret ?_
                              refine hR0 _ _ ?_
                              refine Ev.ret1 ?_
                              refine ⟨?_, rfl⟩
                              first | rfl | exact lawT rfl | exact lawT (by omega) | (exfalso; omega) | contradiction | (exfalso; simp at *; done)
                            · first
                            | (first | omega | contradiction)
                            | refine Ev.skip ?_
                              show Ev _ _ _ _
                              refine Ev.region_S fun K hK => S.o q.add (S.o q.mv (S.end (hK _ ?_)))
                              clear hK K
                              refine hR0 _ _ ?_
                              refine roundU [0, 4, 2] [3, 11, 73] ⟨(pre ++ [s], suf, revV es s.1 s.2 most), by rw [← hp]; simp, by rw [show curL a suf = s.2 from cur_next hp]; exact hF2, hG2⟩ ?_ (keep_d (he := (by first | rfl | (simp; done))) (h := (keep_c (he := (by first | rfl | (simp; done))) (h := (keep_c (he := (by first | rfl | (simp; done))) (h := keep_n)))))) (slots_c (he := (by first | rfl | (congr 2; simp; done))) (h := (slots_c (he := (by first | rfl | (simp; done) | (congr 2; omega))) (h := trivial)))) (.c (.c (.c .n)))
                              skip
                              all_goals (dsimp only; simp only [List.length_cons]; omega)
                      · skip
                        refine HT.two (i := 1) (j := 3) #[true, true, true, false, false, false, false, false, false, false] #[true, false, true, true, false, false, false, false, false, false] trivial (by kernel_rfl) (by kernel_rfl) (by kernel_rfl) rfl rfl (by decide) (by decide) (S.o (q.lv am_ag23) (S.end ?_)) (S.cR [0, 4] 5 [_, _, _, _] (hob := (keep_d (he := rfl) (h := (keep_c (he := rfl) (h := keep_n))))) (hF := openR (revV es s.1 s.2 most) (by omega)) (hn' := belowL rfl rfl) (h := S.end ?_))
                        · skip
                          refine HT.one (i := 3) #[true, true, true, true, false, false, false, false, false, false] trivial (by kernel_rfl) (by kernel_rfl) rfl (by decide) (S.cR [0, 4] 5 [_, _, _, _] (hob := (keep_d (he := rfl) (h := (keep_c (he := rfl) (h := keep_n))))) (hF := openR (revV es s.1 s.2 most) (by omega)) (hn' := belowL rfl rfl) (h := S.end ?_))
                          refine HT.one (i := 4) #[true, true, true, true, true, false, false, false, false, false] trivial (by kernel_rfl) (by kernel_rfl) rfl (by decide) (S.c0 (hF := bcheck_fun s.2 (openL (revV es s.1 s.2 most)) (by omega) (by omega) hw2 hG2.bw) (h := S.end ?_))
                          refine HT.one (i := 5) #[true, true, true, true, true, true, false, false, false, false] trivial (by kernel_rfl) (by kernel_rfl) rfl (by decide) (S.o q.mv (S.end ?_))
                          refine HT.two (i := 6) (j := 7) #[true, true, true, true, true, true, true, false, false, false] #[true, true, true, true, true, true, false, true, false, false] trivial (by kernel_rfl) (by kernel_rfl) (by kernel_rfl) rfl rfl (by decide) (by decide) (S.o q.ex (S.end ?_)) (S.o q.ex (S.end ?_))
                          · skip
                            refine HT.two (i := 7) (j := 8) #[true, true, true, true, true, true, true, true, false, false] #[true, true, true, true, true, true, true, false, true, false] trivial (by kernel_rfl) (by kernel_rfl) (by kernel_rfl) rfl rfl (by decide) (by decide) (S.o q.ex (S.end ?_)) (S.o q.as (S.end ?_))
                            · skip
                              refine HT.one (i := 8) #[true, true, true, true, true, true, true, true, true, false] trivial (by kernel_rfl) (by kernel_rfl) rfl (by decide) (S.o q.as (S.end ?_))
                              refine HT.one (i := 9) #[true, true, true, true, true, true, true, true, true, true] trivial (by kernel_rfl) (by kernel_rfl) rfl (by decide) (S.o q.as (S.end ?_))
                              refine HT.nil trivial (by kernel_rfl) (hK _ ?_)
                              clear hK K
                              refine Ev.sr fun K hK => S.o q.mv (S.o q.neq (S.bn q.mv (fun c20 => ?_) (fun c20 => ?_)))
                              · first
                              | (first | omega | contradiction)
                              | refine S.sk (S.sk (S.sk (S.o q.pt (S.end (hK _ ?_)))))
                                clear hK K
                                refine Ev.ct ?_
                                refine Ev.sr fun K hK => S.o q.as (S.end (hK _ ?_))
                                clear hK K
                                refine Ev.ret ?_
                                refine hR0 _ _ ?_
                                refine Ev.ret1 ?_
                                refine ⟨?_, rfl⟩
                                first | rfl | exact lawT rfl | exact lawT (by omega) | (exfalso; omega) | contradiction | (exfalso; simp at *; done)
                              · first
                              | (first | omega | contradiction)
                              | refine S.o q.mv (S.o (q.lens am_el50) (S.o q.neq (S.o q.pf (S.end (hK _ ?_)))))
                                clear hK K
                                refine Ev.cn (fun c21 => ?_) (fun c21 => ?_)
                                · first
                                | (first | omega | contradiction)
                                | refine Ev.sr fun K hK => S.o q.as (S.end (hK _ ?_))
                                  clear hK K
                                  refine Ev.ret ?_
                                  refine hR0 _ _ ?_
                                  refine Ev.ret1 ?_
                                  refine ⟨?_, rfl⟩
                                  first | rfl | exact lawT rfl | exact lawT (by omega) | (exfalso; omega) | contradiction | (exfalso; simp at *; done)
                                · first
                                | (first | omega | contradiction)
                                | refine Ev.skip ?_
                                  show Ev _ _ _ _
                                  refine Ev.region_S fun K hK => S.o q.add (S.o q.mv (S.end (hK _ ?_)))
                                  clear hK K
                                  refine hR0 _ _ ?_
                                  refine roundU [0, 4, 2] [3, 11, 73] ⟨(pre ++ [s], suf, revV es s.1 s.2 most), by rw [← hp]; simp, by rw [show curL a suf = s.2 from cur_next hp]; exact hF2, hG2⟩ ?_ (keep_d (he := (by first | rfl | (simp; done))) (h := (keep_c (he := (by first | rfl | (simp; done))) (h := (keep_c (he := (by first | rfl | (simp; done))) (h := keep_n)))))) (slots_c (he := (by first | rfl | (congr 2; simp; done))) (h := (slots_c (he := (by first | rfl | (simp; done) | (congr 2; omega))) (h := trivial)))) (.c (.c (.c .n)))
                                  skip
                                  all_goals (dsimp only; simp only [List.length_cons]; omega)
                            · skip
                              refine HT.one (i := 7) #[true, true, true, true, true, true, true, true, true, false] trivial (by kernel_rfl) (by kernel_rfl) rfl (by decide) (S.o q.ex (S.end ?_))
                              refine HT.one (i := 9) #[true, true, true, true, true, true, true, true, true, true] trivial (by kernel_rfl) (by kernel_rfl) rfl (by decide) (S.o q.as (S.end ?_))
                              refine HT.nil trivial (by kernel_rfl) (hK _ ?_)
                              clear hK K
                              refine Ev.sr fun K hK => S.o q.mv (S.o q.neq (S.bn q.mv (fun c22 => ?_) (fun c22 => ?_)))
                              · first
                              | (first | omega | contradiction)
                              | refine S.sk (S.sk (S.sk (S.o q.pt (S.end (hK _ ?_)))))
                                clear hK K
                                refine Ev.ct ?_
                                refine Ev.sr fun K hK => S.o q.as (S.end (hK _ ?_))
                                clear hK K
                                refine Ev.ret ?_
                                refine hR0 _ _ ?_
                                refine Ev.ret1 ?_
                                refine ⟨?_, rfl⟩
                                first | rfl | exact lawT rfl | exact lawT (by omega) | (exfalso; omega) | contradiction | (exfalso; simp at *; done)
                              · first
                              | (first | omega | contradiction)
                              | refine S.o q.mv (S.o (q.lens am_el50) (S.o q.neq (S.o q.pf (S.end (hK _ ?_)))))
                                clear hK K
                                refine Ev.cn (fun c23 => ?_) (fun c23 => ?_)
                                · first
                                | (first | omega | contradiction)
                                | refine Ev.sr fun K hK => S.o q.as (S.end (hK _ ?_))
                                  clear hK K
                                  refine Ev.ret ?_
                                  refine hR0 _ _ ?_
                                  refine Ev.ret1 ?_
                                  refine ⟨?_, rfl⟩
                                  first | rfl | exact lawT rfl | exact lawT (by omega) | (exfalso; omega) | contradiction | (exfalso; simp at *; done)
                                · first
                                | (first | omega | contradiction)
                                | refine Ev.skip ?_
                                  show Ev _ _ _ _
                                  refine Ev.region_S fun K hK => S.o q.add (S.o q.mv (S.end (hK _ ?_)))
                                  clear hK K
                                  refine hR0 _ _ ?_
                                  refine roundU [0, 4, 2] [3, 11, 73] ⟨(pre ++ [s], suf, revV es s.1 s.2 most), by rw [← hp]; simp, by rw [show curL a suf = s.2 from cur_next hp]; exact hF2, hG2⟩ ?_ (keep_d (he := (by first | rfl | (simp; done))) (h := (keep_c (he := (by first | rfl | (simp; done))) (h := (keep_c (he := (by first | rfl | (simp; done))) (h := keep_n)))))) (slots_c (he := (by first | rfl | (congr 2; simp; done))) (h := (slots_c (he := (by first | rfl | (simp; done) | (congr 2; omega))) (h := trivial)))) (.c (.c (.c .n)))
                                  skip
                                  all_goals (dsimp only; simp only [List.length_cons]; omega)
                          · skip
                            refine HT.one (i := 6) #[true, true, true, true, true, true, true, true, false, false] trivial (by kernel_rfl) (by kernel_rfl) rfl (by decide) (S.o q.ex (S.end ?_))
                            refine HT.one (i := 8) #[true, true, true, true, true, true, true, true, true, false] trivial (by kernel_rfl) (by kernel_rfl) rfl (by decide) (S.o q.as (S.end ?_))
                            refine HT.one (i := 9) #[true, true, true, true, true, true, true, true, true, true] trivial (by kernel_rfl) (by kernel_rfl) rfl (by decide) (S.o q.as (S.end ?_))
                            refine HT.nil trivial (by kernel_rfl) (hK _ ?_)
                            clear hK K
                            refine Ev.sr fun K hK => S.o q.mv (S.o q.neq (S.bn q.mv (fun c24 => ?_) (fun c24 => ?_)))
                            · first
                            | (first | omega | contradiction)
                            | refine S.sk (S.sk (S.sk (S.o q.pt (S.end (hK _ ?_)))))
                              clear hK K
                              refine Ev.ct ?_
                              refine Ev.sr fun K hK => S.o q.as (S.end (hK _ ?_))
                              clear hK K
                              refine Ev.ret ?_
                              refine hR0 _ _ ?_
                              refine Ev.ret1 ?_
                              refine ⟨?_, rfl⟩
                              first | rfl | exact lawT rfl | exact lawT (by omega) | (exfalso; omega) | contradiction | (exfalso; simp at *; done)
                            · first
                            | (first | omega | contradiction)
                            | refine S.o q.mv (S.o (q.lens am_el50) (S.o q.neq (S.o q.pf (S.end (hK _ ?_)))))
                              clear hK K
                              refine Ev.cn (fun c25 => ?_) (fun c25 => ?_)
                              · first
                              | (first | omega | contradiction)
                              | refine Ev.sr fun K hK => S.o q.as (S.end (hK _ ?_))
                                clear hK K
                                refine Ev.ret ?_
                                refine hR0 _ _ ?_
                                refine Ev.ret1 ?_
                                refine ⟨?_, rfl⟩
                                first | rfl | exact lawT rfl | exact lawT (by omega) | (exfalso; omega) | contradiction | (exfalso; simp at *; done)
                              · first
                              | (first | omega | contradiction)
                              | refine Ev.skip ?_
                                show Ev _ _ _ _
                                refine Ev.region_S fun K hK => S.o q.add (S.o q.mv (S.end (hK _ ?_)))
                                clear hK K
                                refine hR0 _ _ ?_
                                refine roundU [0, 4, 2] [3, 11, 73] ⟨(pre ++ [s], suf, revV es s.1 s.2 most), by rw [← hp]; simp, by rw [show curL a suf = s.2 from cur_next hp]; exact hF2, hG2⟩ ?_ (keep_d (he := (by first | rfl | (simp; done))) (h := (keep_c (he := (by first | rfl | (simp; done))) (h := (keep_c (he := (by first | rfl | (simp; done))) (h := keep_n)))))) (slots_c (he := (by first | rfl | (congr 2; simp; done))) (h := (slots_c (he := (by first | rfl | (simp; done) | (congr 2; omega))) (h := trivial)))) (.c (.c (.c .n)))
                                skip
                                all_goals (dsimp only; simp only [List.length_cons]; omega)
                        · skip
                          refine HT.one (i := 1) #[true, true, true, true, false, false, false, false, false, false] trivial (by kernel_rfl) (by kernel_rfl) rfl (by decide) (S.o (q.lv am_ag23) (S.end ?_))
                          refine HT.one (i := 4) #[true, true, true, true, true, false, false, false, false, false] trivial (by kernel_rfl) (by kernel_rfl) rfl (by decide) (S.c0 (hF := bcheck_fun s.2 (openL (revV es s.1 s.2 most)) (by omega) (by omega) hw2 hG2.bw) (h := S.end ?_))
                          refine HT.one (i := 5) #[true, true, true, true, true, true, false, false, false, false] trivial (by kernel_rfl) (by kernel_rfl) rfl (by decide) (S.o q.mv (S.end ?_))
                          refine HT.two (i := 6) (j := 7) #[true, true, true, true, true, true, true, false, false, false] #[true, true, true, true, true, true, false, true, false, false] trivial (by kernel_rfl) (by kernel_rfl) (by kernel_rfl) rfl rfl (by decide) (by decide) (S.o q.ex (S.end ?_)) (S.o q.ex (S.end ?_))
                          · skip
                            refine HT.two (i := 7) (j := 8) #[true, true, true, true, true, true, true, true, false, false] #[true, true, true, true, true, true, true, false, true, false] trivial (by kernel_rfl) (by kernel_rfl) (by kernel_rfl) rfl rfl (by decide) (by decide) (S.o q.ex (S.end ?_)) (S.o q.as (S.end ?_))
                            · skip
                              refine HT.one (i := 8) #[true, true, true, true, true, true, true, true, true, false] trivial (by kernel_rfl) (by kernel_rfl) rfl (by decide) (S.o q.as (S.end ?_))
                              refine HT.one (i := 9) #[true, true, true, true, true, true, true, true, true, true] trivial (by kernel_rfl) (by kernel_rfl) rfl (by decide) (S.o q.as (S.end ?_))
                              refine HT.nil trivial (by kernel_rfl) (hK _ ?_)
                              clear hK K
                              refine Ev.sr fun K hK => S.o q.mv (S.o q.neq (S.bn q.mv (fun c26 => ?_) (fun c26 => ?_)))
                              · first
                              | (first | omega | contradiction)
                              | refine S.sk (S.sk (S.sk (S.o q.pt (S.end (hK _ ?_)))))
                                clear hK K
                                refine Ev.ct ?_
                                refine Ev.sr fun K hK => S.o q.as (S.end (hK _ ?_))
                                clear hK K
                                refine Ev.ret ?_
                                refine hR0 _ _ ?_
                                refine Ev.ret1 ?_
                                refine ⟨?_, rfl⟩
                                first | rfl | exact lawT rfl | exact lawT (by omega) | (exfalso; omega) | contradiction | (exfalso; simp at *; done)
                              · first
                              | (first | omega | contradiction)
                              | refine S.o q.mv (S.o (q.lens am_el50) (S.o q.neq (S.o q.pf (S.end (hK _ ?_)))))
                                clear hK K
                                refine Ev.cn (fun c27 => ?_) (fun c27 => ?_)
                                · first
                                | (first | omega | contradiction)
                                | refine Ev.sr fun K hK => S.o q.as (S.end (hK _ ?_))
                                  clear hK K
                                  refine Ev.ret ?_
                                  refine hR0 _ _ ?_
                                  refine Ev.ret1 ?_
                                  refine ⟨?_, rfl⟩
                                  first | rfl | exact lawT rfl | exact lawT (by omega) | (exfalso; omega) | contradiction | (exfalso; simp at *; done)
                                · first
                                | (first | omega | contradiction)
                                | refine Ev.skip ?_
                                  show Ev _ _ _ _
                                  refine Ev.region_S fun K hK => S.o q.add (S.o q.mv (S.end (hK _ ?_)))
                                  clear hK K
                                  refine hR0 _ _ ?_
                                  refine roundU [0, 4, 2] [3, 11, 73] ⟨(pre ++ [s], suf, revV es s.1 s.2 most), by rw [← hp]; simp, by rw [show curL a suf = s.2 from cur_next hp]; exact hF2, hG2⟩ ?_ (keep_d (he := (by first | rfl | (simp; done))) (h := (keep_c (he := (by first | rfl | (simp; done))) (h := (keep_c (he := (by first | rfl | (simp; done))) (h := keep_n)))))) (slots_c (he := (by first | rfl | (congr 2; simp; done))) (h := (slots_c (he := (by first | rfl | (simp; done) | (congr 2; omega))) (h := trivial)))) (.c (.c (.c .n)))
                                  skip
                                  all_goals (dsimp only; simp only [List.length_cons]; omega)
                            · skip
                              refine HT.one (i := 7) #[true, true, true, true, true, true, true, true, true, false] trivial (by kernel_rfl) (by kernel_rfl) rfl (by decide) (S.o q.ex (S.end ?_))
                              refine HT.one (i := 9) #[true, true, true, true, true, true, true, true, true, true] trivial (by kernel_rfl) (by kernel_rfl) rfl (by decide) (S.o q.as (S.end ?_))
                              refine HT.nil trivial (by kernel_rfl) (hK _ ?_)
                              clear hK K
                              refine Ev.sr fun K hK => S.o q.mv (S.o q.neq (S.bn q.mv (fun c28 => ?_) (fun c28 => ?_)))
                              · first
                              | (first | omega | contradiction)
                              | refine S.sk (S.sk (S.sk (S.o q.pt (S.end (hK _ ?_)))))
                                clear hK K
                                refine Ev.ct ?_
                                refine Ev.sr fun K hK => S.o q.as (S.end (hK _ ?_))
                                clear hK K
                                refine Ev.ret ?_
                                refine hR0 _ _ ?_
                                refine Ev.ret1 ?_
                                refine ⟨?_, rfl⟩
                                first | rfl | exact lawT rfl | exact lawT (by omega) | (exfalso; omega) | contradiction | (exfalso; simp at *; done)
                              · first
                              | (first | omega | contradiction)
                              | refine S.o q.mv (S.o (q.lens am_el50) (S.o q.neq (S.o q.pf (S.end (hK _ ?_)))))
                                clear hK K
                                refine Ev.cn (fun c29 => ?_) (fun c29 => ?_)
                                · first
                                | (first | omega | contradiction)
                                | refine Ev.sr fun K hK => S.o q.as (S.end (hK _ ?_))
                                  clear hK K
                                  refine Ev.ret ?_
                                  refine hR0 _ _ ?_
                                  refine Ev.ret1 ?_
                                  refine ⟨?_, rfl⟩
                                  first | rfl | exact lawT rfl | exact lawT (by omega) | (exfalso; omega) | contradiction | (exfalso; simp at *; done)
                                · first
                                | (first | omega | contradiction)
                                | refine Ev.skip ?_
                                  show Ev _ _ _ _
                                  refine Ev.region_S fun K hK => S.o q.add (S.o q.mv (S.end (hK _ ?_)))
                                  clear hK K
                                  refine hR0 _ _ ?_
                                  refine roundU [0, 4, 2] [3, 11, 73] ⟨(pre ++ [s], suf, revV es s.1 s.2 most), by rw [← hp]; simp, by rw [show curL a suf = s.2 from cur_next hp]; exact hF2, hG2⟩ ?_ (keep_d (he := (by first | rfl | (simp; done))) (h := (keep_c (he := (by first | rfl | (simp; done))) (h := (keep_c (he := (by first | rfl | (simp; done))) (h := keep_n)))))) (slots_c (he := (by first | rfl | (congr 2; simp; done))) (h := (slots_c (he := (by first | rfl | (simp; done) | (congr 2; omega))) (h := trivial)))) (.c (.c (.c .n)))
                                  skip
                                  all_goals (dsimp only; simp only [List.length_cons]; omega)
                          · skip
                            refine HT.one (i := 6) #[true, true, true, true, true, true, true, true, false, false] trivial (by kernel_rfl) (by kernel_rfl) rfl (by decide) (S.o q.ex (S.end ?_))
                            refine HT.one (i := 8) #[true, true, true, true, true, true, true, true, true, false] trivial (by kernel_rfl) (by kernel_rfl) rfl (by decide) (S.o q.as (S.end ?_))
                            refine HT.one (i := 9) #[true, true, true, true, true, true, true, true, true, true] trivial (by kernel_rfl) (by kernel_rfl) rfl (by decide) (S.o q.as (S.end ?_))
                            refine HT.nil trivial (by kernel_rfl) (hK _ ?_)
                            clear hK K
                            refine Ev.sr fun K hK => S.o q.mv (S.o q.neq (S.bn q.mv (fun c30 => ?_) (fun c30 => ?_)))
                            · first
                            | (first | omega | contradiction)
                            | refine S.sk (S.sk (S.sk (S.o q.pt (S.end (hK _ ?_)))))
                              clear hK K
                              refine Ev.ct ?_
                              refine Ev.sr fun K hK => S.o q.as (S.end (hK _ ?_))
                              clear hK K
                              refine Ev.ret ?_
                              refine hR0 _ _ ?_
                              refine Ev.ret1 ?_
                              refine ⟨?_, rfl⟩
                              first | rfl | exact lawT rfl | exact lawT (by omega) | (exfalso; omega) | contradiction | (exfalso; simp at *; done)
                            · first
                            | (first | omega | contradiction)
                            | refine S.o q.mv (S.o (q.lens am_el50) (S.o q.neq (S.o q.pf (S.end (hK _ ?_)))))
                              clear hK K
                              refine Ev.cn (fun c31 => ?_) (fun c31 => ?_)
                              · first
                              | (first | omega | contradiction)
                              | refine Ev.sr fun K hK => S.o q.as (S.end (hK _ ?_))
                                clear hK K
                                refine Ev.ret ?_
                                refine hR0 _ _ ?_
                                refine Ev.ret1 ?_
                                refine ⟨?_, rfl⟩
                                first | rfl | exact lawT rfl | exact lawT (by omega) | (exfalso; omega) | contradiction | (exfalso; simp at *; done)
                              · first
                              | (first | omega | contradiction)
                              | refine Ev.skip ?_
                                show Ev _ _ _ _
                                refine Ev.region_S fun K hK => S.o q.add (S.o q.mv (S.end (hK _ ?_)))
                                clear hK K
                                refine hR0 _ _ ?_
                                refine roundU [0, 4, 2] [3, 11, 73] ⟨(pre ++ [s], suf, revV es s.1 s.2 most), by rw [← hp]; simp, by rw [show curL a suf = s.2 from cur_next hp]; exact hF2, hG2⟩ ?_ (keep_d (he := (by first | rfl | (simp; done))) (h := (keep_c (he := (by first | rfl | (simp; done))) (h := (keep_c (he := (by first | rfl | (simp; done))) (h := keep_n)))))) (slots_c (he := (by first | rfl | (congr 2; simp; done))) (h := (slots_c (he := (by first | rfl | (simp; done) | (congr 2; omega))) (h := trivial)))) (.c (.c (.c .n)))
                                skip
                                all_goals (dsimp only; simp only [List.length_cons]; omega)
                    · skip
                      refine HT.two (i := 0) (j := 3) #[true, false, true, false, false, false, false, false, false, false] #[false, false, true, true, false, false, false, false, false, false] trivial (by kernel_rfl) (by kernel_rfl) (by kernel_rfl) rfl rfl (by decide) (by decide) (S.o (q.iaa am_el48 am_ar48 am_cl23) (S.end ?_)) (S.cR [0, 4] 5 [_, _, _, _] (hob := (keep_d (he := rfl) (h := (keep_c (he := rfl) (h := keep_n))))) (hF := openR (revV es s.1 s.2 most) (by omega)) (hn' := belowL rfl rfl) (h := S.end ?_))
                      · skip
                        refine HT.two (i := 1) (j := 3) #[true, true, true, false, false, false, false, false, false, false] #[true, false, true, true, false, false, false, false, false, false] trivial (by kernel_rfl) (by kernel_rfl) (by kernel_rfl) rfl rfl (by decide) (by decide) (S.o (q.lv am_ag23) (S.end ?_)) (S.cR [0, 4] 5 [_, _, _, _] (hob := (keep_d (he := rfl) (h := (keep_c (he := rfl) (h := keep_n))))) (hF := openR (revV es s.1 s.2 most) (by omega)) (hn' := belowL rfl rfl) (h := S.end ?_))
                        · skip
                          refine HT.one (i := 3) #[true, true, true, true, false, false, false, false, false, false] trivial (by kernel_rfl) (by kernel_rfl) rfl (by decide) (S.cR [0, 4] 5 [_, _, _, _] (hob := (keep_d (he := rfl) (h := (keep_c (he := rfl) (h := keep_n))))) (hF := openR (revV es s.1 s.2 most) (by omega)) (hn' := belowL rfl rfl) (h := S.end ?_))
                          refine HT.one (i := 4) #[true, true, true, true, true, false, false, false, false, false] trivial (by kernel_rfl) (by kernel_rfl) rfl (by decide) (S.c0 (hF := bcheck_fun s.2 (openL (revV es s.1 s.2 most)) (by omega) (by omega) hw2 hG2.bw) (h := S.end ?_))
                          refine HT.one (i := 5) #[true, true, true, true, true, true, false, false, false, false] trivial (by kernel_rfl) (by kernel_rfl) rfl (by decide) (S.o q.mv (S.end ?_))
                          refine HT.two (i := 6) (j := 7) #[true, true, true, true, true, true, true, false, false, false] #[true, true, true, true, true, true, false, true, false, false] trivial (by kernel_rfl) (by kernel_rfl) (by kernel_rfl) rfl rfl (by decide) (by decide) (S.o q.ex (S.end ?_)) (S.o q.ex (S.end ?_))
                          · skip
                            refine HT.two (i := 7) (j := 8) #[true, true, true, true, true, true, true, true, false, false] #[true, true, true, true, true, true, true, false, true, false] trivial (by kernel_rfl) (by kernel_rfl) (by kernel_rfl) rfl rfl (by decide) (by decide) (S.o q.ex (S.end ?_)) (S.o q.as (S.end ?_))
                            · skip
                              refine HT.one (i := 8) #[true, true, true, true, true, true, true, true, true, false] trivial (by kernel_rfl) (by kernel_rfl) rfl (by decide) (S.o q.as (S.end ?_))
                              refine HT.one (i := 9) #[true, true, true, true, true, true, true, true, true, true] trivial (by kernel_rfl) (by kernel_rfl) rfl (by decide) (S.o q.as (S.end ?_))
                              refine HT.nil trivial (by kernel_rfl) (hK _ ?_)
                              clear hK K
                              refine Ev.sr fun K hK => S.o q.mv (S.o q.neq (S.bn q.mv (fun c32 => ?_) (fun c32 => ?_)))
                              · first
                              | (first | omega | contradiction)
                              | refine S.sk (S.sk (S.sk (S.o q.pt (S.end (hK _ ?_)))))
                                clear hK K
                                refine Ev.ct ?_
                                refine Ev.sr fun K hK => S.o q.as (S.end (hK _ ?_))
                                clear hK K
                                refine Ev.ret ?_
                                refine hR0 _ _ ?_
                                refine Ev.ret1 ?_
                                refine ⟨?_, rfl⟩
                                first | rfl | exact lawT rfl | exact lawT (by omega) | (exfalso; omega) | contradiction | (exfalso; simp at *; done)
                              · first
                              | (first | omega | contradiction)
                              | refine S.o q.mv (S.o (q.lens am_el50) (S.o q.neq (S.o q.pf (S.end (hK _ ?_)))))
                                clear hK K
                                refine Ev.cn (fun c33 => ?_) (fun c33 => ?_)
                                · first
                                | (first | omega | contradiction)
                                | refine Ev.sr fun K hK => S.o q.as (S.end (hK _ ?_))
                                  clear hK K
                                  refine Ev.ret ?_
                                  refine hR0 _ _ ?_
                                  refine Ev.ret1 ?_
                                  refine ⟨?_, rfl⟩
                                  first | rfl | exact lawT rfl | exact lawT (by omega) | (exfalso; omega) | contradiction | (exfalso; simp at *; done)
                                · first
                                | (first | omega | contradiction)
                                | refine Ev.skip ?_
                                  show Ev _ _ _ _
                                  refine Ev.region_S fun K hK => S.o q.add (S.o q.mv (S.end (hK _ ?_)))
                                  clear hK K
                                  refine hR0 _ _ ?_
                                  refine roundU [0, 4, 2] [3, 11, 73] ⟨(pre ++ [s], suf, revV es s.1 s.2 most), by rw [← hp]; simp, by rw [show curL a suf = s.2 from cur_next hp]; exact hF2, hG2⟩ ?_ (keep_d (he := (by first | rfl | (simp; done))) (h := (keep_c (he := (by first | rfl | (simp; done))) (h := (keep_c (he := (by first | rfl | (simp; done))) (h := keep_n)))))) (slots_c (he := (by first | rfl | (congr 2; simp; done))) (h := (slots_c (he := (by first | rfl | (simp; done) | (congr 2; omega))) (h := trivial)))) (.c (.c (.c .n)))
                                  skip
                                  all_goals (dsimp only; simp only [List.length_cons]; omega)
                            · skip
                              refine HT.one (i := 7) #[true, true, true, true, true, true, true, true, true, false] trivial (by kernel_rfl) (by kernel_rfl) rfl (by decide) (S.o q.ex (S.end ?_))
                              refine HT.one (i := 9) #[true, true, true, true, true, true, true, true, true, true] trivial (by kernel_rfl) (by kernel_rfl) rfl (by decide) (S.o q.as (S.end ?_))
                              refine HT.nil trivial (by kernel_rfl) (hK _ ?_)
                              clear hK K
                              refine Ev.sr fun K hK => S.o q.mv (S.o q.neq (S.bn q.mv (fun c34 => ?_) (fun c34 => ?_)))
                              · first
                              | (first | omega | contradiction)
                              | refine S.sk (S.sk (S.sk (S.o q.pt (S.end (hK _ ?_)))))
                                clear hK K
                                refine Ev.ct ?_
                                refine Ev.sr fun K hK => S.o q.as (S.end (hK _ ?_))
                                clear hK K
                                refine Ev.ret ?_
                                refine hR0 _ _ ?_
                                refine Ev.ret1 ?_
                                refine ⟨?_, rfl⟩
                                first | rfl | exact lawT rfl | exact lawT (by omega) | (exfalso; omega) | contradiction | (exfalso; simp at *; done)
                              · first
                              | (first | omega | contradiction)
                              | refine S.o q.mv (S.o (q.lens am_el50) (S.o q.neq (S.o q.pf (S.end (hK _ ?_)))))
                                clear hK K
                                refine Ev.cn (fun c35 => ?_) (fun c35 => ?_)
                                · first
                                | (first | omega | contradiction)
                                | refine Ev.sr fun K hK => S.o q.as (S.end (hK _ ?_))
                                  clear hK K
                                  refine Ev.ret ?_
                                  refine hR0 _ _ ?_
                                  refine Ev.ret1 ?_
                                  refine ⟨?_, rfl⟩
                                  first | rfl | exact lawT rfl | exact lawT (by omega) | (exfalso; omega) | contradiction | (exfalso; simp at *; done)
                                · first
                                | (first | omega | contradiction)
                                | refine Ev.skip ?_
                                  show Ev _ _ _ _
                                  refine Ev.region_S fun K hK => S.o q.add (S.o q.mv (S.end (hK _ ?_)))
                                  clear hK K
                                  refine hR0 _ _ ?_
                                  refine roundU [0, 4, 2] [3, 11, 73] ⟨(pre ++ [s], suf, revV es s.1 s.2 most), by rw [← hp]; simp, by rw [show curL a suf = s.2 from cur_next hp]; exact hF2, hG2⟩ ?_ (keep_d (he := (by first | rfl | (simp; done))) (h := (keep_c (he := (by first | rfl | (simp; done))) (h := (keep_c (he := (by first | rfl | (simp; done))) (h := keep_n)))))) (slots_c (he := (by first | rfl | (congr 2; simp; done))) (h := (slots_c (he := (by first | rfl | (simp; done) | (congr 2; omega))) (h := trivial)))) (.c (.c (.c .n)))
                                  skip
                                  all_goals (dsimp only; simp only [List.length_cons]; omega)
                          · skip
                            refine HT.one (i := 6) #[true, true, true, true, true, true, true, true, false, false] trivial (by kernel_rfl) (by kernel_rfl) rfl (by decide) (S.o q.ex (S.end ?_))
                            refine HT.one (i := 8) #[true, true, true, true, true, true, true, true, true, false] trivial (by kernel_rfl) (by kernel_rfl) rfl (by decide) (S.o q.as (S.end ?_))
                            refine HT.one (i := 9) #[true, true, true, true, true, true, true, true, true, true] trivial (by kernel_rfl) (by kernel_rfl) rfl (by decide) (S.o q.as (S.end ?_))
                            refine HT.nil trivial (by kernel_rfl) (hK _ ?_)
                            clear hK K
                            refine Ev.sr fun K hK => S.o q.mv (S.o q.neq (S.bn q.mv (fun c36 => ?_) (fun c36 => ?_)))
                            · first
                            | (first | omega | contradiction)
                            | refine S.sk (S.sk (S.sk (S.o q.pt (S.end (hK _ ?_)))))
                              clear hK K
                              refine Ev.ct ?_
                              refine Ev.sr fun K hK => S.o q.as (S.end (hK _ ?_))
                              clear hK K
                              refine Ev.ret ?_
                              refine hR0 _ _ ?_
                              refine Ev.ret1 ?_
                              refine ⟨?_, rfl⟩
                              first | rfl | exact lawT rfl | exact lawT (by omega) | (exfalso; omega) | contradiction | (exfalso; simp at *; done)
                            · first
                            | (first | omega | contradiction)
                            | refine S.o q.mv (S.o (q.lens am_el50) (S.o q.neq (S.o q.pf (S.end (hK _ ?_)))))
                              clear hK K
                              refine Ev.cn (fun c37 => ?_) (fun c37 => ?_)
                              · first
                              | (first | omega | contradiction)
                              | refine Ev.sr fun K hK => S.o q.as (S.end (hK _ ?_))
                                clear hK K
                                refine Ev.ret ?_
                                refine hR0 _ _ ?_
                                refine Ev.ret1 ?_
                                refine ⟨?_, rfl⟩
                                first | rfl | exact lawT rfl | exact lawT (by omega) | (exfalso; omega) | contradiction | (exfalso; simp at *; done)
                              · first
                              | (first | omega | contradiction)
                              | refine Ev.skip ?_
                                show Ev _ _ _ _
                                refine Ev.region_S fun K hK => S.o q.add (S.o q.mv (S.end (hK _ ?_)))
                                clear hK K
                                refine hR0 _ _ ?_
                                refine roundU [0, 4, 2] [3, 11, 73] ⟨(pre ++ [s], suf, revV es s.1 s.2 most), by rw [← hp]; simp, by rw [show curL a suf = s.2 from cur_next hp]; exact hF2, hG2⟩ ?_ (keep_d (he := (by first | rfl | (simp; done))) (h := (keep_c (he := (by first | rfl | (simp; done))) (h := (keep_c (he := (by first | rfl | (simp; done))) (h := keep_n)))))) (slots_c (he := (by first | rfl | (congr 2; simp; done))) (h := (slots_c (he := (by first | rfl | (simp; done) | (congr 2; omega))) (h := trivial)))) (.c (.c (.c .n)))
                                skip
                                all_goals (dsimp only; simp only [List.length_cons]; omega)
                        · skip
                          refine HT.one (i := 1) #[true, true, true, true, false, false, false, false, false, false] trivial (by kernel_rfl) (by kernel_rfl) rfl (by decide) (S.o (q.lv am_ag23) (S.end ?_))
                          refine HT.one (i := 4) #[true, true, true, true, true, false, false, false, false, false] trivial (by kernel_rfl) (by kernel_rfl) rfl (by decide) (S.c0 (hF := bcheck_fun s.2 (openL (revV es s.1 s.2 most)) (by omega) (by omega) hw2 hG2.bw) (h := S.end ?_))
                          refine HT.one (i := 5) #[true, true, true, true, true, true, false, false, false, false] trivial (by kernel_rfl) (by kernel_rfl) rfl (by decide) (S.o q.mv (S.end ?_))
                          refine HT.two (i := 6) (j := 7) #[true, true, true, true, true, true, true, false, false, false] #[true, true, true, true, true, true, false, true, false, false] trivial (by kernel_rfl) (by kernel_rfl) (by kernel_rfl) rfl rfl (by decide) (by decide) (S.o q.ex (S.end ?_)) (S.o q.ex (S.end ?_))
                          · skip
                            refine HT.two (i := 7) (j := 8) #[true, true, true, true, true, true, true, true, false, false] #[true, true, true, true, true, true, true, false, true, false] trivial (by kernel_rfl) (by kernel_rfl) (by kernel_rfl) rfl rfl (by decide) (by decide) (S.o q.ex (S.end ?_)) (S.o q.as (S.end ?_))
                            · skip
                              refine HT.one (i := 8) #[true, true, true, true, true, true, true, true, true, false] trivial (by kernel_rfl) (by kernel_rfl) rfl (by decide) (S.o q.as (S.end ?_))
                              refine HT.one (i := 9) #[true, true, true, true, true, true, true, true, true, true] trivial (by kernel_rfl) (by kernel_rfl) rfl (by decide) (S.o q.as (S.end ?_))
                              refine HT.nil trivial (by kernel_rfl) (hK _ ?_)
                              clear hK K
                              refine Ev.sr fun K hK => S.o q.mv (S.o q.neq (S.bn q.mv (fun c38 => ?_) (fun c38 => ?_)))
                              · first
                              | (first | omega | contradiction)
                              | refine S.sk (S.sk (S.sk (S.o q.pt (S.end (hK _ ?_)))))
                                clear hK K
                                refine Ev.ct ?_
                                refine Ev.sr fun K hK => S.o q.as (S.end (hK _ ?_))
                                clear hK K
                                refine Ev.ret ?_
                                refine hR0 _ _ ?_
                                refine Ev.ret1 ?_
                                refine ⟨?_, rfl⟩
                                first | rfl | exact lawT rfl | exact lawT (by omega) | (exfalso; omega) | contradiction | (exfalso; simp at *; done)
                              · first
                              | (first | omega | contradiction)
                              | refine S.o q.mv (S.o (q.lens am_el50) (S.o q.neq (S.o q.pf (S.end (hK _ ?_)))))
                                clear hK K
                                refine Ev.cn (fun c39 => ?_) (fun c39 => ?_)
                                · first
                                | (first | omega | contradiction)
                                | refine Ev.sr fun K hK => S.o q.as (S.end (hK _ ?_))
                                  clear hK K
                                  refine Ev.ret ?_
                                  refine hR0 _ _ ?_
                                  refine Ev.ret1 ?_
                                  refine ⟨?_, rfl⟩
                                  first | rfl | exact lawT rfl | exact lawT (by omega) | (exfalso; omega) | contradiction | (exfalso; simp at *; done)
                                · first
                                | (first | omega | contradiction)
                                | refine Ev.skip ?_
                                  show Ev _ _ _ _
                                  refine Ev.region_S fun K hK => S.o q.add (S.o q.mv (S.end (hK _ ?_)))
                                  clear hK K
                                  refine hR0 _ _ ?_
                                  refine roundU [0, 4, 2] [3, 11, 73] ⟨(pre ++ [s], suf, revV es s.1 s.2 most), by rw [← hp]; simp, by rw [show curL a suf = s.2 from cur_next hp]; exact hF2, hG2⟩ ?_ (keep_d (he := (by first | rfl | (simp; done))) (h := (keep_c (he := (by first | rfl | (simp; done))) (h := (keep_c (he := (by first | rfl | (simp; done))) (h := keep_n)))))) (slots_c (he := (by first | rfl | (congr 2; simp; done))) (h := (slots_c (he := (by first | rfl | (simp; done) | (congr 2; omega))) (h := trivial)))) (.c (.c (.c .n)))
                                  skip
                                  all_goals (dsimp only; simp only [List.length_cons]; omega)
                            · skip
                              refine HT.one (i := 7) #[true, true, true, true, true, true, true, true, true, false] trivial (by kernel_rfl) (by kernel_rfl) rfl (by decide) (S.o q.ex (S.end ?_))
                              refine HT.one (i := 9) #[true, true, true, true, true, true, true, true, true, true] trivial (by kernel_rfl) (by kernel_rfl) rfl (by decide) (S.o q.as (S.end ?_))
                              refine HT.nil trivial (by kernel_rfl) (hK _ ?_)
                              clear hK K
                              refine Ev.sr fun K hK => S.o q.mv (S.o q.neq (S.bn q.mv (fun c40 => ?_) (fun c40 => ?_)))
                              · first
                              | (first | omega | contradiction)
                              | refine S.sk (S.sk (S.sk (S.o q.pt (S.end (hK _ ?_)))))
                                clear hK K
                                refine Ev.ct ?_
                                refine Ev.sr fun K hK => S.o q.as (S.end (hK _ ?_))
                                clear hK K
                                refine Ev.ret ?_
                                refine hR0 _ _ ?_
                                refine Ev.ret1 ?_
                                refine ⟨?_, rfl⟩
                                first | rfl | exact lawT rfl | exact lawT (by omega) | (exfalso; omega) | contradiction | (exfalso; simp at *; done)
                              · first
                              | (first | omega | contradiction)
                              | refine S.o q.mv (S.o (q.lens am_el50) (S.o q.neq (S.o q.pf (S.end (hK _ ?_)))))
                                clear hK K
                                refine Ev.cn (fun c41 => ?_) (fun c41 => ?_)
                                · first
                                | (first | omega | contradiction)
                                | refine Ev.sr fun K hK => S.o q.as (S.end (hK _ ?_))
                                  clear hK K
                                  refine Ev.ret ?_
                                  refine hR0 _ _ ?_
                                  refine Ev.ret1 ?_
                                  refine ⟨?_, rfl⟩
                                  first | rfl | exact lawT rfl | exact lawT (by omega) | (exfalso; omega) | contradiction | (exfalso; simp at *; done)
                                · first
                                | (first | omega | contradiction)
                                | refine Ev.skip ?_
                                  show Ev _ _ _ _
                                  refine Ev.region_S fun K hK => S.o q.add (S.o q.mv (S.end (hK _ ?_)))
                                  clear hK K
                                  refine hR0 _ _ ?_
                                  refine roundU [0, 4, 2] [3, 11, 73] ⟨(pre ++ [s], suf, revV es s.1 s.2 most), by rw [← hp]; simp, by rw [show curL a suf = s.2 from cur_next hp]; exact hF2, hG2⟩ ?_ (keep_d (he := (by first | rfl | (simp; done))) (h := (keep_c (he := (by first | rfl | (simp; done))) (h := (keep_c (he := (by first | rfl | (simp; done))) (h := keep_n)))))) (slots_c (he := (by first | rfl | (congr 2; simp; done))) (h := (slots_c (he := (by first | rfl | (simp; done) | (congr 2; omega))) (h := trivial)))) (.c (.c (.c .n)))
                                  skip
                                  all_goals (dsimp only; simp only [List.length_cons]; omega)
                          · skip
                            refine HT.one (i := 6) #[true, true, true, true, true, true, true, true, false, false] trivial (by kernel_rfl) (by kernel_rfl) rfl (by decide) (S.o q.ex (S.end ?_))
                            refine HT.one (i := 8) #[true, true, true, true, true, true, true, true, true, false] trivial (by kernel_rfl) (by kernel_rfl) rfl (by decide) (S.o q.as (S.end ?_))
                            refine HT.one (i := 9) #[true, true, true, true, true, true, true, true, true, true] trivial (by kernel_rfl) (by kernel_rfl) rfl (by decide) (S.o q.as (S.end ?_))
                            refine HT.nil trivial (by kernel_rfl) (hK _ ?_)
                            clear hK K
                            refine Ev.sr fun K hK => S.o q.mv (S.o q.neq (S.bn q.mv (fun c42 => ?_) (fun c42 => ?_)))
                            · first
                            | (first | omega | contradiction)
                            | refine S.sk (S.sk (S.sk (S.o q.pt (S.end (hK _ ?_)))))
                              clear hK K
                              refine Ev.ct ?_
                              refine Ev.sr fun K hK => S.o q.as (S.end (hK _ ?_))
                              clear hK K
                              refine Ev.ret ?_
                              refine hR0 _ _ ?_
                              refine Ev.ret1 ?_
                              refine ⟨?_, rfl⟩
                              first | rfl | exact lawT rfl | exact lawT (by omega) | (exfalso; omega) | contradiction | (exfalso; simp at *; done)
                            · first
                            | (first | omega | contradiction)
                            | refine S.o q.mv (S.o (q.lens am_el50) (S.o q.neq (S.o q.pf (S.end (hK _ ?_)))))
                              clear hK K
                              refine Ev.cn (fun c43 => ?_) (fun c43 => ?_)
                              · first
                              | (first | omega | contradiction)
                              | refine Ev.sr fun K hK => S.o q.as (S.end (hK _ ?_))
                                clear hK K
                                refine Ev.ret ?_
                                refine hR0 _ _ ?_
                                refine Ev.ret1 ?_
                                refine ⟨?_, rfl⟩
                                first | rfl | exact lawT rfl | exact lawT (by omega) | (exfalso; omega) | contradiction | (exfalso; simp at *; done)
                              · first
                              | (first | omega | contradiction)
                              | refine Ev.skip ?_
                                show Ev _ _ _ _
                                refine Ev.region_S fun K hK => S.o q.add (S.o q.mv (S.end (hK _ ?_)))
                                clear hK K
                                refine hR0 _ _ ?_
                                refine roundU [0, 4, 2] [3, 11, 73] ⟨(pre ++ [s], suf, revV es s.1 s.2 most), by rw [← hp]; simp, by rw [show curL a suf = s.2 from cur_next hp]; exact hF2, hG2⟩ ?_ (keep_d (he := (by first | rfl | (simp; done))) (h := (keep_c (he := (by first | rfl | (simp; done))) (h := (keep_c (he := (by first | rfl | (simp; done))) (h := keep_n)))))) (slots_c (he := (by first | rfl | (congr 2; simp; done))) (h := (slots_c (he := (by first | rfl | (simp; done) | (congr 2; omega))) (h := trivial)))) (.c (.c (.c .n)))
                                skip
                                all_goals (dsimp only; simp only [List.length_cons]; omega)
                      · skip
                        refine HT.one (i := 0) #[true, false, true, true, false, false, false, false, false, false] trivial (by kernel_rfl) (by kernel_rfl) rfl (by decide) (S.o (q.iaa am_el48 am_ar48 am_cl23) (S.end ?_))
                        refine HT.one (i := 1) #[true, true, true, true, false, false, false, false, false, false] trivial (by kernel_rfl) (by kernel_rfl) rfl (by decide) (S.o (q.lv am_ag23) (S.end ?_))
                        refine HT.one (i := 4) #[true, true, true, true, true, false, false, false, false, false] trivial (by kernel_rfl) (by kernel_rfl) rfl (by decide) (S.c0 (hF := bcheck_fun s.2 (openL (revV es s.1 s.2 most)) (by omega) (by omega) hw2 hG2.bw) (h := S.end ?_))
                        refine HT.one (i := 5) #[true, true, true, true, true, true, false, false, false, false] trivial (by kernel_rfl) (by kernel_rfl) rfl (by decide) (S.o q.mv (S.end ?_))
                        refine HT.two (i := 6) (j := 7) #[true, true, true, true, true, true, true, false, false, false] #[true, true, true, true, true, true, false, true, false, false] trivial (by kernel_rfl) (by kernel_rfl) (by kernel_rfl) rfl rfl (by decide) (by decide) (S.o q.ex (S.end ?_)) (S.o q.ex (S.end ?_))
                        · skip
                          refine HT.two (i := 7) (j := 8) #[true, true, true, true, true, true, true, true, false, false] #[true, true, true, true, true, true, true, false, true, false] trivial (by kernel_rfl) (by kernel_rfl) (by kernel_rfl) rfl rfl (by decide) (by decide) (S.o q.ex (S.end ?_)) (S.o q.as (S.end ?_))
                          · skip
                            refine HT.one (i := 8) #[true, true, true, true, true, true, true, true, true, false] trivial (by kernel_rfl) (by kernel_rfl) rfl (by decide) (S.o q.as (S.end ?_))
                            refine HT.one (i := 9) #[true, true, true, true, true, true, true, true, true, true] trivial (by kernel_rfl) (by kernel_rfl) rfl (by decide) (S.o q.as (S.end ?_))
                            refine HT.nil trivial (by kernel_rfl) (hK _ ?_)
                            clear hK K
                            refine Ev.sr fun K hK => S.o q.mv (S.o q.neq (S.bn q.mv (fun c44 => ?_) (fun c44 => ?_)))
                            · first
                            | (first | omega | contradiction)
                            | refine S.sk (S.sk (S.sk (S.o q.pt (S.end (hK _ ?_)))))
                              clear hK K
                              refine Ev.ct ?_
                              refine Ev.sr fun K hK => S.o q.as (S.end (hK _ ?_))
                              clear hK K
                              refine Ev.ret ?_
                              refine hR0 _ _ ?_
                              refine Ev.ret1 ?_
                              refine ⟨?_, rfl⟩
                              first | rfl | exact lawT rfl | exact lawT (by omega) | (exfalso; omega) | contradiction | (exfalso; simp at *; done)
                            · first
                            | (first | omega | contradiction)
                            | refine S.o q.mv (S.o (q.lens am_el50) (S.o q.neq (S.o q.pf (S.end (hK _ ?_)))))
                              clear hK K
                              refine Ev.cn (fun c45 => ?_) (fun c45 => ?_)
                              · first
                              | (first | omega | contradiction)
                              | refine Ev.sr fun K hK => S.o q.as (S.end (hK _ ?_))
                                clear hK K
                                refine Ev.ret ?_
                                refine hR0 _ _ ?_
                                refine Ev.ret1 ?_
                                refine ⟨?_, rfl⟩
                                first | rfl | exact lawT rfl | exact lawT (by omega) | (exfalso; omega) | contradiction | (exfalso; simp at *; done)
                              · first
                              | (first | omega | contradiction)
                              | refine Ev.skip ?_
                                show Ev _ _ _ _
                                refine Ev.region_S fun K hK => S.o q.add (S.o q.mv (S.end (hK _ ?_)))
                                clear hK K
                                refine hR0 _ _ ?_
                                refine roundU [0, 4, 2] [3, 11, 73] ⟨(pre ++ [s], suf, revV es s.1 s.2 most), by rw [← hp]; simp, by rw [show curL a suf = s.2 from cur_next hp]; exact hF2, hG2⟩ ?_ (keep_d (he := (by first | rfl | (simp; done))) (h := (keep_c (he := (by first | rfl | (simp; done))) (h := (keep_c (he := (by first | rfl | (simp; done))) (h := keep_n)))))) (slots_c (he := (by first | rfl | (congr 2; simp; done))) (h := (slots_c (he := (by first | rfl | (simp; done) | (congr 2; omega))) (h := trivial)))) (.c (.c (.c .n)))
                                skip
                                all_goals (dsimp only; simp only [List.length_cons]; omega)
                          · skip
                            refine HT.one (i := 7) #[true, true, true, true, true, true, true, true, true, false] trivial (by kernel_rfl) (by kernel_rfl) rfl (by decide) (S.o q.ex (S.end ?_))
                            refine HT.one (i := 9) #[true, true, true, true, true, true, true, true, true, true] trivial (by kernel_rfl) (by kernel_rfl) rfl (by decide) (S.o q.as (S.end ?_))
                            refine HT.nil trivial (by kernel_rfl) (hK _ ?_)
                            clear hK K
                            refine Ev.sr fun K hK => S.o q.mv (S.o q.neq (S.bn q.mv (fun c46 => ?_) (fun c46 => ?_)))
                            · first
                            | (first | omega | contradiction)
                            | refine S.sk (S.sk (S.sk (S.o q.pt (S.end (hK _ ?_)))))
                              clear hK K
                              refine Ev.ct ?_
                              refine Ev.sr fun K hK => S.o q.as (S.end (hK _ ?_))
                              clear hK K
                              refine Ev.ret ?_
                              refine hR0 _ _ ?_
                              refine Ev.ret1 ?_
                              refine ⟨?_, rfl⟩
                              first | rfl | exact lawT rfl | exact lawT (by omega) | (exfalso; omega) | contradiction | (exfalso; simp at *; done)
                            · first
                            | (first | omega | contradiction)
                            | refine S.o q.mv (S.o (q.lens am_el50) (S.o q.neq (S.o q.pf (S.end (hK _ ?_)))))
                              clear hK K
                              refine Ev.cn (fun c47 => ?_) (fun c47 => ?_)
                              · first
                              | (first | omega | contradiction)
                              | refine Ev.sr fun K hK => S.o q.as (S.end (hK _ ?_))
                                clear hK K
                                refine Ev.ret ?_
                                refine hR0 _ _ ?_
                                refine Ev.ret1 ?_
                                refine ⟨?_, rfl⟩
                                first | rfl | exact lawT rfl | exact lawT (by omega) | (exfalso; omega) | contradiction | (exfalso; simp at *; done)
                              · first
                              | (first | omega | contradiction)
                              | refine Ev.skip ?_
                                show Ev _ _ _ _
                                refine Ev.region_S fun K hK => S.o q.add (S.o q.mv (S.end (hK _ ?_)))
                                clear hK K
                                refine hR0 _ _ ?_
                                refine roundU [0, 4, 2] [3, 11, 73] ⟨(pre ++ [s], suf, revV es s.1 s.2 most), by rw [← hp]; simp, by rw [show curL a suf = s.2 from cur_next hp]; exact hF2, hG2⟩ ?_ (keep_d (he := (by first | rfl | (simp; done))) (h := (keep_c (he := (by first | rfl | (simp; done))) (h := (keep_c (he := (by first | rfl | (simp; done))) (h := keep_n)))))) (slots_c (he := (by first | rfl | (congr 2; simp; done))) (h := (slots_c (he := (by first | rfl | (simp; done) | (congr 2; omega))) (h := trivial)))) (.c (.c (.c .n)))
                                skip
                                all_goals (dsimp only; simp only [List.length_cons]; omega)
                        · skip
                          refine HT.one (i := 6) #[true, true, true, true, true, true, true, true, false, false] trivial (by kernel_rfl) (by kernel_rfl) rfl (by decide) (S.o q.ex (S.end ?_))
                          refine HT.one (i := 8) #[true, true, true, true, true, true, true, true, true, false] trivial (by kernel_rfl) (by kernel_rfl) rfl (by decide) (S.o q.as (S.end ?_))
                          refine HT.one (i := 9) #[true, true, true, true, true, true, true, true, true, true] trivial (by kernel_rfl) (by kernel_rfl) rfl (by decide) (S.o q.as (S.end ?_))
                          refine HT.nil trivial (by kernel_rfl) (hK _ ?_)
                          clear hK K
                          refine Ev.sr fun K hK => S.o q.mv (S.o q.neq (S.bn q.mv (fun c48 => ?_) (fun c48 => ?_)))
                          · first
                          | (first | omega | contradiction)
                          | refine S.sk (S.sk (S.sk (S.o q.pt (S.end (hK _ ?_)))))
                            clear hK K
                            refine Ev.ct ?_
                            refine Ev.sr fun K hK => S.o q.as (S.end (hK _ ?_))
                            clear hK K
                            refine Ev.ret ?_
                            refine hR0 _ _ ?_
                            refine Ev.ret1 ?_
                            refine ⟨?_, rfl⟩
                            first | rfl | exact lawT rfl | exact lawT (by omega) | (exfalso; omega) | contradiction | (exfalso; simp at *; done)
                          · first
                          | (first | omega | contradiction)
                          | refine S.o q.mv (S.o (q.lens am_el50) (S.o q.neq (S.o q.pf (S.end (hK _ ?_)))))
                            clear hK K
                            refine Ev.cn (fun c49 => ?_) (fun c49 => ?_)
                            · first
                            | (first | omega | contradiction)
                            | refine Ev.sr fun K hK => S.o q.as (S.end (hK _ ?_))
                              clear hK K
                              refine Ev.ret ?_
                              refine hR0 _ _ ?_
                              refine Ev.ret1 ?_
                              refine ⟨?_, rfl⟩
                              first | rfl | exact lawT rfl | exact lawT (by omega) | (exfalso; omega) | contradiction | (exfalso; simp at *; done)
                            · first
                            | (first | omega | contradiction)
                            | refine Ev.skip ?_
                              show Ev _ _ _ _
                              refine Ev.region_S fun K hK => S.o q.add (S.o q.mv (S.end (hK _ ?_)))
                              clear hK K
                              refine hR0 _ _ ?_
                              refine roundU [0, 4, 2] [3, 11, 73] ⟨(pre ++ [s], suf, revV es s.1 s.2 most), by rw [← hp]; simp, by rw [show curL a suf = s.2 from cur_next hp]; exact hF2, hG2⟩ ?_ (keep_d (he := (by first | rfl | (simp; done))) (h := (keep_c (he := (by first | rfl | (simp; done))) (h := (keep_c (he := (by first | rfl | (simp; done))) (h := keep_n)))))) (slots_c (he := (by first | rfl | (congr 2; simp; done))) (h := (slots_c (he := (by first | rfl | (simp; done) | (congr 2; omega))) (h := trivial)))) (.c (.c (.c .n)))
                              skip
                              all_goals (dsimp only; simp only [List.length_cons]; omega)
                · first | omega | contradiction | (exfalso; simp at *; done)
end Go.Proofs.YthpjfkmhpoeojaaDoor
