/-
  Layer 41: the law of the changes to itself.
  Conditions: none.
-/
import Derived.Test.YtccddakkegelkaaRev20a
import Derived.Test.YtccddakkegelkaaRev19
import Derived.Test.YtccddakkegelkaaRev16
import Derived.Test.YtccddakkegelkaaRev7
namespace Go.Proofs.Ytccddakkegelkaa
open Go Go.AM
set_option linter.unusedSimpArgs false
set_option linter.unusedVariables false
set_option maxRecDepth 100000
set_option maxHeartbeats 1000000

abbrev Rnd := (List Bar × List Bar) × Int × Int × Int
def rndC : Rnd → List AV
  | ((a, b), k, c, g) => [.sh 5 (a.map Bar.c), .sh 5 (b.map Bar.c), .lit (.int .i64 k), .lit (.int .i64 c), .lit (.int .i64 g)]
def rnds (a : List Bar) (M : Int) : List Rnd := [((a, a), 1, 0, 0), (([], a), 3, M, 0), ((a, []), 4, 0, M)]
theorem allK_ok {a : List Bar} (ha : okSched a) {k : Int} (h1 : 1 ≤ k) (h2 : k ≤ 4) : okChgs (allK k a) := by
  refine ⟨by rw [allK_len]; have := ha.1; omega, fun c hc => ?_, ?_⟩
  · obtain ⟨x, hx, rfl⟩ := List.mem_map.1 hc
    exact ⟨h1, h2, (ha.2.1 x hx).1⟩
  · rw [allK, List.pairwise_map]
    exact ha.2.2
theorem cnt_all (k : Int) (a : List Bar) : cnt (allK k a) k = a.length := by
  rw [cnt, List.countP_eq_length.2 (by intro c hc; obtain ⟨x, _, rfl⟩ := List.mem_map.1 hc; exact decide_eq_true rfl), allK_len]
structure RndOk (a : List Bar) (x y : List Bar) (k c g : Int) : Prop where
  ox : okSched x
  oy : okSched y
  wx : schedW x
  wy : schedW y
  k1 : 1 ≤ k
  k4 : k ≤ 4
  cmp : cmpP x y = allK k a
  cc : comesP x y = c
  cg : goesP x y = g
theorem rnds_ok {a : List Bar} (ha : okSched a) (hw : schedW a) {s : Rnd} (h : s ∈ rnds a (totB a)) : RndOk a s.1.1 s.1.2 s.2.1 s.2.2.1 s.2.2.2 := by
  obtain ⟨⟨s1, s2⟩, ⟨s3, s4⟩, s5, s6⟩ := self_steel ha
  have k11 : (1 : Int) ≤ 1 := by decide
  have k14 : (1 : Int) ≤ 4 := by decide
  have k31 : (1 : Int) ≤ 3 := by decide
  have k34 : (3 : Int) ≤ 4 := by decide
  have k41 : (1 : Int) ≤ 4 := by decide
  have k44 : (4 : Int) ≤ 4 := by decide
  have hn : schedW [] := by intro x hx; simp at hx
  simp only [rnds, List.mem_cons, List.not_mem_nil, or_false] at h
  rcases h with rfl | rfl | rfl
  · exact ⟨ha, ha, hw, hw, k11, k14, cmp_self ha, s1, s2⟩
  · exact ⟨okSched_nil, ha, hn, hw, k31, k34, cmp_from a, s3, s4⟩
  · exact ⟨ha, okSched_nil, hw, hn, k41, k44, cmp_to a, s5, s6⟩
theorem cntOk_fun {l : List Chg} {ns : List Int} (hl : okChgs l) (hn : cntL l = ns) : Fun Try.prog 21 [.sh 2 (l.map findC)] (Ret (.tup [.sh 1 (ns.map intC), .lit (.int .i64 0)]) []) := by
  have h := Count_fun l (by have := hl.1; omega) (fun c hc => by have := isName_len (hl.2.1 c hc).2.2; omega)
  rw [show cntV l = ns from (if_pos hl).trans hn, show textE l = 0 from if_pos hl] at h
  exact h
theorem self_law (a : List Bar) (ha : a.length ≤ 140737488355328) (hwa : schedW a) : Fun Try.prog 6 [.sh 5 (a.map Bar.c)] (Ret (.lit (.bool true)) []) := by
  have hab : ∀ x ∈ [a], x.length ≤ 140737488355328 ∧ schedW x := by
    intro x hx
    simp only [List.mem_cons, List.not_mem_nil, or_false] at hx
    subst hx
    exact ⟨ha, hwa⟩
  refine Fun.of (nt := 148) (rs := [.tmp 2]) Try.func6 rfl rfl rfl rfl rfl ?_
  refine Ev.sr fun K hK => S.o q.as (S.end (hK _ ?_))
  clear hK K
  refine Ev.seq ?_
  refine Ev.sr fun K hK => S.c0 (hF := awake_fun) (h := S.o q.nott (S.end (hK _ ?_)))
  clear hK K
  refine Ev.cf ?_
  refine Ev.skip ?_
  show Ev _ _ _ _
  refine Ev.seq ?_
  refine Ev.sr fun K hK => S.o q.mv (S.nn (q.bs [[_]] true am_el65 am_ze22 am_cl22) ?_)
  refine SeqL.weaken (Wk.frzl (f := barsC) [a] 22 []) ?_
  refine S.c0 (hF := right_fun [a] (by simp) hab) (h := S.o q.not (S.end (hK _ ?_)))
  clear hK K
  refine Ev.c (fun c1 => ?_) (fun c1 => ?_)
  · first
  | (first | omega | contradiction)
  | refine Ev.sr fun K hK => S.o q.as (S.end (hK _ ?_))
    clear hK K
    refine Ev.ret ?_
    refine Ev.ret1 ?_
    refine ⟨?_, rfl⟩
    first | rfl | (exfalso; omega) | contradiction | exact absurd hcm ‹_›
  · first
  | (first | omega | contradiction)
  | refine Ev.skip ?_
    show Ev _ _ _ _
    have hr := right_yes ‹_›
    obtain ⟨hra, hoa⟩ := hr a (by simp)
    have hoa1 := hoa.2.1
    refine Ev.sr fun K hK => S.o q.as (S.end (hK _ ?_))
    clear hK K
    refine Ev.seq ?_
    refine Ev.sr fun K hK => S.o q.mv (S.o (q.lens am_el22) (S.o q.mv (S.end (hK _ ?_))))
    clear hK K
    refine Ev.block ?_
    refine Ev.loopU (ι := {p : List (Bar) × List (Bar) // p.1 ++ p.2 = a ∧ True}) [] [0, 25, 26] (fun ⟨(pre, suf), _⟩ => [(27, .lit (.int .i64 ((pre.length : Int)))), (3, .lit (.int .i64 (totB pre)))]) (fun ⟨(pre, suf), _⟩ => []) (fun ⟨(pre, suf), _⟩ => suf.length) ⟨([], a), rfl, trivial⟩ (.c (.c (.c .n))) keep_n (slots_c (he := (by first | rfl | (congr 2; simp; done))) (h := (slots_c (he := (by first | rfl | exact iE (totB_snoc _ _).symm)) (h := trivial)))) ?_
    rintro ⟨⟨pre, suf⟩, hp, hinv⟩ R0 hR0
    dsimp only [List.cons_append, List.nil_append, List.length_cons, List.length_nil]
    simp only at hp hinv
    have hpl : pre.length + suf.length = (a).length := by rw [← hp, List.length_append]
    rcases suf with _ | ⟨s, suf⟩
    · rw [List.append_nil] at hp; subst pre; simp only [List.length_nil] at hpl
      refine Ev.sr fun K hK => S.o q.lss (S.end (hK _ ?_))
      clear hK K
      refine Ev.ud (fun c2 => ?_) (fun c2 => ?_)
      · first
      | (first | omega | contradiction)
      | refine Ev.seq ?_
        refine Ev.block ?_
        refine Ev.sr fun K hK => S.o (q.ix am_el22 am_cl43 (hl := (by first | exact atig (by omega)))) (S.o (q.lsA [_, _, _, _, _] am_ag43 am_cl43) (S.nn (q.al am_ze43) (S.sv [_, _, _, _, _] true [] am_in43 am_cl43 (h := S.end (hK _ ?_)))))
        clear hK K
        refine Ev.sr fun K hK => S.o (q.lvA [_, _, _, _, _] am_ag43 am_cl43) (S.c0 (hF := barMassOk_fun s hsok) (h := S.o q.mv (S.o q.ex (S.o q.ex (S.o q.as (S.o q.as (S.end (hK _ ?_))))))))
        clear hK K
        refine Ev.seq ?_
        refine Ev.sr fun K hK => S.o q.mv (S.o q.neq (S.end (hK _ ?_)))
        clear hK K
        refine Ev.cn (fun c3 => ?_) (fun c3 => ?_)
        · first
        | (first | omega | contradiction)
        | refine Ev.sr fun K hK => S.o q.as (S.end (hK _ ?_))
          clear hK K
          refine Ev.ret ?_
          refine hR0 _ _ ?_
          refine Ev.ret1 ?_
          refine ⟨?_, rfl⟩
          first | rfl | (exfalso; omega) | contradiction | exact absurd hcm ‹_›
        · first
        | (first | omega | contradiction)
        | refine Ev.skip ?_
          show Ev _ _ _ _
          refine Ev.region_S fun K hK => S.o q.mv (S.o q.mv (S.o q.add (S.o q.as (S.end (hK _ ?_)))))
          clear hK K
          show Ev _ _ _ _
          refine Ev.region_S fun K hK => S.o q.add (S.o q.mv (S.end (hK _ ?_)))
          clear hK K
          refine hR0 _ _ ?_
          refine roundU [] [0, 25, 26] ⟨(pre ++ [s], suf), by rw [← hp]; simp, ?_⟩ ?_ keep_n (slots_c (he := (by first | rfl | (congr 2; simp; done))) (h := (slots_c (he := (by first | rfl | exact iE (totB_snoc _ _).symm)) (h := trivial)))) (.c (.c (.c .n)))
          trivial
          all_goals (dsimp only; simp only [List.length_cons]; omega)
      · first
      | (first | omega | contradiction)
      | refine Ev.exit ?_
        refine hR0 _ _ ?_
        show Ev _ _ _ _
        refine Ev.seq ?_
        refine Ev.sr fun K hK => S.o q.mv (S.o q.mv (S.o (q.bd [_, _, _, _, _] am_ze59 am_pl59) (S.o q.mv (S.o q.mv (S.o (q.bd [_, _, _, _, _] am_ze59 am_pl59) (S.o q.mv (S.o q.mv (S.o (q.bd [_, _, _, _, _] am_ze59 am_pl59) (S.nn (q.bs [[_, _, _, _, _], [_, _, _, _, _], [_, _, _, _, _]] true am_el60 am_ze59 am_cl59) ?_)))))))))
        refine SeqL.weaken (Wk.nshr [[0, 0], [6, 0], [0, 6]] 0 []) ?_
        refine S.o (q.lena am_el60) ?_
        refine SeqL.weaken (Wk.frzl (f := rndC) (rnds a (totB a)) 51 []) ?_
        refine S.o q.mv (S.end (hK _ ?_))
        clear hK K
        refine Ev.block ?_
        refine Ev.loopU (ι := {q : List Rnd × List Rnd // q.1 ++ q.2 = (rnds a (totB a))}) [] [0, 3, 25, 26, 27, 28, 42, 43, 44, 45, 46, 47, 48, 49, 50, 51, 52] (fun ⟨(pre2, suf2), _⟩ => [(53, .lit (.int .i64 ((pre2.length : Int))))]) (fun ⟨(pre2, suf2), _⟩ => []) (fun ⟨(pre2, suf2), _⟩ => suf2.length) ⟨([], (rnds a (totB a))), rfl⟩ (.c (.c (.c (.c (.c (.c (.c (.c (.c (.c (.c (.c (.c (.c (.c (.c (.c .n))))))))))))))))) keep_n (slots_c (he := (by first | rfl | (congr 2; simp; done))) (h := trivial)) ?_
        rintro ⟨⟨pre2, suf2⟩, hp2⟩ R2 hR2
        dsimp only [List.cons_append, List.nil_append, List.length_cons, List.length_nil]
        simp only at hp2
        have hpl2 : pre2.length + suf2.length = 3 := by have h3 : (rnds a (totB a)).length = 3 := rfl; rw [← h3, ← hp2, List.length_append]
        rcases suf2 with _ | ⟨⟨⟨sa, sb⟩, sk, sc, sg⟩, suf2⟩
        · simp only [List.length_nil] at hpl2
          refine Ev.sr fun K hK => S.o q.lss (S.end (hK _ ?_))
          clear hK K
          refine Ev.ud (fun c4 => ?_) (fun c4 => ?_)
          · first
          | (first | omega | contradiction)
          | refine Ev.seq ?_
            refine Ev.block ?_
            refine Ev.sr fun K hK => S.o (q.ix am_el60 am_cl59 (hl := (by first | exact atig (by omega)))) (S.o (q.lsA [_, _, _, _, _] am_ag59 am_cl59) (S.nn (q.al am_ze59) (S.sv [_, _, _, _, _] true [] am_in59 am_cl59 (h := S.end (hK _ ?_)))))
            clear hK K
            refine Ev.sr fun K hK => S.o (q.fa 0 am_fi59_0 am_cl22) (S.o (q.lv am_ag22) (S.o (q.fa 1 am_fi59_1 am_cl22) (S.o (q.lv am_ag22) (S.c0 (hF := cmpOk_fun hL hs.ox hs.oy hs.wx hs.wy) (h := S.o q.mv (S.o q.ex (S.o q.ex (S.o q.as (S.o q.as (S.end (hK _ ?_)))))))))))
            clear hK K
            refine Ev.sr fun K hK => S.o q.mv (S.c0 (hF := cntOk_fun hlo hns) (h := S.o q.mv (S.o q.ex (S.o q.ex (S.o q.as (S.o q.as (S.end (hK _ ?_))))))))
            clear hK K
            refine Ev.sr fun K hK => S.o (q.fa 0 am_fi59_0 am_cl22) (S.o (q.lv am_ag22) (S.o (q.fa 1 am_fi59_1 am_cl22) (S.o (q.lv am_ag22) (S.c0 (hF := steelOk_fun hs.cc hs.cg hs.ox hs.oy hs.wx hs.wy) (h := S.o q.mv (S.o q.ex (S.o q.ex (S.o q.ex (S.o q.as (S.o q.as (S.o q.as (S.end (hK _ ?_)))))))))))))
            clear hK K
            refine Ev.seq ?_
            refine Ev.sr fun K hK => S.o q.mv (S.o q.neq (S.bn q.mv (fun c5 => ?_) (fun c5 => ?_)))
            · first
            | (first | omega | contradiction)
            | refine S.sk (S.sk (S.o q.pt (S.o q.mv (S.sk (S.sk (S.o q.pt (S.o q.mv (S.sk (S.sk (S.sk (S.sk (S.sk (S.o q.pt (S.o q.mv (S.sk (S.sk (S.sk (S.o q.pt (S.o q.mv (S.sk (S.sk (S.sk (S.sk (S.sk (S.sk (S.sk (S.sk (S.sk (S.o q.pt (S.o q.mv (S.sk (S.sk (S.sk (S.sk (S.o q.pt (S.o q.mv (S.sk (S.sk (S.sk (S.sk (S.o q.pt (S.end (hK _ ?_)))))))))))))))))))))))))))))))))))))))))))
              clear hK K
              refine Ev.ct ?_
              refine Ev.sr fun K hK => S.o q.as (S.end (hK _ ?_))
              clear hK K
              refine Ev.ret ?_
              refine hR2 _ _ ?_
              refine Ev.ret1 ?_
              refine ⟨?_, rfl⟩
              first | rfl | (exfalso; omega) | contradiction | exact absurd hcm ‹_›
            · first
            | (first | omega | contradiction)
            | refine S.o q.mv (S.o q.neq (S.o q.pf (S.bn q.mv (fun c6 => ?_) (fun c6 => ?_))))
              · first
              | (first | omega | contradiction)
              | refine S.sk (S.sk (S.o q.pt (S.o q.mv (S.sk (S.sk (S.sk (S.sk (S.sk (S.o q.pt (S.o q.mv (S.sk (S.sk (S.sk (S.o q.pt (S.o q.mv (S.sk (S.sk (S.sk (S.sk (S.sk (S.sk (S.sk (S.sk (S.sk (S.o q.pt (S.o q.mv (S.sk (S.sk (S.sk (S.sk (S.o q.pt (S.o q.mv (S.sk (S.sk (S.sk (S.sk (S.o q.pt (S.end (hK _ ?_)))))))))))))))))))))))))))))))))))))))
                clear hK K
                refine Ev.ct ?_
                refine Ev.sr fun K hK => S.o q.as (S.end (hK _ ?_))
                clear hK K
                refine Ev.ret ?_
                refine hR2 _ _ ?_
                refine Ev.ret1 ?_
                refine ⟨?_, rfl⟩
                first | rfl | (exfalso; omega) | contradiction | exact absurd hcm ‹_›
              · first
              | (first | omega | contradiction)
              | refine S.o q.mv (S.o q.neq (S.o q.pf (S.bn q.mv (fun c7 => ?_) (fun c7 => ?_))))
                · first
                | (first | omega | contradiction)
                | refine S.sk (S.sk (S.sk (S.sk (S.sk (S.o q.pt (S.o q.mv (S.sk (S.sk (S.sk (S.o q.pt (S.o q.mv (S.sk (S.sk (S.sk (S.sk (S.sk (S.sk (S.sk (S.sk (S.sk (S.o q.pt (S.o q.mv (S.sk (S.sk (S.sk (S.sk (S.o q.pt (S.o q.mv (S.sk (S.sk (S.sk (S.sk (S.o q.pt (S.end (hK _ ?_)))))))))))))))))))))))))))))))))))
                  clear hK K
                  refine Ev.ct ?_
                  refine Ev.sr fun K hK => S.o q.as (S.end (hK _ ?_))
                  clear hK K
                  refine Ev.ret ?_
                  refine hR2 _ _ ?_
                  refine Ev.ret1 ?_
                  refine ⟨?_, rfl⟩
                  first | rfl | (exfalso; omega) | contradiction | exact absurd hcm ‹_›
                · first
                | (first | omega | contradiction)
                | refine S.o q.mv (S.o (q.lens am_el25) (S.o q.mv (S.o (q.lens am_el22) (S.o q.neq (S.o q.pf (S.bn q.mv (fun c8 => ?_) (fun c8 => ?_)))))))
                  · first
                  | (first | omega | contradiction)
                  | refine S.sk (S.sk (S.sk (S.o q.pt (S.o q.mv (S.sk (S.sk (S.sk (S.sk (S.sk (S.sk (S.sk (S.sk (S.sk (S.o q.pt (S.o q.mv (S.sk (S.sk (S.sk (S.sk (S.o q.pt (S.o q.mv (S.sk (S.sk (S.sk (S.sk (S.o q.pt (S.end (hK _ ?_))))))))))))))))))))))))))))
                    clear hK K
                    refine Ev.ct ?_
                    refine Ev.sr fun K hK => S.o q.as (S.end (hK _ ?_))
                    clear hK K
                    refine Ev.ret ?_
                    refine hR2 _ _ ?_
                    refine Ev.ret1 ?_
                    refine ⟨?_, rfl⟩
                    first | rfl | (exfalso; omega) | contradiction | exact absurd hcm ‹_›
                  · first
                  | (first | omega | contradiction)
                  | refine S.o q.mv (S.o (q.lens am_el41) (S.o q.neq (S.o q.pf (S.bn q.mv (fun c9 => ?_) (fun c9 => ?_)))))
                    · first
                    | (first | omega | contradiction)
                    | refine S.sk (S.sk (S.sk (S.sk (S.sk (S.sk (S.sk (S.sk (S.sk (S.o q.pt (S.o q.mv (S.sk (S.sk (S.sk (S.sk (S.o q.pt (S.o q.mv (S.sk (S.sk (S.sk (S.sk (S.o q.pt (S.end (hK _ ?_)))))))))))))))))))))))
                      clear hK K
                      refine Ev.ct ?_
                      refine Ev.sr fun K hK => S.o q.as (S.end (hK _ ?_))
                      clear hK K
                      refine Ev.ret ?_
                      refine hR2 _ _ ?_
                      refine Ev.ret1 ?_
                      refine ⟨?_, rfl⟩
                      first | rfl | (exfalso; omega) | contradiction | exact absurd hcm ‹_›
                    · first
                    | (first | omega | contradiction)
                    | refine S.o q.mv (S.o (q.fa 2 am_fi59_2 am_cl3) (S.o (q.lv am_ag3) (S.o q.sub (S.o (q.ix am_el41 am_cl3 (hl := (by first | exact atig (by omega)))) (S.o (q.ls am_ag3) (S.o q.mv (S.o (q.lens am_el22) (S.o q.neq (S.o q.pf (S.bn q.mv (fun c10 => ?_) (fun c10 => ?_)))))))))))
                      · first
                      | (first | omega | contradiction)
                      | refine S.sk (S.sk (S.sk (S.sk (S.o q.pt (S.o q.mv (S.sk (S.sk (S.sk (S.sk (S.o q.pt (S.end (hK _ ?_))))))))))))
                        clear hK K
                        refine Ev.ct ?_
                        refine Ev.sr fun K hK => S.o q.as (S.end (hK _ ?_))
                        clear hK K
                        refine Ev.ret ?_
                        refine hR2 _ _ ?_
                        refine Ev.ret1 ?_
                        refine ⟨?_, rfl⟩
                        first | rfl | (exfalso; omega) | contradiction | exact absurd hcm ‹_›
                      · first
                      | (first | omega | contradiction)
                      | refine S.o q.mv (S.o (q.fa 3 am_fi59_3 am_cl3) (S.o (q.lv am_ag3) (S.o q.neq (S.o q.pf (S.bn q.mv (fun c11 => ?_) (fun c11 => ?_))))))
                        · first
                        | (first | omega | contradiction)
                        | refine S.sk (S.sk (S.sk (S.sk (S.o q.pt (S.end (hK _ ?_))))))
                          clear hK K
                          refine Ev.ct ?_
                          refine Ev.sr fun K hK => S.o q.as (S.end (hK _ ?_))
                          clear hK K
                          refine Ev.ret ?_
                          refine hR2 _ _ ?_
                          refine Ev.ret1 ?_
                          refine ⟨?_, rfl⟩
                          first | rfl | (exfalso; omega) | contradiction | exact absurd hcm ‹_›
                        · first
                        | (first | omega | contradiction)
                        | refine S.o q.mv (S.o (q.fa 4 am_fi59_4 am_cl3) (S.o (q.lv am_ag3) (S.o q.neq (S.o q.pf (S.end (hK _ ?_))))))
                          clear hK K
                          refine Ev.cn (fun c12 => ?_) (fun c12 => ?_)
                          · first
                          | (first | omega | contradiction)
                          | refine Ev.sr fun K hK => S.o q.as (S.end (hK _ ?_))
                            clear hK K
                            refine Ev.ret ?_
                            refine hR2 _ _ ?_
                            refine Ev.ret1 ?_
                            refine ⟨?_, rfl⟩
                            first | rfl | (exfalso; omega) | contradiction | exact absurd hcm ‹_›
                          · first
                          | (first | omega | contradiction)
                          | refine Ev.skip ?_
                            show Ev _ _ _ _
                            refine Ev.sr fun K hK => S.o q.mv (S.o (q.lens am_el25) (S.o q.mv (S.end (hK _ ?_))))
                            clear hK K
                            refine Ev.block ?_
                            refine Ev.loopU (ι := {q : List Chg × List Chg // q.1 ++ q.2 = l}) [0] [0, 3, 9, 10, 11, 12, 13, 14, 15, 16, 25, 26, 27, 28, 42, 43, 44, 45, 46, 47, 48, 49, 50, 51, 52, 53, 54, 55, 56, 57, 58, 59, 60, 61, 62, 63, 64, 65, 66, 67, 68, 69, 70, 71, 72, 73, 74, 75, 76, 77, 78, 79, 80, 81, 82, 83, 84, 85, 86, 87, 88, 89, 90, 91, 92, 93, 94, 95, 96, 97, 98, 99, 100, 101, 102, 103, 104, 105, 106, 107, 108, 109, 110, 111, 112, 113, 114, 115, 116, 117, 118, 119, 120, 121, 122, 123, 124, 125] (fun ⟨(pre3, suf3), _⟩ => [(126, .lit (.int .i64 ((pre3.length : Int))))]) (fun ⟨(pre3, suf3), _⟩ => [(0, ⟨false, 59, 5, [[.sh 5 ((sa).map Bar.c), .sh 5 ((sb).map Bar.c), .lit (.int .i64 (sk)), .lit (.int .i64 (sc)), .lit (.int .i64 (sg))]], true⟩)]) (fun ⟨(pre3, suf3), _⟩ => suf3.length) ⟨([], l), rfl⟩ (.c (.c (.c (.c (.c (.c (.c (.c (.c (.c (.c (.c (.c (.c (.c (.c (.c (.c (.c (.c (.c (.c (.c (.c (.c (.c (.c (.c (.c (.c (.c (.c (.c (.c (.c (.c (.c (.c (.c (.c (.c (.c (.c (.c (.c (.c (.c (.c (.c (.c (.c (.c (.c (.c (.c (.c (.c (.c (.c (.c (.c (.c (.c (.c (.c (.c (.c (.c (.c (.c (.c (.c (.c (.c (.c (.c (.c (.c (.c (.c (.c (.c (.c (.c (.c (.c (.c (.c (.c (.c (.c (.c (.c (.c (.c (.c (.c (.c .n)))))))))))))))))))))))))))))))))))))))))))))))))))))))))))))))))))))))))))))))))))))))))))))))))) (keep_c (he := (by first | rfl | (simp; done))) (h := keep_n)) (slots_c (he := (by first | rfl | (congr 2; simp; done))) (h := trivial)) ?_
                            rintro ⟨⟨pre3, suf3⟩, hp3⟩ R4 hR4
                            dsimp only [List.cons_append, List.nil_append, List.length_cons, List.length_nil]
                            simp only at hp3
                            have hpl3 : pre3.length + suf3.length = l.length := by rw [← hp3, List.length_append]
                            rcases suf3 with _ | ⟨s, suf3⟩
                            · simp only [List.length_nil] at hpl3
                              refine Ev.sr fun K hK => S.o q.lss (S.end (hK _ ?_))
                              clear hK K
                              refine Ev.ud (fun c13 => ?_) (fun c13 => ?_)
                              · first
                              | (first | omega | contradiction)
                              | refine Ev.seq ?_
                                refine Ev.block ?_
                                refine Ev.sr fun K hK => S.o q.mv (S.o (q.ix am_el25 am_cl36 (hl := (by first | exact atig (by omega)))) (S.o (q.lsA [_, _] am_ag36 am_cl36) (S.nn (q.al am_ze36) (S.o q.as (S.sv [_, _] true [_] am_in36 am_cl36 (h := S.end (hK _ ?_)))))))
                                clear hK K
                                refine Ev.sm (tbs [(0, 0), (1, 1), (0, 0), (0, 0), (4, 12), (5, 28), (6, 60), (7, 127), (8, 255), (9, 511), (10, 1023), (9, 511), (12, 2559), (13, 8191), (14, 16383)]) 15 fun K hK => M.o (q.fa 1 am_fi36_1 am_cl9) (M.o (q.lv am_ag9) (M.o q.mv (M.o q.mv (M.o (q.ix am_el22 am_cl43 (hl := (by first | exact atig (by omega)))) (M.o (q.fs 0 am_fi43_0 am_cl9) (M.o (q.ls am_ag9) (M.o q.snes (M.bn q.mv (fun c14 => ?_) (fun c14 => ?_)))))))))
                                · first
                                | (first | omega | contradiction)
                                | refine M.sk (M.sk (M.sk (M.sk (M.sk (M.o q.pt (M.end [_, _] (h := S.end (hK _ ?_))))))))
                                  clear hK K
                                  refine Ev.ct ?_
                                  refine Ev.sr fun K hK => S.o q.as (S.end (hK _ ?_))
                                  clear hK K
                                  refine Ev.ret ?_
                                  refine hR4 _ _ ?_
                                  refine hR2 _ _ ?_
                                  refine Ev.ret1 ?_
                                  refine ⟨?_, rfl⟩
                                  first | rfl | (exfalso; omega) | contradiction | exact absurd hcm ‹_›
                                · first
                                | (first | omega | contradiction)
                                | refine M.o (q.fa 0 am_fi36_0 am_cl3) (M.o (q.lv am_ag3) (M.o (q.fa 2 am_fi59_2 am_cl3) (M.o (q.lv am_ag3) (M.o q.neq (M.o q.pf (M.end [_, _] (h := S.end (hK _ ?_))))))))
                                  clear hK K
                                  refine Ev.cn (fun c15 => ?_) (fun c15 => ?_)
                                  · first
                                  | (first | omega | contradiction)
                                  | refine Ev.sr fun K hK => S.o q.as (S.end (hK _ ?_))
                                    clear hK K
                                    refine Ev.ret ?_
                                    refine hR4 _ _ ?_
                                    refine hR2 _ _ ?_
                                    refine Ev.ret1 ?_
                                    refine ⟨?_, rfl⟩
                                    first | rfl | (exfalso; omega) | contradiction | exact absurd hcm ‹_›
                                  · first
                                  | (first | omega | contradiction)
                                  | refine Ev.skip ?_
                                    show Ev _ _ _ _
                                    refine Ev.region_S fun K hK => S.o q.add (S.o q.mv (S.end (hK _ ?_)))
                                    clear hK K
                                    refine hR4 _ _ ?_
                                    refine roundU [0] [0, 3, 9, 10, 11, 12, 13, 14, 15, 16, 25, 26, 27, 28, 42, 43, 44, 45, 46, 47, 48, 49, 50, 51, 52, 53, 54, 55, 56, 57, 58, 59, 60, 61, 62, 63, 64, 65, 66, 67, 68, 69, 70, 71, 72, 73, 74, 75, 76, 77, 78, 79, 80, 81, 82, 83, 84, 85, 86, 87, 88, 89, 90, 91, 92, 93, 94, 95, 96, 97, 98, 99, 100, 101, 102, 103, 104, 105, 106, 107, 108, 109, 110, 111, 112, 113, 114, 115, 116, 117, 118, 119, 120, 121, 122, 123, 124, 125] ⟨(pre3 ++ [s], suf3), by rw [← hp3]; simp⟩ ?_ (keep_c (he := (by first | rfl | (simp; done))) (h := keep_n)) (slots_c (he := (by first | rfl | (congr 2; simp; done))) (h := trivial)) (.c (.c (.c (.c (.c (.c (.c (.c (.c (.c (.c (.c (.c (.c (.c (.c (.c (.c (.c (.c (.c (.c (.c (.c (.c (.c (.c (.c (.c (.c (.c (.c (.c (.c (.c (.c (.c (.c (.c (.c (.c (.c (.c (.c (.c (.c (.c (.c (.c (.c (.c (.c (.c (.c (.c (.c (.c (.c (.c (.c (.c (.c (.c (.c (.c (.c (.c (.c (.c (.c (.c (.c (.c (.c (.c (.c (.c (.c (.c (.c (.c (.c (.c (.c (.c (.c (.c (.c (.c (.c (.c (.c (.c (.c (.c (.c (.c (.c .n))))))))))))))))))))))))))))))))))))))))))))))))))))))))))))))))))))))))))))))))))))))))))))))))))
                                    skip
                                    all_goals (dsimp only; simp only [List.length_cons]; omega)
                              · first
                              | (first | omega | contradiction)
                              | refine Ev.exit ?_
                                refine hR4 _ _ ?_
                                show Ev _ _ _ _
                                refine Ev.region_S fun K hK => S.o q.add (S.o q.mv (S.end (hK _ ?_)))
                                clear hK K
                                refine hR2 _ _ ?_
                                refine roundU [] [0, 3, 25, 26, 27, 28, 42, 43, 44, 45, 46, 47, 48, 49, 50, 51, 52] ⟨(pre2 ++ [((sa, sb), sk, sc, sg)], suf2), by rw [← hp2]; simp⟩ ?_ keep_n (slots_c (he := (by first | rfl | (congr 2; simp; done))) (h := trivial)) (.c (.c (.c (.c (.c (.c (.c (.c (.c (.c (.c (.c (.c (.c (.c (.c (.c .n)))))))))))))))))
                                skip
                                all_goals (dsimp only; simp only [List.length_cons]; omega)
                            · simp only [List.length_cons] at hpl3
                              have hidx3 : l[pre3.length]? = some s := by rw [← hp3]; simp
                              obtain ⟨z, hidz⟩ : ∃ z, a[pre3.length]? = some z := ⟨_, List.getElem?_eq_getElem (by omega)⟩
                              have hsz : s = (sk, z.mark) := by
                                rw [← hl, allK, List.getElem?_map, hidz] at hidx3
                                simpa using hidx3.symm
                              have hz1 : s.1 = sk := by rw [hsz]
                              have hz2 : s.2 = z.mark := by rw [hsz]
                              refine Ev.sr fun K hK => S.o q.lss (S.end (hK _ ?_))
                              clear hK K
                              refine Ev.ud (fun c16 => ?_) (fun c16 => ?_)
                              · first
                              | (first | omega | contradiction)
                              | refine Ev.seq ?_
                                refine Ev.block ?_
                                refine Ev.sr fun K hK => S.o q.mv (S.o (q.ix am_el25 am_cl36 (hl := (by first | exact ati hidx3 (by omega) | exact ati hidz (by omega) | exact atig (by omega)))) (S.o (q.lsA [_, _] am_ag36 am_cl36) (S.nn (q.al am_ze36) (S.o q.as (S.sv [_, _] true [_] am_in36 am_cl36 (h := S.end (hK _ ?_)))))))
                                clear hK K
                                refine Ev.sm (tbs [(0, 0), (1, 1), (0, 0), (0, 0), (4, 12), (5, 28), (6, 60), (7, 127), (8, 255), (9, 511), (10, 1023), (9, 511), (12, 2559), (13, 8191), (14, 16383)]) 15 fun K hK => M.o (q.fa 1 am_fi36_1 am_cl9) (M.o (q.lv am_ag9) (M.o q.mv (M.o q.mv (M.o (q.ix am_el22 am_cl43 (hl := (by first | exact ati hidx3 (by omega) | exact ati hidz (by omega) | exact atig (by omega)))) (M.o (q.fs 0 am_fi43_0 am_cl9) (M.o (q.ls am_ag9) (M.o q.snes (M.bn q.mv (fun c17 => ?_) (fun c17 => ?_)))))))))
                                · first
                                | (first | omega | contradiction)
                                | refine M.sk (M.sk (M.sk (M.sk (M.sk (M.o q.pt (M.end [_, _] (h := S.end (hK _ ?_))))))))
                                  clear hK K
                                  refine Ev.ct ?_
                                  refine Ev.sr fun K hK => S.o q.as (S.end (hK _ ?_))
                                  clear hK K
                                  refine Ev.ret ?_
                                  refine hR4 _ _ ?_
                                  refine hR2 _ _ ?_
                                  refine Ev.ret1 ?_
                                  refine ⟨?_, rfl⟩
                                  first | rfl | (exfalso; omega) | contradiction | exact absurd hcm ‹_›
                                · first
                                | (first | omega | contradiction)
                                | refine M.o (q.fa 0 am_fi36_0 am_cl3) (M.o (q.lv am_ag3) (M.o (q.fa 2 am_fi59_2 am_cl3) (M.o (q.lv am_ag3) (M.o q.neq (M.o q.pf (M.end [_, _] (h := S.end (hK _ ?_))))))))
                                  clear hK K
                                  refine Ev.cn (fun c18 => ?_) (fun c18 => ?_)
                                  · first
                                  | (first | omega | contradiction)
                                  | refine Ev.sr fun K hK => S.o q.as (S.end (hK _ ?_))
                                    clear hK K
                                    refine Ev.ret ?_
                                    refine hR4 _ _ ?_
                                    refine hR2 _ _ ?_
                                    refine Ev.ret1 ?_
                                    refine ⟨?_, rfl⟩
                                    first | rfl | (exfalso; omega) | contradiction | exact absurd hcm ‹_›
                                  · first
                                  | (first | omega | contradiction)
                                  | refine Ev.skip ?_
                                    show Ev _ _ _ _
                                    refine Ev.region_S fun K hK => S.o q.add (S.o q.mv (S.end (hK _ ?_)))
                                    clear hK K
                                    refine hR4 _ _ ?_
                                    refine roundU [0] [0, 3, 9, 10, 11, 12, 13, 14, 15, 16, 25, 26, 27, 28, 42, 43, 44, 45, 46, 47, 48, 49, 50, 51, 52, 53, 54, 55, 56, 57, 58, 59, 60, 61, 62, 63, 64, 65, 66, 67, 68, 69, 70, 71, 72, 73, 74, 75, 76, 77, 78, 79, 80, 81, 82, 83, 84, 85, 86, 87, 88, 89, 90, 91, 92, 93, 94, 95, 96, 97, 98, 99, 100, 101, 102, 103, 104, 105, 106, 107, 108, 109, 110, 111, 112, 113, 114, 115, 116, 117, 118, 119, 120, 121, 122, 123, 124, 125] ⟨(pre3 ++ [s], suf3), by rw [← hp3]; simp⟩ ?_ (keep_c (he := (by first | rfl | (simp; done))) (h := keep_n)) (slots_c (he := (by first | rfl | (congr 2; simp; done))) (h := trivial)) (.c (.c (.c (.c (.c (.c (.c (.c (.c (.c (.c (.c (.c (.c (.c (.c (.c (.c (.c (.c (.c (.c (.c (.c (.c (.c (.c (.c (.c (.c (.c (.c (.c (.c (.c (.c (.c (.c (.c (.c (.c (.c (.c (.c (.c (.c (.c (.c (.c (.c (.c (.c (.c (.c (.c (.c (.c (.c (.c (.c (.c (.c (.c (.c (.c (.c (.c (.c (.c (.c (.c (.c (.c (.c (.c (.c (.c (.c (.c (.c (.c (.c (.c (.c (.c (.c (.c (.c (.c (.c (.c (.c (.c (.c (.c (.c (.c (.c .n))))))))))))))))))))))))))))))))))))))))))))))))))))))))))))))))))))))))))))))))))))))))))))))))))
                                    skip
                                    all_goals (dsimp only; simp only [List.length_cons]; omega)
                              · first
                              | (first | omega | contradiction)
                              | refine Ev.exit ?_
                                refine hR4 _ _ ?_
                                show Ev _ _ _ _
                                refine Ev.region_S fun K hK => S.o q.add (S.o q.mv (S.end (hK _ ?_)))
                                clear hK K
                                refine hR2 _ _ ?_
                                refine roundU [] [0, 3, 25, 26, 27, 28, 42, 43, 44, 45, 46, 47, 48, 49, 50, 51, 52] ⟨(pre2 ++ [((sa, sb), sk, sc, sg)], suf2), by rw [← hp2]; simp⟩ ?_ keep_n (slots_c (he := (by first | rfl | (congr 2; simp; done))) (h := trivial)) (.c (.c (.c (.c (.c (.c (.c (.c (.c (.c (.c (.c (.c (.c (.c (.c (.c .n)))))))))))))))))
                                skip
                                all_goals (dsimp only; simp only [List.length_cons]; omega)
          · first
          | (first | omega | contradiction)
          | refine Ev.exit ?_
            refine hR2 _ _ ?_
            show Ev _ _ _ _
            refine Ev.sr fun K hK => S.o q.as (S.end (hK _ ?_))
            clear hK K
            refine Ev.ret ?_
            refine Ev.ret1 ?_
            refine ⟨?_, rfl⟩
            first | rfl | (exfalso; omega) | contradiction | exact absurd hcm ‹_›
        · simp only [List.length_cons] at hpl2
          have hidx2 : (rnds a (totB a))[pre2.length]? = some ((sa, sb), sk, sc, sg) := by rw [← hp2]; simp
          have hs := rnds_ok hoa hwa (List.mem_of_getElem? hidx2)
          simp only at hs
          obtain ⟨l, hl⟩ : ∃ l, allK sk a = l := ⟨_, rfl⟩
          have hL := hs.cmp.trans hl
          have hlo : okChgs l := hl ▸ allK_ok hoa hs.k1 hs.k4
          have hll : l.length = a.length := by rw [← hl]; exact allK_len sk a
          obtain ⟨ns, hns⟩ : ∃ ns, cntL l = ns := ⟨_, rfl⟩
          have hnl : ns.length = 4 := by rw [← hns]; rfl
          have hk1 := hs.k1
          have hk4 := hs.k4
          have hng : ns[(sk - 1).toNat]? = some (a.length : Int) := by rw [← hns, cntL_get l hk1 hk4, ← hl, cnt_all]
          refine Ev.sr fun K hK => S.o q.lss (S.end (hK _ ?_))
          clear hK K
          refine Ev.ud (fun c19 => ?_) (fun c19 => ?_)
          · first
          | (first | omega | contradiction)
          | refine Ev.seq ?_
            refine Ev.block ?_
            refine Ev.sr fun K hK => S.o (q.ix am_el60 am_cl59 (hl := (by first | exact ati hidx2 (by omega) | exact ati hng (by omega) | exact atig (by omega)))) (S.o (q.lsA [_, _, _, _, _] am_ag59 am_cl59) (S.nn (q.al am_ze59) (S.sv [_, _, _, _, _] true [] am_in59 am_cl59 (h := S.end (hK _ ?_)))))
            clear hK K
            refine Ev.sr fun K hK => S.o (q.fa 0 am_fi59_0 am_cl22) (S.o (q.lv am_ag22) (S.o (q.fa 1 am_fi59_1 am_cl22) (S.o (q.lv am_ag22) (S.c0 (hF := cmpOk_fun hL hs.ox hs.oy hs.wx hs.wy) (h := S.o q.mv (S.o q.ex (S.o q.ex (S.o q.as (S.o q.as (S.end (hK _ ?_)))))))))))
            clear hK K
            refine Ev.sr fun K hK => S.o q.mv (S.c0 (hF := cntOk_fun hlo hns) (h := S.o q.mv (S.o q.ex (S.o q.ex (S.o q.as (S.o q.as (S.end (hK _ ?_))))))))
            clear hK K
            refine Ev.sr fun K hK => S.o (q.fa 0 am_fi59_0 am_cl22) (S.o (q.lv am_ag22) (S.o (q.fa 1 am_fi59_1 am_cl22) (S.o (q.lv am_ag22) (S.c0 (hF := steelOk_fun hs.cc hs.cg hs.ox hs.oy hs.wx hs.wy) (h := S.o q.mv (S.o q.ex (S.o q.ex (S.o q.ex (S.o q.as (S.o q.as (S.o q.as (S.end (hK _ ?_)))))))))))))
            clear hK K
            refine Ev.seq ?_
            refine Ev.sr fun K hK => S.o q.mv (S.o q.neq (S.bn q.mv (fun c20 => ?_) (fun c20 => ?_)))
            · first
            | (first | omega | contradiction)
            | refine S.sk (S.sk (S.o q.pt (S.o q.mv (S.sk (S.sk (S.o q.pt (S.o q.mv (S.sk (S.sk (S.sk (S.sk (S.sk (S.o q.pt (S.o q.mv (S.sk (S.sk (S.sk (S.o q.pt (S.o q.mv (S.sk (S.sk (S.sk (S.sk (S.sk (S.sk (S.sk (S.sk (S.sk (S.o q.pt (S.o q.mv (S.sk (S.sk (S.sk (S.sk (S.o q.pt (S.o q.mv (S.sk (S.sk (S.sk (S.sk (S.o q.pt (S.end (hK _ ?_)))))))))))))))))))))))))))))))))))))))))))
              clear hK K
              refine Ev.ct ?_
              refine Ev.sr fun K hK => S.o q.as (S.end (hK _ ?_))
              clear hK K
              refine Ev.ret ?_
              refine hR2 _ _ ?_
              refine Ev.ret1 ?_
              refine ⟨?_, rfl⟩
              first | rfl | (exfalso; omega) | contradiction | exact absurd hcm ‹_›
            · first
            | (first | omega | contradiction)
            | refine S.o q.mv (S.o q.neq (S.o q.pf (S.bn q.mv (fun c21 => ?_) (fun c21 => ?_))))
              · first
              | (first | omega | contradiction)
              | refine S.sk (S.sk (S.o q.pt (S.o q.mv (S.sk (S.sk (S.sk (S.sk (S.sk (S.o q.pt (S.o q.mv (S.sk (S.sk (S.sk (S.o q.pt (S.o q.mv (S.sk (S.sk (S.sk (S.sk (S.sk (S.sk (S.sk (S.sk (S.sk (S.o q.pt (S.o q.mv (S.sk (S.sk (S.sk (S.sk (S.o q.pt (S.o q.mv (S.sk (S.sk (S.sk (S.sk (S.o q.pt (S.end (hK _ ?_)))))))))))))))))))))))))))))))))))))))
                clear hK K
                refine Ev.ct ?_
                refine Ev.sr fun K hK => S.o q.as (S.end (hK _ ?_))
                clear hK K
                refine Ev.ret ?_
                refine hR2 _ _ ?_
                refine Ev.ret1 ?_
                refine ⟨?_, rfl⟩
                first | rfl | (exfalso; omega) | contradiction | exact absurd hcm ‹_›
              · first
              | (first | omega | contradiction)
              | refine S.o q.mv (S.o q.neq (S.o q.pf (S.bn q.mv (fun c22 => ?_) (fun c22 => ?_))))
                · first
                | (first | omega | contradiction)
                | refine S.sk (S.sk (S.sk (S.sk (S.sk (S.o q.pt (S.o q.mv (S.sk (S.sk (S.sk (S.o q.pt (S.o q.mv (S.sk (S.sk (S.sk (S.sk (S.sk (S.sk (S.sk (S.sk (S.sk (S.o q.pt (S.o q.mv (S.sk (S.sk (S.sk (S.sk (S.o q.pt (S.o q.mv (S.sk (S.sk (S.sk (S.sk (S.o q.pt (S.end (hK _ ?_)))))))))))))))))))))))))))))))))))
                  clear hK K
                  refine Ev.ct ?_
                  refine Ev.sr fun K hK => S.o q.as (S.end (hK _ ?_))
                  clear hK K
                  refine Ev.ret ?_
                  refine hR2 _ _ ?_
                  refine Ev.ret1 ?_
                  refine ⟨?_, rfl⟩
                  first | rfl | (exfalso; omega) | contradiction | exact absurd hcm ‹_›
                · first
                | (first | omega | contradiction)
                | refine S.o q.mv (S.o (q.lens am_el25) (S.o q.mv (S.o (q.lens am_el22) (S.o q.neq (S.o q.pf (S.bn q.mv (fun c23 => ?_) (fun c23 => ?_)))))))
                  · first
                  | (first | omega | contradiction)
                  | refine S.sk (S.sk (S.sk (S.o q.pt (S.o q.mv (S.sk (S.sk (S.sk (S.sk (S.sk (S.sk (S.sk (S.sk (S.sk (S.o q.pt (S.o q.mv (S.sk (S.sk (S.sk (S.sk (S.o q.pt (S.o q.mv (S.sk (S.sk (S.sk (S.sk (S.o q.pt (S.end (hK _ ?_))))))))))))))))))))))))))))
                    clear hK K
                    refine Ev.ct ?_
                    refine Ev.sr fun K hK => S.o q.as (S.end (hK _ ?_))
                    clear hK K
                    refine Ev.ret ?_
                    refine hR2 _ _ ?_
                    refine Ev.ret1 ?_
                    refine ⟨?_, rfl⟩
                    first | rfl | (exfalso; omega) | contradiction | exact absurd hcm ‹_›
                  · first
                  | (first | omega | contradiction)
                  | refine S.o q.mv (S.o (q.lens am_el41) (S.o q.neq (S.o q.pf (S.bn q.mv (fun c24 => ?_) (fun c24 => ?_)))))
                    · first
                    | (first | omega | contradiction)
                    | refine S.sk (S.sk (S.sk (S.sk (S.sk (S.sk (S.sk (S.sk (S.sk (S.o q.pt (S.o q.mv (S.sk (S.sk (S.sk (S.sk (S.o q.pt (S.o q.mv (S.sk (S.sk (S.sk (S.sk (S.o q.pt (S.end (hK _ ?_)))))))))))))))))))))))
                      clear hK K
                      refine Ev.ct ?_
                      refine Ev.sr fun K hK => S.o q.as (S.end (hK _ ?_))
                      clear hK K
                      refine Ev.ret ?_
                      refine hR2 _ _ ?_
                      refine Ev.ret1 ?_
                      refine ⟨?_, rfl⟩
                      first | rfl | (exfalso; omega) | contradiction | exact absurd hcm ‹_›
                    · first
                    | (first | omega | contradiction)
                    | refine S.o q.mv (S.o (q.fa 2 am_fi59_2 am_cl3) (S.o (q.lv am_ag3) (S.o q.sub (S.o (q.ix am_el41 am_cl3 (hl := (by first | exact ati hidx2 (by omega) | exact ati hng (by omega) | exact atig (by omega)))) (S.o (q.ls am_ag3) (S.o q.mv (S.o (q.lens am_el22) (S.o q.neq (S.o q.pf (S.bn q.mv (fun c25 => ?_) (fun c25 => ?_)))))))))))
                      · first
                      | (first | omega | contradiction)
                      | refine S.sk (S.sk (S.sk (S.sk (S.o q.pt (S.o q.mv (S.sk (S.sk (S.sk (S.sk (S.o q.pt (S.end (hK _ ?_))))))))))))
                        clear hK K
                        refine Ev.ct ?_
                        refine Ev.sr fun K hK => S.o q.as (S.end (hK _ ?_))
                        clear hK K
                        refine Ev.ret ?_
                        refine hR2 _ _ ?_
                        refine Ev.ret1 ?_
                        refine ⟨?_, rfl⟩
                        first | rfl | (exfalso; omega) | contradiction | exact absurd hcm ‹_›
                      · first
                      | (first | omega | contradiction)
                      | refine S.o q.mv (S.o (q.fa 3 am_fi59_3 am_cl3) (S.o (q.lv am_ag3) (S.o q.neq (S.o q.pf (S.bn q.mv (fun c26 => ?_) (fun c26 => ?_))))))
                        · first
                        | (first | omega | contradiction)
                        | refine S.sk (S.sk (S.sk (S.sk (S.o q.pt (S.end (hK _ ?_))))))
                          clear hK K
                          refine Ev.ct ?_
                          refine Ev.sr fun K hK => S.o q.as (S.end (hK _ ?_))
                          clear hK K
                          refine Ev.ret ?_
                          refine hR2 _ _ ?_
                          refine Ev.ret1 ?_
                          refine ⟨?_, rfl⟩
                          first | rfl | (exfalso; omega) | contradiction | exact absurd hcm ‹_›
                        · first
                        | (first | omega | contradiction)
                        | refine S.o q.mv (S.o (q.fa 4 am_fi59_4 am_cl3) (S.o (q.lv am_ag3) (S.o q.neq (S.o q.pf (S.end (hK _ ?_))))))
                          clear hK K
                          refine Ev.cn (fun c27 => ?_) (fun c27 => ?_)
                          · first
                          | (first | omega | contradiction)
                          | refine Ev.sr fun K hK => S.o q.as (S.end (hK _ ?_))
                            clear hK K
                            refine Ev.ret ?_
                            refine hR2 _ _ ?_
                            refine Ev.ret1 ?_
                            refine ⟨?_, rfl⟩
                            first | rfl | (exfalso; omega) | contradiction | exact absurd hcm ‹_›
                          · first
                          | (first | omega | contradiction)
                          | refine Ev.skip ?_
                            show Ev _ _ _ _
                            refine Ev.sr fun K hK => S.o q.mv (S.o (q.lens am_el25) (S.o q.mv (S.end (hK _ ?_))))
                            clear hK K
                            refine Ev.block ?_
                            refine Ev.loopU (ι := {q : List Chg × List Chg // q.1 ++ q.2 = l}) [0] [0, 3, 9, 10, 11, 12, 13, 14, 15, 16, 25, 26, 27, 28, 42, 43, 44, 45, 46, 47, 48, 49, 50, 51, 52, 53, 54, 55, 56, 57, 58, 59, 60, 61, 62, 63, 64, 65, 66, 67, 68, 69, 70, 71, 72, 73, 74, 75, 76, 77, 78, 79, 80, 81, 82, 83, 84, 85, 86, 87, 88, 89, 90, 91, 92, 93, 94, 95, 96, 97, 98, 99, 100, 101, 102, 103, 104, 105, 106, 107, 108, 109, 110, 111, 112, 113, 114, 115, 116, 117, 118, 119, 120, 121, 122, 123, 124, 125] (fun ⟨(pre3, suf3), _⟩ => [(126, .lit (.int .i64 ((pre3.length : Int))))]) (fun ⟨(pre3, suf3), _⟩ => [(0, ⟨false, 59, 5, [[.sh 5 ((sa).map Bar.c), .sh 5 ((sb).map Bar.c), .lit (.int .i64 (sk)), .lit (.int .i64 (sc)), .lit (.int .i64 (sg))]], true⟩)]) (fun ⟨(pre3, suf3), _⟩ => suf3.length) ⟨([], l), rfl⟩ (.c (.c (.c (.c (.c (.c (.c (.c (.c (.c (.c (.c (.c (.c (.c (.c (.c (.c (.c (.c (.c (.c (.c (.c (.c (.c (.c (.c (.c (.c (.c (.c (.c (.c (.c (.c (.c (.c (.c (.c (.c (.c (.c (.c (.c (.c (.c (.c (.c (.c (.c (.c (.c (.c (.c (.c (.c (.c (.c (.c (.c (.c (.c (.c (.c (.c (.c (.c (.c (.c (.c (.c (.c (.c (.c (.c (.c (.c (.c (.c (.c (.c (.c (.c (.c (.c (.c (.c (.c (.c (.c (.c (.c (.c (.c (.c (.c (.c .n)))))))))))))))))))))))))))))))))))))))))))))))))))))))))))))))))))))))))))))))))))))))))))))))))) (keep_c (he := (by first | rfl | (simp; done))) (h := keep_n)) (slots_c (he := (by first | rfl | (congr 2; simp; done))) (h := trivial)) ?_
                            rintro ⟨⟨pre3, suf3⟩, hp3⟩ R4 hR4
                            dsimp only [List.cons_append, List.nil_append, List.length_cons, List.length_nil]
                            simp only at hp3
                            have hpl3 : pre3.length + suf3.length = l.length := by rw [← hp3, List.length_append]
                            rcases suf3 with _ | ⟨s, suf3⟩
                            · simp only [List.length_nil] at hpl3
                              refine Ev.sr fun K hK => S.o q.lss (S.end (hK _ ?_))
                              clear hK K
                              refine Ev.ud (fun c28 => ?_) (fun c28 => ?_)
                              · first
                              | (first | omega | contradiction)
                              | refine Ev.seq ?_
                                refine Ev.block ?_
                                refine Ev.sr fun K hK => S.o q.mv (S.o (q.ix am_el25 am_cl36 (hl := (by first | exact ati hidx2 (by omega) | exact ati hng (by omega) | exact atig (by omega)))) (S.o (q.lsA [_, _] am_ag36 am_cl36) (S.nn (q.al am_ze36) (S.o q.as (S.sv [_, _] true [_] am_in36 am_cl36 (h := S.end (hK _ ?_)))))))
                                clear hK K
                                refine Ev.sm (tbs [(0, 0), (1, 1), (0, 0), (0, 0), (4, 12), (5, 28), (6, 60), (7, 127), (8, 255), (9, 511), (10, 1023), (9, 511), (12, 2559), (13, 8191), (14, 16383)]) 15 fun K hK => M.o (q.fa 1 am_fi36_1 am_cl9) (M.o (q.lv am_ag9) (M.o q.mv (M.o q.mv (M.o (q.ix am_el22 am_cl43 (hl := (by first | exact ati hidx2 (by omega) | exact ati hng (by omega) | exact atig (by omega)))) (M.o (q.fs 0 am_fi43_0 am_cl9) (M.o (q.ls am_ag9) (M.o q.snes (M.bn q.mv (fun c29 => ?_) (fun c29 => ?_)))))))))
                                · first
                                | (first | omega | contradiction)
                                | refine M.sk (M.sk (M.sk (M.sk (M.sk (M.o q.pt (M.end [_, _] (h := S.end (hK _ ?_))))))))
                                  clear hK K
                                  refine Ev.ct ?_
                                  refine Ev.sr fun K hK => S.o q.as (S.end (hK _ ?_))
                                  clear hK K
                                  refine Ev.ret ?_
                                  refine hR4 _ _ ?_
                                  refine hR2 _ _ ?_
                                  refine Ev.ret1 ?_
                                  refine ⟨?_, rfl⟩
                                  first | rfl | (exfalso; omega) | contradiction | exact absurd hcm ‹_›
                                · first
                                | (first | omega | contradiction)
                                | refine M.o (q.fa 0 am_fi36_0 am_cl3) (M.o (q.lv am_ag3) (M.o (q.fa 2 am_fi59_2 am_cl3) (M.o (q.lv am_ag3) (M.o q.neq (M.o q.pf (M.end [_, _] (h := S.end (hK _ ?_))))))))
                                  clear hK K
                                  refine Ev.cn (fun c30 => ?_) (fun c30 => ?_)
                                  · first
                                  | (first | omega | contradiction)
                                  | refine Ev.sr fun K hK => S.o q.as (S.end (hK _ ?_))
                                    clear hK K
                                    refine Ev.ret ?_
                                    refine hR4 _ _ ?_
                                    refine hR2 _ _ ?_
                                    refine Ev.ret1 ?_
                                    refine ⟨?_, rfl⟩
                                    first | rfl | (exfalso; omega) | contradiction | exact absurd hcm ‹_›
                                  · first
                                  | (first | omega | contradiction)
                                  | refine Ev.skip ?_
                                    show Ev _ _ _ _
                                    refine Ev.region_S fun K hK => S.o q.add (S.o q.mv (S.end (hK _ ?_)))
                                    clear hK K
                                    refine hR4 _ _ ?_
                                    refine roundU [0] [0, 3, 9, 10, 11, 12, 13, 14, 15, 16, 25, 26, 27, 28, 42, 43, 44, 45, 46, 47, 48, 49, 50, 51, 52, 53, 54, 55, 56, 57, 58, 59, 60, 61, 62, 63, 64, 65, 66, 67, 68, 69, 70, 71, 72, 73, 74, 75, 76, 77, 78, 79, 80, 81, 82, 83, 84, 85, 86, 87, 88, 89, 90, 91, 92, 93, 94, 95, 96, 97, 98, 99, 100, 101, 102, 103, 104, 105, 106, 107, 108, 109, 110, 111, 112, 113, 114, 115, 116, 117, 118, 119, 120, 121, 122, 123, 124, 125] ⟨(pre3 ++ [s], suf3), by rw [← hp3]; simp⟩ ?_ (keep_c (he := (by first | rfl | (simp; done))) (h := keep_n)) (slots_c (he := (by first | rfl | (congr 2; simp; done))) (h := trivial)) (.c (.c (.c (.c (.c (.c (.c (.c (.c (.c (.c (.c (.c (.c (.c (.c (.c (.c (.c (.c (.c (.c (.c (.c (.c (.c (.c (.c (.c (.c (.c (.c (.c (.c (.c (.c (.c (.c (.c (.c (.c (.c (.c (.c (.c (.c (.c (.c (.c (.c (.c (.c (.c (.c (.c (.c (.c (.c (.c (.c (.c (.c (.c (.c (.c (.c (.c (.c (.c (.c (.c (.c (.c (.c (.c (.c (.c (.c (.c (.c (.c (.c (.c (.c (.c (.c (.c (.c (.c (.c (.c (.c (.c (.c (.c (.c (.c (.c .n))))))))))))))))))))))))))))))))))))))))))))))))))))))))))))))))))))))))))))))))))))))))))))))))))
                                    skip
                                    all_goals (dsimp only; simp only [List.length_cons]; omega)
                              · first
                              | (first | omega | contradiction)
                              | refine Ev.exit ?_
                                refine hR4 _ _ ?_
                                show Ev _ _ _ _
                                refine Ev.region_S fun K hK => S.o q.add (S.o q.mv (S.end (hK _ ?_)))
                                clear hK K
                                refine hR2 _ _ ?_
                                refine roundU [] [0, 3, 25, 26, 27, 28, 42, 43, 44, 45, 46, 47, 48, 49, 50, 51, 52] ⟨(pre2 ++ [((sa, sb), sk, sc, sg)], suf2), by rw [← hp2]; simp⟩ ?_ keep_n (slots_c (he := (by first | rfl | (congr 2; simp; done))) (h := trivial)) (.c (.c (.c (.c (.c (.c (.c (.c (.c (.c (.c (.c (.c (.c (.c (.c (.c .n)))))))))))))))))
                                skip
                                all_goals (dsimp only; simp only [List.length_cons]; omega)
                            · simp only [List.length_cons] at hpl3
                              have hidx3 : l[pre3.length]? = some s := by rw [← hp3]; simp
                              obtain ⟨z, hidz⟩ : ∃ z, a[pre3.length]? = some z := ⟨_, List.getElem?_eq_getElem (by omega)⟩
                              have hsz : s = (sk, z.mark) := by
                                rw [← hl, allK, List.getElem?_map, hidz] at hidx3
                                simpa using hidx3.symm
                              have hz1 : s.1 = sk := by rw [hsz]
                              have hz2 : s.2 = z.mark := by rw [hsz]
                              refine Ev.sr fun K hK => S.o q.lss (S.end (hK _ ?_))
                              clear hK K
                              refine Ev.ud (fun c31 => ?_) (fun c31 => ?_)
                              · first
                              | (first | omega | contradiction)
                              | refine Ev.seq ?_
                                refine Ev.block ?_
                                refine Ev.sr fun K hK => S.o q.mv (S.o (q.ix am_el25 am_cl36 (hl := (by first | exact ati hidx2 (by omega) | exact ati hng (by omega) | exact ati hidx3 (by omega) | exact ati hidz (by omega) | exact atig (by omega)))) (S.o (q.lsA [_, _] am_ag36 am_cl36) (S.nn (q.al am_ze36) (S.o q.as (S.sv [_, _] true [_] am_in36 am_cl36 (h := S.end (hK _ ?_)))))))
                                clear hK K
                                refine Ev.sm (tbs [(0, 0), (1, 1), (0, 0), (0, 0), (4, 12), (5, 28), (6, 60), (7, 127), (8, 255), (9, 511), (10, 1023), (9, 511), (12, 2559), (13, 8191), (14, 16383)]) 15 fun K hK => M.o (q.fa 1 am_fi36_1 am_cl9) (M.o (q.lv am_ag9) (M.o q.mv (M.o q.mv (M.o (q.ix am_el22 am_cl43 (hl := (by first | exact ati hidx2 (by omega) | exact ati hng (by omega) | exact ati hidx3 (by omega) | exact ati hidz (by omega) | exact atig (by omega)))) (M.o (q.fs 0 am_fi43_0 am_cl9) (M.o (q.ls am_ag9) (M.o q.snes (M.bn q.mv (fun c32 => ?_) (fun c32 => ?_)))))))))
                                · first
                                | (first | omega | contradiction)
                                | refine M.sk (M.sk (M.sk (M.sk (M.sk (M.o q.pt (M.end [_, _] (h := S.end (hK _ ?_))))))))
                                  clear hK K
                                  refine Ev.ct ?_
                                  refine Ev.sr fun K hK => S.o q.as (S.end (hK _ ?_))
                                  clear hK K
                                  refine Ev.ret ?_
                                  refine hR4 _ _ ?_
                                  refine hR2 _ _ ?_
                                  refine Ev.ret1 ?_
                                  refine ⟨?_, rfl⟩
                                  first | rfl | (exfalso; omega) | contradiction | exact absurd hcm ‹_›
                                · first
                                | (first | omega | contradiction)
                                | refine M.o (q.fa 0 am_fi36_0 am_cl3) (M.o (q.lv am_ag3) (M.o (q.fa 2 am_fi59_2 am_cl3) (M.o (q.lv am_ag3) (M.o q.neq (M.o q.pf (M.end [_, _] (h := S.end (hK _ ?_))))))))
                                  clear hK K
                                  refine Ev.cn (fun c33 => ?_) (fun c33 => ?_)
                                  · first
                                  | (first | omega | contradiction)
                                  | refine Ev.sr fun K hK => S.o q.as (S.end (hK _ ?_))
                                    clear hK K
                                    refine Ev.ret ?_
                                    refine hR4 _ _ ?_
                                    refine hR2 _ _ ?_
                                    refine Ev.ret1 ?_
                                    refine ⟨?_, rfl⟩
                                    first | rfl | (exfalso; omega) | contradiction | exact absurd hcm ‹_›
                                  · first
                                  | (first | omega | contradiction)
                                  | refine Ev.skip ?_
                                    show Ev _ _ _ _
                                    refine Ev.region_S fun K hK => S.o q.add (S.o q.mv (S.end (hK _ ?_)))
                                    clear hK K
                                    refine hR4 _ _ ?_
                                    refine roundU [0] [0, 3, 9, 10, 11, 12, 13, 14, 15, 16, 25, 26, 27, 28, 42, 43, 44, 45, 46, 47, 48, 49, 50, 51, 52, 53, 54, 55, 56, 57, 58, 59, 60, 61, 62, 63, 64, 65, 66, 67, 68, 69, 70, 71, 72, 73, 74, 75, 76, 77, 78, 79, 80, 81, 82, 83, 84, 85, 86, 87, 88, 89, 90, 91, 92, 93, 94, 95, 96, 97, 98, 99, 100, 101, 102, 103, 104, 105, 106, 107, 108, 109, 110, 111, 112, 113, 114, 115, 116, 117, 118, 119, 120, 121, 122, 123, 124, 125] ⟨(pre3 ++ [s], suf3), by rw [← hp3]; simp⟩ ?_ (keep_c (he := (by first | rfl | (simp; done))) (h := keep_n)) (slots_c (he := (by first | rfl | (congr 2; simp; done))) (h := trivial)) (.c (.c (.c (.c (.c (.c (.c (.c (.c (.c (.c (.c (.c (.c (.c (.c (.c (.c (.c (.c (.c (.c (.c (.c (.c (.c (.c (.c (.c (.c (.c (.c (.c (.c (.c (.c (.c (.c (.c (.c (.c (.c (.c (.c (.c (.c (.c (.c (.c (.c (.c (.c (.c (.c (.c (.c (.c (.c (.c (.c (.c (.c (.c (.c (.c (.c (.c (.c (.c (.c (.c (.c (.c (.c (.c (.c (.c (.c (.c (.c (.c (.c (.c (.c (.c (.c (.c (.c (.c (.c (.c (.c (.c (.c (.c (.c (.c (.c .n))))))))))))))))))))))))))))))))))))))))))))))))))))))))))))))))))))))))))))))))))))))))))))))))))
                                    skip
                                    all_goals (dsimp only; simp only [List.length_cons]; omega)
                              · first
                              | (first | omega | contradiction)
                              | refine Ev.exit ?_
                                refine hR4 _ _ ?_
                                show Ev _ _ _ _
                                refine Ev.region_S fun K hK => S.o q.add (S.o q.mv (S.end (hK _ ?_)))
                                clear hK K
                                refine hR2 _ _ ?_
                                refine roundU [] [0, 3, 25, 26, 27, 28, 42, 43, 44, 45, 46, 47, 48, 49, 50, 51, 52] ⟨(pre2 ++ [((sa, sb), sk, sc, sg)], suf2), by rw [← hp2]; simp⟩ ?_ keep_n (slots_c (he := (by first | rfl | (congr 2; simp; done))) (h := trivial)) (.c (.c (.c (.c (.c (.c (.c (.c (.c (.c (.c (.c (.c (.c (.c (.c (.c .n)))))))))))))))))
                                skip
                                all_goals (dsimp only; simp only [List.length_cons]; omega)
          · first
          | (first | omega | contradiction)
          | refine Ev.exit ?_
            refine hR2 _ _ ?_
            show Ev _ _ _ _
            refine Ev.sr fun K hK => S.o q.as (S.end (hK _ ?_))
            clear hK K
            refine Ev.ret ?_
            refine Ev.ret1 ?_
            refine ⟨?_, rfl⟩
            first | rfl | (exfalso; omega) | contradiction | exact absurd hcm ‹_›
    · simp only [List.length_cons] at hpl
      have hidx : (a)[pre.length]? = some s := by rw [← hp]; simp
      have hsok : okBar s := hoa1 s (by rw [← hp]; simp)
      obtain ⟨_, _, g3, g4⟩ := barMass_bd hsok
      have ht := totB_bd pre (fun x hx => hoa1 x (by rw [← hp]; simp [hx]))
      refine Ev.sr fun K hK => S.o q.lss (S.end (hK _ ?_))
      clear hK K
      refine Ev.ud (fun c34 => ?_) (fun c34 => ?_)
      · first
      | (first | omega | contradiction)
      | refine Ev.seq ?_
        refine Ev.block ?_
        refine Ev.sr fun K hK => S.o (q.ix am_el22 am_cl43 (hl := (by first | exact ati hidx (by omega) | exact atig (by omega)))) (S.o (q.lsA [_, _, _, _, _] am_ag43 am_cl43) (S.nn (q.al am_ze43) (S.sv [_, _, _, _, _] true [] am_in43 am_cl43 (h := S.end (hK _ ?_)))))
        clear hK K
        refine Ev.sr fun K hK => S.o (q.lvA [_, _, _, _, _] am_ag43 am_cl43) (S.c0 (hF := barMassOk_fun s hsok) (h := S.o q.mv (S.o q.ex (S.o q.ex (S.o q.as (S.o q.as (S.end (hK _ ?_))))))))
        clear hK K
        refine Ev.seq ?_
        refine Ev.sr fun K hK => S.o q.mv (S.o q.neq (S.end (hK _ ?_)))
        clear hK K
        refine Ev.cn (fun c35 => ?_) (fun c35 => ?_)
        · first
        | (first | omega | contradiction)
        | refine Ev.sr fun K hK => S.o q.as (S.end (hK _ ?_))
          clear hK K
          refine Ev.ret ?_
          refine hR0 _ _ ?_
          refine Ev.ret1 ?_
          refine ⟨?_, rfl⟩
          first | rfl | (exfalso; omega) | contradiction | exact absurd hcm ‹_›
        · first
        | (first | omega | contradiction)
        | refine Ev.skip ?_
          show Ev _ _ _ _
          refine Ev.region_S fun K hK => S.o q.mv (S.o q.mv (S.o q.add (S.o q.as (S.end (hK _ ?_)))))
          clear hK K
          show Ev _ _ _ _
          refine Ev.region_S fun K hK => S.o q.add (S.o q.mv (S.end (hK _ ?_)))
          clear hK K
          refine hR0 _ _ ?_
          refine roundU [] [0, 25, 26] ⟨(pre ++ [s], suf), by rw [← hp]; simp, ?_⟩ ?_ keep_n (slots_c (he := (by first | rfl | (congr 2; simp; done))) (h := (slots_c (he := (by first | rfl | exact iE (totB_snoc _ _).symm)) (h := trivial)))) (.c (.c (.c .n)))
          trivial
          all_goals (dsimp only; simp only [List.length_cons]; omega)
      · first
      | (first | omega | contradiction)
      | refine Ev.exit ?_
        refine hR0 _ _ ?_
        show Ev _ _ _ _
        refine Ev.seq ?_
        refine Ev.sr fun K hK => S.o q.mv (S.o q.mv (S.o (q.bd [_, _, _, _, _] am_ze59 am_pl59) (S.o q.mv (S.o q.mv (S.o (q.bd [_, _, _, _, _] am_ze59 am_pl59) (S.o q.mv (S.o q.mv (S.o (q.bd [_, _, _, _, _] am_ze59 am_pl59) (S.nn (q.bs [[_, _, _, _, _], [_, _, _, _, _], [_, _, _, _, _]] true am_el60 am_ze59 am_cl59) ?_)))))))))
        refine SeqL.weaken (Wk.nshr [[0, 0], [6, 0], [0, 6]] 0 []) ?_
        refine S.o (q.lena am_el60) ?_
        refine SeqL.weaken (Wk.frzl (f := rndC) (rnds a (totB a)) 51 []) ?_
        refine S.o q.mv (S.end (hK _ ?_))
        clear hK K
        refine Ev.block ?_
        refine Ev.loopU (ι := {q : List Rnd × List Rnd // q.1 ++ q.2 = (rnds a (totB a))}) [] [0, 3, 25, 26, 27, 28, 42, 43, 44, 45, 46, 47, 48, 49, 50, 51, 52] (fun ⟨(pre2, suf2), _⟩ => [(53, .lit (.int .i64 ((pre2.length : Int))))]) (fun ⟨(pre2, suf2), _⟩ => []) (fun ⟨(pre2, suf2), _⟩ => suf2.length) ⟨([], (rnds a (totB a))), rfl⟩ (.c (.c (.c (.c (.c (.c (.c (.c (.c (.c (.c (.c (.c (.c (.c (.c (.c .n))))))))))))))))) keep_n (slots_c (he := (by first | rfl | (congr 2; simp; done))) (h := trivial)) ?_
        rintro ⟨⟨pre2, suf2⟩, hp2⟩ R2 hR2
        dsimp only [List.cons_append, List.nil_append, List.length_cons, List.length_nil]
        simp only at hp2
        have hpl2 : pre2.length + suf2.length = 3 := by have h3 : (rnds a (totB a)).length = 3 := rfl; rw [← h3, ← hp2, List.length_append]
        rcases suf2 with _ | ⟨⟨⟨sa, sb⟩, sk, sc, sg⟩, suf2⟩
        · simp only [List.length_nil] at hpl2
          refine Ev.sr fun K hK => S.o q.lss (S.end (hK _ ?_))
          clear hK K
          refine Ev.ud (fun c36 => ?_) (fun c36 => ?_)
          · first
          | (first | omega | contradiction)
          | refine Ev.seq ?_
            refine Ev.block ?_
            refine Ev.sr fun K hK => S.o (q.ix am_el60 am_cl59 (hl := (by first | exact ati hidx (by omega) | exact atig (by omega)))) (S.o (q.lsA [_, _, _, _, _] am_ag59 am_cl59) (S.nn (q.al am_ze59) (S.sv [_, _, _, _, _] true [] am_in59 am_cl59 (h := S.end (hK _ ?_)))))
            clear hK K
            refine Ev.sr fun K hK => S.o (q.fa 0 am_fi59_0 am_cl22) (S.o (q.lv am_ag22) (S.o (q.fa 1 am_fi59_1 am_cl22) (S.o (q.lv am_ag22) (S.c0 (hF := cmpOk_fun hL hs.ox hs.oy hs.wx hs.wy) (h := S.o q.mv (S.o q.ex (S.o q.ex (S.o q.as (S.o q.as (S.end (hK _ ?_)))))))))))
            clear hK K
            refine Ev.sr fun K hK => S.o q.mv (S.c0 (hF := cntOk_fun hlo hns) (h := S.o q.mv (S.o q.ex (S.o q.ex (S.o q.as (S.o q.as (S.end (hK _ ?_))))))))
            clear hK K
            refine Ev.sr fun K hK => S.o (q.fa 0 am_fi59_0 am_cl22) (S.o (q.lv am_ag22) (S.o (q.fa 1 am_fi59_1 am_cl22) (S.o (q.lv am_ag22) (S.c0 (hF := steelOk_fun hs.cc hs.cg hs.ox hs.oy hs.wx hs.wy) (h := S.o q.mv (S.o q.ex (S.o q.ex (S.o q.ex (S.o q.as (S.o q.as (S.o q.as (S.end (hK _ ?_)))))))))))))
            clear hK K
            refine Ev.seq ?_
            refine Ev.sr fun K hK => S.o q.mv (S.o q.neq (S.bn q.mv (fun c37 => ?_) (fun c37 => ?_)))
            · first
            | (first | omega | contradiction)
            | refine S.sk (S.sk (S.o q.pt (S.o q.mv (S.sk (S.sk (S.o q.pt (S.o q.mv (S.sk (S.sk (S.sk (S.sk (S.sk (S.o q.pt (S.o q.mv (S.sk (S.sk (S.sk (S.o q.pt (S.o q.mv (S.sk (S.sk (S.sk (S.sk (S.sk (S.sk (S.sk (S.sk (S.sk (S.o q.pt (S.o q.mv (S.sk (S.sk (S.sk (S.sk (S.o q.pt (S.o q.mv (S.sk (S.sk (S.sk (S.sk (S.o q.pt (S.end (hK _ ?_)))))))))))))))))))))))))))))))))))))))))))
              clear hK K
              refine Ev.ct ?_
              refine Ev.sr fun K hK => S.o q.as (S.end (hK _ ?_))
              clear hK K
              refine Ev.ret ?_
              refine hR2 _ _ ?_
              refine Ev.ret1 ?_
              refine ⟨?_, rfl⟩
              first | rfl | (exfalso; omega) | contradiction | exact absurd hcm ‹_›
            · first
            | (first | omega | contradiction)
            | refine S.o q.mv (S.o q.neq (S.o q.pf (S.bn q.mv (fun c38 => ?_) (fun c38 => ?_))))
              · first
              | (first | omega | contradiction)
              | refine S.sk (S.sk (S.o q.pt (S.o q.mv (S.sk (S.sk (S.sk (S.sk (S.sk (S.o q.pt (S.o q.mv (S.sk (S.sk (S.sk (S.o q.pt (S.o q.mv (S.sk (S.sk (S.sk (S.sk (S.sk (S.sk (S.sk (S.sk (S.sk (S.o q.pt (S.o q.mv (S.sk (S.sk (S.sk (S.sk (S.o q.pt (S.o q.mv (S.sk (S.sk (S.sk (S.sk (S.o q.pt (S.end (hK _ ?_)))))))))))))))))))))))))))))))))))))))
                clear hK K
                refine Ev.ct ?_
                refine Ev.sr fun K hK => S.o q.as (S.end (hK _ ?_))
                clear hK K
                refine Ev.ret ?_
                refine hR2 _ _ ?_
                refine Ev.ret1 ?_
                refine ⟨?_, rfl⟩
                first | rfl | (exfalso; omega) | contradiction | exact absurd hcm ‹_›
              · first
              | (first | omega | contradiction)
              | refine S.o q.mv (S.o q.neq (S.o q.pf (S.bn q.mv (fun c39 => ?_) (fun c39 => ?_))))
                · first
                | (first | omega | contradiction)
                | refine S.sk (S.sk (S.sk (S.sk (S.sk (S.o q.pt (S.o q.mv (S.sk (S.sk (S.sk (S.o q.pt (S.o q.mv (S.sk (S.sk (S.sk (S.sk (S.sk (S.sk (S.sk (S.sk (S.sk (S.o q.pt (S.o q.mv (S.sk (S.sk (S.sk (S.sk (S.o q.pt (S.o q.mv (S.sk (S.sk (S.sk (S.sk (S.o q.pt (S.end (hK _ ?_)))))))))))))))))))))))))))))))))))
                  clear hK K
                  refine Ev.ct ?_
                  refine Ev.sr fun K hK => S.o q.as (S.end (hK _ ?_))
                  clear hK K
                  refine Ev.ret ?_
                  refine hR2 _ _ ?_
                  refine Ev.ret1 ?_
                  refine ⟨?_, rfl⟩
                  first | rfl | (exfalso; omega) | contradiction | exact absurd hcm ‹_›
                · first
                | (first | omega | contradiction)
                | refine S.o q.mv (S.o (q.lens am_el25) (S.o q.mv (S.o (q.lens am_el22) (S.o q.neq (S.o q.pf (S.bn q.mv (fun c40 => ?_) (fun c40 => ?_)))))))
                  · first
                  | (first | omega | contradiction)
                  | refine S.sk (S.sk (S.sk (S.o q.pt (S.o q.mv (S.sk (S.sk (S.sk (S.sk (S.sk (S.sk (S.sk (S.sk (S.sk (S.o q.pt (S.o q.mv (S.sk (S.sk (S.sk (S.sk (S.o q.pt (S.o q.mv (S.sk (S.sk (S.sk (S.sk (S.o q.pt (S.end (hK _ ?_))))))))))))))))))))))))))))
                    clear hK K
                    refine Ev.ct ?_
                    refine Ev.sr fun K hK => S.o q.as (S.end (hK _ ?_))
                    clear hK K
                    refine Ev.ret ?_
                    refine hR2 _ _ ?_
                    refine Ev.ret1 ?_
                    refine ⟨?_, rfl⟩
                    first | rfl | (exfalso; omega) | contradiction | exact absurd hcm ‹_›
                  · first
                  | (first | omega | contradiction)
                  | refine S.o q.mv (S.o (q.lens am_el41) (S.o q.neq (S.o q.pf (S.bn q.mv (fun c41 => ?_) (fun c41 => ?_)))))
                    · first
                    | (first | omega | contradiction)
                    | refine S.sk (S.sk (S.sk (S.sk (S.sk (S.sk (S.sk (S.sk (S.sk (S.o q.pt (S.o q.mv (S.sk (S.sk (S.sk (S.sk (S.o q.pt (S.o q.mv (S.sk (S.sk (S.sk (S.sk (S.o q.pt (S.end (hK _ ?_)))))))))))))))))))))))
                      clear hK K
                      refine Ev.ct ?_
                      refine Ev.sr fun K hK => S.o q.as (S.end (hK _ ?_))
                      clear hK K
                      refine Ev.ret ?_
                      refine hR2 _ _ ?_
                      refine Ev.ret1 ?_
                      refine ⟨?_, rfl⟩
                      first | rfl | (exfalso; omega) | contradiction | exact absurd hcm ‹_›
                    · first
                    | (first | omega | contradiction)
                    | refine S.o q.mv (S.o (q.fa 2 am_fi59_2 am_cl3) (S.o (q.lv am_ag3) (S.o q.sub (S.o (q.ix am_el41 am_cl3 (hl := (by first | exact ati hidx (by omega) | exact atig (by omega)))) (S.o (q.ls am_ag3) (S.o q.mv (S.o (q.lens am_el22) (S.o q.neq (S.o q.pf (S.bn q.mv (fun c42 => ?_) (fun c42 => ?_)))))))))))
                      · first
                      | (first | omega | contradiction)
                      | refine S.sk (S.sk (S.sk (S.sk (S.o q.pt (S.o q.mv (S.sk (S.sk (S.sk (S.sk (S.o q.pt (S.end (hK _ ?_))))))))))))
                        clear hK K
                        refine Ev.ct ?_
                        refine Ev.sr fun K hK => S.o q.as (S.end (hK _ ?_))
                        clear hK K
                        refine Ev.ret ?_
                        refine hR2 _ _ ?_
                        refine Ev.ret1 ?_
                        refine ⟨?_, rfl⟩
                        first | rfl | (exfalso; omega) | contradiction | exact absurd hcm ‹_›
                      · first
                      | (first | omega | contradiction)
                      | refine S.o q.mv (S.o (q.fa 3 am_fi59_3 am_cl3) (S.o (q.lv am_ag3) (S.o q.neq (S.o q.pf (S.bn q.mv (fun c43 => ?_) (fun c43 => ?_))))))
                        · first
                        | (first | omega | contradiction)
                        | refine S.sk (S.sk (S.sk (S.sk (S.o q.pt (S.end (hK _ ?_))))))
                          clear hK K
                          refine Ev.ct ?_
                          refine Ev.sr fun K hK => S.o q.as (S.end (hK _ ?_))
                          clear hK K
                          refine Ev.ret ?_
                          refine hR2 _ _ ?_
                          refine Ev.ret1 ?_
                          refine ⟨?_, rfl⟩
                          first | rfl | (exfalso; omega) | contradiction | exact absurd hcm ‹_›
                        · first
                        | (first | omega | contradiction)
                        | refine S.o q.mv (S.o (q.fa 4 am_fi59_4 am_cl3) (S.o (q.lv am_ag3) (S.o q.neq (S.o q.pf (S.end (hK _ ?_))))))
                          clear hK K
                          refine Ev.cn (fun c44 => ?_) (fun c44 => ?_)
                          · first
                          | (first | omega | contradiction)
                          | refine Ev.sr fun K hK => S.o q.as (S.end (hK _ ?_))
                            clear hK K
                            refine Ev.ret ?_
                            refine hR2 _ _ ?_
                            refine Ev.ret1 ?_
                            refine ⟨?_, rfl⟩
                            first | rfl | (exfalso; omega) | contradiction | exact absurd hcm ‹_›
                          · first
                          | (first | omega | contradiction)
                          | refine Ev.skip ?_
                            show Ev _ _ _ _
                            refine Ev.sr fun K hK => S.o q.mv (S.o (q.lens am_el25) (S.o q.mv (S.end (hK _ ?_))))
                            clear hK K
                            refine Ev.block ?_
                            refine Ev.loopU (ι := {q : List Chg × List Chg // q.1 ++ q.2 = l}) [0] [0, 3, 9, 10, 11, 12, 13, 14, 15, 16, 25, 26, 27, 28, 42, 43, 44, 45, 46, 47, 48, 49, 50, 51, 52, 53, 54, 55, 56, 57, 58, 59, 60, 61, 62, 63, 64, 65, 66, 67, 68, 69, 70, 71, 72, 73, 74, 75, 76, 77, 78, 79, 80, 81, 82, 83, 84, 85, 86, 87, 88, 89, 90, 91, 92, 93, 94, 95, 96, 97, 98, 99, 100, 101, 102, 103, 104, 105, 106, 107, 108, 109, 110, 111, 112, 113, 114, 115, 116, 117, 118, 119, 120, 121, 122, 123, 124, 125] (fun ⟨(pre3, suf3), _⟩ => [(126, .lit (.int .i64 ((pre3.length : Int))))]) (fun ⟨(pre3, suf3), _⟩ => [(0, ⟨false, 59, 5, [[.sh 5 ((sa).map Bar.c), .sh 5 ((sb).map Bar.c), .lit (.int .i64 (sk)), .lit (.int .i64 (sc)), .lit (.int .i64 (sg))]], true⟩)]) (fun ⟨(pre3, suf3), _⟩ => suf3.length) ⟨([], l), rfl⟩ (.c (.c (.c (.c (.c (.c (.c (.c (.c (.c (.c (.c (.c (.c (.c (.c (.c (.c (.c (.c (.c (.c (.c (.c (.c (.c (.c (.c (.c (.c (.c (.c (.c (.c (.c (.c (.c (.c (.c (.c (.c (.c (.c (.c (.c (.c (.c (.c (.c (.c (.c (.c (.c (.c (.c (.c (.c (.c (.c (.c (.c (.c (.c (.c (.c (.c (.c (.c (.c (.c (.c (.c (.c (.c (.c (.c (.c (.c (.c (.c (.c (.c (.c (.c (.c (.c (.c (.c (.c (.c (.c (.c (.c (.c (.c (.c (.c (.c .n)))))))))))))))))))))))))))))))))))))))))))))))))))))))))))))))))))))))))))))))))))))))))))))))))) (keep_c (he := (by first | rfl | (simp; done))) (h := keep_n)) (slots_c (he := (by first | rfl | (congr 2; simp; done))) (h := trivial)) ?_
                            rintro ⟨⟨pre3, suf3⟩, hp3⟩ R4 hR4
                            dsimp only [List.cons_append, List.nil_append, List.length_cons, List.length_nil]
                            simp only at hp3
                            have hpl3 : pre3.length + suf3.length = l.length := by rw [← hp3, List.length_append]
                            rcases suf3 with _ | ⟨s, suf3⟩
                            · simp only [List.length_nil] at hpl3
                              refine Ev.sr fun K hK => S.o q.lss (S.end (hK _ ?_))
                              clear hK K
                              refine Ev.ud (fun c45 => ?_) (fun c45 => ?_)
                              · first
                              | (first | omega | contradiction)
                              | refine Ev.seq ?_
                                refine Ev.block ?_
                                refine Ev.sr fun K hK => S.o q.mv (S.o (q.ix am_el25 am_cl36 (hl := (by first | exact ati hidx (by omega) | exact atig (by omega)))) (S.o (q.lsA [_, _] am_ag36 am_cl36) (S.nn (q.al am_ze36) (S.o q.as (S.sv [_, _] true [_] am_in36 am_cl36 (h := S.end (hK _ ?_)))))))
                                clear hK K
                                refine Ev.sm (tbs [(0, 0), (1, 1), (0, 0), (0, 0), (4, 12), (5, 28), (6, 60), (7, 127), (8, 255), (9, 511), (10, 1023), (9, 511), (12, 2559), (13, 8191), (14, 16383)]) 15 fun K hK => M.o (q.fa 1 am_fi36_1 am_cl9) (M.o (q.lv am_ag9) (M.o q.mv (M.o q.mv (M.o (q.ix am_el22 am_cl43 (hl := (by first | exact ati hidx (by omega) | exact atig (by omega)))) (M.o (q.fs 0 am_fi43_0 am_cl9) (M.o (q.ls am_ag9) (M.o q.snes (M.bn q.mv (fun c46 => ?_) (fun c46 => ?_)))))))))
                                · first
                                | (first | omega | contradiction)
                                | refine M.sk (M.sk (M.sk (M.sk (M.sk (M.o q.pt (M.end [_, _] (h := S.end (hK _ ?_))))))))
                                  clear hK K
                                  refine Ev.ct ?_
                                  refine Ev.sr fun K hK => S.o q.as (S.end (hK _ ?_))
                                  clear hK K
                                  refine Ev.ret ?_
                                  refine hR4 _ _ ?_
                                  refine hR2 _ _ ?_
                                  refine Ev.ret1 ?_
                                  refine ⟨?_, rfl⟩
                                  first | rfl | (exfalso; omega) | contradiction | exact absurd hcm ‹_›
                                · first
                                | (first | omega | contradiction)
                                | refine M.o (q.fa 0 am_fi36_0 am_cl3) (M.o (q.lv am_ag3) (M.o (q.fa 2 am_fi59_2 am_cl3) (M.o (q.lv am_ag3) (M.o q.neq (M.o q.pf (M.end [_, _] (h := S.end (hK _ ?_))))))))
                                  clear hK K
                                  refine Ev.cn (fun c47 => ?_) (fun c47 => ?_)
                                  · first
                                  | (first | omega | contradiction)
                                  | refine Ev.sr fun K hK => S.o q.as (S.end (hK _ ?_))
                                    clear hK K
                                    refine Ev.ret ?_
                                    refine hR4 _ _ ?_
                                    refine hR2 _ _ ?_
                                    refine Ev.ret1 ?_
                                    refine ⟨?_, rfl⟩
                                    first | rfl | (exfalso; omega) | contradiction | exact absurd hcm ‹_›
                                  · first
                                  | (first | omega | contradiction)
                                  | refine Ev.skip ?_
                                    show Ev _ _ _ _
                                    refine Ev.region_S fun K hK => S.o q.add (S.o q.mv (S.end (hK _ ?_)))
                                    clear hK K
                                    refine hR4 _ _ ?_
                                    refine roundU [0] [0, 3, 9, 10, 11, 12, 13, 14, 15, 16, 25, 26, 27, 28, 42, 43, 44, 45, 46, 47, 48, 49, 50, 51, 52, 53, 54, 55, 56, 57, 58, 59, 60, 61, 62, 63, 64, 65, 66, 67, 68, 69, 70, 71, 72, 73, 74, 75, 76, 77, 78, 79, 80, 81, 82, 83, 84, 85, 86, 87, 88, 89, 90, 91, 92, 93, 94, 95, 96, 97, 98, 99, 100, 101, 102, 103, 104, 105, 106, 107, 108, 109, 110, 111, 112, 113, 114, 115, 116, 117, 118, 119, 120, 121, 122, 123, 124, 125] ⟨(pre3 ++ [s], suf3), by rw [← hp3]; simp⟩ ?_ (keep_c (he := (by first | rfl | (simp; done))) (h := keep_n)) (slots_c (he := (by first | rfl | (congr 2; simp; done))) (h := trivial)) (.c (.c (.c (.c (.c (.c (.c (.c (.c (.c (.c (.c (.c (.c (.c (.c (.c (.c (.c (.c (.c (.c (.c (.c (.c (.c (.c (.c (.c (.c (.c (.c (.c (.c (.c (.c (.c (.c (.c (.c (.c (.c (.c (.c (.c (.c (.c (.c (.c (.c (.c (.c (.c (.c (.c (.c (.c (.c (.c (.c (.c (.c (.c (.c (.c (.c (.c (.c (.c (.c (.c (.c (.c (.c (.c (.c (.c (.c (.c (.c (.c (.c (.c (.c (.c (.c (.c (.c (.c (.c (.c (.c (.c (.c (.c (.c (.c (.c .n))))))))))))))))))))))))))))))))))))))))))))))))))))))))))))))))))))))))))))))))))))))))))))))))))
                                    skip
                                    all_goals (dsimp only; simp only [List.length_cons]; omega)
                              · first
                              | (first | omega | contradiction)
                              | refine Ev.exit ?_
                                refine hR4 _ _ ?_
                                show Ev _ _ _ _
                                refine Ev.region_S fun K hK => S.o q.add (S.o q.mv (S.end (hK _ ?_)))
                                clear hK K
                                refine hR2 _ _ ?_
                                refine roundU [] [0, 3, 25, 26, 27, 28, 42, 43, 44, 45, 46, 47, 48, 49, 50, 51, 52] ⟨(pre2 ++ [((sa, sb), sk, sc, sg)], suf2), by rw [← hp2]; simp⟩ ?_ keep_n (slots_c (he := (by first | rfl | (congr 2; simp; done))) (h := trivial)) (.c (.c (.c (.c (.c (.c (.c (.c (.c (.c (.c (.c (.c (.c (.c (.c (.c .n)))))))))))))))))
                                skip
                                all_goals (dsimp only; simp only [List.length_cons]; omega)
                            · simp only [List.length_cons] at hpl3
                              have hidx3 : l[pre3.length]? = some s := by rw [← hp3]; simp
                              obtain ⟨z, hidz⟩ : ∃ z, a[pre3.length]? = some z := ⟨_, List.getElem?_eq_getElem (by omega)⟩
                              have hsz : s = (sk, z.mark) := by
                                rw [← hl, allK, List.getElem?_map, hidz] at hidx3
                                simpa using hidx3.symm
                              have hz1 : s.1 = sk := by rw [hsz]
                              have hz2 : s.2 = z.mark := by rw [hsz]
                              refine Ev.sr fun K hK => S.o q.lss (S.end (hK _ ?_))
                              clear hK K
                              refine Ev.ud (fun c48 => ?_) (fun c48 => ?_)
                              · first
                              | (first | omega | contradiction)
                              | refine Ev.seq ?_
                                refine Ev.block ?_
                                refine Ev.sr fun K hK => S.o q.mv (S.o (q.ix am_el25 am_cl36 (hl := (by first | exact ati hidx (by omega) | exact ati hidx3 (by omega) | exact ati hidz (by omega) | exact atig (by omega)))) (S.o (q.lsA [_, _] am_ag36 am_cl36) (S.nn (q.al am_ze36) (S.o q.as (S.sv [_, _] true [_] am_in36 am_cl36 (h := S.end (hK _ ?_)))))))
                                clear hK K
                                refine Ev.sm (tbs [(0, 0), (1, 1), (0, 0), (0, 0), (4, 12), (5, 28), (6, 60), (7, 127), (8, 255), (9, 511), (10, 1023), (9, 511), (12, 2559), (13, 8191), (14, 16383)]) 15 fun K hK => M.o (q.fa 1 am_fi36_1 am_cl9) (M.o (q.lv am_ag9) (M.o q.mv (M.o q.mv (M.o (q.ix am_el22 am_cl43 (hl := (by first | exact ati hidx (by omega) | exact ati hidx3 (by omega) | exact ati hidz (by omega) | exact atig (by omega)))) (M.o (q.fs 0 am_fi43_0 am_cl9) (M.o (q.ls am_ag9) (M.o q.snes (M.bn q.mv (fun c49 => ?_) (fun c49 => ?_)))))))))
                                · first
                                | (first | omega | contradiction)
                                | refine M.sk (M.sk (M.sk (M.sk (M.sk (M.o q.pt (M.end [_, _] (h := S.end (hK _ ?_))))))))
                                  clear hK K
                                  refine Ev.ct ?_
                                  refine Ev.sr fun K hK => S.o q.as (S.end (hK _ ?_))
                                  clear hK K
                                  refine Ev.ret ?_
                                  refine hR4 _ _ ?_
                                  refine hR2 _ _ ?_
                                  refine Ev.ret1 ?_
                                  refine ⟨?_, rfl⟩
                                  first | rfl | (exfalso; omega) | contradiction | exact absurd hcm ‹_›
                                · first
                                | (first | omega | contradiction)
                                | refine M.o (q.fa 0 am_fi36_0 am_cl3) (M.o (q.lv am_ag3) (M.o (q.fa 2 am_fi59_2 am_cl3) (M.o (q.lv am_ag3) (M.o q.neq (M.o q.pf (M.end [_, _] (h := S.end (hK _ ?_))))))))
                                  clear hK K
                                  refine Ev.cn (fun c50 => ?_) (fun c50 => ?_)
                                  · first
                                  | (first | omega | contradiction)
                                  | refine Ev.sr fun K hK => S.o q.as (S.end (hK _ ?_))
                                    clear hK K
                                    refine Ev.ret ?_
                                    refine hR4 _ _ ?_
                                    refine hR2 _ _ ?_
                                    refine Ev.ret1 ?_
                                    refine ⟨?_, rfl⟩
                                    first | rfl | (exfalso; omega) | contradiction | exact absurd hcm ‹_›
                                  · first
                                  | (first | omega | contradiction)
                                  | refine Ev.skip ?_
                                    show Ev _ _ _ _
                                    refine Ev.region_S fun K hK => S.o q.add (S.o q.mv (S.end (hK _ ?_)))
                                    clear hK K
                                    refine hR4 _ _ ?_
                                    refine roundU [0] [0, 3, 9, 10, 11, 12, 13, 14, 15, 16, 25, 26, 27, 28, 42, 43, 44, 45, 46, 47, 48, 49, 50, 51, 52, 53, 54, 55, 56, 57, 58, 59, 60, 61, 62, 63, 64, 65, 66, 67, 68, 69, 70, 71, 72, 73, 74, 75, 76, 77, 78, 79, 80, 81, 82, 83, 84, 85, 86, 87, 88, 89, 90, 91, 92, 93, 94, 95, 96, 97, 98, 99, 100, 101, 102, 103, 104, 105, 106, 107, 108, 109, 110, 111, 112, 113, 114, 115, 116, 117, 118, 119, 120, 121, 122, 123, 124, 125] ⟨(pre3 ++ [s], suf3), by rw [← hp3]; simp⟩ ?_ (keep_c (he := (by first | rfl | (simp; done))) (h := keep_n)) (slots_c (he := (by first | rfl | (congr 2; simp; done))) (h := trivial)) (.c (.c (.c (.c (.c (.c (.c (.c (.c (.c (.c (.c (.c (.c (.c (.c (.c (.c (.c (.c (.c (.c (.c (.c (.c (.c (.c (.c (.c (.c (.c (.c (.c (.c (.c (.c (.c (.c (.c (.c (.c (.c (.c (.c (.c (.c (.c (.c (.c (.c (.c (.c (.c (.c (.c (.c (.c (.c (.c (.c (.c (.c (.c (.c (.c (.c (.c (.c (.c (.c (.c (.c (.c (.c (.c (.c (.c (.c (.c (.c (.c (.c (.c (.c (.c (.c (.c (.c (.c (.c (.c (.c (.c (.c (.c (.c (.c (.c .n))))))))))))))))))))))))))))))))))))))))))))))))))))))))))))))))))))))))))))))))))))))))))))))))))
                                    skip
                                    all_goals (dsimp only; simp only [List.length_cons]; omega)
                              · first
                              | (first | omega | contradiction)
                              | refine Ev.exit ?_
                                refine hR4 _ _ ?_
                                show Ev _ _ _ _
                                refine Ev.region_S fun K hK => S.o q.add (S.o q.mv (S.end (hK _ ?_)))
                                clear hK K
                                refine hR2 _ _ ?_
                                refine roundU [] [0, 3, 25, 26, 27, 28, 42, 43, 44, 45, 46, 47, 48, 49, 50, 51, 52] ⟨(pre2 ++ [((sa, sb), sk, sc, sg)], suf2), by rw [← hp2]; simp⟩ ?_ keep_n (slots_c (he := (by first | rfl | (congr 2; simp; done))) (h := trivial)) (.c (.c (.c (.c (.c (.c (.c (.c (.c (.c (.c (.c (.c (.c (.c (.c (.c .n)))))))))))))))))
                                skip
                                all_goals (dsimp only; simp only [List.length_cons]; omega)
          · first
          | (first | omega | contradiction)
          | refine Ev.exit ?_
            refine hR2 _ _ ?_
            show Ev _ _ _ _
            refine Ev.sr fun K hK => S.o q.as (S.end (hK _ ?_))
            clear hK K
            refine Ev.ret ?_
            refine Ev.ret1 ?_
            refine ⟨?_, rfl⟩
            first | rfl | (exfalso; omega) | contradiction | exact absurd hcm ‹_›
        · simp only [List.length_cons] at hpl2
          have hidx2 : (rnds a (totB a))[pre2.length]? = some ((sa, sb), sk, sc, sg) := by rw [← hp2]; simp
          have hs := rnds_ok hoa hwa (List.mem_of_getElem? hidx2)
          simp only at hs
          obtain ⟨l, hl⟩ : ∃ l, allK sk a = l := ⟨_, rfl⟩
          have hL := hs.cmp.trans hl
          have hlo : okChgs l := hl ▸ allK_ok hoa hs.k1 hs.k4
          have hll : l.length = a.length := by rw [← hl]; exact allK_len sk a
          obtain ⟨ns, hns⟩ : ∃ ns, cntL l = ns := ⟨_, rfl⟩
          have hnl : ns.length = 4 := by rw [← hns]; rfl
          have hk1 := hs.k1
          have hk4 := hs.k4
          have hng : ns[(sk - 1).toNat]? = some (a.length : Int) := by rw [← hns, cntL_get l hk1 hk4, ← hl, cnt_all]
          refine Ev.sr fun K hK => S.o q.lss (S.end (hK _ ?_))
          clear hK K
          refine Ev.ud (fun c51 => ?_) (fun c51 => ?_)
          · first
          | (first | omega | contradiction)
          | refine Ev.seq ?_
            refine Ev.block ?_
            refine Ev.sr fun K hK => S.o (q.ix am_el60 am_cl59 (hl := (by first | exact ati hidx (by omega) | exact ati hidx2 (by omega) | exact ati hng (by omega) | exact atig (by omega)))) (S.o (q.lsA [_, _, _, _, _] am_ag59 am_cl59) (S.nn (q.al am_ze59) (S.sv [_, _, _, _, _] true [] am_in59 am_cl59 (h := S.end (hK _ ?_)))))
            clear hK K
            refine Ev.sr fun K hK => S.o (q.fa 0 am_fi59_0 am_cl22) (S.o (q.lv am_ag22) (S.o (q.fa 1 am_fi59_1 am_cl22) (S.o (q.lv am_ag22) (S.c0 (hF := cmpOk_fun hL hs.ox hs.oy hs.wx hs.wy) (h := S.o q.mv (S.o q.ex (S.o q.ex (S.o q.as (S.o q.as (S.end (hK _ ?_)))))))))))
            clear hK K
            refine Ev.sr fun K hK => S.o q.mv (S.c0 (hF := cntOk_fun hlo hns) (h := S.o q.mv (S.o q.ex (S.o q.ex (S.o q.as (S.o q.as (S.end (hK _ ?_))))))))
            clear hK K
            refine Ev.sr fun K hK => S.o (q.fa 0 am_fi59_0 am_cl22) (S.o (q.lv am_ag22) (S.o (q.fa 1 am_fi59_1 am_cl22) (S.o (q.lv am_ag22) (S.c0 (hF := steelOk_fun hs.cc hs.cg hs.ox hs.oy hs.wx hs.wy) (h := S.o q.mv (S.o q.ex (S.o q.ex (S.o q.ex (S.o q.as (S.o q.as (S.o q.as (S.end (hK _ ?_)))))))))))))
            clear hK K
            refine Ev.seq ?_
            refine Ev.sr fun K hK => S.o q.mv (S.o q.neq (S.bn q.mv (fun c52 => ?_) (fun c52 => ?_)))
            · first
            | (first | omega | contradiction)
            | refine S.sk (S.sk (S.o q.pt (S.o q.mv (S.sk (S.sk (S.o q.pt (S.o q.mv (S.sk (S.sk (S.sk (S.sk (S.sk (S.o q.pt (S.o q.mv (S.sk (S.sk (S.sk (S.o q.pt (S.o q.mv (S.sk (S.sk (S.sk (S.sk (S.sk (S.sk (S.sk (S.sk (S.sk (S.o q.pt (S.o q.mv (S.sk (S.sk (S.sk (S.sk (S.o q.pt (S.o q.mv (S.sk (S.sk (S.sk (S.sk (S.o q.pt (S.end (hK _ ?_)))))))))))))))))))))))))))))))))))))))))))
              clear hK K
              refine Ev.ct ?_
              refine Ev.sr fun K hK => S.o q.as (S.end (hK _ ?_))
              clear hK K
              refine Ev.ret ?_
              refine hR2 _ _ ?_
              refine Ev.ret1 ?_
              refine ⟨?_, rfl⟩
              first | rfl | (exfalso; omega) | contradiction | exact absurd hcm ‹_›
            · first
            | (first | omega | contradiction)
            | refine S.o q.mv (S.o q.neq (S.o q.pf (S.bn q.mv (fun c53 => ?_) (fun c53 => ?_))))
              · first
              | (first | omega | contradiction)
              | refine S.sk (S.sk (S.o q.pt (S.o q.mv (S.sk (S.sk (S.sk (S.sk (S.sk (S.o q.pt (S.o q.mv (S.sk (S.sk (S.sk (S.o q.pt (S.o q.mv (S.sk (S.sk (S.sk (S.sk (S.sk (S.sk (S.sk (S.sk (S.sk (S.o q.pt (S.o q.mv (S.sk (S.sk (S.sk (S.sk (S.o q.pt (S.o q.mv (S.sk (S.sk (S.sk (S.sk (S.o q.pt (S.end (hK _ ?_)))))))))))))))))))))))))))))))))))))))
                clear hK K
                refine Ev.ct ?_
                refine Ev.sr fun K hK => S.o q.as (S.end (hK _ ?_))
                clear hK K
                refine Ev.ret ?_
                refine hR2 _ _ ?_
                refine Ev.ret1 ?_
                refine ⟨?_, rfl⟩
                first | rfl | (exfalso; omega) | contradiction | exact absurd hcm ‹_›
              · first
              | (first | omega | contradiction)
              | refine S.o q.mv (S.o q.neq (S.o q.pf (S.bn q.mv (fun c54 => ?_) (fun c54 => ?_))))
                · first
                | (first | omega | contradiction)
                | refine S.sk (S.sk (S.sk (S.sk (S.sk (S.o q.pt (S.o q.mv (S.sk (S.sk (S.sk (S.o q.pt (S.o q.mv (S.sk (S.sk (S.sk (S.sk (S.sk (S.sk (S.sk (S.sk (S.sk (S.o q.pt (S.o q.mv (S.sk (S.sk (S.sk (S.sk (S.o q.pt (S.o q.mv (S.sk (S.sk (S.sk (S.sk (S.o q.pt (S.end (hK _ ?_)))))))))))))))))))))))))))))))))))
                  clear hK K
                  refine Ev.ct ?_
                  refine Ev.sr fun K hK => S.o q.as (S.end (hK _ ?_))
                  clear hK K
                  refine Ev.ret ?_
                  refine hR2 _ _ ?_
                  refine Ev.ret1 ?_
                  refine ⟨?_, rfl⟩
                  first | rfl | (exfalso; omega) | contradiction | exact absurd hcm ‹_›
                · first
                | (first | omega | contradiction)
                | refine S.o q.mv (S.o (q.lens am_el25) (S.o q.mv (S.o (q.lens am_el22) (S.o q.neq (S.o q.pf (S.bn q.mv (fun c55 => ?_) (fun c55 => ?_)))))))
                  · first
                  | (first | omega | contradiction)
                  | refine S.sk (S.sk (S.sk (S.o q.pt (S.o q.mv (S.sk (S.sk (S.sk (S.sk (S.sk (S.sk (S.sk (S.sk (S.sk (S.o q.pt (S.o q.mv (S.sk (S.sk (S.sk (S.sk (S.o q.pt (S.o q.mv (S.sk (S.sk (S.sk (S.sk (S.o q.pt (S.end (hK _ ?_))))))))))))))))))))))))))))
                    clear hK K
                    refine Ev.ct ?_
                    refine Ev.sr fun K hK => S.o q.as (S.end (hK _ ?_))
                    clear hK K
                    refine Ev.ret ?_
                    refine hR2 _ _ ?_
                    refine Ev.ret1 ?_
                    refine ⟨?_, rfl⟩
                    first | rfl | (exfalso; omega) | contradiction | exact absurd hcm ‹_›
                  · first
                  | (first | omega | contradiction)
                  | refine S.o q.mv (S.o (q.lens am_el41) (S.o q.neq (S.o q.pf (S.bn q.mv (fun c56 => ?_) (fun c56 => ?_)))))
                    · first
                    | (first | omega | contradiction)
                    | refine S.sk (S.sk (S.sk (S.sk (S.sk (S.sk (S.sk (S.sk (S.sk (S.o q.pt (S.o q.mv (S.sk (S.sk (S.sk (S.sk (S.o q.pt (S.o q.mv (S.sk (S.sk (S.sk (S.sk (S.o q.pt (S.end (hK _ ?_)))))))))))))))))))))))
                      clear hK K
                      refine Ev.ct ?_
                      refine Ev.sr fun K hK => S.o q.as (S.end (hK _ ?_))
                      clear hK K
                      refine Ev.ret ?_
                      refine hR2 _ _ ?_
                      refine Ev.ret1 ?_
                      refine ⟨?_, rfl⟩
                      first | rfl | (exfalso; omega) | contradiction | exact absurd hcm ‹_›
                    · first
                    | (first | omega | contradiction)
                    | refine S.o q.mv (S.o (q.fa 2 am_fi59_2 am_cl3) (S.o (q.lv am_ag3) (S.o q.sub (S.o (q.ix am_el41 am_cl3 (hl := (by first | exact ati hidx (by omega) | exact ati hidx2 (by omega) | exact ati hng (by omega) | exact atig (by omega)))) (S.o (q.ls am_ag3) (S.o q.mv (S.o (q.lens am_el22) (S.o q.neq (S.o q.pf (S.bn q.mv (fun c57 => ?_) (fun c57 => ?_)))))))))))
                      · first
                      | (first | omega | contradiction)
                      | refine S.sk (S.sk (S.sk (S.sk (S.o q.pt (S.o q.mv (S.sk (S.sk (S.sk (S.sk (S.o q.pt (S.end (hK _ ?_))))))))))))
                        clear hK K
                        refine Ev.ct ?_
                        refine Ev.sr fun K hK => S.o q.as (S.end (hK _ ?_))
                        clear hK K
                        refine Ev.ret ?_
                        refine hR2 _ _ ?_
                        refine Ev.ret1 ?_
                        refine ⟨?_, rfl⟩
                        first | rfl | (exfalso; omega) | contradiction | exact absurd hcm ‹_›
                      · first
                      | (first | omega | contradiction)
                      | refine S.o q.mv (S.o (q.fa 3 am_fi59_3 am_cl3) (S.o (q.lv am_ag3) (S.o q.neq (S.o q.pf (S.bn q.mv (fun c58 => ?_) (fun c58 => ?_))))))
                        · first
                        | (first | omega | contradiction)
                        | refine S.sk (S.sk (S.sk (S.sk (S.o q.pt (S.end (hK _ ?_))))))
                          clear hK K
                          refine Ev.ct ?_
                          refine Ev.sr fun K hK => S.o q.as (S.end (hK _ ?_))
                          clear hK K
                          refine Ev.ret ?_
                          refine hR2 _ _ ?_
                          refine Ev.ret1 ?_
                          refine ⟨?_, rfl⟩
                          first | rfl | (exfalso; omega) | contradiction | exact absurd hcm ‹_›
                        · first
                        | (first | omega | contradiction)
                        | refine S.o q.mv (S.o (q.fa 4 am_fi59_4 am_cl3) (S.o (q.lv am_ag3) (S.o q.neq (S.o q.pf (S.end (hK _ ?_))))))
                          clear hK K
                          refine Ev.cn (fun c59 => ?_) (fun c59 => ?_)
                          · first
                          | (first | omega | contradiction)
                          | refine Ev.sr fun K hK => S.o q.as (S.end (hK _ ?_))
                            clear hK K
                            refine Ev.ret ?_
                            refine hR2 _ _ ?_
                            refine Ev.ret1 ?_
                            refine ⟨?_, rfl⟩
                            first | rfl | (exfalso; omega) | contradiction | exact absurd hcm ‹_›
                          · first
                          | (first | omega | contradiction)
                          | refine Ev.skip ?_
                            show Ev _ _ _ _
                            refine Ev.sr fun K hK => S.o q.mv (S.o (q.lens am_el25) (S.o q.mv (S.end (hK _ ?_))))
                            clear hK K
                            refine Ev.block ?_
                            refine Ev.loopU (ι := {q : List Chg × List Chg // q.1 ++ q.2 = l}) [0] [0, 3, 9, 10, 11, 12, 13, 14, 15, 16, 25, 26, 27, 28, 42, 43, 44, 45, 46, 47, 48, 49, 50, 51, 52, 53, 54, 55, 56, 57, 58, 59, 60, 61, 62, 63, 64, 65, 66, 67, 68, 69, 70, 71, 72, 73, 74, 75, 76, 77, 78, 79, 80, 81, 82, 83, 84, 85, 86, 87, 88, 89, 90, 91, 92, 93, 94, 95, 96, 97, 98, 99, 100, 101, 102, 103, 104, 105, 106, 107, 108, 109, 110, 111, 112, 113, 114, 115, 116, 117, 118, 119, 120, 121, 122, 123, 124, 125] (fun ⟨(pre3, suf3), _⟩ => [(126, .lit (.int .i64 ((pre3.length : Int))))]) (fun ⟨(pre3, suf3), _⟩ => [(0, ⟨false, 59, 5, [[.sh 5 ((sa).map Bar.c), .sh 5 ((sb).map Bar.c), .lit (.int .i64 (sk)), .lit (.int .i64 (sc)), .lit (.int .i64 (sg))]], true⟩)]) (fun ⟨(pre3, suf3), _⟩ => suf3.length) ⟨([], l), rfl⟩ (.c (.c (.c (.c (.c (.c (.c (.c (.c (.c (.c (.c (.c (.c (.c (.c (.c (.c (.c (.c (.c (.c (.c (.c (.c (.c (.c (.c (.c (.c (.c (.c (.c (.c (.c (.c (.c (.c (.c (.c (.c (.c (.c (.c (.c (.c (.c (.c (.c (.c (.c (.c (.c (.c (.c (.c (.c (.c (.c (.c (.c (.c (.c (.c (.c (.c (.c (.c (.c (.c (.c (.c (.c (.c (.c (.c (.c (.c (.c (.c (.c (.c (.c (.c (.c (.c (.c (.c (.c (.c (.c (.c (.c (.c (.c (.c (.c (.c .n)))))))))))))))))))))))))))))))))))))))))))))))))))))))))))))))))))))))))))))))))))))))))))))))))) (keep_c (he := (by first | rfl | (simp; done))) (h := keep_n)) (slots_c (he := (by first | rfl | (congr 2; simp; done))) (h := trivial)) ?_
                            rintro ⟨⟨pre3, suf3⟩, hp3⟩ R4 hR4
                            dsimp only [List.cons_append, List.nil_append, List.length_cons, List.length_nil]
                            simp only at hp3
                            have hpl3 : pre3.length + suf3.length = l.length := by rw [← hp3, List.length_append]
                            rcases suf3 with _ | ⟨s, suf3⟩
                            · simp only [List.length_nil] at hpl3
                              refine Ev.sr fun K hK => S.o q.lss (S.end (hK _ ?_))
                              clear hK K
                              refine Ev.ud (fun c60 => ?_) (fun c60 => ?_)
                              · first
                              | (first | omega | contradiction)
                              | refine Ev.seq ?_
                                refine Ev.block ?_
                                refine Ev.sr fun K hK => S.o q.mv (S.o (q.ix am_el25 am_cl36 (hl := (by first | exact ati hidx (by omega) | exact ati hidx2 (by omega) | exact ati hng (by omega) | exact atig (by omega)))) (S.o (q.lsA [_, _] am_ag36 am_cl36) (S.nn (q.al am_ze36) (S.o q.as (S.sv [_, _] true [_] am_in36 am_cl36 (h := S.end (hK _ ?_)))))))
                                clear hK K
                                refine Ev.sm (tbs [(0, 0), (1, 1), (0, 0), (0, 0), (4, 12), (5, 28), (6, 60), (7, 127), (8, 255), (9, 511), (10, 1023), (9, 511), (12, 2559), (13, 8191), (14, 16383)]) 15 fun K hK => M.o (q.fa 1 am_fi36_1 am_cl9) (M.o (q.lv am_ag9) (M.o q.mv (M.o q.mv (M.o (q.ix am_el22 am_cl43 (hl := (by first | exact ati hidx (by omega) | exact ati hidx2 (by omega) | exact ati hng (by omega) | exact atig (by omega)))) (M.o (q.fs 0 am_fi43_0 am_cl9) (M.o (q.ls am_ag9) (M.o q.snes (M.bn q.mv (fun c61 => ?_) (fun c61 => ?_)))))))))
                                · first
                                | (first | omega | contradiction)
                                | refine M.sk (M.sk (M.sk (M.sk (M.sk (M.o q.pt (M.end [_, _] (h := S.end (hK _ ?_))))))))
                                  clear hK K
                                  refine Ev.ct ?_
                                  refine Ev.sr fun K hK => S.o q.as (S.end (hK _ ?_))
                                  clear hK K
                                  refine Ev.ret ?_
                                  refine hR4 _ _ ?_
                                  refine hR2 _ _ ?_
                                  refine Ev.ret1 ?_
                                  refine ⟨?_, rfl⟩
                                  first | rfl | (exfalso; omega) | contradiction | exact absurd hcm ‹_›
                                · first
                                | (first | omega | contradiction)
                                | refine M.o (q.fa 0 am_fi36_0 am_cl3) (M.o (q.lv am_ag3) (M.o (q.fa 2 am_fi59_2 am_cl3) (M.o (q.lv am_ag3) (M.o q.neq (M.o q.pf (M.end [_, _] (h := S.end (hK _ ?_))))))))
                                  clear hK K
                                  refine Ev.cn (fun c62 => ?_) (fun c62 => ?_)
                                  · first
                                  | (first | omega | contradiction)
                                  | refine Ev.sr fun K hK => S.o q.as (S.end (hK _ ?_))
                                    clear hK K
                                    refine Ev.ret ?_
                                    refine hR4 _ _ ?_
                                    refine hR2 _ _ ?_
                                    refine Ev.ret1 ?_
                                    refine ⟨?_, rfl⟩
                                    first | rfl | (exfalso; omega) | contradiction | exact absurd hcm ‹_›
                                  · first
                                  | (first | omega | contradiction)
                                  | refine Ev.skip ?_
                                    show Ev _ _ _ _
                                    refine Ev.region_S fun K hK => S.o q.add (S.o q.mv (S.end (hK _ ?_)))
                                    clear hK K
                                    refine hR4 _ _ ?_
                                    refine roundU [0] [0, 3, 9, 10, 11, 12, 13, 14, 15, 16, 25, 26, 27, 28, 42, 43, 44, 45, 46, 47, 48, 49, 50, 51, 52, 53, 54, 55, 56, 57, 58, 59, 60, 61, 62, 63, 64, 65, 66, 67, 68, 69, 70, 71, 72, 73, 74, 75, 76, 77, 78, 79, 80, 81, 82, 83, 84, 85, 86, 87, 88, 89, 90, 91, 92, 93, 94, 95, 96, 97, 98, 99, 100, 101, 102, 103, 104, 105, 106, 107, 108, 109, 110, 111, 112, 113, 114, 115, 116, 117, 118, 119, 120, 121, 122, 123, 124, 125] ⟨(pre3 ++ [s], suf3), by rw [← hp3]; simp⟩ ?_ (keep_c (he := (by first | rfl | (simp; done))) (h := keep_n)) (slots_c (he := (by first | rfl | (congr 2; simp; done))) (h := trivial)) (.c (.c (.c (.c (.c (.c (.c (.c (.c (.c (.c (.c (.c (.c (.c (.c (.c (.c (.c (.c (.c (.c (.c (.c (.c (.c (.c (.c (.c (.c (.c (.c (.c (.c (.c (.c (.c (.c (.c (.c (.c (.c (.c (.c (.c (.c (.c (.c (.c (.c (.c (.c (.c (.c (.c (.c (.c (.c (.c (.c (.c (.c (.c (.c (.c (.c (.c (.c (.c (.c (.c (.c (.c (.c (.c (.c (.c (.c (.c (.c (.c (.c (.c (.c (.c (.c (.c (.c (.c (.c (.c (.c (.c (.c (.c (.c (.c (.c .n))))))))))))))))))))))))))))))))))))))))))))))))))))))))))))))))))))))))))))))))))))))))))))))))))
                                    skip
                                    all_goals (dsimp only; simp only [List.length_cons]; omega)
                              · first
                              | (first | omega | contradiction)
                              | refine Ev.exit ?_
                                refine hR4 _ _ ?_
                                show Ev _ _ _ _
                                refine Ev.region_S fun K hK => S.o q.add (S.o q.mv (S.end (hK _ ?_)))
                                clear hK K
                                refine hR2 _ _ ?_
                                refine roundU [] [0, 3, 25, 26, 27, 28, 42, 43, 44, 45, 46, 47, 48, 49, 50, 51, 52] ⟨(pre2 ++ [((sa, sb), sk, sc, sg)], suf2), by rw [← hp2]; simp⟩ ?_ keep_n (slots_c (he := (by first | rfl | (congr 2; simp; done))) (h := trivial)) (.c (.c (.c (.c (.c (.c (.c (.c (.c (.c (.c (.c (.c (.c (.c (.c (.c .n)))))))))))))))))
                                skip
                                all_goals (dsimp only; simp only [List.length_cons]; omega)
                            · simp only [List.length_cons] at hpl3
                              have hidx3 : l[pre3.length]? = some s := by rw [← hp3]; simp
                              obtain ⟨z, hidz⟩ : ∃ z, a[pre3.length]? = some z := ⟨_, List.getElem?_eq_getElem (by omega)⟩
                              have hsz : s = (sk, z.mark) := by
                                rw [← hl, allK, List.getElem?_map, hidz] at hidx3
                                simpa using hidx3.symm
                              have hz1 : s.1 = sk := by rw [hsz]
                              have hz2 : s.2 = z.mark := by rw [hsz]
                              refine Ev.sr fun K hK => S.o q.lss (S.end (hK _ ?_))
                              clear hK K
                              refine Ev.ud (fun c63 => ?_) (fun c63 => ?_)
                              · first
                              | (first | omega | contradiction)
                              | refine Ev.seq ?_
                                refine Ev.block ?_
                                refine Ev.sr fun K hK => S.o q.mv (S.o (q.ix am_el25 am_cl36 (hl := (by first | exact ati hidx (by omega) | exact ati hidx2 (by omega) | exact ati hng (by omega) | exact ati hidx3 (by omega) | exact ati hidz (by omega) | exact atig (by omega)))) (S.o (q.lsA [_, _] am_ag36 am_cl36) (S.nn (q.al am_ze36) (S.o q.as (S.sv [_, _] true [_] am_in36 am_cl36 (h := S.end (hK _ ?_)))))))
                                clear hK K
                                refine Ev.sm (tbs [(0, 0), (1, 1), (0, 0), (0, 0), (4, 12), (5, 28), (6, 60), (7, 127), (8, 255), (9, 511), (10, 1023), (9, 511), (12, 2559), (13, 8191), (14, 16383)]) 15 fun K hK => M.o (q.fa 1 am_fi36_1 am_cl9) (M.o (q.lv am_ag9) (M.o q.mv (M.o q.mv (M.o (q.ix am_el22 am_cl43 (hl := (by first | exact ati hidx (by omega) | exact ati hidx2 (by omega) | exact ati hng (by omega) | exact ati hidx3 (by omega) | exact ati hidz (by omega) | exact atig (by omega)))) (M.o (q.fs 0 am_fi43_0 am_cl9) (M.o (q.ls am_ag9) (M.o q.snes (M.bn q.mv (fun c64 => ?_) (fun c64 => ?_)))))))))
                                · first
                                | (first | omega | contradiction)
                                | refine M.sk (M.sk (M.sk (M.sk (M.sk (M.o q.pt (M.end [_, _] (h := S.end (hK _ ?_))))))))
                                  clear hK K
                                  refine Ev.ct ?_
                                  refine Ev.sr fun K hK => S.o q.as (S.end (hK _ ?_))
                                  clear hK K
                                  refine Ev.ret ?_
                                  refine hR4 _ _ ?_
                                  refine hR2 _ _ ?_
                                  refine Ev.ret1 ?_
                                  refine ⟨?_, rfl⟩
                                  first | rfl | (exfalso; omega) | contradiction | exact absurd hcm ‹_›
                                · first
                                | (first | omega | contradiction)
                                | refine M.o (q.fa 0 am_fi36_0 am_cl3) (M.o (q.lv am_ag3) (M.o (q.fa 2 am_fi59_2 am_cl3) (M.o (q.lv am_ag3) (M.o q.neq (M.o q.pf (M.end [_, _] (h := S.end (hK _ ?_))))))))
                                  clear hK K
                                  refine Ev.cn (fun c65 => ?_) (fun c65 => ?_)
                                  · first
                                  | (first | omega | contradiction)
                                  | refine Ev.sr fun K hK => S.o q.as (S.end (hK _ ?_))
                                    clear hK K
                                    refine Ev.ret ?_
                                    refine hR4 _ _ ?_
                                    refine hR2 _ _ ?_
                                    refine Ev.ret1 ?_
                                    refine ⟨?_, rfl⟩
                                    first | rfl | (exfalso; omega) | contradiction | exact absurd hcm ‹_›
                                  · first
                                  | (first | omega | contradiction)
                                  | refine Ev.skip ?_
                                    show Ev _ _ _ _
                                    refine Ev.region_S fun K hK => S.o q.add (S.o q.mv (S.end (hK _ ?_)))
                                    clear hK K
                                    refine hR4 _ _ ?_
                                    refine roundU [0] [0, 3, 9, 10, 11, 12, 13, 14, 15, 16, 25, 26, 27, 28, 42, 43, 44, 45, 46, 47, 48, 49, 50, 51, 52, 53, 54, 55, 56, 57, 58, 59, 60, 61, 62, 63, 64, 65, 66, 67, 68, 69, 70, 71, 72, 73, 74, 75, 76, 77, 78, 79, 80, 81, 82, 83, 84, 85, 86, 87, 88, 89, 90, 91, 92, 93, 94, 95, 96, 97, 98, 99, 100, 101, 102, 103, 104, 105, 106, 107, 108, 109, 110, 111, 112, 113, 114, 115, 116, 117, 118, 119, 120, 121, 122, 123, 124, 125] ⟨(pre3 ++ [s], suf3), by rw [← hp3]; simp⟩ ?_ (keep_c (he := (by first | rfl | (simp; done))) (h := keep_n)) (slots_c (he := (by first | rfl | (congr 2; simp; done))) (h := trivial)) (.c (.c (.c (.c (.c (.c (.c (.c (.c (.c (.c (.c (.c (.c (.c (.c (.c (.c (.c (.c (.c (.c (.c (.c (.c (.c (.c (.c (.c (.c (.c (.c (.c (.c (.c (.c (.c (.c (.c (.c (.c (.c (.c (.c (.c (.c (.c (.c (.c (.c (.c (.c (.c (.c (.c (.c (.c (.c (.c (.c (.c (.c (.c (.c (.c (.c (.c (.c (.c (.c (.c (.c (.c (.c (.c (.c (.c (.c (.c (.c (.c (.c (.c (.c (.c (.c (.c (.c (.c (.c (.c (.c (.c (.c (.c (.c (.c (.c .n))))))))))))))))))))))))))))))))))))))))))))))))))))))))))))))))))))))))))))))))))))))))))))))))))
                                    skip
                                    all_goals (dsimp only; simp only [List.length_cons]; omega)
                              · first
                              | (first | omega | contradiction)
                              | refine Ev.exit ?_
                                refine hR4 _ _ ?_
                                show Ev _ _ _ _
                                refine Ev.region_S fun K hK => S.o q.add (S.o q.mv (S.end (hK _ ?_)))
                                clear hK K
                                refine hR2 _ _ ?_
                                refine roundU [] [0, 3, 25, 26, 27, 28, 42, 43, 44, 45, 46, 47, 48, 49, 50, 51, 52] ⟨(pre2 ++ [((sa, sb), sk, sc, sg)], suf2), by rw [← hp2]; simp⟩ ?_ keep_n (slots_c (he := (by first | rfl | (congr 2; simp; done))) (h := trivial)) (.c (.c (.c (.c (.c (.c (.c (.c (.c (.c (.c (.c (.c (.c (.c (.c (.c .n)))))))))))))))))
                                skip
                                all_goals (dsimp only; simp only [List.length_cons]; omega)
          · first
          | (first | omega | contradiction)
          | refine Ev.exit ?_
            refine hR2 _ _ ?_
            show Ev _ _ _ _
            refine Ev.sr fun K hK => S.o q.as (S.end (hK _ ?_))
            clear hK K
            refine Ev.ret ?_
            refine Ev.ret1 ?_
            refine ⟨?_, rfl⟩
            first | rfl | (exfalso; omega) | contradiction | exact absurd hcm ‹_›
end Go.Proofs.Ytccddakkegelkaa
