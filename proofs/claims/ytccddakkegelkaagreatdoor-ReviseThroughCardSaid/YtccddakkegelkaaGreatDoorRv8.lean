/-
  Layer 41: the law of the changes over three schedules.
  Conditions: none.
-/
import Derived.Test.YtccddakkegelkaaGreatDoorRv2
namespace Go.Proofs.YtccddakkegelkaaGreatDoor
open Go Go.AM
set_option linter.unusedSimpArgs false
set_option linter.unusedVariables false
set_option maxRecDepth 100000
set_option maxHeartbeats 2000000

/-- What the law's walk asks. -/
structure ThruF (a c : List Bar) (l m n j : List Chg) (d : List Bar) (T : List UInt8) : Prop where
  lw : chgW l
  mw : chgW m
  jw : chgW j
  ln : l.length ≤ 16
  mn : m.length ≤ 16
  nn : n.length ≤ 16
  je : joinE l m = 0
  jn : j.length = n.length
  kind : ∀ x ∈ n, 0 ≤ chgI j x.2 ∧ j[(chgI j x.2).toNat]? = some (ofK j x.2, x.2) ∧ (ofK j x.2 = x.1 ∨ (ofK j x.2 = 2 ∧ x.1 = 1))
  av : appV a c j = d
  ae : appE a c j = 0
  d0 : okSched d
  dw : schedW d
  ds : sortedT d = T
theorem thruF {a b c d : List Bar} {l m n j : List Chg} {T : List UInt8} (hra : a.length ≤ 8) (hrb : b.length ≤ 8) (hrc : c.length ≤ 8) (ha : okSched a) (hb : okSched b) (hc : okSched c) (hwc : schedW c) (hL : cmpP a b = l) (hM : cmpP b c = m) (hN : cmpP a c = n) (hJ : joinV l m = j) (hD : appV a c j = d) (hT : sortedT c = T) : ThruF a c l m n j d T := by
  subst hL hM hN
  have hj := thru_join ha hb hc
  rw [hJ] at hj
  obtain ⟨h, he⟩ := hj
  obtain ⟨hp, h0⟩ := thru_apply ha hc h
  rw [hD] at hp
  have hd := okSched_perm hp hc
  have h1 := cmp_len a b
  have h2 := cmp_len b c
  have h3 := cmp_len a c
  exact ⟨okChgs_w (cmp_okChgs ha hb), okChgs_w (cmp_okChgs hb hc), okChgs_w h.ok, by omega, by omega, by omega, he, h.len, fun x hx => thru_kind ha hc h hx, hD, h0, hd, schedW_perm hp hwc, (sorted_perm hp hd hc).trans hT⟩
theorem thr1_fun (x y : Chg) : Fun Tryz.prog 16 [.agg (findC y), .sadr (findC x) 0] (Ret (.lit (.bool (decide (y.2 = x.2)))) []) := by
  refine Fun.of (nt := 9) (rs := [.tmp 3]) Tryz.func16 rfl rfl rfl rfl rfl ?_
  refine Ev.sr fun K hK => S.nn (q.bx [_, _] true) (S.o q.as (S.end (hK _ ?_)))
  clear hK K
  refine Ev.sr fun K hK => S.o (q.fa 1 am_fi34_1 am_cl9) (S.o (q.lv am_ag9) (S.o (q.fs 1 am_fi34_1 am_cl9) (S.o (q.ls am_ag9) (S.o q.seqs (S.o q.as (S.end (hK _ ?_)))))))
  clear hK K
  refine Ev.ret ?_
  refine Ev.ret1 ?_
  refine ⟨?_, rfl⟩
  rfl

theorem through_law (a b c : List Bar) (ha : a.length ≤ 140737488355328) (hwa : schedW a) (hb : b.length ≤ 140737488355328) (hwb : schedW b) (hc : c.length ≤ 140737488355328) (hwc : schedW c) : Fun Tryz.prog 4 [.sh 5 (a.map Bar.c), .sh 5 (b.map Bar.c), .sh 5 (c.map Bar.c)] (Ret (.lit (.bool true)) []) := by
  have hab : ∀ x ∈ [a, b, c], x.length ≤ 140737488355328 ∧ schedW x := by
    intro x hx
    simp only [List.mem_cons, List.not_mem_nil, or_false] at hx
    rcases hx with rfl | rfl | rfl
    · exact ⟨ha, hwa⟩
    · exact ⟨hb, hwb⟩
    · exact ⟨hc, hwc⟩
  refine Fun.of (nt := 124) (rs := [.tmp 6]) Tryz.func4 rfl rfl rfl rfl rfl ?_
  refine Ev.sr fun K hK => S.o q.as (S.end (hK _ ?_))
  clear hK K
  refine Ev.seq ?_
  refine Ev.sr fun K hK => S.c0 (hF := awake_fun) (h := S.o q.nott (S.end (hK _ ?_)))
  clear hK K
  refine Ev.cf ?_
  refine Ev.skip ?_
  show Ev _ _ _ _
  refine Ev.seq ?_
  refine Ev.sr fun K hK => S.o q.mv (S.o q.mv (S.o q.mv (S.nn (q.bs [[_], [_], [_]] true am_el51 am_ze22 am_cl22) ?_)))
  refine SeqL.weaken (Wk.frzl (f := barsC) [a, b, c] 25 []) ?_
  refine S.c0 (hF := right_fun [a, b, c] (by simp) hab) (h := S.o q.not (S.end (hK _ ?_)))
  clear hK K
  refine Ev.c (fun c1 => ?_) (fun c1 => ?_)
  · first
  | (first | omega | contradiction)
  | refine Ev.sr fun K hK => S.o q.as (S.end (hK _ ?_))
    clear hK K
    refine Ev.ret ?_
    refine Ev.ret1 ?_
    refine ⟨?_, rfl⟩
    first | rfl | exact lawT rfl | exact lawT (by omega) | (exfalso; omega) | contradiction | exact absurd rfl ‹_›
  · first
  | (first | omega | contradiction)
  | refine Ev.skip ?_
    show Ev _ _ _ _
    have hr := right_yes ‹_›
    obtain ⟨hra, hoa⟩ := hr a (by simp)
    obtain ⟨hrb, hob⟩ := hr b (by simp)
    obtain ⟨hrc, hoc⟩ := hr c (by simp)
    obtain ⟨l, hL⟩ : ∃ l, cmpP a b = l := ⟨_, rfl⟩
    obtain ⟨m, hM⟩ : ∃ m, cmpP b c = m := ⟨_, rfl⟩
    obtain ⟨n, hN⟩ : ∃ n, cmpP a c = n := ⟨_, rfl⟩
    obtain ⟨j, hJ⟩ : ∃ j, joinV l m = j := ⟨_, rfl⟩
    obtain ⟨d, hD⟩ : ∃ d, appV a c j = d := ⟨_, rfl⟩
    obtain ⟨T, hT⟩ : ∃ T, sortedT c = T := ⟨_, rfl⟩
    have F := thruF hra hrb hrc hoa hob hoc hwc hL hM hN hJ hD hT
    have hln := F.ln
    have hmn := F.mn
    have hnn := F.nn
    have hjn := F.jn
    refine Ev.sr fun K hK => S.o q.mv (S.o q.mv (S.c0 (hF := cmpOk_fun hL hoa hob hwa hwb) (h := S.o q.mv (S.o q.ex (S.o q.ex (S.o q.as (S.o q.as (S.end (hK _ ?_)))))))))
    clear hK K
    refine Ev.sr fun K hK => S.o q.mv (S.o q.mv (S.c0 (hF := cmpOk_fun hM hob hoc hwb hwc) (h := S.o q.mv (S.o q.ex (S.o q.ex (S.o q.as (S.o q.as (S.end (hK _ ?_)))))))))
    clear hK K
    refine Ev.sr fun K hK => S.o q.mv (S.o q.mv (S.c0 (hF := cmpOk_fun hN hoa hoc hwa hwc) (h := S.o q.mv (S.o q.ex (S.o q.ex (S.o q.as (S.o q.as (S.end (hK _ ?_)))))))))
    clear hK K
    refine Ev.sr fun K hK => S.o q.mv (S.o q.mv (S.c0 (hF := joinOk_fun hJ F.je (by omega) (by omega) F.lw F.mw) (h := S.o q.mv (S.o q.ex (S.o q.ex (S.o q.as (S.o q.as (S.end (hK _ ?_)))))))))
    clear hK K
    refine Ev.seq ?_
    refine Ev.sr fun K hK => S.o q.mv (S.o q.neq (S.bn q.mv (fun c2 => ?_) (fun c2 => ?_)))
    · first
    | (first | omega | contradiction)
    | refine S.sk (S.sk (S.o q.pt (S.o q.mv (S.sk (S.sk (S.o q.pt (S.o q.mv (S.sk (S.sk (S.o q.pt (S.o q.mv (S.sk (S.sk (S.sk (S.sk (S.sk (S.o q.pt (S.end (hK _ ?_)))))))))))))))))))
      clear hK K
      refine Ev.ct ?_
      refine Ev.sr fun K hK => S.o q.as (S.end (hK _ ?_))
      clear hK K
      refine Ev.ret ?_
      refine Ev.ret1 ?_
      refine ⟨?_, rfl⟩
      first | rfl | exact lawT rfl | exact lawT (by omega) | (exfalso; omega) | contradiction | exact absurd rfl ‹_›
    · first
    | (first | omega | contradiction)
    | refine S.o q.mv (S.o q.neq (S.o q.pf (S.bn q.mv (fun c3 => ?_) (fun c3 => ?_))))
      · first
      | (first | omega | contradiction)
      | refine S.sk (S.sk (S.o q.pt (S.o q.mv (S.sk (S.sk (S.o q.pt (S.o q.mv (S.sk (S.sk (S.sk (S.sk (S.sk (S.o q.pt (S.end (hK _ ?_)))))))))))))))
        clear hK K
        refine Ev.ct ?_
        refine Ev.sr fun K hK => S.o q.as (S.end (hK _ ?_))
        clear hK K
        refine Ev.ret ?_
        refine Ev.ret1 ?_
        refine ⟨?_, rfl⟩
        first | rfl | exact lawT rfl | exact lawT (by omega) | (exfalso; omega) | contradiction | exact absurd rfl ‹_›
      · first
      | (first | omega | contradiction)
      | refine S.o q.mv (S.o q.neq (S.o q.pf (S.bn q.mv (fun c4 => ?_) (fun c4 => ?_))))
        · first
        | (first | omega | contradiction)
        | refine S.sk (S.sk (S.o q.pt (S.o q.mv (S.sk (S.sk (S.sk (S.sk (S.sk (S.o q.pt (S.end (hK _ ?_)))))))))))
          clear hK K
          refine Ev.ct ?_
          refine Ev.sr fun K hK => S.o q.as (S.end (hK _ ?_))
          clear hK K
          refine Ev.ret ?_
          refine Ev.ret1 ?_
          refine ⟨?_, rfl⟩
          first | rfl | exact lawT rfl | exact lawT (by omega) | (exfalso; omega) | contradiction | exact absurd rfl ‹_›
        · first
        | (first | omega | contradiction)
        | refine S.o q.mv (S.o q.neq (S.o q.pf (S.bn q.mv (fun c5 => ?_) (fun c5 => ?_))))
          · first
          | (first | omega | contradiction)
          | refine S.sk (S.sk (S.sk (S.sk (S.sk (S.o q.pt (S.end (hK _ ?_)))))))
            clear hK K
            refine Ev.ct ?_
            refine Ev.sr fun K hK => S.o q.as (S.end (hK _ ?_))
            clear hK K
            refine Ev.ret ?_
            refine Ev.ret1 ?_
            refine ⟨?_, rfl⟩
            first | rfl | exact lawT rfl | exact lawT (by omega) | (exfalso; omega) | contradiction | exact absurd rfl ‹_›
          · first
          | (first | omega | contradiction)
          | refine S.o q.mv (S.o (q.lens am_el25) (S.o q.mv (S.o (q.lens am_el25) (S.o q.neq (S.o q.pf (S.end (hK _ ?_)))))))
            clear hK K
            refine Ev.cn (fun c6 => ?_) (fun c6 => ?_)
            · first
            | (first | omega | contradiction)
            | refine Ev.sr fun K hK => S.o q.as (S.end (hK _ ?_))
              clear hK K
              refine Ev.ret ?_
              refine Ev.ret1 ?_
              refine ⟨?_, rfl⟩
              first | rfl | exact lawT rfl | exact lawT (by omega) | (exfalso; omega) | contradiction | exact absurd rfl ‹_›
            · first
            | (first | omega | contradiction)
            | refine Ev.skip ?_
              show Ev _ _ _ _
              refine Ev.seq ?_
              refine Ev.sr fun K hK => S.o q.mv (S.o (q.lens am_el25) (S.o q.mv (S.end (hK _ ?_))))
              clear hK K
              refine Ev.block ?_
              refine Ev.loopU (ι := {p : List (Chg) × List (Chg) // p.1 ++ p.2 = n ∧ True}) [] [0, 2, 13, 73, 74] (fun ⟨(pre, suf), _⟩ => [(75, .lit (.int .i64 ((pre.length : Int))))]) (fun ⟨(pre, suf), _⟩ => []) (fun ⟨(pre, suf), _⟩ => suf.length) ⟨([], n), rfl, trivial⟩ (.c (.c (.c (.c (.c .n))))) keep_n (slots_c (he := (by first | rfl | (simp; done) | (congr 2; omega))) (h := trivial)) ?_
              rintro ⟨⟨pre, suf⟩, hp, hinv⟩ R0 hR0
              dsimp only [List.cons_append, List.nil_append, List.length_cons, List.length_nil]
              simp only at hp hinv
              have hpl : pre.length + suf.length = (n).length := by rw [← hp, List.length_append]
              rcases suf with _ | ⟨s, suf⟩
              · rw [List.append_nil] at hp; subst hp; simp only [List.length_nil] at hpl
                refine Ev.sr fun K hK => S.o q.lss (S.end (hK _ ?_))
                clear hK K
                refine Ev.ud (fun c7 => ?_) (fun c7 => ?_)
                · first | omega | contradiction
                · first
                | (first | omega | contradiction)
                | refine Ev.exit ?_
                  refine hR0 _ _ ?_
                  show Ev _ _ _ _
                  refine Ev.sr fun K hK => S.o q.mv (S.o q.mv (S.o q.mv (S.c0 (hF := applyOk_fun F.av F.ae hoa hoc (by omega) hwa hwc F.jw) (h := S.o q.mv (S.o q.ex (S.o q.ex (S.o q.as (S.o q.as (S.end (hK _ ?_))))))))))
                  clear hK K
                  refine Ev.sr fun K hK => S.o q.mv (S.o q.eql (S.bd q.mv (fun c8 => ?_) (fun c8 => ?_)))
                  · first
                  | (first | omega | contradiction)
                  | refine S.o q.mv (S.c0 (hF := sortedT_fun F.ds F.d0 F.dw) (h := S.o q.mv (S.c0 (hF := sortedT_fun hT hoc hwc) (h := S.o q.seqs (S.o q.pt (S.o q.as (S.end (hK _ ?_))))))))
                    clear hK K
                    refine Ev.ret ?_
                    refine Ev.ret1 ?_
                    refine ⟨?_, rfl⟩
                    first | rfl | exact lawT rfl | exact lawT (by omega) | (exfalso; omega) | contradiction | exact absurd rfl ‹_›
                  · first
                  | (first | omega | contradiction)
                  | refine S.sk (S.sk (S.sk (S.sk (S.sk (S.o q.pf (S.o q.as (S.end (hK _ ?_))))))))
                    clear hK K
                    refine Ev.ret ?_
                    refine Ev.ret1 ?_
                    refine ⟨?_, rfl⟩
                    first | rfl | exact lawT rfl | exact lawT (by omega) | (exfalso; omega) | contradiction | exact absurd rfl ‹_›
              · simp only [List.length_cons] at hpl
                have hidx : (n)[pre.length]? = some s := by rw [← hp]; simp
                obtain ⟨k0, hk1, hk2⟩ := F.kind s (by rw [← hp]; simp)
                rw [show chgI j s.2 = idxP (fun y : Chg => decide (y.2 = s.2)) j 0 from rfl] at k0 hk1
                refine Ev.sr fun K hK => S.o q.lss (S.end (hK _ ?_))
                clear hK K
                refine Ev.ud (fun c9 => ?_) (fun c9 => ?_)
                · first
                | (first | omega | contradiction)
                | refine Ev.seq ?_
                  refine Ev.block ?_
                  refine Ev.sr fun K hK => S.o (q.ix am_el25 am_cl34 (hl := (by first | exact ati hidx (by omega) | exact ati hk1 (by omega) | exact atig (by omega)))) (S.o (q.lsA [_, _] am_ag34 am_cl34) (S.nn (q.al am_ze34) (S.sv [_, _] true [] am_in34 am_cl34 (h := S.end (hK _ ?_)))))
                  clear hK K
                  refine Ev.sr fun K hK => S.o q.mv (S.o q.mf (S.c0 (hF := indexFuncChg1 _ _ (fun y : Chg => decide (y.2 = s.2)) (thr1_fun s) j (by omega)) (h := S.o q.as (S.end (hK _ ?_)))))
                  clear hK K
                  refine Ev.sm (tbs [(0, 0), (1, 1), (2, 3), (3, 7), (3, 7), (5, 31), (6, 63), (7, 127), (3, 7), (9, 263), (10, 1023), (11, 2047), (12, 4095), (12, 4095), (14, 16383), (15, 32767), (16, 65535), (17, 131071), (18, 262143), (19, 524287), (20, 1048575), (21, 2097151), (22, 4194303), (23, 8388607), (24, 16777215)]) 25 fun K hK => M.o q.mv (M.o q.lss (M.bd q.mv (fun c10 => ?_) (fun c10 => ?_)))
                  · first
                  | (first | omega | contradiction)
                  | refine M.sk (M.sk (M.sk (M.sk (M.sk (M.sk (M.sk (M.sk (M.sk (M.sk (M.sk (M.sk (M.sk (M.sk (M.sk (M.sk (M.sk (M.sk (M.sk (M.sk (M.sk (M.o q.pt (M.end [_] (h := S.end (hK _ ?_))))))))))))))))))))))))
                    clear hK K
                    refine Ev.ct ?_
                    refine Ev.sr fun K hK => S.o q.as (S.end (hK _ ?_))
                    clear hK K
                    refine Ev.ret ?_
                    refine hR0 _ _ ?_
                    refine Ev.ret1 ?_
                    refine ⟨?_, rfl⟩
                    first | rfl | exact lawT rfl | exact lawT (by omega) | (exfalso; omega) | contradiction | exact absurd rfl ‹_›
                  · first
                  | (first | omega | contradiction)
                  | refine M.o q.mv (M.o q.mv (M.o (q.ix am_el25 am_cl34 (hl := (by first | exact ati hidx (by omega) | exact ati hk1 (by omega) | exact atig (by omega)))) (M.o (q.fs 0 am_fi34_0 am_cl3) (M.o (q.ls am_ag3) (M.o (q.fa 0 am_fi34_0 am_cl3) (M.o (q.lv am_ag3) (M.o q.neq (M.bn q.mv (fun c11 => ?_) (fun c11 => ?_)))))))))
                    · first
                    | (first | omega | contradiction)
                    | refine M.o q.mv (M.o q.mv (M.o (q.ix am_el25 am_cl34 (hl := (by first | exact ati hidx (by omega) | exact ati hk1 (by omega) | exact atig (by omega)))) (M.o (q.fs 0 am_fi34_0 am_cl3) (M.o (q.ls am_ag3) (M.o q.neq (M.bn q.mv (fun c12 => ?_) (fun c12 => ?_)))))))
                      · first
                      | (first | omega | contradiction)
                      | refine M.sk (M.sk (M.sk (M.o q.pt (M.o q.pt (M.o q.pf (M.end [_] (h := S.end (hK _ ?_))))))))
                        clear hK K
                        refine Ev.ct ?_
                        refine Ev.sr fun K hK => S.o q.as (S.end (hK _ ?_))
                        clear hK K
                        refine Ev.ret ?_
                        refine hR0 _ _ ?_
                        refine Ev.ret1 ?_
                        refine ⟨?_, rfl⟩
                        first | rfl | exact lawT rfl | exact lawT (by omega) | (exfalso; omega) | contradiction | exact absurd rfl ‹_›
                      · first
                      | (first | omega | contradiction)
                      | refine M.o (q.fa 0 am_fi34_0 am_cl3) (M.o (q.lv am_ag3) (M.o q.neq (M.o q.pf (M.o q.pt (M.o q.pf (M.end [_] (h := S.end (hK _ ?_))))))))
                        clear hK K
                        refine Ev.cn (fun c13 => ?_) (fun c13 => ?_)
                        · first
                        | (first | omega | contradiction)
                        | refine Ev.sr fun K hK => S.o q.as (S.end (hK _ ?_))
                          clear hK K
                          refine Ev.ret ?_
                          refine hR0 _ _ ?_
                          refine Ev.ret1 ?_
                          refine ⟨?_, rfl⟩
                          first | rfl | exact lawT rfl | exact lawT (by omega) | (exfalso; omega) | contradiction | exact absurd rfl ‹_›
                        · first
                        | (first | omega | contradiction)
                        | refine Ev.skip ?_
                          show Ev _ _ _ _
                          refine Ev.region_S fun K hK => S.o q.add (S.o q.mv (S.end (hK _ ?_)))
                          clear hK K
                          refine hR0 _ _ ?_
                          refine roundU [] [0, 2, 13, 73, 74] ⟨(pre ++ [s], suf), by rw [← hp]; simp, ?_⟩ ?_ keep_n (slots_c (he := (by first | rfl | (simp; done) | (congr 2; omega))) (h := trivial)) (.c (.c (.c (.c (.c .n)))))
                          trivial
                          all_goals (dsimp only; simp only [List.length_cons]; omega)
                    · first
                    | (first | omega | contradiction)
                    | refine M.sk (M.sk (M.sk (M.sk (M.sk (M.sk (M.sk (M.sk (M.sk (M.sk (M.sk (M.o q.pf (M.o q.pf (M.end [_] (h := S.end (hK _ ?_)))))))))))))))
                      clear hK K
                      refine Ev.cf ?_
                      refine Ev.skip ?_
                      show Ev _ _ _ _
                      refine Ev.region_S fun K hK => S.o q.add (S.o q.mv (S.end (hK _ ?_)))
                      clear hK K
                      refine hR0 _ _ ?_
                      refine roundU [] [0, 2, 13, 73, 74] ⟨(pre ++ [s], suf), by rw [← hp]; simp, ?_⟩ ?_ keep_n (slots_c (he := (by first | rfl | (simp; done) | (congr 2; omega))) (h := trivial)) (.c (.c (.c (.c (.c .n)))))
                      trivial
                      all_goals (dsimp only; simp only [List.length_cons]; omega)
                · first | omega | contradiction
end Go.Proofs.YtccddakkegelkaaGreatDoor
