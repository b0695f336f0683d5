/-
  Layer 41: the law of the changes the other way round.
  Conditions: none.
-/
import Derived.Test.YtccddakkegelkaaRev19
import Derived.Test.YtccddakkegelkaaRev16
import Derived.Test.YtccddakkegelkaaRev14b
namespace Go.Proofs.Ytccddakkegelkaa
open Go Go.AM
set_option linter.unusedSimpArgs false
set_option linter.unusedVariables false
set_option maxRecDepth 100000
set_option maxHeartbeats 1000000

theorem cmpOk_fun {a b : List Bar} {l : List Chg} (hL : cmpP a b = l) (ha : okSched a) (hb : okSched b) (hwa : schedW a) (hwb : schedW b) : Fun Try.prog 10 [.sh 5 (a.map Bar.c), .sh 5 (b.map Bar.c)] (Ret (.tup [.sh 2 (l.map findC), .lit (.int .i64 0)]) []) := by
  have h := Compare_fun a b (by have := ha.1; omega) (by have := hb.1; omega) hwa hwb
  rw [show cmpV a b = l from (if_pos ⟨ha, hb⟩).trans hL, show cmpE a b = 0 from if_pos ⟨ha, hb⟩] at h
  exact h
theorem steelOk_fun {a b : List Bar} {x y : Int} (hx : comesP a b = x) (hy : goesP a b = y) (ha : okSched a) (hb : okSched b) (hwa : schedW a) (hwb : schedW b) : Fun Try.prog 11 [.sh 5 (a.map Bar.c), .sh 5 (b.map Bar.c)] (Ret (.tup [.lit (.int .i64 x), .lit (.int .i64 y), .lit (.int .i64 0)]) []) := by
  have h := Steel_fun a b (by have := ha.1; omega) (by have := hb.1; omega) hwa hwb
  rw [show stV a b (comesP a b) = x from (if_pos ⟨ha, hb⟩).trans hx, show stV a b (goesP a b) = y from (if_pos ⟨ha, hb⟩).trans hy, show cmpE a b = 0 from if_pos ⟨ha, hb⟩] at h
  exact h
theorem barMassOk_fun (b : Bar) (h : okBar b) : Fun Try.prog 18 [.agg b.c] (Ret (.tup [.lit (.int .i64 (barMass b)), .lit (.int .i64 0)]) []) := by
  have h1 := barMass_fun b (okBar_w h)
  rw [show okV b (barMass b) = barMass b from if_pos h, show okE b = 0 from if_pos h] at h1
  exact h1
theorem right_yes {l : List (List Bar)} (h : (!rightL l) = false) : ∀ x ∈ l, rightP x := by
  intro x hx
  by_cases hr : rightP x
  · exact hr
  · exfalso
    have hd : decide (∃ x ∈ l, (!decide (rightP x)) = true) = true := decide_eq_true ⟨x, hx, by rw [decide_eq_false hr]; rfl⟩
    rw [rightL, hd] at h
    cases h
theorem cell_turn {k : Int} (h1 : 1 ≤ k) (h2 : k ≤ 4) : ([.lit (.int .i64 0), .lit (.int .i64 1), .lit (.int .i64 2), .lit (.int .i64 4), .lit (.int .i64 3)] : List AV)[0 + k.toNat * 1]? = some (.lit (.int .i64 (turnK k))) := by
  have : k = 1 ∨ k = 2 ∨ k = 3 ∨ k = 4 := by omega
  rcases this with rfl | rfl | rfl | rfl <;> rfl
def turnM (m : List Chg) (s : Chg) : Prop := (turnK s.1, s.2) ∈ m
theorem turned_law (a b : List Bar) (ha : a.length ≤ 140737488355328) (hwa : schedW a) (hb : b.length ≤ 140737488355328) (hwb : schedW b) : Fun Try.prog 4 [.sh 5 (a.map Bar.c), .sh 5 (b.map Bar.c)] (Ret (.lit (.bool true)) []) := by
  have hab : ∀ x ∈ [a, b], x.length ≤ 140737488355328 ∧ schedW x := by
    intro x hx
    simp only [List.mem_cons, List.not_mem_nil, or_false] at hx
    rcases hx with rfl | rfl
    · exact ⟨ha, hwa⟩
    · exact ⟨hb, hwb⟩
  refine Fun.of (nt := 154) (rs := [.tmp 4]) Try.func4 rfl rfl rfl rfl rfl ?_
  refine Ev.sr fun K hK => S.o q.as (S.end (hK _ ?_))
  clear hK K
  refine Ev.seq ?_
  refine Ev.sr fun K hK => S.c0 (hF := awake_fun) (h := S.o q.nott (S.end (hK _ ?_)))
  clear hK K
  refine Ev.cf ?_
  refine Ev.skip ?_
  show Ev _ _ _ _
  refine Ev.seq ?_
  refine Ev.sr fun K hK => S.o q.mv (S.o q.mv (S.nn (q.bs [[_], [_]] true am_el65 am_ze22 am_cl22) ?_))
  refine SeqL.weaken (Wk.frzl (f := barsC) [a, b] 31 []) ?_
  refine S.c0 (hF := right_fun [a, b] (by simp) hab) (h := S.o q.not (S.end (hK _ ?_)))
  clear hK K
  refine Ev.c (fun c1 => ?_) (fun c1 => ?_)
  · first
  | (first | omega | contradiction)
  | refine Ev.sr fun K hK => S.o q.as (S.end (hK _ ?_))
    clear hK K
    refine Ev.ret ?_
    refine Ev.ret1 ?_
    refine ⟨?_, rfl⟩
    first | rfl | exact lawT (by omega) | (exfalso; omega) | contradiction | exact absurd hk3 ‹_›
  · first
  | (first | omega | contradiction)
  | refine Ev.skip ?_
    show Ev _ _ _ _
    have hr := right_yes ‹_›
    obtain ⟨hra, hoa⟩ := hr a (by simp)
    obtain ⟨hrb, hob⟩ := hr b (by simp)
    have hoa1 := hoa.2.1
    have hoa2 := hob.2.1
    obtain ⟨l, hL⟩ : ∃ l, cmpP a b = l := ⟨_, rfl⟩
    obtain ⟨m, hM⟩ : ∃ m, cmpP b a = m := ⟨_, rfl⟩
    have hlm : l.length = m.length := by rw [← hL, ← hM]; exact cmp_len_turn hoa hob
    have hll : l.length ≤ 16 := by rw [← hL]; have := cmp_len a b; omega
    have htm : ∀ c ∈ l, 1 ≤ c.1 ∧ c.1 ≤ 4 ∧ turnM m c := fun c hc => by have h := turn_mem hoa hob (hL ▸ hc); rw [hM] at h; exact h
    obtain ⟨x, hX⟩ : ∃ x, comesP a b = x := ⟨_, rfl⟩
    obtain ⟨y, hY⟩ : ∃ y, goesP a b = y := ⟨_, rfl⟩
    have hU : comesP b a = y := (comes_turn hoa).trans hY
    have hV : goesP b a = x := (comes_turn hob).symm.trans hX
    have htot : totB b - totB a = x - y := by rw [← hX, ← hY]; exact tot_turn hoa hob
    have hxb : 0 ≤ x ∧ x ≤ 100000000000 := by
      have h := massK_bd [2, 4] (cmpP b a) b hoa2
      rw [← hX, comes_turn hob]
      unfold goesP
      omega
    have hyb : 0 ≤ y ∧ y ≤ 100000000000 := by
      have h := massK_bd [2, 4] (cmpP a b) a hoa1
      rw [← hY]
      unfold goesP
      omega
    have htb0 := totB_bd b hoa2
    have hta0 := totB_bd a hoa1
    refine Ev.sr fun K hK => S.o q.mv (S.o q.mv (S.c0 (hF := cmpOk_fun hL hoa hob hwa hwb) (h := S.o q.mv (S.o q.ex (S.o q.ex (S.o q.as (S.o q.as (S.end (hK _ ?_)))))))))
    clear hK K
    refine Ev.sr fun K hK => S.o q.mv (S.o q.mv (S.c0 (hF := cmpOk_fun hM hob hoa hwb hwa) (h := S.o q.mv (S.o q.ex (S.o q.ex (S.o q.as (S.o q.as (S.end (hK _ ?_)))))))))
    clear hK K
    refine Ev.sr fun K hK => S.o q.mv (S.o q.mv (S.c0 (hF := steelOk_fun hX hY hoa hob hwa hwb) (h := S.o q.mv (S.o q.ex (S.o q.ex (S.o q.ex (S.o q.as (S.o q.as (S.o q.as (S.end (hK _ ?_)))))))))))
    clear hK K
    refine Ev.sr fun K hK => S.o q.mv (S.o q.mv (S.c0 (hF := steelOk_fun hU hV hob hoa hwb hwa) (h := S.o q.mv (S.o q.ex (S.o q.ex (S.o q.ex (S.o q.as (S.o q.as (S.o q.as (S.end (hK _ ?_)))))))))))
    clear hK K
    refine Ev.seq ?_
    refine Ev.sr fun K hK => S.o q.mv (S.o q.neq (S.bn q.mv (fun c2 => ?_) (fun c2 => ?_)))
    · first
    | (first | omega | contradiction)
    | refine S.sk (S.sk (S.o q.pt (S.o q.mv (S.sk (S.sk (S.o q.pt (S.o q.mv (S.sk (S.sk (S.o q.pt (S.o q.mv (S.sk (S.sk (S.sk (S.o q.pt (S.o q.mv (S.sk (S.sk (S.sk (S.o q.pt (S.o q.mv (S.sk (S.sk (S.sk (S.sk (S.sk (S.o q.pt (S.end (hK _ ?_)))))))))))))))))))))))))))))
      clear hK K
      refine Ev.ct ?_
      refine Ev.sr fun K hK => S.o q.as (S.end (hK _ ?_))
      clear hK K
      refine Ev.ret ?_
      refine Ev.ret1 ?_
      refine ⟨?_, rfl⟩
      first | rfl | exact lawT (by omega) | (exfalso; omega) | contradiction | exact absurd hk3 ‹_›
    · first
    | (first | omega | contradiction)
    | refine S.o q.mv (S.o q.neq (S.o q.pf (S.bn q.mv (fun c3 => ?_) (fun c3 => ?_))))
      · first
      | (first | omega | contradiction)
      | refine S.sk (S.sk (S.o q.pt (S.o q.mv (S.sk (S.sk (S.o q.pt (S.o q.mv (S.sk (S.sk (S.sk (S.o q.pt (S.o q.mv (S.sk (S.sk (S.sk (S.o q.pt (S.o q.mv (S.sk (S.sk (S.sk (S.sk (S.sk (S.o q.pt (S.end (hK _ ?_)))))))))))))))))))))))))
        clear hK K
        refine Ev.ct ?_
        refine Ev.sr fun K hK => S.o q.as (S.end (hK _ ?_))
        clear hK K
        refine Ev.ret ?_
        refine Ev.ret1 ?_
        refine ⟨?_, rfl⟩
        first | rfl | exact lawT (by omega) | (exfalso; omega) | contradiction | exact absurd hk3 ‹_›
      · first
      | (first | omega | contradiction)
      | refine S.o q.mv (S.o q.neq (S.o q.pf (S.bn q.mv (fun c4 => ?_) (fun c4 => ?_))))
        · first
        | (first | omega | contradiction)
        | refine S.sk (S.sk (S.o q.pt (S.o q.mv (S.sk (S.sk (S.sk (S.o q.pt (S.o q.mv (S.sk (S.sk (S.sk (S.o q.pt (S.o q.mv (S.sk (S.sk (S.sk (S.sk (S.sk (S.o q.pt (S.end (hK _ ?_)))))))))))))))))))))
          clear hK K
          refine Ev.ct ?_
          refine Ev.sr fun K hK => S.o q.as (S.end (hK _ ?_))
          clear hK K
          refine Ev.ret ?_
          refine Ev.ret1 ?_
          refine ⟨?_, rfl⟩
          first | rfl | exact lawT (by omega) | (exfalso; omega) | contradiction | exact absurd hk3 ‹_›
        · first
        | (first | omega | contradiction)
        | refine S.o q.mv (S.o q.neq (S.o q.pf (S.bn q.mv (fun c5 => ?_) (fun c5 => ?_))))
          · first
          | (first | omega | contradiction)
          | refine S.sk (S.sk (S.sk (S.o q.pt (S.o q.mv (S.sk (S.sk (S.sk (S.o q.pt (S.o q.mv (S.sk (S.sk (S.sk (S.sk (S.sk (S.o q.pt (S.end (hK _ ?_)))))))))))))))))
            clear hK K
            refine Ev.ct ?_
            refine Ev.sr fun K hK => S.o q.as (S.end (hK _ ?_))
            clear hK K
            refine Ev.ret ?_
            refine Ev.ret1 ?_
            refine ⟨?_, rfl⟩
            first | rfl | exact lawT (by omega) | (exfalso; omega) | contradiction | exact absurd hk3 ‹_›
          · first
          | (first | omega | contradiction)
          | refine S.o q.mv (S.o q.mv (S.o q.neq (S.o q.pf (S.bn q.mv (fun c6 => ?_) (fun c6 => ?_)))))
            · first
            | (first | omega | contradiction)
            | refine S.sk (S.sk (S.sk (S.o q.pt (S.o q.mv (S.sk (S.sk (S.sk (S.sk (S.sk (S.o q.pt (S.end (hK _ ?_))))))))))))
              clear hK K
              refine Ev.ct ?_
              refine Ev.sr fun K hK => S.o q.as (S.end (hK _ ?_))
              clear hK K
              refine Ev.ret ?_
              refine Ev.ret1 ?_
              refine ⟨?_, rfl⟩
              first | rfl | exact lawT (by omega) | (exfalso; omega) | contradiction | exact absurd hk3 ‹_›
            · first
            | (first | omega | contradiction)
            | refine S.o q.mv (S.o q.mv (S.o q.neq (S.o q.pf (S.bn q.mv (fun c7 => ?_) (fun c7 => ?_)))))
              · first
              | (first | omega | contradiction)
              | refine S.sk (S.sk (S.sk (S.sk (S.sk (S.o q.pt (S.end (hK _ ?_)))))))
                clear hK K
                refine Ev.ct ?_
                refine Ev.sr fun K hK => S.o q.as (S.end (hK _ ?_))
                clear hK K
                refine Ev.ret ?_
                refine Ev.ret1 ?_
                refine ⟨?_, rfl⟩
                first | rfl | exact lawT (by omega) | (exfalso; omega) | contradiction | exact absurd hk3 ‹_›
              · first
              | (first | omega | contradiction)
              | refine S.o q.mv (S.o (q.lens am_el25) (S.o q.mv (S.o (q.lens am_el25) (S.o q.neq (S.o q.pf (S.end (hK _ ?_)))))))
                clear hK K
                refine Ev.cn (fun c8 => ?_) (fun c8 => ?_)
                · first
                | (first | omega | contradiction)
                | refine Ev.sr fun K hK => S.o q.as (S.end (hK _ ?_))
                  clear hK K
                  refine Ev.ret ?_
                  refine Ev.ret1 ?_
                  refine ⟨?_, rfl⟩
                  first | rfl | exact lawT (by omega) | (exfalso; omega) | contradiction | exact absurd hk3 ‹_›
                · first
                | (first | omega | contradiction)
                | refine Ev.skip ?_
                  show Ev _ _ _ _
                  refine Ev.sr fun K hK => S.o (q.bda [_, _, _, _, _] am_ze39 am_pn39 am_ar39 am_cl3) (S.nn (q.al am_ze39) (S.sv [_, _, _, _, _] true [] am_in39 am_cl39 (h := S.end (hK _ ?_))))
                  clear hK K
                  refine Ev.seq ?_
                  refine Ev.sr fun K hK => S.o q.mv (S.o (q.lens am_el25) (S.o q.mv (S.end (hK _ ?_))))
                  clear hK K
                  refine Ev.block ?_
                  refine Ev.loopU (ι := {p : List (Chg) × List (Chg) // p.1 ++ p.2 = l ∧ True}) [1] [0, 1, 7, 9, 10, 15, 92, 93] (fun ⟨(pre, suf), _⟩ => [(94, .lit (.int .i64 ((pre.length : Int))))]) (fun ⟨(pre, suf), _⟩ => [(0, ⟨false, 39, 5, [[.lit (.int .i64 (0)), .lit (.int .i64 (1)), .lit (.int .i64 (2)), .lit (.int .i64 (4)), .lit (.int .i64 (3))]], true⟩)]) (fun ⟨(pre, suf), _⟩ => suf.length) ⟨([], l), rfl, trivial⟩ (.c (.c (.c (.c (.c (.c (.c (.c .n)))))))) (keep_c (he := (by first | rfl | (simp; done))) (h := keep_n)) (slots_c (he := (by first | rfl | (simp; done) | (congr 2; omega))) (h := trivial)) ?_
                  rintro ⟨⟨pre, suf⟩, hp, hinv⟩ R0 hR0
                  dsimp only [List.cons_append, List.nil_append, List.length_cons, List.length_nil]
                  simp only at hp hinv
                  have hpl : pre.length + suf.length = (l).length := by rw [← hp, List.length_append]
                  rcases suf with _ | ⟨s, suf⟩
                  · rw [List.append_nil] at hp; subst hp; simp only [List.length_nil] at hpl
                    refine Ev.sr fun K hK => S.o q.lss (S.end (hK _ ?_))
                    clear hK K
                    refine Ev.ud (fun c9 => ?_) (fun c9 => ?_)
                    · first
                    | (first | omega | contradiction)
                    | refine Ev.seq ?_
                      refine Ev.block ?_
                      refine Ev.sr fun K hK => S.o (q.ix am_el25 am_cl36 (hl := (by first | exact atig (by omega)))) (S.o (q.lsA [_, _] am_ag36 am_cl36) (S.nn (q.al am_ze36) (S.sv [_, _] true [_] am_in36 am_cl36 (h := S.end (hK _ ?_)))))
                      clear hK K
                      refine Ev.sm (tbs [(0, 0), (1, 1), (2, 3), (3, 7), (4, 15), (5, 31), (6, 63), (7, 127), (8, 255), (9, 511), (9, 511), (11, 1535), (12, 3583), (13, 7679), (9, 511), (15, 16895), (16, 65023), (17, 131071), (18, 262143), (19, 524287)]) 20 fun K hK => M.o (q.fa 0 am_fi36_0 am_cl3) (M.o (q.lv am_ag3) (M.o q.lss (M.bd q.mv (fun c10 => ?_) (fun c10 => ?_))))
                      · first
                      | (first | omega | contradiction)
                      | refine M.sk (M.sk (M.sk (M.o q.pt (M.o q.mv (M.sk (M.sk (M.sk (M.sk (M.sk (M.sk (M.sk (M.sk (M.sk (M.sk (M.o q.pt (M.end [_, _] (h := S.end (hK _ ?_))))))))))))))))))
                        clear hK K
                        refine Ev.ct ?_
                        refine Ev.sr fun K hK => S.o q.as (S.end (hK _ ?_))
                        clear hK K
                        refine Ev.ret ?_
                        refine hR0 _ _ ?_
                        refine Ev.ret1 ?_
                        refine ⟨?_, rfl⟩
                        first | rfl | exact lawT (by omega) | (exfalso; omega) | contradiction | exact absurd hk3 ‹_›
                      · first
                      | (first | omega | contradiction)
                      | refine M.o (q.fa 0 am_fi36_0 am_cl3) (M.o (q.lv am_ag3) (M.o q.gtr (M.o q.pf (M.bd q.mv (fun c11 => ?_) (fun c11 => ?_)))))
                        · first
                        | (first | omega | contradiction)
                        | refine M.sk (M.sk (M.sk (M.sk (M.sk (M.sk (M.sk (M.sk (M.sk (M.sk (M.o q.pt (M.end [_, _] (h := S.end (hK _ ?_)))))))))))))
                          clear hK K
                          refine Ev.ct ?_
                          refine Ev.sr fun K hK => S.o q.as (S.end (hK _ ?_))
                          clear hK K
                          refine Ev.ret ?_
                          refine hR0 _ _ ?_
                          refine Ev.ret1 ?_
                          refine ⟨?_, rfl⟩
                          first | rfl | exact lawT (by omega) | (exfalso; omega) | contradiction | exact absurd hk3 ‹_›
                        · first
                        | (first | omega | contradiction)
                        | refine M.o q.mv (M.o (q.fa 0 am_fi36_0 am_cl3) (M.o (q.lv am_ag3) (M.o (q.iaa am_el39 am_ar39 am_cl3) (M.o (q.lvc (.lit (.int .i64 (turnK s.1))) (hc := cell_turn hk1 hk2) am_ag3) (M.o (q.fa 1 am_fi36_1 am_cl9) (M.o (q.lv am_ag9) (M.o (q.bd [_, _] am_ze36 am_pl36) (M.c0 (hF := containsChg_fun m (turnK s.1, s.2) (by omega)) (h := M.o q.not (M.o q.pf (M.end [_, _] (h := S.end (hK _ ?_)))))))))))))
                          clear hK K
                          refine Ev.cn (fun c12 => ?_) (fun c12 => ?_)
                          · first
                          | (first | omega | contradiction)
                          | refine Ev.sr fun K hK => S.o q.as (S.end (hK _ ?_))
                            clear hK K
                            refine Ev.ret ?_
                            refine hR0 _ _ ?_
                            refine Ev.ret1 ?_
                            refine ⟨?_, rfl⟩
                            first | rfl | exact lawT (by omega) | (exfalso; omega) | contradiction | exact absurd hk3 ‹_›
                          · first
                          | (first | omega | contradiction)
                          | refine Ev.skip ?_
                            show Ev _ _ _ _
                            refine Ev.region_S fun K hK => S.o q.add (S.o q.mv (S.end (hK _ ?_)))
                            clear hK K
                            refine hR0 _ _ ?_
                            refine roundU [0] [0, 1, 7, 9, 10, 15, 92, 93] ⟨(pre ++ [s], suf), by rw [← hp]; simp, ?_⟩ ?_ (keep_c (he := (by first | rfl | (simp; done))) (h := keep_n)) (slots_c (he := (by first | rfl | (simp; done) | (congr 2; omega))) (h := trivial)) (.c (.c (.c (.c (.c (.c (.c (.c .n))))))))
                            trivial
                            all_goals (dsimp only; simp only [List.length_cons]; omega)
                    · first
                    | (first | omega | contradiction)
                    | refine Ev.exit ?_
                      refine hR0 _ _ ?_
                      show Ev _ _ _ _
                      refine Ev.sr fun K hK => S.o q.as (S.end (hK _ ?_))
                      clear hK K
                      refine Ev.seq ?_
                      refine Ev.sr fun K hK => S.o q.mv (S.o (q.lens am_el22) (S.o q.mv (S.end (hK _ ?_))))
                      clear hK K
                      refine Ev.block ?_
                      refine Ev.loopU (ι := {q : List Bar × List Bar // q.1 ++ q.2 = b}) [0] [0, 1, 7, 9, 10, 15, 92, 93, 94, 95, 119, 120] (fun ⟨(pre2, suf2), _⟩ => [(121, .lit (.int .i64 ((pre2.length : Int)))), (18, .lit (.int .i64 (totB pre2)))]) (fun ⟨(pre2, suf2), _⟩ => [(0, ⟨false, 39, 5, [[.lit (.int .i64 (0)), .lit (.int .i64 (1)), .lit (.int .i64 (2)), .lit (.int .i64 (4)), .lit (.int .i64 (3))]], true⟩)]) (fun ⟨(pre2, suf2), _⟩ => suf2.length) ⟨([], b), rfl⟩ (.c (.c (.c (.c (.c (.c (.c (.c (.c (.c (.c (.c .n)))))))))))) (keep_c (he := (by first | rfl | (simp; done))) (h := keep_n)) (slots_c (he := (by first | rfl | (congr 2; simp; done))) (h := (slots_c (he := (by first | rfl | exact iE (totB_snoc _ _).symm)) (h := trivial)))) ?_
                      rintro ⟨⟨pre2, suf2⟩, hp2⟩ R2 hR2
                      dsimp only [List.cons_append, List.nil_append, List.length_cons, List.length_nil]
                      simp only at hp2
                      have hpl2 : pre2.length + suf2.length = b.length := by rw [← hp2, List.length_append]
                      rcases suf2 with _ | ⟨s, suf2⟩
                      · rw [List.append_nil] at hp2; simp only [List.length_nil] at hpl2
                        have hfin2 : totB pre2 = totB b := by rw [hp2]
                        refine Ev.sr fun K hK => S.o q.lss (S.end (hK _ ?_))
                        clear hK K
                        refine Ev.ud (fun c13 => ?_) (fun c13 => ?_)
                        · first
                        | (first | omega | contradiction)
                        | refine Ev.seq ?_
                          refine Ev.block ?_
                          refine Ev.sr fun K hK => S.o (q.ix am_el22 am_cl43 (hl := (by first | exact atig (by omega)))) (S.o (q.lsA [_, _, _, _, _] am_ag43 am_cl43) (S.nn (q.al am_ze43) (S.sv [_, _, _, _, _] true [_] am_in43 am_cl43 (h := S.end (hK _ ?_)))))
                          clear hK K
                          refine Ev.sr fun K hK => S.o (q.lvA [_, _, _, _, _] am_ag43 am_cl43) (S.c0 (hF := barMassOk_fun s hsok) (h := S.o q.mv (S.o q.ex (S.o q.ex (S.o q.as (S.o q.as (S.end (hK _ ?_))))))))
                          clear hK K
                          refine Ev.region_S fun K hK => S.o q.mv (S.o q.mv (S.o q.add (S.o q.as (S.end (hK _ ?_)))))
                          clear hK K
                          show Ev _ _ _ _
                          refine Ev.region_S fun K hK => S.o q.add (S.o q.mv (S.end (hK _ ?_)))
                          clear hK K
                          refine hR2 _ _ ?_
                          refine roundU [0] [0, 1, 7, 9, 10, 15, 92, 93, 94, 95, 119, 120] ⟨(pre2 ++ [s], suf2), by rw [← hp2]; simp⟩ ?_ (keep_c (he := (by first | rfl | (simp; done))) (h := keep_n)) (slots_c (he := (by first | rfl | (congr 2; simp; done))) (h := (slots_c (he := (by first | rfl | exact iE (totB_snoc _ _).symm)) (h := trivial)))) (.c (.c (.c (.c (.c (.c (.c (.c (.c (.c (.c (.c .n))))))))))))
                          skip
                          all_goals (dsimp only; simp only [List.length_cons]; omega)
                        · first
                        | (first | omega | contradiction)
                        | refine Ev.exit ?_
                          refine hR2 _ _ ?_
                          show Ev _ _ _ _
                          refine Ev.seq ?_
                          refine Ev.sr fun K hK => S.o q.mv (S.o (q.lens am_el22) (S.o q.mv (S.end (hK _ ?_))))
                          clear hK K
                          refine Ev.block ?_
                          refine Ev.loopU (ι := {q : List Bar × List Bar // q.1 ++ q.2 = a}) [0] [0, 1, 7, 9, 10, 15, 92, 93, 94, 95, 119, 120, 121, 122, 134, 135] (fun ⟨(pre3, suf3), _⟩ => [(136, .lit (.int .i64 ((pre3.length : Int)))), (18, .lit (.int .i64 (totB b - totB pre3)))]) (fun ⟨(pre3, suf3), _⟩ => [(0, ⟨false, 39, 5, [[.lit (.int .i64 (0)), .lit (.int .i64 (1)), .lit (.int .i64 (2)), .lit (.int .i64 (4)), .lit (.int .i64 (3))]], true⟩)]) (fun ⟨(pre3, suf3), _⟩ => suf3.length) ⟨([], a), rfl⟩ (.c (.c (.c (.c (.c (.c (.c (.c (.c (.c (.c (.c (.c (.c (.c (.c .n)))))))))))))))) (keep_c (he := (by first | rfl | (simp; done))) (h := keep_n)) (slots_c (he := (by first | rfl | (congr 2; simp; done))) (h := (slots_c (he := (by first | rfl | exact iE (by rw [totB_snoc]; omega) | exact iE (by rw [show totB ([] : List Bar) = 0 from rfl]; omega))) (h := trivial)))) ?_
                          rintro ⟨⟨pre3, suf3⟩, hp3⟩ R4 hR4
                          dsimp only [List.cons_append, List.nil_append, List.length_cons, List.length_nil]
                          simp only at hp3
                          have hpl3 : pre3.length + suf3.length = a.length := by rw [← hp3, List.length_append]
                          rcases suf3 with _ | ⟨s, suf3⟩
                          · rw [List.append_nil] at hp3; simp only [List.length_nil] at hpl3
                            have hfin3 : totB pre3 = totB a := by rw [hp3]
                            refine Ev.sr fun K hK => S.o q.lss (S.end (hK _ ?_))
                            clear hK K
                            refine Ev.ud (fun c14 => ?_) (fun c14 => ?_)
                            · first
                            | (first | omega | contradiction)
                            | refine Ev.seq ?_
                              refine Ev.block ?_
                              refine Ev.sr fun K hK => S.o (q.ix am_el22 am_cl43 (hl := (by first | exact atig (by omega)))) (S.o (q.lsA [_, _, _, _, _] am_ag43 am_cl43) (S.nn (q.al am_ze43) (S.sv [_, _, _, _, _] true [_] am_in43 am_cl43 (h := S.end (hK _ ?_)))))
                              clear hK K
                              refine Ev.sr fun K hK => S.o (q.lvA [_, _, _, _, _] am_ag43 am_cl43) (S.c0 (hF := barMassOk_fun s hsok) (h := S.o q.mv (S.o q.ex (S.o q.ex (S.o q.as (S.o q.as (S.end (hK _ ?_))))))))
                              clear hK K
                              refine Ev.region_S fun K hK => S.o q.mv (S.o q.mv (S.o q.sub (S.o q.as (S.end (hK _ ?_)))))
                              clear hK K
                              show Ev _ _ _ _
                              refine Ev.region_S fun K hK => S.o q.add (S.o q.mv (S.end (hK _ ?_)))
                              clear hK K
                              refine hR4 _ _ ?_
                              refine roundU [0] [0, 1, 7, 9, 10, 15, 92, 93, 94, 95, 119, 120, 121, 122, 134, 135] ⟨(pre3 ++ [s], suf3), by rw [← hp3]; simp⟩ ?_ (keep_c (he := (by first | rfl | (simp; done))) (h := keep_n)) (slots_c (he := (by first | rfl | (congr 2; simp; done))) (h := (slots_c (he := (by first | rfl | exact iE (by rw [totB_snoc]; omega) | exact iE (by rw [show totB ([] : List Bar) = 0 from rfl]; omega))) (h := trivial)))) (.c (.c (.c (.c (.c (.c (.c (.c (.c (.c (.c (.c (.c (.c (.c (.c .n))))))))))))))))
                              skip
                              all_goals (dsimp only; simp only [List.length_cons]; omega)
                            · first
                            | (first | omega | contradiction)
                            | refine Ev.exit ?_
                              refine hR4 _ _ ?_
                              show Ev _ _ _ _
                              refine Ev.sr fun K hK => S.o q.mv (S.o q.mv (S.o q.mv (S.o q.sub (S.o q.eql (S.o q.as (S.end (hK _ ?_)))))))
                              clear hK K
                              refine Ev.ret ?_
                              refine Ev.ret1 ?_
                              refine ⟨?_, rfl⟩
                              first | rfl | exact lawT (by omega) | (exfalso; omega) | contradiction | exact absurd hk3 ‹_›
                          · simp only [List.length_cons] at hpl3
                            have hidx3 : a[pre3.length]? = some s := by rw [← hp3]; simp
                            have hsok : okBar s := hoa1 s (by rw [← hp3]; simp)
                            obtain ⟨_, _, g3, g4⟩ := barMass_bd hsok
                            have ht := totB_bd pre3 (fun x hx => hoa1 x (by rw [← hp3]; simp [hx]))
                            have htb := totB_bd b hoa2
                            refine Ev.sr fun K hK => S.o q.lss (S.end (hK _ ?_))
                            clear hK K
                            refine Ev.ud (fun c15 => ?_) (fun c15 => ?_)
                            · first
                            | (first | omega | contradiction)
                            | refine Ev.seq ?_
                              refine Ev.block ?_
                              refine Ev.sr fun K hK => S.o (q.ix am_el22 am_cl43 (hl := (by first | exact ati hidx3 (by omega) | exact atig (by omega)))) (S.o (q.lsA [_, _, _, _, _] am_ag43 am_cl43) (S.nn (q.al am_ze43) (S.sv [_, _, _, _, _] true [_] am_in43 am_cl43 (h := S.end (hK _ ?_)))))
                              clear hK K
                              refine Ev.sr fun K hK => S.o (q.lvA [_, _, _, _, _] am_ag43 am_cl43) (S.c0 (hF := barMassOk_fun s hsok) (h := S.o q.mv (S.o q.ex (S.o q.ex (S.o q.as (S.o q.as (S.end (hK _ ?_))))))))
                              clear hK K
                              refine Ev.region_S fun K hK => S.o q.mv (S.o q.mv (S.o q.sub (S.o q.as (S.end (hK _ ?_)))))
                              clear hK K
                              show Ev _ _ _ _
                              refine Ev.region_S fun K hK => S.o q.add (S.o q.mv (S.end (hK _ ?_)))
                              clear hK K
                              refine hR4 _ _ ?_
                              refine roundU [0] [0, 1, 7, 9, 10, 15, 92, 93, 94, 95, 119, 120, 121, 122, 134, 135] ⟨(pre3 ++ [s], suf3), by rw [← hp3]; simp⟩ ?_ (keep_c (he := (by first | rfl | (simp; done))) (h := keep_n)) (slots_c (he := (by first | rfl | (congr 2; simp; done))) (h := (slots_c (he := (by first | rfl | exact iE (by rw [totB_snoc]; omega) | exact iE (by rw [show totB ([] : List Bar) = 0 from rfl]; omega))) (h := trivial)))) (.c (.c (.c (.c (.c (.c (.c (.c (.c (.c (.c (.c (.c (.c (.c (.c .n))))))))))))))))
                              skip
                              all_goals (dsimp only; simp only [List.length_cons]; omega)
                            · first
                            | (first | omega | contradiction)
                            | refine Ev.exit ?_
                              refine hR4 _ _ ?_
                              show Ev _ _ _ _
                              refine Ev.sr fun K hK => S.o q.mv (S.o q.mv (S.o q.mv (S.o q.sub (S.o q.eql (S.o q.as (S.end (hK _ ?_)))))))
                              clear hK K
                              refine Ev.ret ?_
                              refine Ev.ret1 ?_
                              refine ⟨?_, rfl⟩
                              first | rfl | exact lawT (by omega) | (exfalso; omega) | contradiction | exact absurd hk3 ‹_›
                      · simp only [List.length_cons] at hpl2
                        have hidx2 : b[pre2.length]? = some s := by rw [← hp2]; simp
                        have hsok : okBar s := hoa2 s (by rw [← hp2]; simp)
                        obtain ⟨_, _, g3, g4⟩ := barMass_bd hsok
                        have ht := totB_bd pre2 (fun x hx => hoa2 x (by rw [← hp2]; simp [hx]))
                        refine Ev.sr fun K hK => S.o q.lss (S.end (hK _ ?_))
                        clear hK K
                        refine Ev.ud (fun c16 => ?_) (fun c16 => ?_)
                        · first
                        | (first | omega | contradiction)
                        | refine Ev.seq ?_
                          refine Ev.block ?_
                          refine Ev.sr fun K hK => S.o (q.ix am_el22 am_cl43 (hl := (by first | exact ati hidx2 (by omega) | exact atig (by omega)))) (S.o (q.lsA [_, _, _, _, _] am_ag43 am_cl43) (S.nn (q.al am_ze43) (S.sv [_, _, _, _, _] true [_] am_in43 am_cl43 (h := S.end (hK _ ?_)))))
                          clear hK K
                          refine Ev.sr fun K hK => S.o (q.lvA [_, _, _, _, _] am_ag43 am_cl43) (S.c0 (hF := barMassOk_fun s hsok) (h := S.o q.mv (S.o q.ex (S.o q.ex (S.o q.as (S.o q.as (S.end (hK _ ?_))))))))
                          clear hK K
                          refine Ev.region_S fun K hK => S.o q.mv (S.o q.mv (S.o q.add (S.o q.as (S.end (hK _ ?_)))))
                          clear hK K
                          show Ev _ _ _ _
                          refine Ev.region_S fun K hK => S.o q.add (S.o q.mv (S.end (hK _ ?_)))
                          clear hK K
                          refine hR2 _ _ ?_
                          refine roundU [0] [0, 1, 7, 9, 10, 15, 92, 93, 94, 95, 119, 120] ⟨(pre2 ++ [s], suf2), by rw [← hp2]; simp⟩ ?_ (keep_c (he := (by first | rfl | (simp; done))) (h := keep_n)) (slots_c (he := (by first | rfl | (congr 2; simp; done))) (h := (slots_c (he := (by first | rfl | exact iE (totB_snoc _ _).symm)) (h := trivial)))) (.c (.c (.c (.c (.c (.c (.c (.c (.c (.c (.c (.c .n))))))))))))
                          skip
                          all_goals (dsimp only; simp only [List.length_cons]; omega)
                        · first
                        | (first | omega | contradiction)
                        | refine Ev.exit ?_
                          refine hR2 _ _ ?_
                          show Ev _ _ _ _
                          refine Ev.seq ?_
                          refine Ev.sr fun K hK => S.o q.mv (S.o (q.lens am_el22) (S.o q.mv (S.end (hK _ ?_))))
                          clear hK K
                          refine Ev.block ?_
                          refine Ev.loopU (ι := {q : List Bar × List Bar // q.1 ++ q.2 = a}) [0] [0, 1, 7, 9, 10, 15, 92, 93, 94, 95, 119, 120, 121, 122, 134, 135] (fun ⟨(pre3, suf3), _⟩ => [(136, .lit (.int .i64 ((pre3.length : Int)))), (18, .lit (.int .i64 (totB b - totB pre3)))]) (fun ⟨(pre3, suf3), _⟩ => [(0, ⟨false, 39, 5, [[.lit (.int .i64 (0)), .lit (.int .i64 (1)), .lit (.int .i64 (2)), .lit (.int .i64 (4)), .lit (.int .i64 (3))]], true⟩)]) (fun ⟨(pre3, suf3), _⟩ => suf3.length) ⟨([], a), rfl⟩ (.c (.c (.c (.c (.c (.c (.c (.c (.c (.c (.c (.c (.c (.c (.c (.c .n)))))))))))))))) (keep_c (he := (by first | rfl | (simp; done))) (h := keep_n)) (slots_c (he := (by first | rfl | (congr 2; simp; done))) (h := (slots_c (he := (by first | rfl | exact iE (by rw [totB_snoc]; omega) | exact iE (by rw [show totB ([] : List Bar) = 0 from rfl]; omega))) (h := trivial)))) ?_
                          rintro ⟨⟨pre3, suf3⟩, hp3⟩ R4 hR4
                          dsimp only [List.cons_append, List.nil_append, List.length_cons, List.length_nil]
                          simp only at hp3
                          have hpl3 : pre3.length + suf3.length = a.length := by rw [← hp3, List.length_append]
                          rcases suf3 with _ | ⟨s, suf3⟩
                          · rw [List.append_nil] at hp3; simp only [List.length_nil] at hpl3
                            have hfin3 : totB pre3 = totB a := by rw [hp3]
                            refine Ev.sr fun K hK => S.o q.lss (S.end (hK _ ?_))
                            clear hK K
                            refine Ev.ud (fun c17 => ?_) (fun c17 => ?_)
                            · first
                            | (first | omega | contradiction)
                            | refine Ev.seq ?_
                              refine Ev.block ?_
                              refine Ev.sr fun K hK => S.o (q.ix am_el22 am_cl43 (hl := (by first | exact ati hidx2 (by omega) | exact atig (by omega)))) (S.o (q.lsA [_, _, _, _, _] am_ag43 am_cl43) (S.nn (q.al am_ze43) (S.sv [_, _, _, _, _] true [_] am_in43 am_cl43 (h := S.end (hK _ ?_)))))
                              clear hK K
                              refine Ev.sr fun K hK => S.o (q.lvA [_, _, _, _, _] am_ag43 am_cl43) (S.c0 (hF := barMassOk_fun s hsok) (h := S.o q.mv (S.o q.ex (S.o q.ex (S.o q.as (S.o q.as (S.end (hK _ ?_))))))))
                              clear hK K
                              refine Ev.region_S fun K hK => S.o q.mv (S.o q.mv (S.o q.sub (S.o q.as (S.end (hK _ ?_)))))
                              clear hK K
                              show Ev _ _ _ _
                              refine Ev.region_S fun K hK => S.o q.add (S.o q.mv (S.end (hK _ ?_)))
                              clear hK K
                              refine hR4 _ _ ?_
                              refine roundU [0] [0, 1, 7, 9, 10, 15, 92, 93, 94, 95, 119, 120, 121, 122, 134, 135] ⟨(pre3 ++ [s], suf3), by rw [← hp3]; simp⟩ ?_ (keep_c (he := (by first | rfl | (simp; done))) (h := keep_n)) (slots_c (he := (by first | rfl | (congr 2; simp; done))) (h := (slots_c (he := (by first | rfl | exact iE (by rw [totB_snoc]; omega) | exact iE (by rw [show totB ([] : List Bar) = 0 from rfl]; omega))) (h := trivial)))) (.c (.c (.c (.c (.c (.c (.c (.c (.c (.c (.c (.c (.c (.c (.c (.c .n))))))))))))))))
                              skip
                              all_goals (dsimp only; simp only [List.length_cons]; omega)
                            · first
                            | (first | omega | contradiction)
                            | refine Ev.exit ?_
                              refine hR4 _ _ ?_
                              show Ev _ _ _ _
                              refine Ev.sr fun K hK => S.o q.mv (S.o q.mv (S.o q.mv (S.o q.sub (S.o q.eql (S.o q.as (S.end (hK _ ?_)))))))
                              clear hK K
                              refine Ev.ret ?_
                              refine Ev.ret1 ?_
                              refine ⟨?_, rfl⟩
                              first | rfl | exact lawT (by omega) | (exfalso; omega) | contradiction | exact absurd hk3 ‹_›
                          · simp only [List.length_cons] at hpl3
                            have hidx3 : a[pre3.length]? = some s := by rw [← hp3]; simp
                            have hsok : okBar s := hoa1 s (by rw [← hp3]; simp)
                            obtain ⟨_, _, g3, g4⟩ := barMass_bd hsok
                            have ht := totB_bd pre3 (fun x hx => hoa1 x (by rw [← hp3]; simp [hx]))
                            have htb := totB_bd b hoa2
                            refine Ev.sr fun K hK => S.o q.lss (S.end (hK _ ?_))
                            clear hK K
                            refine Ev.ud (fun c18 => ?_) (fun c18 => ?_)
                            · first
                            | (first | omega | contradiction)
                            | refine Ev.seq ?_
                              refine Ev.block ?_
                              refine Ev.sr fun K hK => S.o (q.ix am_el22 am_cl43 (hl := (by first | exact ati hidx2 (by omega) | exact ati hidx3 (by omega) | exact atig (by omega)))) (S.o (q.lsA [_, _, _, _, _] am_ag43 am_cl43) (S.nn (q.al am_ze43) (S.sv [_, _, _, _, _] true [_] am_in43 am_cl43 (h := S.end (hK _ ?_)))))
                              clear hK K
                              refine Ev.sr fun K hK => S.o (q.lvA [_, _, _, _, _] am_ag43 am_cl43) (S.c0 (hF := barMassOk_fun s hsok) (h := S.o q.mv (S.o q.ex (S.o q.ex (S.o q.as (S.o q.as (S.end (hK _ ?_))))))))
                              clear hK K
                              refine Ev.region_S fun K hK => S.o q.mv (S.o q.mv (S.o q.sub (S.o q.as (S.end (hK _ ?_)))))
                              clear hK K
                              show Ev _ _ _ _
                              refine Ev.region_S fun K hK => S.o q.add (S.o q.mv (S.end (hK _ ?_)))
                              clear hK K
                              refine hR4 _ _ ?_
                              refine roundU [0] [0, 1, 7, 9, 10, 15, 92, 93, 94, 95, 119, 120, 121, 122, 134, 135] ⟨(pre3 ++ [s], suf3), by rw [← hp3]; simp⟩ ?_ (keep_c (he := (by first | rfl | (simp; done))) (h := keep_n)) (slots_c (he := (by first | rfl | (congr 2; simp; done))) (h := (slots_c (he := (by first | rfl | exact iE (by rw [totB_snoc]; omega) | exact iE (by rw [show totB ([] : List Bar) = 0 from rfl]; omega))) (h := trivial)))) (.c (.c (.c (.c (.c (.c (.c (.c (.c (.c (.c (.c (.c (.c (.c (.c .n))))))))))))))))
                              skip
                              all_goals (dsimp only; simp only [List.length_cons]; omega)
                            · first
                            | (first | omega | contradiction)
                            | refine Ev.exit ?_
                              refine hR4 _ _ ?_
                              show Ev _ _ _ _
                              refine Ev.sr fun K hK => S.o q.mv (S.o q.mv (S.o q.mv (S.o q.sub (S.o q.eql (S.o q.as (S.end (hK _ ?_)))))))
                              clear hK K
                              refine Ev.ret ?_
                              refine Ev.ret1 ?_
                              refine ⟨?_, rfl⟩
                              first | rfl | exact lawT (by omega) | (exfalso; omega) | contradiction | exact absurd hk3 ‹_›
                  · simp only [List.length_cons] at hpl
                    have hidx : (l)[pre.length]? = some s := by rw [← hp]; simp
                    obtain ⟨hk1, hk2, hk3⟩ := htm s (by rw [← hp]; simp)
                    refine Ev.sr fun K hK => S.o q.lss (S.end (hK _ ?_))
                    clear hK K
                    refine Ev.ud (fun c19 => ?_) (fun c19 => ?_)
                    · first
                    | (first | omega | contradiction)
                    | refine Ev.seq ?_
                      refine Ev.block ?_
                      refine Ev.sr fun K hK => S.o (q.ix am_el25 am_cl36 (hl := (by first | exact ati hidx (by omega) | exact atig (by omega)))) (S.o (q.lsA [_, _] am_ag36 am_cl36) (S.nn (q.al am_ze36) (S.sv [_, _] true [_] am_in36 am_cl36 (h := S.end (hK _ ?_)))))
                      clear hK K
                      refine Ev.sm (tbs [(0, 0), (1, 1), (2, 3), (3, 7), (4, 15), (5, 31), (6, 63), (7, 127), (8, 255), (9, 511), (9, 511), (11, 1535), (12, 3583), (13, 7679), (9, 511), (15, 16895), (16, 65023), (17, 131071), (18, 262143), (19, 524287)]) 20 fun K hK => M.o (q.fa 0 am_fi36_0 am_cl3) (M.o (q.lv am_ag3) (M.o q.lss (M.bd q.mv (fun c20 => ?_) (fun c20 => ?_))))
                      · first
                      | (first | omega | contradiction)
                      | refine M.sk (M.sk (M.sk (M.o q.pt (M.o q.mv (M.sk (M.sk (M.sk (M.sk (M.sk (M.sk (M.sk (M.sk (M.sk (M.sk (M.o q.pt (M.end [_, _] (h := S.end (hK _ ?_))))))))))))))))))
                        clear hK K
                        refine Ev.ct ?_
                        refine Ev.sr fun K hK => S.o q.as (S.end (hK _ ?_))
                        clear hK K
                        refine Ev.ret ?_
                        refine hR0 _ _ ?_
                        refine Ev.ret1 ?_
                        refine ⟨?_, rfl⟩
                        first | rfl | exact lawT (by omega) | (exfalso; omega) | contradiction | exact absurd hk3 ‹_›
                      · first
                      | (first | omega | contradiction)
                      | refine M.o (q.fa 0 am_fi36_0 am_cl3) (M.o (q.lv am_ag3) (M.o q.gtr (M.o q.pf (M.bd q.mv (fun c21 => ?_) (fun c21 => ?_)))))
                        · first
                        | (first | omega | contradiction)
                        | refine M.sk (M.sk (M.sk (M.sk (M.sk (M.sk (M.sk (M.sk (M.sk (M.sk (M.o q.pt (M.end [_, _] (h := S.end (hK _ ?_)))))))))))))
                          clear hK K
                          refine Ev.ct ?_
                          refine Ev.sr fun K hK => S.o q.as (S.end (hK _ ?_))
                          clear hK K
                          refine Ev.ret ?_
                          refine hR0 _ _ ?_
                          refine Ev.ret1 ?_
                          refine ⟨?_, rfl⟩
                          first | rfl | exact lawT (by omega) | (exfalso; omega) | contradiction | exact absurd hk3 ‹_›
                        · first
                        | (first | omega | contradiction)
                        | refine M.o q.mv (M.o (q.fa 0 am_fi36_0 am_cl3) (M.o (q.lv am_ag3) (M.o (q.iaa am_el39 am_ar39 am_cl3) (M.o (q.lvc (.lit (.int .i64 (turnK s.1))) (hc := cell_turn hk1 hk2) am_ag3) (M.o (q.fa 1 am_fi36_1 am_cl9) (M.o (q.lv am_ag9) (M.o (q.bd [_, _] am_ze36 am_pl36) (M.c0 (hF := containsChg_fun m (turnK s.1, s.2) (by omega)) (h := M.o q.not (M.o q.pf (M.end [_, _] (h := S.end (hK _ ?_)))))))))))))
                          clear hK K
                          refine Ev.cn (fun c22 => ?_) (fun c22 => ?_)
                          · first
                          | (first | omega | contradiction)
                          | refine Ev.sr fun K hK => S.o q.as (S.end (hK _ ?_))
                            clear hK K
                            refine Ev.ret ?_
                            refine hR0 _ _ ?_
                            refine Ev.ret1 ?_
                            refine ⟨?_, rfl⟩
                            first | rfl | exact lawT (by omega) | (exfalso; omega) | contradiction | exact absurd hk3 ‹_›
                          · first
                          | (first | omega | contradiction)
                          | refine Ev.skip ?_
                            show Ev _ _ _ _
                            refine Ev.region_S fun K hK => S.o q.add (S.o q.mv (S.end (hK _ ?_)))
                            clear hK K
                            refine hR0 _ _ ?_
                            refine roundU [0] [0, 1, 7, 9, 10, 15, 92, 93] ⟨(pre ++ [s], suf), by rw [← hp]; simp, ?_⟩ ?_ (keep_c (he := (by first | rfl | (simp; done))) (h := keep_n)) (slots_c (he := (by first | rfl | (simp; done) | (congr 2; omega))) (h := trivial)) (.c (.c (.c (.c (.c (.c (.c (.c .n))))))))
                            trivial
                            all_goals (dsimp only; simp only [List.length_cons]; omega)
                    · first
                    | (first | omega | contradiction)
                    | refine Ev.exit ?_
                      refine hR0 _ _ ?_
                      show Ev _ _ _ _
                      refine Ev.sr fun K hK => S.o q.as (S.end (hK _ ?_))
                      clear hK K
                      refine Ev.seq ?_
                      refine Ev.sr fun K hK => S.o q.mv (S.o (q.lens am_el22) (S.o q.mv (S.end (hK _ ?_))))
                      clear hK K
                      refine Ev.block ?_
                      refine Ev.loopU (ι := {q : List Bar × List Bar // q.1 ++ q.2 = b}) [0] [0, 1, 7, 9, 10, 15, 92, 93, 94, 95, 119, 120] (fun ⟨(pre2, suf2), _⟩ => [(121, .lit (.int .i64 ((pre2.length : Int)))), (18, .lit (.int .i64 (totB pre2)))]) (fun ⟨(pre2, suf2), _⟩ => [(0, ⟨false, 39, 5, [[.lit (.int .i64 (0)), .lit (.int .i64 (1)), .lit (.int .i64 (2)), .lit (.int .i64 (4)), .lit (.int .i64 (3))]], true⟩)]) (fun ⟨(pre2, suf2), _⟩ => suf2.length) ⟨([], b), rfl⟩ (.c (.c (.c (.c (.c (.c (.c (.c (.c (.c (.c (.c .n)))))))))))) (keep_c (he := (by first | rfl | (simp; done))) (h := keep_n)) (slots_c (he := (by first | rfl | (congr 2; simp; done))) (h := (slots_c (he := (by first | rfl | exact iE (totB_snoc _ _).symm)) (h := trivial)))) ?_
                      rintro ⟨⟨pre2, suf2⟩, hp2⟩ R2 hR2
                      dsimp only [List.cons_append, List.nil_append, List.length_cons, List.length_nil]
                      simp only at hp2
                      have hpl2 : pre2.length + suf2.length = b.length := by rw [← hp2, List.length_append]
                      rcases suf2 with _ | ⟨s, suf2⟩
                      · rw [List.append_nil] at hp2; simp only [List.length_nil] at hpl2
                        have hfin2 : totB pre2 = totB b := by rw [hp2]
                        refine Ev.sr fun K hK => S.o q.lss (S.end (hK _ ?_))
                        clear hK K
                        refine Ev.ud (fun c23 => ?_) (fun c23 => ?_)
                        · first
                        | (first | omega | contradiction)
                        | refine Ev.seq ?_
                          refine Ev.block ?_
                          refine Ev.sr fun K hK => S.o (q.ix am_el22 am_cl43 (hl := (by first | exact ati hidx (by omega) | exact atig (by omega)))) (S.o (q.lsA [_, _, _, _, _] am_ag43 am_cl43) (S.nn (q.al am_ze43) (S.sv [_, _, _, _, _] true [_] am_in43 am_cl43 (h := S.end (hK _ ?_)))))
                          clear hK K
                          refine Ev.sr fun K hK => S.o (q.lvA [_, _, _, _, _] am_ag43 am_cl43) (S.c0 (hF := barMassOk_fun s hsok) (h := S.o q.mv (S.o q.ex (S.o q.ex (S.o q.as (S.o q.as (S.end (hK _ ?_))))))))
                          clear hK K
                          refine Ev.region_S fun K hK => S.o q.mv (S.o q.mv (S.o q.add (S.o q.as (S.end (hK _ ?_)))))
                          clear hK K
                          show Ev _ _ _ _
                          refine Ev.region_S fun K hK => S.o q.add (S.o q.mv (S.end (hK _ ?_)))
                          clear hK K
                          refine hR2 _ _ ?_
                          refine roundU [0] [0, 1, 7, 9, 10, 15, 92, 93, 94, 95, 119, 120] ⟨(pre2 ++ [s], suf2), by rw [← hp2]; simp⟩ ?_ (keep_c (he := (by first | rfl | (simp; done))) (h := keep_n)) (slots_c (he := (by first | rfl | (congr 2; simp; done))) (h := (slots_c (he := (by first | rfl | exact iE (totB_snoc _ _).symm)) (h := trivial)))) (.c (.c (.c (.c (.c (.c (.c (.c (.c (.c (.c (.c .n))))))))))))
                          skip
                          all_goals (dsimp only; simp only [List.length_cons]; omega)
                        · first
                        | (first | omega | contradiction)
                        | refine Ev.exit ?_
                          refine hR2 _ _ ?_
                          show Ev _ _ _ _
                          refine Ev.seq ?_
                          refine Ev.sr fun K hK => S.o q.mv (S.o (q.lens am_el22) (S.o q.mv (S.end (hK _ ?_))))
                          clear hK K
                          refine Ev.block ?_
                          refine Ev.loopU (ι := {q : List Bar × List Bar // q.1 ++ q.2 = a}) [0] [0, 1, 7, 9, 10, 15, 92, 93, 94, 95, 119, 120, 121, 122, 134, 135] (fun ⟨(pre3, suf3), _⟩ => [(136, .lit (.int .i64 ((pre3.length : Int)))), (18, .lit (.int .i64 (totB b - totB pre3)))]) (fun ⟨(pre3, suf3), _⟩ => [(0, ⟨false, 39, 5, [[.lit (.int .i64 (0)), .lit (.int .i64 (1)), .lit (.int .i64 (2)), .lit (.int .i64 (4)), .lit (.int .i64 (3))]], true⟩)]) (fun ⟨(pre3, suf3), _⟩ => suf3.length) ⟨([], a), rfl⟩ (.c (.c (.c (.c (.c (.c (.c (.c (.c (.c (.c (.c (.c (.c (.c (.c .n)))))))))))))))) (keep_c (he := (by first | rfl | (simp; done))) (h := keep_n)) (slots_c (he := (by first | rfl | (congr 2; simp; done))) (h := (slots_c (he := (by first | rfl | exact iE (by rw [totB_snoc]; omega) | exact iE (by rw [show totB ([] : List Bar) = 0 from rfl]; omega))) (h := trivial)))) ?_
                          rintro ⟨⟨pre3, suf3⟩, hp3⟩ R4 hR4
                          dsimp only [List.cons_append, List.nil_append, List.length_cons, List.length_nil]
                          simp only at hp3
                          have hpl3 : pre3.length + suf3.length = a.length := by rw [← hp3, List.length_append]
                          rcases suf3 with _ | ⟨s, suf3⟩
                          · rw [List.append_nil] at hp3; simp only [List.length_nil] at hpl3
                            have hfin3 : totB pre3 = totB a := by rw [hp3]
                            refine Ev.sr fun K hK => S.o q.lss (S.end (hK _ ?_))
                            clear hK K
                            refine Ev.ud (fun c24 => ?_) (fun c24 => ?_)
                            · first
                            | (first | omega | contradiction)
                            | refine Ev.seq ?_
                              refine Ev.block ?_
                              refine Ev.sr fun K hK => S.o (q.ix am_el22 am_cl43 (hl := (by first | exact ati hidx (by omega) | exact atig (by omega)))) (S.o (q.lsA [_, _, _, _, _] am_ag43 am_cl43) (S.nn (q.al am_ze43) (S.sv [_, _, _, _, _] true [_] am_in43 am_cl43 (h := S.end (hK _ ?_)))))
                              clear hK K
                              refine Ev.sr fun K hK => S.o (q.lvA [_, _, _, _, _] am_ag43 am_cl43) (S.c0 (hF := barMassOk_fun s hsok) (h := S.o q.mv (S.o q.ex (S.o q.ex (S.o q.as (S.o q.as (S.end (hK _ ?_))))))))
                              clear hK K
                              refine Ev.region_S fun K hK => S.o q.mv (S.o q.mv (S.o q.sub (S.o q.as (S.end (hK _ ?_)))))
                              clear hK K
                              show Ev _ _ _ _
                              refine Ev.region_S fun K hK => S.o q.add (S.o q.mv (S.end (hK _ ?_)))
                              clear hK K
                              refine hR4 _ _ ?_
                              refine roundU [0] [0, 1, 7, 9, 10, 15, 92, 93, 94, 95, 119, 120, 121, 122, 134, 135] ⟨(pre3 ++ [s], suf3), by rw [← hp3]; simp⟩ ?_ (keep_c (he := (by first | rfl | (simp; done))) (h := keep_n)) (slots_c (he := (by first | rfl | (congr 2; simp; done))) (h := (slots_c (he := (by first | rfl | exact iE (by rw [totB_snoc]; omega) | exact iE (by rw [show totB ([] : List Bar) = 0 from rfl]; omega))) (h := trivial)))) (.c (.c (.c (.c (.c (.c (.c (.c (.c (.c (.c (.c (.c (.c (.c (.c .n))))))))))))))))
                              skip
                              all_goals (dsimp only; simp only [List.length_cons]; omega)
                            · first
                            | (first | omega | contradiction)
                            | refine Ev.exit ?_
                              refine hR4 _ _ ?_
                              show Ev _ _ _ _
                              refine Ev.sr fun K hK => S.o q.mv (S.o q.mv (S.o q.mv (S.o q.sub (S.o q.eql (S.o q.as (S.end (hK _ ?_)))))))
                              clear hK K
                              refine Ev.ret ?_
                              refine Ev.ret1 ?_
                              refine ⟨?_, rfl⟩
                              first | rfl | exact lawT (by omega) | (exfalso; omega) | contradiction | exact absurd hk3 ‹_›
                          · simp only [List.length_cons] at hpl3
                            have hidx3 : a[pre3.length]? = some s := by rw [← hp3]; simp
                            have hsok : okBar s := hoa1 s (by rw [← hp3]; simp)
                            obtain ⟨_, _, g3, g4⟩ := barMass_bd hsok
                            have ht := totB_bd pre3 (fun x hx => hoa1 x (by rw [← hp3]; simp [hx]))
                            have htb := totB_bd b hoa2
                            refine Ev.sr fun K hK => S.o q.lss (S.end (hK _ ?_))
                            clear hK K
                            refine Ev.ud (fun c25 => ?_) (fun c25 => ?_)
                            · first
                            | (first | omega | contradiction)
                            | refine Ev.seq ?_
                              refine Ev.block ?_
                              refine Ev.sr fun K hK => S.o (q.ix am_el22 am_cl43 (hl := (by first | exact ati hidx (by omega) | exact ati hidx3 (by omega) | exact atig (by omega)))) (S.o (q.lsA [_, _, _, _, _] am_ag43 am_cl43) (S.nn (q.al am_ze43) (S.sv [_, _, _, _, _] true [_] am_in43 am_cl43 (h := S.end (hK _ ?_)))))
                              clear hK K
                              refine Ev.sr fun K hK => S.o (q.lvA [_, _, _, _, _] am_ag43 am_cl43) (S.c0 (hF := barMassOk_fun s hsok) (h := S.o q.mv (S.o q.ex (S.o q.ex (S.o q.as (S.o q.as (S.end (hK _ ?_))))))))
                              clear hK K
                              refine Ev.region_S fun K hK => S.o q.mv (S.o q.mv (S.o q.sub (S.o q.as (S.end (hK _ ?_)))))
                              clear hK K
                              show Ev _ _ _ _
                              refine Ev.region_S fun K hK => S.o q.add (S.o q.mv (S.end (hK _ ?_)))
                              clear hK K
                              refine hR4 _ _ ?_
                              refine roundU [0] [0, 1, 7, 9, 10, 15, 92, 93, 94, 95, 119, 120, 121, 122, 134, 135] ⟨(pre3 ++ [s], suf3), by rw [← hp3]; simp⟩ ?_ (keep_c (he := (by first | rfl | (simp; done))) (h := keep_n)) (slots_c (he := (by first | rfl | (congr 2; simp; done))) (h := (slots_c (he := (by first | rfl | exact iE (by rw [totB_snoc]; omega) | exact iE (by rw [show totB ([] : List Bar) = 0 from rfl]; omega))) (h := trivial)))) (.c (.c (.c (.c (.c (.c (.c (.c (.c (.c (.c (.c (.c (.c (.c (.c .n))))))))))))))))
                              skip
                              all_goals (dsimp only; simp only [List.length_cons]; omega)
                            · first
                            | (first | omega | contradiction)
                            | refine Ev.exit ?_
                              refine hR4 _ _ ?_
                              show Ev _ _ _ _
                              refine Ev.sr fun K hK => S.o q.mv (S.o q.mv (S.o q.mv (S.o q.sub (S.o q.eql (S.o q.as (S.end (hK _ ?_)))))))
                              clear hK K
                              refine Ev.ret ?_
                              refine Ev.ret1 ?_
                              refine ⟨?_, rfl⟩
                              first | rfl | exact lawT (by omega) | (exfalso; omega) | contradiction | exact absurd hk3 ‹_›
                      · simp only [List.length_cons] at hpl2
                        have hidx2 : b[pre2.length]? = some s := by rw [← hp2]; simp
                        have hsok : okBar s := hoa2 s (by rw [← hp2]; simp)
                        obtain ⟨_, _, g3, g4⟩ := barMass_bd hsok
                        have ht := totB_bd pre2 (fun x hx => hoa2 x (by rw [← hp2]; simp [hx]))
                        refine Ev.sr fun K hK => S.o q.lss (S.end (hK _ ?_))
                        clear hK K
                        refine Ev.ud (fun c26 => ?_) (fun c26 => ?_)
                        · first
                        | (first | omega | contradiction)
                        | refine Ev.seq ?_
                          refine Ev.block ?_
                          refine Ev.sr fun K hK => S.o (q.ix am_el22 am_cl43 (hl := (by first | exact ati hidx (by omega) | exact ati hidx2 (by omega) | exact atig (by omega)))) (S.o (q.lsA [_, _, _, _, _] am_ag43 am_cl43) (S.nn (q.al am_ze43) (S.sv [_, _, _, _, _] true [_] am_in43 am_cl43 (h := S.end (hK _ ?_)))))
                          clear hK K
                          refine Ev.sr fun K hK => S.o (q.lvA [_, _, _, _, _] am_ag43 am_cl43) (S.c0 (hF := barMassOk_fun s hsok) (h := S.o q.mv (S.o q.ex (S.o q.ex (S.o q.as (S.o q.as (S.end (hK _ ?_))))))))
                          clear hK K
                          refine Ev.region_S fun K hK => S.o q.mv (S.o q.mv (S.o q.add (S.o q.as (S.end (hK _ ?_)))))
                          clear hK K
                          show Ev _ _ _ _
                          refine Ev.region_S fun K hK => S.o q.add (S.o q.mv (S.end (hK _ ?_)))
                          clear hK K
                          refine hR2 _ _ ?_
                          refine roundU [0] [0, 1, 7, 9, 10, 15, 92, 93, 94, 95, 119, 120] ⟨(pre2 ++ [s], suf2), by rw [← hp2]; simp⟩ ?_ (keep_c (he := (by first | rfl | (simp; done))) (h := keep_n)) (slots_c (he := (by first | rfl | (congr 2; simp; done))) (h := (slots_c (he := (by first | rfl | exact iE (totB_snoc _ _).symm)) (h := trivial)))) (.c (.c (.c (.c (.c (.c (.c (.c (.c (.c (.c (.c .n))))))))))))
                          skip
                          all_goals (dsimp only; simp only [List.length_cons]; omega)
                        · first
                        | (first | omega | contradiction)
                        | refine Ev.exit ?_
                          refine hR2 _ _ ?_
                          show Ev _ _ _ _
                          refine Ev.seq ?_
                          refine Ev.sr fun K hK => S.o q.mv (S.o (q.lens am_el22) (S.o q.mv (S.end (hK _ ?_))))
                          clear hK K
                          refine Ev.block ?_
                          refine Ev.loopU (ι := {q : List Bar × List Bar // q.1 ++ q.2 = a}) [0] [0, 1, 7, 9, 10, 15, 92, 93, 94, 95, 119, 120, 121, 122, 134, 135] (fun ⟨(pre3, suf3), _⟩ => [(136, .lit (.int .i64 ((pre3.length : Int)))), (18, .lit (.int .i64 (totB b - totB pre3)))]) (fun ⟨(pre3, suf3), _⟩ => [(0, ⟨false, 39, 5, [[.lit (.int .i64 (0)), .lit (.int .i64 (1)), .lit (.int .i64 (2)), .lit (.int .i64 (4)), .lit (.int .i64 (3))]], true⟩)]) (fun ⟨(pre3, suf3), _⟩ => suf3.length) ⟨([], a), rfl⟩ (.c (.c (.c (.c (.c (.c (.c (.c (.c (.c (.c (.c (.c (.c (.c (.c .n)))))))))))))))) (keep_c (he := (by first | rfl | (simp; done))) (h := keep_n)) (slots_c (he := (by first | rfl | (congr 2; simp; done))) (h := (slots_c (he := (by first | rfl | exact iE (by rw [totB_snoc]; omega) | exact iE (by rw [show totB ([] : List Bar) = 0 from rfl]; omega))) (h := trivial)))) ?_
                          rintro ⟨⟨pre3, suf3⟩, hp3⟩ R4 hR4
                          dsimp only [List.cons_append, List.nil_append, List.length_cons, List.length_nil]
                          simp only at hp3
                          have hpl3 : pre3.length + suf3.length = a.length := by rw [← hp3, List.length_append]
                          rcases suf3 with _ | ⟨s, suf3⟩
                          · rw [List.append_nil] at hp3; simp only [List.length_nil] at hpl3
                            have hfin3 : totB pre3 = totB a := by rw [hp3]
                            refine Ev.sr fun K hK => S.o q.lss (S.end (hK _ ?_))
                            clear hK K
                            refine Ev.ud (fun c27 => ?_) (fun c27 => ?_)
                            · first
                            | (first | omega | contradiction)
                            | refine Ev.seq ?_
                              refine Ev.block ?_
                              refine Ev.sr fun K hK => S.o (q.ix am_el22 am_cl43 (hl := (by first | exact ati hidx (by omega) | exact ati hidx2 (by omega) | exact atig (by omega)))) (S.o (q.lsA [_, _, _, _, _] am_ag43 am_cl43) (S.nn (q.al am_ze43) (S.sv [_, _, _, _, _] true [_] am_in43 am_cl43 (h := S.end (hK _ ?_)))))
                              clear hK K
                              refine Ev.sr fun K hK => S.o (q.lvA [_, _, _, _, _] am_ag43 am_cl43) (S.c0 (hF := barMassOk_fun s hsok) (h := S.o q.mv (S.o q.ex (S.o q.ex (S.o q.as (S.o q.as (S.end (hK _ ?_))))))))
                              clear hK K
                              refine Ev.region_S fun K hK => S.o q.mv (S.o q.mv (S.o q.sub (S.o q.as (S.end (hK _ ?_)))))
                              clear hK K
                              show Ev _ _ _ _
                              refine Ev.region_S fun K hK => S.o q.add (S.o q.mv (S.end (hK _ ?_)))
                              clear hK K
                              refine hR4 _ _ ?_
                              refine roundU [0] [0, 1, 7, 9, 10, 15, 92, 93, 94, 95, 119, 120, 121, 122, 134, 135] ⟨(pre3 ++ [s], suf3), by rw [← hp3]; simp⟩ ?_ (keep_c (he := (by first | rfl | (simp; done))) (h := keep_n)) (slots_c (he := (by first | rfl | (congr 2; simp; done))) (h := (slots_c (he := (by first | rfl | exact iE (by rw [totB_snoc]; omega) | exact iE (by rw [show totB ([] : List Bar) = 0 from rfl]; omega))) (h := trivial)))) (.c (.c (.c (.c (.c (.c (.c (.c (.c (.c (.c (.c (.c (.c (.c (.c .n))))))))))))))))
                              skip
                              all_goals (dsimp only; simp only [List.length_cons]; omega)
                            · first
                            | (first | omega | contradiction)
                            | refine Ev.exit ?_
                              refine hR4 _ _ ?_
                              show Ev _ _ _ _
                              refine Ev.sr fun K hK => S.o q.mv (S.o q.mv (S.o q.mv (S.o q.sub (S.o q.eql (S.o q.as (S.end (hK _ ?_)))))))
                              clear hK K
                              refine Ev.ret ?_
                              refine Ev.ret1 ?_
                              refine ⟨?_, rfl⟩
                              first | rfl | exact lawT (by omega) | (exfalso; omega) | contradiction | exact absurd hk3 ‹_›
                          · simp only [List.length_cons] at hpl3
                            have hidx3 : a[pre3.length]? = some s := by rw [← hp3]; simp
                            have hsok : okBar s := hoa1 s (by rw [← hp3]; simp)
                            obtain ⟨_, _, g3, g4⟩ := barMass_bd hsok
                            have ht := totB_bd pre3 (fun x hx => hoa1 x (by rw [← hp3]; simp [hx]))
                            have htb := totB_bd b hoa2
                            refine Ev.sr fun K hK => S.o q.lss (S.end (hK _ ?_))
                            clear hK K
                            refine Ev.ud (fun c28 => ?_) (fun c28 => ?_)
                            · first
                            | (first | omega | contradiction)
                            | refine Ev.seq ?_
                              refine Ev.block ?_
                              refine Ev.sr fun K hK => S.o (q.ix am_el22 am_cl43 (hl := (by first | exact ati hidx (by omega) | exact ati hidx2 (by omega) | exact ati hidx3 (by omega) | exact atig (by omega)))) (S.o (q.lsA [_, _, _, _, _] am_ag43 am_cl43) (S.nn (q.al am_ze43) (S.sv [_, _, _, _, _] true [_] am_in43 am_cl43 (h := S.end (hK _ ?_)))))
                              clear hK K
                              refine Ev.sr fun K hK => S.o (q.lvA [_, _, _, _, _] am_ag43 am_cl43) (S.c0 (hF := barMassOk_fun s hsok) (h := S.o q.mv (S.o q.ex (S.o q.ex (S.o q.as (S.o q.as (S.end (hK _ ?_))))))))
                              clear hK K
                              refine Ev.region_S fun K hK => S.o q.mv (S.o q.mv (S.o q.sub (S.o q.as (S.end (hK _ ?_)))))
                              clear hK K
                              show Ev _ _ _ _
                              refine Ev.region_S fun K hK => S.o q.add (S.o q.mv (S.end (hK _ ?_)))
                              clear hK K
                              refine hR4 _ _ ?_
                              refine roundU [0] [0, 1, 7, 9, 10, 15, 92, 93, 94, 95, 119, 120, 121, 122, 134, 135] ⟨(pre3 ++ [s], suf3), by rw [← hp3]; simp⟩ ?_ (keep_c (he := (by first | rfl | (simp; done))) (h := keep_n)) (slots_c (he := (by first | rfl | (congr 2; simp; done))) (h := (slots_c (he := (by first | rfl | exact iE (by rw [totB_snoc]; omega) | exact iE (by rw [show totB ([] : List Bar) = 0 from rfl]; omega))) (h := trivial)))) (.c (.c (.c (.c (.c (.c (.c (.c (.c (.c (.c (.c (.c (.c (.c (.c .n))))))))))))))))
                              skip
                              all_goals (dsimp only; simp only [List.length_cons]; omega)
                            · first
                            | (first | omega | contradiction)
                            | refine Ev.exit ?_
                              refine hR4 _ _ ?_
                              show Ev _ _ _ _
                              refine Ev.sr fun K hK => S.o q.mv (S.o q.mv (S.o q.mv (S.o q.sub (S.o q.eql (S.o q.as (S.end (hK _ ?_)))))))
                              clear hK K
                              refine Ev.ret ?_
                              refine Ev.ret1 ?_
                              refine ⟨?_, rfl⟩
                              first | rfl | exact lawT (by omega) | (exfalso; omega) | contradiction | exact absurd hk3 ‹_›
end Go.Proofs.Ytccddakkegelkaa
