/-
  Layer 41: applying changes.
  Conditions: none.
-/
import Derived.Test.YtccddakkegelkaaRev3
import Derived.Test.YtccddakkegelkaaFlat
namespace Go.Proofs.Ytccddakkegelkaa
open Go Go.AM
set_option linter.unusedSimpArgs false
set_option linter.unusedVariables false
set_option maxRecDepth 100000

def keepP (b : List Bar) (l : List Chg) (x : Bar) : List Bar := if ofK l x.mark = 1 then [x] else if ofK l x.mark = 2 then (barAt b x.mark).toList else []
def newB (b : List Bar) (c : Chg) : List Bar := if c.1 = 3 then (barAt b c.2).toList else []
def applyP (a b : List Bar) (l : List Chg) : List Bar := a.flatMap (keepP b l) ++ l.flatMap (newB b)
theorem keep_len (b : List Bar) (l : List Chg) (x : Bar) : (keepP b l x).length ≤ 1 := by
  unfold keepP
  split
  · simp
  · split
    · exact opt_len _
    · simp
theorem new_len (b : List Bar) (c : Chg) : (newB b c).length ≤ 1 := by
  unfold newB
  split
  · exact opt_len _
  · simp
theorem keep_1 {b : List Bar} {l : List Chg} {s : Bar} (h : ofK l s.mark = 1) : keepP b l s = [s] := if_pos h
theorem keep_2 {b : List Bar} {l : List Chg} {s y : Bar} (h : ofK l s.mark = 2) (hy : barAt b s.mark = some y) : keepP b l s = [y] := by rw [keepP, if_neg (by omega), if_pos h, hy]; rfl
theorem keep_0 {b : List Bar} {l : List Chg} {s : Bar} (h : ¬ ofK l s.mark = 1) (h2 : ¬ ofK l s.mark = 2) : keepP b l s = [] := by rw [keepP, if_neg h, if_neg h2]
theorem new_3 {b : List Bar} {c : Chg} {y : Bar} (h : c.1 = 3) (hy : barAt b c.2 = some y) : newB b c = [y] := by rw [newB, if_pos h, hy]; rfl
theorem new_0 {b : List Bar} {c : Chg} (h : ¬ c.1 = 3) : newB b c = [] := if_neg h
theorem ofK_mem : ∀ {l : List Chg} {mk : List UInt8}, ofK l mk ≠ 0 → (ofK l mk, mk) ∈ l
  | [], _, h => absurd rfl h
  | c :: l, mk, h => by
    rw [ofK] at h ⊢
    split
    · rename_i hc
      rw [← hc]
      simp
    · rename_i hc
      rw [if_neg hc] at h
      exact List.mem_cons_of_mem _ (ofK_mem h)
def okApply (a b : List Bar) (l : List Chg) : Prop := (okSched a ∧ okSched b) ∧ okChgs l
instance (a b l) : Decidable (okApply a b l) := by unfold okApply; infer_instance
def appV (a b : List Bar) (l : List Chg) : List Bar := if okApply a b l then if fitsP a b l then if (applyP a b l).length ≤ 60 then applyP a b l else [] else [] else []
def appE (a b : List Bar) (l : List Chg) : Int := if okApply a b l then if fitsP a b l then if (applyP a b l).length ≤ 60 then 0 else 4 else 9 else 1
theorem Apply_fun (a b : List Bar) (l : List Chg) (ha : a.length ≤ 140737488355328) (hb : b.length ≤ 140737488355328) (hl : l.length ≤ 140737488355328) (hwa : schedW a) (hwb : schedW b) (hwl : chgW l) :
    Fun Try.prog 20 [.sh 5 (a.map Bar.c), .sh 5 (b.map Bar.c), .sh 2 (l.map findC)] (Ret (.tup [.sh 5 ((appV a b l).map Bar.c), .lit (.int .i64 (appE a b l))]) []) := by
  refine Fun.of (nt := 89) (rs := [.tmp 6, .tmp 7]) Try.func20 rfl rfl rfl rfl rfl ?_
  refine Ev.sr fun K hK => S.o q.as (S.o q.as (S.end (hK _ ?_)))
  clear hK K
  refine Ev.seq ?_
  refine Ev.block ?_
  refine Ev.sr fun K hK => S.o q.mv (S.c0 (hF := schedValid_fun _ (by omega) (by assumption)) (h := S.o q.not (S.bn q.mv (fun c1 => ?_) (fun c1 => ?_))))
  · first
  | (first | omega | contradiction)
  | refine S.sk (S.sk (S.sk (S.o q.pt (S.o q.mv (S.sk (S.sk (S.sk (S.o q.pt (S.o q.as (S.end (hK _ ?_)))))))))))
    clear hK K
    refine Ev.ct ?_
    refine Ev.sr fun K hK => S.o q.as (S.o q.as (S.end (hK _ ?_)))
    clear hK K
    refine Ev.weaken (Wk.nsh Bar.c 6 5) ?_
    refine Ev.ret ?_
    refine Ev.ret2 ?_
    refine ⟨?_, rfl⟩
    first
     | (have hno : ¬ okApply a b l := fun h => absurd h.1.1 ‹_›
        rw [show appV a b l = [] from if_neg hno, show appE a b l = 1 from if_neg hno]; done)
     | (have hno : ¬ okApply a b l := fun h => absurd h.1.2 ‹_›
        rw [show appV a b l = [] from if_neg hno, show appE a b l = 1 from if_neg hno]; done)
     | (have hno : ¬ okApply a b l := fun h => absurd h.2 ‹_›
        rw [show appV a b l = [] from if_neg hno, show appE a b l = 1 from if_neg hno]; done)
     | (have hyes : okApply a b l := ⟨⟨‹_›, ‹_›⟩, ‹_›⟩
        rw [show appV a b l = [] by rw [appV, if_pos hyes, if_neg ‹¬ fitsP a b l›], show appE a b l = 9 by rw [appE, if_pos hyes, if_neg ‹¬ fitsP a b l›]]; done)
     | (have hlen : ¬ (applyP a b l).length ≤ 60 := by rw [hfin]; omega
        rw [show appV a b l = [] by rw [appV, if_pos hyes, if_pos hf, if_neg hlen], show appE a b l = 4 by rw [appE, if_pos hyes, if_pos hf, if_neg hlen]]; done)
     | (have hlen : (applyP a b l).length ≤ 60 := by rw [hfin]; omega
        rw [show appV a b l = applyP a b l by rw [appV, if_pos hyes, if_pos hf, if_pos hlen], show appE a b l = 0 by rw [appE, if_pos hyes, if_pos hf, if_pos hlen], hfin]; done)
  · first
  | (first | omega | contradiction)
  | refine S.o q.mv (S.c0 (hF := schedValid_fun _ (by omega) (by assumption)) (h := S.o q.not (S.o q.pf (S.bn q.mv (fun c2 => ?_) (fun c2 => ?_)))))
    · first
    | (first | omega | contradiction)
    | refine S.sk (S.sk (S.sk (S.o q.pt (S.o q.as (S.end (hK _ ?_))))))
      clear hK K
      refine Ev.ct ?_
      refine Ev.sr fun K hK => S.o q.as (S.o q.as (S.end (hK _ ?_)))
      clear hK K
      refine Ev.weaken (Wk.nsh Bar.c 6 5) ?_
      refine Ev.ret ?_
      refine Ev.ret2 ?_
      refine ⟨?_, rfl⟩
      first
       | (have hno : ¬ okApply a b l := fun h => absurd h.1.1 ‹_›
          rw [show appV a b l = [] from if_neg hno, show appE a b l = 1 from if_neg hno]; done)
       | (have hno : ¬ okApply a b l := fun h => absurd h.1.2 ‹_›
          rw [show appV a b l = [] from if_neg hno, show appE a b l = 1 from if_neg hno]; done)
       | (have hno : ¬ okApply a b l := fun h => absurd h.2 ‹_›
          rw [show appV a b l = [] from if_neg hno, show appE a b l = 1 from if_neg hno]; done)
       | (have hyes : okApply a b l := ⟨⟨‹_›, ‹_›⟩, ‹_›⟩
          rw [show appV a b l = [] by rw [appV, if_pos hyes, if_neg ‹¬ fitsP a b l›], show appE a b l = 9 by rw [appE, if_pos hyes, if_neg ‹¬ fitsP a b l›]]; done)
       | (have hlen : ¬ (applyP a b l).length ≤ 60 := by rw [hfin]; omega
          rw [show appV a b l = [] by rw [appV, if_pos hyes, if_pos hf, if_neg hlen], show appE a b l = 4 by rw [appE, if_pos hyes, if_pos hf, if_neg hlen]]; done)
       | (have hlen : (applyP a b l).length ≤ 60 := by rw [hfin]; omega
          rw [show appV a b l = applyP a b l by rw [appV, if_pos hyes, if_pos hf, if_pos hlen], show appE a b l = 0 by rw [appE, if_pos hyes, if_pos hf, if_pos hlen], hfin]; done)
    · first
    | (first | omega | contradiction)
    | refine S.o q.mv (S.c0 (hF := rvalid_chg _ (by omega) (by assumption)) (h := S.o q.not (S.o q.pf (S.o q.as (S.end (hK _ ?_))))))
      clear hK K
      refine Ev.cn (fun c3 => ?_) (fun c3 => ?_)
      · first
      | (first | omega | contradiction)
      | refine Ev.sr fun K hK => S.o q.as (S.o q.as (S.end (hK _ ?_)))
        clear hK K
        refine Ev.weaken (Wk.nsh Bar.c 6 5) ?_
        refine Ev.ret ?_
        refine Ev.ret2 ?_
        refine ⟨?_, rfl⟩
        first
         | (have hno : ¬ okApply a b l := fun h => absurd h.1.1 ‹_›
            rw [show appV a b l = [] from if_neg hno, show appE a b l = 1 from if_neg hno]; done)
         | (have hno : ¬ okApply a b l := fun h => absurd h.1.2 ‹_›
            rw [show appV a b l = [] from if_neg hno, show appE a b l = 1 from if_neg hno]; done)
         | (have hno : ¬ okApply a b l := fun h => absurd h.2 ‹_›
            rw [show appV a b l = [] from if_neg hno, show appE a b l = 1 from if_neg hno]; done)
         | (have hyes : okApply a b l := ⟨⟨‹_›, ‹_›⟩, ‹_›⟩
            rw [show appV a b l = [] by rw [appV, if_pos hyes, if_neg ‹¬ fitsP a b l›], show appE a b l = 9 by rw [appE, if_pos hyes, if_neg ‹¬ fitsP a b l›]]; done)
         | (have hlen : ¬ (applyP a b l).length ≤ 60 := by rw [hfin]; omega
            rw [show appV a b l = [] by rw [appV, if_pos hyes, if_pos hf, if_neg hlen], show appE a b l = 4 by rw [appE, if_pos hyes, if_pos hf, if_neg hlen]]; done)
         | (have hlen : (applyP a b l).length ≤ 60 := by rw [hfin]; omega
            rw [show appV a b l = applyP a b l by rw [appV, if_pos hyes, if_pos hf, if_pos hlen], show appE a b l = 0 by rw [appE, if_pos hyes, if_pos hf, if_pos hlen], hfin]; done)
      · first
      | (first | omega | contradiction)
      | refine Ev.sr fun K hK => S.o q.mv (S.o q.mv (S.o q.mv (S.c0 (hF := fits_fun _ _ _ (by omega) (by omega) (by omega)) (h := S.o q.not (S.o q.as (S.end (hK _ ?_)))))))
        clear hK K
        refine Ev.cn (fun c4 => ?_) (fun c4 => ?_)
        · first
        | (first | omega | contradiction)
        | refine Ev.sr fun K hK => S.o q.as (S.o q.as (S.end (hK _ ?_)))
          clear hK K
          refine Ev.weaken (Wk.nsh Bar.c 6 5) ?_
          refine Ev.ret ?_
          refine Ev.ret2 ?_
          refine ⟨?_, rfl⟩
          first
           | (have hno : ¬ okApply a b l := fun h => absurd h.1.1 ‹_›
              rw [show appV a b l = [] from if_neg hno, show appE a b l = 1 from if_neg hno]; done)
           | (have hno : ¬ okApply a b l := fun h => absurd h.1.2 ‹_›
              rw [show appV a b l = [] from if_neg hno, show appE a b l = 1 from if_neg hno]; done)
           | (have hno : ¬ okApply a b l := fun h => absurd h.2 ‹_›
              rw [show appV a b l = [] from if_neg hno, show appE a b l = 1 from if_neg hno]; done)
           | (have hyes : okApply a b l := ⟨⟨‹_›, ‹_›⟩, ‹_›⟩
              rw [show appV a b l = [] by rw [appV, if_pos hyes, if_neg ‹¬ fitsP a b l›], show appE a b l = 9 by rw [appE, if_pos hyes, if_neg ‹¬ fitsP a b l›]]; done)
           | (have hlen : ¬ (applyP a b l).length ≤ 60 := by rw [hfin]; omega
              rw [show appV a b l = [] by rw [appV, if_pos hyes, if_pos hf, if_neg hlen], show appE a b l = 4 by rw [appE, if_pos hyes, if_pos hf, if_neg hlen]]; done)
           | (have hlen : (applyP a b l).length ≤ 60 := by rw [hfin]; omega
              rw [show appV a b l = applyP a b l by rw [appV, if_pos hyes, if_pos hf, if_pos hlen], show appE a b l = 0 by rw [appE, if_pos hyes, if_pos hf, if_pos hlen], hfin]; done)
        · first
        | (first | omega | contradiction)
        | refine Ev.skip ?_
          show Ev _ _ _ _
          have hf : fitsP a b l := ‹_›
          have hyes : okApply a b l := ⟨⟨‹_›, ‹_›⟩, ‹_›⟩
          have hal := hyes.1.1.1
          have hbl := hyes.1.2.1
          have hll := hyes.2.1
          have hbd : ∀ y ∈ b, y.dims.length ≤ 1000000 := fun y hy => by have h1 := (hyes.1.2.2.1 y hy).2.2.2.2.2.1; have h2 : dimsN y.code ≤ 5 := (by unfold dimsN; repeat' split <;> omega); omega
          refine Ev.sr fun K hK => S.o q.as (S.end (hK _ ?_))
          clear hK K
          refine Ev.seq ?_
          refine Ev.sr fun K hK => S.o q.mv (S.o (q.lens am_el22) (S.o q.mv (S.end (hK _ ?_))))
          clear hK K
          refine Ev.block ?_
          refine Ev.weaken (Wk.nown Bar.c 8 43 5) ?_
          refine Ev.loopU (ι := {p : List (Bar) × List (Bar) // p.1 ++ p.2 = a ∧ True}) [0] [1, 2, 6, 7, 33, 34] (fun ⟨(pre, suf), _⟩ => [(35, .lit (.int .i64 ((pre.length : Int)))), (8, .als 0 0 (pre.flatMap (keepP b l)).length)]) (fun ⟨(pre, suf), _⟩ => [(0, ⟨true, 43, 5, (pre.flatMap (keepP b l)).map Bar.c, true⟩)]) (fun ⟨(pre, suf), _⟩ => suf.length) ⟨([], a), rfl, trivial⟩ (.c (.c (.c (.c (.c (.c .n)))))) (keep_c (he := (by first | rfl | (rw [flat_snoc, keep_1 ‹_›]) | (rw [flat_snoc, keep_2 ‹_› hy]) | (rw [flat_snoc, keep_0 ‹_› ‹_›, List.append_nil]))) (h := keep_n)) (slots_c (he := (by first | rfl | (congr 2; simp; done))) (h := (slots_c (he := (by first | rfl | (congr 1; rw [flat_snoc, keep_1 ‹_›]) | (congr 1; rw [flat_snoc, keep_2 ‹_› hy]) | (rw [flat_snoc, keep_0 ‹_› ‹_›, List.append_nil]))) (h := trivial)))) ?_
          rintro ⟨⟨pre, suf⟩, hp, hinv⟩ R1 hR1
          dsimp only [List.cons_append, List.nil_append, List.length_cons, List.length_nil]
          simp only at hp hinv
          have hpl : pre.length + suf.length = (a).length := by rw [← hp, List.length_append]
          rcases suf with _ | ⟨s, suf⟩
          · rw [List.append_nil] at hp; subst pre; simp only [List.length_nil] at hpl
            have hkl := flat_len (keepP b l) (keep_len b l) a
            refine Ev.sr fun K hK => S.o q.lss (S.end (hK _ ?_))
            clear hK K
            refine Ev.ud (fun c5 => ?_) (fun c5 => ?_)
            · first
            | (first | omega | contradiction)
            | refine Ev.seq ?_
              refine Ev.block ?_
              refine Ev.sr fun K hK => S.o (q.ix am_el22 am_cl43 (hl := (by first | exact ati hyi (by omega) | exact atig (by omega)))) (S.o (q.lsA [_, _, _, _, _] am_ag43 am_cl43) (S.nn (q.al am_ze43) (S.sv [_, _, _, _, _] true [_] am_in43 am_cl43 (h := S.end (hK _ ?_)))))
              clear hK K
              refine Ev.sr fun K hK => S.o q.mv (S.o (q.fa 0 am_fi43_0 am_cl9) (S.o (q.lv am_ag9) (S.c0 (hF := of_fun _ _ (by omega)) (h := S.end (hK _ ?_)))))
              clear hK K
              refine Ev.block ?_
              refine Ev.sr fun K hK => S.o q.eql (S.o q.as (S.end (hK _ ?_)))
              clear hK K
              refine Ev.cd (fun c6 => ?_) (fun c6 => ?_)
              · first
              | (first | omega | contradiction)
              | refine Ev.region_S fun K hK => S.o q.mv (S.o (q.lvA [_, _, _, _, _] am_ag43 am_cl43) (S.c0 (hF := copied_fun _ (by omega)) (h := S.nn (q.bs [[_, _, _, _, _]] true am_el22 am_ze43 am_cl43) (S.ap' [_, _] am_el22 am_ze43 am_cl43 am_by43 (hh := head_own') (hr := (rows_lit [(⟨_, _, _, _, _⟩ : Bar)])) (h := S.o q.as (S.end (hK _ ?_)))))))
                clear hK K
                show Ev _ _ _ _
                refine Ev.region_S fun K hK => S.o q.add (S.o q.mv (S.end (hK _ ?_)))
                clear hK K
                refine hR1 _ _ ?_
                refine roundU [3] [1, 2, 6, 7, 33, 34] ⟨(pre ++ [s], suf), by rw [← hp]; simp, ?_⟩ ?_ (keep_c (he := (by first | rfl | (rw [flat_snoc, keep_1 ‹_›]) | (rw [flat_snoc, keep_2 ‹_› hy]) | (rw [flat_snoc, keep_0 ‹_› ‹_›, List.append_nil]))) (h := keep_n)) (slots_c (he := (by first | rfl | (congr 2; simp; done))) (h := (slots_c (he := (by first | rfl | (congr 1; rw [flat_snoc, keep_1 ‹_›]) | (congr 1; rw [flat_snoc, keep_2 ‹_› hy]) | (rw [flat_snoc, keep_0 ‹_› ‹_›, List.append_nil]))) (h := trivial)))) (.c (.c (.c (.c (.c (.c .n))))))
                trivial
                all_goals (dsimp only; simp only [List.length_cons]; omega)
              · first
              | (first | omega | contradiction)
              | refine Ev.sr fun K hK => S.o q.eql (S.o q.as (S.end (hK _ ?_)))
                clear hK K
                refine Ev.cd (fun c7 => ?_) (fun c7 => ?_)
                · first
                | (first | omega | contradiction)
                | have hfit : 0 ≤ markI a s.mark ∧ 0 ≤ markI b s.mark := (hf.1 _ (ofK_mem (mk := s.mark) (by omega))).2.1 (by assumption)
                  obtain ⟨y, hy, hyi, hym, hyk⟩ := barAt_some hfit.2
                  have hyd := hbd y hym
                  refine Ev.region_S fun K hK => S.o q.mv (S.o q.mv (S.o q.mv (S.o (q.fa 0 am_fi43_0 am_cl9) (S.o (q.lv am_ag9) (S.c0 (hF := find_fun _ _ (by omega)) (h := S.o (q.ix am_el22 am_cl43 (hl := (by first | exact ati hyi (by omega) | exact atig (by omega)))) (S.o (q.lsA [_, _, _, _, _] am_ag43 am_cl43) (S.c0 (hF := copied_fun _ (by omega)) (h := S.nn (q.bs [[_, _, _, _, _]] true am_el22 am_ze43 am_cl43) (S.ap' [_, _] am_el22 am_ze43 am_cl43 am_by43 (hh := head_own') (hr := (rows_lit [(⟨_, _, _, _, _⟩ : Bar)])) (h := S.o q.as (S.end (hK _ ?_)))))))))))))
                  clear hK K
                  show Ev _ _ _ _
                  refine Ev.region_S fun K hK => S.o q.add (S.o q.mv (S.end (hK _ ?_)))
                  clear hK K
                  refine hR1 _ _ ?_
                  refine roundU [3] [1, 2, 6, 7, 33, 34] ⟨(pre ++ [s], suf), by rw [← hp]; simp, ?_⟩ ?_ (keep_c (he := (by first | rfl | (rw [flat_snoc, keep_1 ‹_›]) | (rw [flat_snoc, keep_2 ‹_› hy]) | (rw [flat_snoc, keep_0 ‹_› ‹_›, List.append_nil]))) (h := keep_n)) (slots_c (he := (by first | rfl | (congr 2; simp; done))) (h := (slots_c (he := (by first | rfl | (congr 1; rw [flat_snoc, keep_1 ‹_›]) | (congr 1; rw [flat_snoc, keep_2 ‹_› hy]) | (rw [flat_snoc, keep_0 ‹_› ‹_›, List.append_nil]))) (h := trivial)))) (.c (.c (.c (.c (.c (.c .n))))))
                  trivial
                  all_goals (dsimp only; simp only [List.length_cons]; omega)
                · first
                | (first | omega | contradiction)
                | refine Ev.skip ?_
                  show Ev _ _ _ _
                  refine Ev.region_S fun K hK => S.o q.add (S.o q.mv (S.end (hK _ ?_)))
                  clear hK K
                  refine hR1 _ _ ?_
                  refine roundU [0] [1, 2, 6, 7, 33, 34] ⟨(pre ++ [s], suf), by rw [← hp]; simp, ?_⟩ ?_ (keep_c (he := (by first | rfl | (rw [flat_snoc, keep_1 ‹_›]) | (rw [flat_snoc, keep_2 ‹_› hy]) | (rw [flat_snoc, keep_0 ‹_› ‹_›, List.append_nil]))) (h := keep_n)) (slots_c (he := (by first | rfl | (congr 2; simp; done))) (h := (slots_c (he := (by first | rfl | (congr 1; rw [flat_snoc, keep_1 ‹_›]) | (congr 1; rw [flat_snoc, keep_2 ‹_› hy]) | (rw [flat_snoc, keep_0 ‹_› ‹_›, List.append_nil]))) (h := trivial)))) (.c (.c (.c (.c (.c (.c .n))))))
                  trivial
                  all_goals (dsimp only; simp only [List.length_cons]; omega)
            · first
            | (first | omega | contradiction)
            | refine Ev.exit ?_
              refine hR1 _ _ ?_
              show Ev _ _ _ _
              refine Ev.seq ?_
              refine Ev.sr fun K hK => S.o q.mv (S.o (q.lens am_el25) (S.o q.mv (S.end (hK _ ?_))))
              clear hK K
              refine Ev.block ?_
              refine Ev.loopU (ι := {q : List Chg × List Chg // q.1 ++ q.2 = l}) [0] [1, 2, 6, 7, 33, 34, 35, 36, 64, 65] (fun ⟨(pre2, suf2), _⟩ => [(66, .lit (.int .i64 ((pre2.length : Int)))), (8, .als 0 0 (a.flatMap (keepP b l) ++ pre2.flatMap (newB b)).length)]) (fun ⟨(pre2, suf2), _⟩ => [(0, ⟨true, 43, 5, (a.flatMap (keepP b l) ++ pre2.flatMap (newB b)).map Bar.c, true⟩)]) (fun ⟨(pre2, suf2), _⟩ => suf2.length) ⟨([], l), rfl⟩ (.c (.c (.c (.c (.c (.c (.c (.c (.c (.c .n)))))))))) (keep_c (he := (by first | rfl | (simp; done) | (rw [flat_snoc, new_3 ‹_› hy, List.append_assoc]) | (rw [flat_snoc, new_0 ‹_›, List.append_nil]))) (h := keep_n)) (slots_c (he := (by first | rfl | (congr 2; simp; done))) (h := (slots_c (he := (by first | rfl | (congr 1; simp; done) | (congr 1; rw [flat_snoc, new_3 ‹_› hy, List.append_assoc]) | (rw [flat_snoc, new_0 ‹_›, List.append_nil]))) (h := trivial)))) ?_
              rintro ⟨⟨pre2, suf2⟩, hp2⟩ R4 hR4
              dsimp only [List.cons_append, List.nil_append, List.length_cons, List.length_nil]
              simp only at hp2
              have hpl2 : pre2.length + suf2.length = l.length := by rw [← hp2, List.length_append]
              have hnl := flat_len (newB b) (new_len b) pre2
              rcases suf2 with _ | ⟨s, suf2⟩
              · rw [List.append_nil] at hp2; simp only [List.length_nil] at hpl2
                have hfin : applyP a b l = a.flatMap (keepP b l) ++ pre2.flatMap (newB b) := by rw [hp2]; rfl
                refine Ev.sr fun K hK => S.o q.lss (S.end (hK _ ?_))
                clear hK K
                refine Ev.ud (fun c8 => ?_) (fun c8 => ?_)
                · first
                | (first | omega | contradiction)
                | refine Ev.seq ?_
                  refine Ev.block ?_
                  refine Ev.sr fun K hK => S.o (q.ix am_el25 am_cl36 (hl := (by first | exact ati hyi (by omega) | exact atig (by omega)))) (S.o (q.lsA [_, _] am_ag36 am_cl36) (S.nn (q.al am_ze36) (S.sv [_, _] true [_] am_in36 am_cl36 (h := S.end (hK _ ?_)))))
                  clear hK K
                  refine Ev.sr fun K hK => S.o (q.fa 0 am_fi36_0 am_cl3) (S.o (q.lv am_ag3) (S.o q.eql (S.end (hK _ ?_))))
                  clear hK K
                  refine Ev.cd (fun c9 => ?_) (fun c9 => ?_)
                  · first
                  | (first | omega | contradiction)
                  | have hfit : markI a s.2 < 0 ∧ 0 ≤ markI b s.2 := (hf.1 s (by rw [← hp2]; simp)).2.2 (by assumption)
                    obtain ⟨y, hy, hyi, hym, hyk⟩ := barAt_some hfit.2
                    have hyd := hbd y hym
                    refine Ev.region_S fun K hK => S.o q.mv (S.o q.mv (S.o q.mv (S.o (q.fa 1 am_fi36_1 am_cl9) (S.o (q.lv am_ag9) (S.c0 (hF := find_fun _ _ (by omega)) (h := S.o (q.ix am_el22 am_cl43 (hl := (by first | exact ati hyi (by omega) | exact atig (by omega)))) (S.o (q.lsA [_, _, _, _, _] am_ag43 am_cl43) (S.c0 (hF := copied_fun _ (by omega)) (h := S.nn (q.bs [[_, _, _, _, _]] true am_el22 am_ze43 am_cl43) (S.ap' [_, _] am_el22 am_ze43 am_cl43 am_by43 (hh := head_own') (hr := (rows_lit [(⟨_, _, _, _, _⟩ : Bar)])) (h := S.o q.as (S.end (hK _ ?_)))))))))))))
                    clear hK K
                    show Ev _ _ _ _
                    refine Ev.region_S fun K hK => S.o q.add (S.o q.mv (S.end (hK _ ?_)))
                    clear hK K
                    refine hR4 _ _ ?_
                    refine roundU [3] [1, 2, 6, 7, 33, 34, 35, 36, 64, 65] ⟨(pre2 ++ [s], suf2), by rw [← hp2]; simp⟩ ?_ (keep_c (he := (by first | rfl | (simp; done) | (rw [flat_snoc, new_3 ‹_› hy, List.append_assoc]) | (rw [flat_snoc, new_0 ‹_›, List.append_nil]))) (h := keep_n)) (slots_c (he := (by first | rfl | (congr 2; simp; done))) (h := (slots_c (he := (by first | rfl | (congr 1; simp; done) | (congr 1; rw [flat_snoc, new_3 ‹_› hy, List.append_assoc]) | (rw [flat_snoc, new_0 ‹_›, List.append_nil]))) (h := trivial)))) (.c (.c (.c (.c (.c (.c (.c (.c (.c (.c .n))))))))))
                    skip
                    all_goals (dsimp only; simp only [List.length_cons]; omega)
                  · first
                  | (first | omega | contradiction)
                  | refine Ev.skip ?_
                    show Ev _ _ _ _
                    refine Ev.region_S fun K hK => S.o q.add (S.o q.mv (S.end (hK _ ?_)))
                    clear hK K
                    refine hR4 _ _ ?_
                    refine roundU [0] [1, 2, 6, 7, 33, 34, 35, 36, 64, 65] ⟨(pre2 ++ [s], suf2), by rw [← hp2]; simp⟩ ?_ (keep_c (he := (by first | rfl | (simp; done) | (rw [flat_snoc, new_3 ‹_› hy, List.append_assoc]) | (rw [flat_snoc, new_0 ‹_›, List.append_nil]))) (h := keep_n)) (slots_c (he := (by first | rfl | (congr 2; simp; done))) (h := (slots_c (he := (by first | rfl | (congr 1; simp; done) | (congr 1; rw [flat_snoc, new_3 ‹_› hy, List.append_assoc]) | (rw [flat_snoc, new_0 ‹_›, List.append_nil]))) (h := trivial)))) (.c (.c (.c (.c (.c (.c (.c (.c (.c (.c .n))))))))))
                    skip
                    all_goals (dsimp only; simp only [List.length_cons]; omega)
                · first
                | (first | omega | contradiction)
                | refine Ev.exit ?_
                  refine hR4 _ _ ?_
                  show Ev _ _ _ _
                  refine Ev.seq ?_
                  refine Ev.sr fun K hK => S.o q.mv (S.o (q.lena am_el22) (S.o q.gtr (S.end (hK _ ?_))))
                  clear hK K
                  refine Ev.cd (fun c10 => ?_) (fun c10 => ?_)
                  · first
                  | (first | omega | contradiction)
                  | refine Ev.sr fun K hK => S.o q.as (S.o q.as (S.end (hK _ ?_)))
                    clear hK K
                    refine Ev.weaken (Wk.nsh Bar.c 6 5) ?_
                    refine Ev.ret ?_
                    refine Ev.ret2 ?_
                    refine ⟨?_, rfl⟩
                    first
                     | (have hno : ¬ okApply a b l := fun h => absurd h.1.1 ‹_›
                        rw [show appV a b l = [] from if_neg hno, show appE a b l = 1 from if_neg hno]; done)
                     | (have hno : ¬ okApply a b l := fun h => absurd h.1.2 ‹_›
                        rw [show appV a b l = [] from if_neg hno, show appE a b l = 1 from if_neg hno]; done)
                     | (have hno : ¬ okApply a b l := fun h => absurd h.2 ‹_›
                        rw [show appV a b l = [] from if_neg hno, show appE a b l = 1 from if_neg hno]; done)
                     | (have hyes : okApply a b l := ⟨⟨‹_›, ‹_›⟩, ‹_›⟩
                        rw [show appV a b l = [] by rw [appV, if_pos hyes, if_neg ‹¬ fitsP a b l›], show appE a b l = 9 by rw [appE, if_pos hyes, if_neg ‹¬ fitsP a b l›]]; done)
                     | (have hlen : ¬ (applyP a b l).length ≤ 60 := by rw [hfin]; omega
                        rw [show appV a b l = [] by rw [appV, if_pos hyes, if_pos hf, if_neg hlen], show appE a b l = 4 by rw [appE, if_pos hyes, if_pos hf, if_neg hlen]]; done)
                     | (have hlen : (applyP a b l).length ≤ 60 := by rw [hfin]; omega
                        rw [show appV a b l = applyP a b l by rw [appV, if_pos hyes, if_pos hf, if_pos hlen], show appE a b l = 0 by rw [appE, if_pos hyes, if_pos hf, if_pos hlen], hfin]; done)
                  · first
                  | (first | omega | contradiction)
                  | refine Ev.skip ?_
                    show Ev _ _ _ _
                    refine Ev.sr fun K hK => S.o q.mv (S.o q.as (S.o q.as (S.end (hK _ ?_))))
                    clear hK K
                    refine Ev.weaken (Wk.frz 6 []) ?_
                    refine Ev.ret ?_
                    refine Ev.ret2 ?_
                    refine ⟨?_, rfl⟩
                    first
                     | (have hno : ¬ okApply a b l := fun h => absurd h.1.1 ‹_›
                        rw [show appV a b l = [] from if_neg hno, show appE a b l = 1 from if_neg hno]; done)
                     | (have hno : ¬ okApply a b l := fun h => absurd h.1.2 ‹_›
                        rw [show appV a b l = [] from if_neg hno, show appE a b l = 1 from if_neg hno]; done)
                     | (have hno : ¬ okApply a b l := fun h => absurd h.2 ‹_›
                        rw [show appV a b l = [] from if_neg hno, show appE a b l = 1 from if_neg hno]; done)
                     | (have hyes : okApply a b l := ⟨⟨‹_›, ‹_›⟩, ‹_›⟩
                        rw [show appV a b l = [] by rw [appV, if_pos hyes, if_neg ‹¬ fitsP a b l›], show appE a b l = 9 by rw [appE, if_pos hyes, if_neg ‹¬ fitsP a b l›]]; done)
                     | (have hlen : ¬ (applyP a b l).length ≤ 60 := by rw [hfin]; omega
                        rw [show appV a b l = [] by rw [appV, if_pos hyes, if_pos hf, if_neg hlen], show appE a b l = 4 by rw [appE, if_pos hyes, if_pos hf, if_neg hlen]]; done)
                     | (have hlen : (applyP a b l).length ≤ 60 := by rw [hfin]; omega
                        rw [show appV a b l = applyP a b l by rw [appV, if_pos hyes, if_pos hf, if_pos hlen], show appE a b l = 0 by rw [appE, if_pos hyes, if_pos hf, if_pos hlen], hfin]; done)
              · simp only [List.length_cons] at hpl2
                have hidx2 : l[pre2.length]? = some s := by rw [← hp2]; simp
                refine Ev.sr fun K hK => S.o q.lss (S.end (hK _ ?_))
                clear hK K
                refine Ev.ud (fun c11 => ?_) (fun c11 => ?_)
                · first
                | (first | omega | contradiction)
                | refine Ev.seq ?_
                  refine Ev.block ?_
                  refine Ev.sr fun K hK => S.o (q.ix am_el25 am_cl36 (hl := (by first | exact ati hyi (by omega) | exact ati hidx2 (by omega) | exact atig (by omega)))) (S.o (q.lsA [_, _] am_ag36 am_cl36) (S.nn (q.al am_ze36) (S.sv [_, _] true [_] am_in36 am_cl36 (h := S.end (hK _ ?_)))))
                  clear hK K
                  refine Ev.sr fun K hK => S.o (q.fa 0 am_fi36_0 am_cl3) (S.o (q.lv am_ag3) (S.o q.eql (S.end (hK _ ?_))))
                  clear hK K
                  refine Ev.cd (fun c12 => ?_) (fun c12 => ?_)
                  · first
                  | (first | omega | contradiction)
                  | have hfit : markI a s.2 < 0 ∧ 0 ≤ markI b s.2 := (hf.1 s (by rw [← hp2]; simp)).2.2 (by assumption)
                    obtain ⟨y, hy, hyi, hym, hyk⟩ := barAt_some hfit.2
                    have hyd := hbd y hym
                    refine Ev.region_S fun K hK => S.o q.mv (S.o q.mv (S.o q.mv (S.o (q.fa 1 am_fi36_1 am_cl9) (S.o (q.lv am_ag9) (S.c0 (hF := find_fun _ _ (by omega)) (h := S.o (q.ix am_el22 am_cl43 (hl := (by first | exact ati hyi (by omega) | exact ati hidx2 (by omega) | exact atig (by omega)))) (S.o (q.lsA [_, _, _, _, _] am_ag43 am_cl43) (S.c0 (hF := copied_fun _ (by omega)) (h := S.nn (q.bs [[_, _, _, _, _]] true am_el22 am_ze43 am_cl43) (S.ap' [_, _] am_el22 am_ze43 am_cl43 am_by43 (hh := head_own') (hr := (rows_lit [(⟨_, _, _, _, _⟩ : Bar)])) (h := S.o q.as (S.end (hK _ ?_)))))))))))))
                    clear hK K
                    show Ev _ _ _ _
                    refine Ev.region_S fun K hK => S.o q.add (S.o q.mv (S.end (hK _ ?_)))
                    clear hK K
                    refine hR4 _ _ ?_
                    refine roundU [3] [1, 2, 6, 7, 33, 34, 35, 36, 64, 65] ⟨(pre2 ++ [s], suf2), by rw [← hp2]; simp⟩ ?_ (keep_c (he := (by first | rfl | (simp; done) | (rw [flat_snoc, new_3 ‹_› hy, List.append_assoc]) | (rw [flat_snoc, new_0 ‹_›, List.append_nil]))) (h := keep_n)) (slots_c (he := (by first | rfl | (congr 2; simp; done))) (h := (slots_c (he := (by first | rfl | (congr 1; simp; done) | (congr 1; rw [flat_snoc, new_3 ‹_› hy, List.append_assoc]) | (rw [flat_snoc, new_0 ‹_›, List.append_nil]))) (h := trivial)))) (.c (.c (.c (.c (.c (.c (.c (.c (.c (.c .n))))))))))
                    skip
                    all_goals (dsimp only; simp only [List.length_cons]; omega)
                  · first
                  | (first | omega | contradiction)
                  | refine Ev.skip ?_
                    show Ev _ _ _ _
                    refine Ev.region_S fun K hK => S.o q.add (S.o q.mv (S.end (hK _ ?_)))
                    clear hK K
                    refine hR4 _ _ ?_
                    refine roundU [0] [1, 2, 6, 7, 33, 34, 35, 36, 64, 65] ⟨(pre2 ++ [s], suf2), by rw [← hp2]; simp⟩ ?_ (keep_c (he := (by first | rfl | (simp; done) | (rw [flat_snoc, new_3 ‹_› hy, List.append_assoc]) | (rw [flat_snoc, new_0 ‹_›, List.append_nil]))) (h := keep_n)) (slots_c (he := (by first | rfl | (congr 2; simp; done))) (h := (slots_c (he := (by first | rfl | (congr 1; simp; done) | (congr 1; rw [flat_snoc, new_3 ‹_› hy, List.append_assoc]) | (rw [flat_snoc, new_0 ‹_›, List.append_nil]))) (h := trivial)))) (.c (.c (.c (.c (.c (.c (.c (.c (.c (.c .n))))))))))
                    skip
                    all_goals (dsimp only; simp only [List.length_cons]; omega)
                · first
                | (first | omega | contradiction)
                | refine Ev.exit ?_
                  refine hR4 _ _ ?_
                  show Ev _ _ _ _
                  refine Ev.seq ?_
                  refine Ev.sr fun K hK => S.o q.mv (S.o (q.lena am_el22) (S.o q.gtr (S.end (hK _ ?_))))
                  clear hK K
                  refine Ev.cd (fun c13 => ?_) (fun c13 => ?_)
                  · first
                  | (first | omega | contradiction)
                  | refine Ev.sr fun K hK => S.o q.as (S.o q.as (S.end (hK _ ?_)))
                    clear hK K
                    refine Ev.weaken (Wk.nsh Bar.c 6 5) ?_
                    refine Ev.ret ?_
                    refine Ev.ret2 ?_
                    refine ⟨?_, rfl⟩
                    first
                     | (have hno : ¬ okApply a b l := fun h => absurd h.1.1 ‹_›
                        rw [show appV a b l = [] from if_neg hno, show appE a b l = 1 from if_neg hno]; done)
                     | (have hno : ¬ okApply a b l := fun h => absurd h.1.2 ‹_›
                        rw [show appV a b l = [] from if_neg hno, show appE a b l = 1 from if_neg hno]; done)
                     | (have hno : ¬ okApply a b l := fun h => absurd h.2 ‹_›
                        rw [show appV a b l = [] from if_neg hno, show appE a b l = 1 from if_neg hno]; done)
                     | (have hyes : okApply a b l := ⟨⟨‹_›, ‹_›⟩, ‹_›⟩
                        rw [show appV a b l = [] by rw [appV, if_pos hyes, if_neg ‹¬ fitsP a b l›], show appE a b l = 9 by rw [appE, if_pos hyes, if_neg ‹¬ fitsP a b l›]]; done)
                     | (have hlen : ¬ (applyP a b l).length ≤ 60 := by rw [hfin]; omega
                        rw [show appV a b l = [] by rw [appV, if_pos hyes, if_pos hf, if_neg hlen], show appE a b l = 4 by rw [appE, if_pos hyes, if_pos hf, if_neg hlen]]; done)
                     | (have hlen : (applyP a b l).length ≤ 60 := by rw [hfin]; omega
                        rw [show appV a b l = applyP a b l by rw [appV, if_pos hyes, if_pos hf, if_pos hlen], show appE a b l = 0 by rw [appE, if_pos hyes, if_pos hf, if_pos hlen], hfin]; done)
                  · first
                  | (first | omega | contradiction)
                  | refine Ev.skip ?_
                    show Ev _ _ _ _
                    refine Ev.sr fun K hK => S.o q.mv (S.o q.as (S.o q.as (S.end (hK _ ?_))))
                    clear hK K
                    refine Ev.weaken (Wk.frz 6 []) ?_
                    refine Ev.ret ?_
                    refine Ev.ret2 ?_
                    refine ⟨?_, rfl⟩
                    first
                     | (have hno : ¬ okApply a b l := fun h => absurd h.1.1 ‹_›
                        rw [show appV a b l = [] from if_neg hno, show appE a b l = 1 from if_neg hno]; done)
                     | (have hno : ¬ okApply a b l := fun h => absurd h.1.2 ‹_›
                        rw [show appV a b l = [] from if_neg hno, show appE a b l = 1 from if_neg hno]; done)
                     | (have hno : ¬ okApply a b l := fun h => absurd h.2 ‹_›
                        rw [show appV a b l = [] from if_neg hno, show appE a b l = 1 from if_neg hno]; done)
                     | (have hyes : okApply a b l := ⟨⟨‹_›, ‹_›⟩, ‹_›⟩
                        rw [show appV a b l = [] by rw [appV, if_pos hyes, if_neg ‹¬ fitsP a b l›], show appE a b l = 9 by rw [appE, if_pos hyes, if_neg ‹¬ fitsP a b l›]]; done)
                     | (have hlen : ¬ (applyP a b l).length ≤ 60 := by rw [hfin]; omega
                        rw [show appV a b l = [] by rw [appV, if_pos hyes, if_pos hf, if_neg hlen], show appE a b l = 4 by rw [appE, if_pos hyes, if_pos hf, if_neg hlen]]; done)
                     | (have hlen : (applyP a b l).length ≤ 60 := by rw [hfin]; omega
                        rw [show appV a b l = applyP a b l by rw [appV, if_pos hyes, if_pos hf, if_pos hlen], show appE a b l = 0 by rw [appE, if_pos hyes, if_pos hf, if_pos hlen], hfin]; done)
          · simp only [List.length_cons] at hpl
            have hidx : (a)[pre.length]? = some s := by rw [← hp]; simp
            have hkl := flat_len (keepP b l) (keep_len b l) pre
            have hsd : s.dims.length ≤ 1000000 := (by have h1 := (hyes.1.1.2.1 s (by rw [← hp]; simp)).2.2.2.2.2.1; have h2 : dimsN s.code ≤ 5 := (by unfold dimsN; repeat' split <;> omega); omega)
            refine Ev.sr fun K hK => S.o q.lss (S.end (hK _ ?_))
            clear hK K
            refine Ev.ud (fun c14 => ?_) (fun c14 => ?_)
            · first
            | (first | omega | contradiction)
            | refine Ev.seq ?_
              refine Ev.block ?_
              refine Ev.sr fun K hK => S.o (q.ix am_el22 am_cl43 (hl := (by first | exact ati hyi (by omega) | exact ati hidx (by omega) | exact atig (by omega)))) (S.o (q.lsA [_, _, _, _, _] am_ag43 am_cl43) (S.nn (q.al am_ze43) (S.sv [_, _, _, _, _] true [_] am_in43 am_cl43 (h := S.end (hK _ ?_)))))
              clear hK K
              refine Ev.sr fun K hK => S.o q.mv (S.o (q.fa 0 am_fi43_0 am_cl9) (S.o (q.lv am_ag9) (S.c0 (hF := of_fun _ _ (by omega)) (h := S.end (hK _ ?_)))))
              clear hK K
              refine Ev.block ?_
              refine Ev.sr fun K hK => S.o q.eql (S.o q.as (S.end (hK _ ?_)))
              clear hK K
              refine Ev.cd (fun c15 => ?_) (fun c15 => ?_)
              · first
              | (first | omega | contradiction)
              | refine Ev.region_S fun K hK => S.o q.mv (S.o (q.lvA [_, _, _, _, _] am_ag43 am_cl43) (S.c0 (hF := copied_fun _ (by omega)) (h := S.nn (q.bs [[_, _, _, _, _]] true am_el22 am_ze43 am_cl43) (S.ap' [_, _] am_el22 am_ze43 am_cl43 am_by43 (hh := head_own') (hr := (rows_lit [(⟨_, _, _, _, _⟩ : Bar)])) (h := S.o q.as (S.end (hK _ ?_)))))))
                clear hK K
                show Ev _ _ _ _
                refine Ev.region_S fun K hK => S.o q.add (S.o q.mv (S.end (hK _ ?_)))
                clear hK K
                refine hR1 _ _ ?_
                refine roundU [3] [1, 2, 6, 7, 33, 34] ⟨(pre ++ [s], suf), by rw [← hp]; simp, ?_⟩ ?_ (keep_c (he := (by first | rfl | (rw [flat_snoc, keep_1 ‹_›]) | (rw [flat_snoc, keep_2 ‹_› hy]) | (rw [flat_snoc, keep_0 ‹_› ‹_›, List.append_nil]))) (h := keep_n)) (slots_c (he := (by first | rfl | (congr 2; simp; done))) (h := (slots_c (he := (by first | rfl | (congr 1; rw [flat_snoc, keep_1 ‹_›]) | (congr 1; rw [flat_snoc, keep_2 ‹_› hy]) | (rw [flat_snoc, keep_0 ‹_› ‹_›, List.append_nil]))) (h := trivial)))) (.c (.c (.c (.c (.c (.c .n))))))
                trivial
                all_goals (dsimp only; simp only [List.length_cons]; omega)
              · first
              | (first | omega | contradiction)
              | refine Ev.sr fun K hK => S.o q.eql (S.o q.as (S.end (hK _ ?_)))
                clear hK K
                refine Ev.cd (fun c16 => ?_) (fun c16 => ?_)
                · first
                | (first | omega | contradiction)
                | have hfit : 0 ≤ markI a s.mark ∧ 0 ≤ markI b s.mark := (hf.1 _ (ofK_mem (mk := s.mark) (by omega))).2.1 (by assumption)
                  obtain ⟨y, hy, hyi, hym, hyk⟩ := barAt_some hfit.2
                  have hyd := hbd y hym
                  refine Ev.region_S fun K hK => S.o q.mv (S.o q.mv (S.o q.mv (S.o (q.fa 0 am_fi43_0 am_cl9) (S.o (q.lv am_ag9) (S.c0 (hF := find_fun _ _ (by omega)) (h := S.o (q.ix am_el22 am_cl43 (hl := (by first | exact ati hyi (by omega) | exact ati hidx (by omega) | exact atig (by omega)))) (S.o (q.lsA [_, _, _, _, _] am_ag43 am_cl43) (S.c0 (hF := copied_fun _ (by omega)) (h := S.nn (q.bs [[_, _, _, _, _]] true am_el22 am_ze43 am_cl43) (S.ap' [_, _] am_el22 am_ze43 am_cl43 am_by43 (hh := head_own') (hr := (rows_lit [(⟨_, _, _, _, _⟩ : Bar)])) (h := S.o q.as (S.end (hK _ ?_)))))))))))))
                  clear hK K
                  show Ev _ _ _ _
                  refine Ev.region_S fun K hK => S.o q.add (S.o q.mv (S.end (hK _ ?_)))
                  clear hK K
                  refine hR1 _ _ ?_
                  refine roundU [3] [1, 2, 6, 7, 33, 34] ⟨(pre ++ [s], suf), by rw [← hp]; simp, ?_⟩ ?_ (keep_c (he := (by first | rfl | (rw [flat_snoc, keep_1 ‹_›]) | (rw [flat_snoc, keep_2 ‹_› hy]) | (rw [flat_snoc, keep_0 ‹_› ‹_›, List.append_nil]))) (h := keep_n)) (slots_c (he := (by first | rfl | (congr 2; simp; done))) (h := (slots_c (he := (by first | rfl | (congr 1; rw [flat_snoc, keep_1 ‹_›]) | (congr 1; rw [flat_snoc, keep_2 ‹_› hy]) | (rw [flat_snoc, keep_0 ‹_› ‹_›, List.append_nil]))) (h := trivial)))) (.c (.c (.c (.c (.c (.c .n))))))
                  trivial
                  all_goals (dsimp only; simp only [List.length_cons]; omega)
                · first
                | (first | omega | contradiction)
                | refine Ev.skip ?_
                  show Ev _ _ _ _
                  refine Ev.region_S fun K hK => S.o q.add (S.o q.mv (S.end (hK _ ?_)))
                  clear hK K
                  refine hR1 _ _ ?_
                  refine roundU [0] [1, 2, 6, 7, 33, 34] ⟨(pre ++ [s], suf), by rw [← hp]; simp, ?_⟩ ?_ (keep_c (he := (by first | rfl | (rw [flat_snoc, keep_1 ‹_›]) | (rw [flat_snoc, keep_2 ‹_› hy]) | (rw [flat_snoc, keep_0 ‹_› ‹_›, List.append_nil]))) (h := keep_n)) (slots_c (he := (by first | rfl | (congr 2; simp; done))) (h := (slots_c (he := (by first | rfl | (congr 1; rw [flat_snoc, keep_1 ‹_›]) | (congr 1; rw [flat_snoc, keep_2 ‹_› hy]) | (rw [flat_snoc, keep_0 ‹_› ‹_›, List.append_nil]))) (h := trivial)))) (.c (.c (.c (.c (.c (.c .n))))))
                  trivial
                  all_goals (dsimp only; simp only [List.length_cons]; omega)
            · first
            | (first | omega | contradiction)
            | refine Ev.exit ?_
              refine hR1 _ _ ?_
              show Ev _ _ _ _
              refine Ev.seq ?_
              refine Ev.sr fun K hK => S.o q.mv (S.o (q.lens am_el25) (S.o q.mv (S.end (hK _ ?_))))
              clear hK K
              refine Ev.block ?_
              refine Ev.loopU (ι := {q : List Chg × List Chg // q.1 ++ q.2 = l}) [0] [1, 2, 6, 7, 33, 34, 35, 36, 64, 65] (fun ⟨(pre2, suf2), _⟩ => [(66, .lit (.int .i64 ((pre2.length : Int)))), (8, .als 0 0 (a.flatMap (keepP b l) ++ pre2.flatMap (newB b)).length)]) (fun ⟨(pre2, suf2), _⟩ => [(0, ⟨true, 43, 5, (a.flatMap (keepP b l) ++ pre2.flatMap (newB b)).map Bar.c, true⟩)]) (fun ⟨(pre2, suf2), _⟩ => suf2.length) ⟨([], l), rfl⟩ (.c (.c (.c (.c (.c (.c (.c (.c (.c (.c .n)))))))))) (keep_c (he := (by first | rfl | (simp; done) | (rw [flat_snoc, new_3 ‹_› hy, List.append_assoc]) | (rw [flat_snoc, new_0 ‹_›, List.append_nil]))) (h := keep_n)) (slots_c (he := (by first | rfl | (congr 2; simp; done))) (h := (slots_c (he := (by first | rfl | (congr 1; simp; done) | (congr 1; rw [flat_snoc, new_3 ‹_› hy, List.append_assoc]) | (rw [flat_snoc, new_0 ‹_›, List.append_nil]))) (h := trivial)))) ?_
              rintro ⟨⟨pre2, suf2⟩, hp2⟩ R4 hR4
              dsimp only [List.cons_append, List.nil_append, List.length_cons, List.length_nil]
              simp only at hp2
              have hpl2 : pre2.length + suf2.length = l.length := by rw [← hp2, List.length_append]
              have hnl := flat_len (newB b) (new_len b) pre2
              rcases suf2 with _ | ⟨s, suf2⟩
              · rw [List.append_nil] at hp2; simp only [List.length_nil] at hpl2
                have hfin : applyP a b l = a.flatMap (keepP b l) ++ pre2.flatMap (newB b) := by rw [hp2]; rfl
                refine Ev.sr fun K hK => S.o q.lss (S.end (hK _ ?_))
                clear hK K
                refine Ev.ud (fun c17 => ?_) (fun c17 => ?_)
                · first
                | (first | omega | contradiction)
                | refine Ev.seq ?_
                  refine Ev.block ?_
                  refine Ev.sr fun K hK => S.o (q.ix am_el25 am_cl36 (hl := (by first | exact ati hyi (by omega) | exact ati hidx (by omega) | exact atig (by omega)))) (S.o (q.lsA [_, _] am_ag36 am_cl36) (S.nn (q.al am_ze36) (S.sv [_, _] true [_] am_in36 am_cl36 (h := S.end (hK _ ?_)))))
                  clear hK K
                  refine Ev.sr fun K hK => S.o (q.fa 0 am_fi36_0 am_cl3) (S.o (q.lv am_ag3) (S.o q.eql (S.end (hK _ ?_))))
                  clear hK K
                  refine Ev.cd (fun c18 => ?_) (fun c18 => ?_)
                  · first
                  | (first | omega | contradiction)
                  | have hfit : markI a s.2 < 0 ∧ 0 ≤ markI b s.2 := (hf.1 s (by rw [← hp2]; simp)).2.2 (by assumption)
                    obtain ⟨y, hy, hyi, hym, hyk⟩ := barAt_some hfit.2
                    have hyd := hbd y hym
                    refine Ev.region_S fun K hK => S.o q.mv (S.o q.mv (S.o q.mv (S.o (q.fa 1 am_fi36_1 am_cl9) (S.o (q.lv am_ag9) (S.c0 (hF := find_fun _ _ (by omega)) (h := S.o (q.ix am_el22 am_cl43 (hl := (by first | exact ati hyi (by omega) | exact ati hidx (by omega) | exact atig (by omega)))) (S.o (q.lsA [_, _, _, _, _] am_ag43 am_cl43) (S.c0 (hF := copied_fun _ (by omega)) (h := S.nn (q.bs [[_, _, _, _, _]] true am_el22 am_ze43 am_cl43) (S.ap' [_, _] am_el22 am_ze43 am_cl43 am_by43 (hh := head_own') (hr := (rows_lit [(⟨_, _, _, _, _⟩ : Bar)])) (h := S.o q.as (S.end (hK _ ?_)))))))))))))
                    clear hK K
                    show Ev _ _ _ _
                    refine Ev.region_S fun K hK => S.o q.add (S.o q.mv (S.end (hK _ ?_)))
                    clear hK K
                    refine hR4 _ _ ?_
                    refine roundU [3] [1, 2, 6, 7, 33, 34, 35, 36, 64, 65] ⟨(pre2 ++ [s], suf2), by rw [← hp2]; simp⟩ ?_ (keep_c (he := (by first | rfl | (simp; done) | (rw [flat_snoc, new_3 ‹_› hy, List.append_assoc]) | (rw [flat_snoc, new_0 ‹_›, List.append_nil]))) (h := keep_n)) (slots_c (he := (by first | rfl | (congr 2; simp; done))) (h := (slots_c (he := (by first | rfl | (congr 1; simp; done) | (congr 1; rw [flat_snoc, new_3 ‹_› hy, List.append_assoc]) | (rw [flat_snoc, new_0 ‹_›, List.append_nil]))) (h := trivial)))) (.c (.c (.c (.c (.c (.c (.c (.c (.c (.c .n))))))))))
                    skip
                    all_goals (dsimp only; simp only [List.length_cons]; omega)
                  · first
                  | (first | omega | contradiction)
                  | refine Ev.skip ?_
                    show Ev _ _ _ _
                    refine Ev.region_S fun K hK => S.o q.add (S.o q.mv (S.end (hK _ ?_)))
                    clear hK K
                    refine hR4 _ _ ?_
                    refine roundU [0] [1, 2, 6, 7, 33, 34, 35, 36, 64, 65] ⟨(pre2 ++ [s], suf2), by rw [← hp2]; simp⟩ ?_ (keep_c (he := (by first | rfl | (simp; done) | (rw [flat_snoc, new_3 ‹_› hy, List.append_assoc]) | (rw [flat_snoc, new_0 ‹_›, List.append_nil]))) (h := keep_n)) (slots_c (he := (by first | rfl | (congr 2; simp; done))) (h := (slots_c (he := (by first | rfl | (congr 1; simp; done) | (congr 1; rw [flat_snoc, new_3 ‹_› hy, List.append_assoc]) | (rw [flat_snoc, new_0 ‹_›, List.append_nil]))) (h := trivial)))) (.c (.c (.c (.c (.c (.c (.c (.c (.c (.c .n))))))))))
                    skip
                    all_goals (dsimp only; simp only [List.length_cons]; omega)
                · first
                | (first | omega | contradiction)
                | refine Ev.exit ?_
                  refine hR4 _ _ ?_
                  show Ev _ _ _ _
                  refine Ev.seq ?_
                  refine Ev.sr fun K hK => S.o q.mv (S.o (q.lena am_el22) (S.o q.gtr (S.end (hK _ ?_))))
                  clear hK K
                  refine Ev.cd (fun c19 => ?_) (fun c19 => ?_)
                  · first
                  | (first | omega | contradiction)
                  | refine Ev.sr fun K hK => S.o q.as (S.o q.as (S.end (hK _ ?_)))
                    clear hK K
                    refine Ev.weaken (Wk.nsh Bar.c 6 5) ?_
                    refine Ev.ret ?_
                    refine Ev.ret2 ?_
                    refine ⟨?_, rfl⟩
                    first
                     | (have hno : ¬ okApply a b l := fun h => absurd h.1.1 ‹_›
                        rw [show appV a b l = [] from if_neg hno, show appE a b l = 1 from if_neg hno]; done)
                     | (have hno : ¬ okApply a b l := fun h => absurd h.1.2 ‹_›
                        rw [show appV a b l = [] from if_neg hno, show appE a b l = 1 from if_neg hno]; done)
                     | (have hno : ¬ okApply a b l := fun h => absurd h.2 ‹_›
                        rw [show appV a b l = [] from if_neg hno, show appE a b l = 1 from if_neg hno]; done)
                     | (have hyes : okApply a b l := ⟨⟨‹_›, ‹_›⟩, ‹_›⟩
                        rw [show appV a b l = [] by rw [appV, if_pos hyes, if_neg ‹¬ fitsP a b l›], show appE a b l = 9 by rw [appE, if_pos hyes, if_neg ‹¬ fitsP a b l›]]; done)
                     | (have hlen : ¬ (applyP a b l).length ≤ 60 := by rw [hfin]; omega
                        rw [show appV a b l = [] by rw [appV, if_pos hyes, if_pos hf, if_neg hlen], show appE a b l = 4 by rw [appE, if_pos hyes, if_pos hf, if_neg hlen]]; done)
                     | (have hlen : (applyP a b l).length ≤ 60 := by rw [hfin]; omega
                        rw [show appV a b l = applyP a b l by rw [appV, if_pos hyes, if_pos hf, if_pos hlen], show appE a b l = 0 by rw [appE, if_pos hyes, if_pos hf, if_pos hlen], hfin]; done)
                  · first
                  | (first | omega | contradiction)
                  | refine Ev.skip ?_
                    show Ev _ _ _ _
                    refine Ev.sr fun K hK => S.o q.mv (S.o q.as (S.o q.as (S.end (hK _ ?_))))
                    clear hK K
                    refine Ev.weaken (Wk.frz 6 []) ?_
                    refine Ev.ret ?_
                    refine Ev.ret2 ?_
                    refine ⟨?_, rfl⟩
                    first
                     | (have hno : ¬ okApply a b l := fun h => absurd h.1.1 ‹_›
                        rw [show appV a b l = [] from if_neg hno, show appE a b l = 1 from if_neg hno]; done)
                     | (have hno : ¬ okApply a b l := fun h => absurd h.1.2 ‹_›
                        rw [show appV a b l = [] from if_neg hno, show appE a b l = 1 from if_neg hno]; done)
                     | (have hno : ¬ okApply a b l := fun h => absurd h.2 ‹_›
                        rw [show appV a b l = [] from if_neg hno, show appE a b l = 1 from if_neg hno]; done)
                     | (have hyes : okApply a b l := ⟨⟨‹_›, ‹_›⟩, ‹_›⟩
                        rw [show appV a b l = [] by rw [appV, if_pos hyes, if_neg ‹¬ fitsP a b l›], show appE a b l = 9 by rw [appE, if_pos hyes, if_neg ‹¬ fitsP a b l›]]; done)
                     | (have hlen : ¬ (applyP a b l).length ≤ 60 := by rw [hfin]; omega
                        rw [show appV a b l = [] by rw [appV, if_pos hyes, if_pos hf, if_neg hlen], show appE a b l = 4 by rw [appE, if_pos hyes, if_pos hf, if_neg hlen]]; done)
                     | (have hlen : (applyP a b l).length ≤ 60 := by rw [hfin]; omega
                        rw [show appV a b l = applyP a b l by rw [appV, if_pos hyes, if_pos hf, if_pos hlen], show appE a b l = 0 by rw [appE, if_pos hyes, if_pos hf, if_pos hlen], hfin]; done)
              · simp only [List.length_cons] at hpl2
                have hidx2 : l[pre2.length]? = some s := by rw [← hp2]; simp
                refine Ev.sr fun K hK => S.o q.lss (S.end (hK _ ?_))
                clear hK K
                refine Ev.ud (fun c20 => ?_) (fun c20 => ?_)
                · first
                | (first | omega | contradiction)
                | refine Ev.seq ?_
                  refine Ev.block ?_
                  refine Ev.sr fun K hK => S.o (q.ix am_el25 am_cl36 (hl := (by first | exact ati hyi (by omega) | exact ati hidx (by omega) | exact ati hidx2 (by omega) | exact atig (by omega)))) (S.o (q.lsA [_, _] am_ag36 am_cl36) (S.nn (q.al am_ze36) (S.sv [_, _] true [_] am_in36 am_cl36 (h := S.end (hK _ ?_)))))
                  clear hK K
                  refine Ev.sr fun K hK => S.o (q.fa 0 am_fi36_0 am_cl3) (S.o (q.lv am_ag3) (S.o q.eql (S.end (hK _ ?_))))
                  clear hK K
                  refine Ev.cd (fun c21 => ?_) (fun c21 => ?_)
                  · first
                  | (first | omega | contradiction)
                  | have hfit : markI a s.2 < 0 ∧ 0 ≤ markI b s.2 := (hf.1 s (by rw [← hp2]; simp)).2.2 (by assumption)
                    obtain ⟨y, hy, hyi, hym, hyk⟩ := barAt_some hfit.2
                    have hyd := hbd y hym
                    refine Ev.region_S fun K hK => S.o q.mv (S.o q.mv (S.o q.mv (S.o (q.fa 1 am_fi36_1 am_cl9) (S.o (q.lv am_ag9) (S.c0 (hF := find_fun _ _ (by omega)) (h := S.o (q.ix am_el22 am_cl43 (hl := (by first | exact ati hyi (by omega) | exact ati hidx (by omega) | exact ati hidx2 (by omega) | exact atig (by omega)))) (S.o (q.lsA [_, _, _, _, _] am_ag43 am_cl43) (S.c0 (hF := copied_fun _ (by omega)) (h := S.nn (q.bs [[_, _, _, _, _]] true am_el22 am_ze43 am_cl43) (S.ap' [_, _] am_el22 am_ze43 am_cl43 am_by43 (hh := head_own') (hr := (rows_lit [(⟨_, _, _, _, _⟩ : Bar)])) (h := S.o q.as (S.end (hK _ ?_)))))))))))))
                    clear hK K
                    show Ev _ _ _ _
                    refine Ev.region_S fun K hK => S.o q.add (S.o q.mv (S.end (hK _ ?_)))
                    clear hK K
                    refine hR4 _ _ ?_
                    refine roundU [3] [1, 2, 6, 7, 33, 34, 35, 36, 64, 65] ⟨(pre2 ++ [s], suf2), by rw [← hp2]; simp⟩ ?_ (keep_c (he := (by first | rfl | (simp; done) | (rw [flat_snoc, new_3 ‹_› hy, List.append_assoc]) | (rw [flat_snoc, new_0 ‹_›, List.append_nil]))) (h := keep_n)) (slots_c (he := (by first | rfl | (congr 2; simp; done))) (h := (slots_c (he := (by first | rfl | (congr 1; simp; done) | (congr 1; rw [flat_snoc, new_3 ‹_› hy, List.append_assoc]) | (rw [flat_snoc, new_0 ‹_›, List.append_nil]))) (h := trivial)))) (.c (.c (.c (.c (.c (.c (.c (.c (.c (.c .n))))))))))
                    skip
                    all_goals (dsimp only; simp only [List.length_cons]; omega)
                  · first
                  | (first | omega | contradiction)
                  | refine Ev.skip ?_
                    show Ev _ _ _ _
                    refine Ev.region_S fun K hK => S.o q.add (S.o q.mv (S.end (hK _ ?_)))
                    clear hK K
                    refine hR4 _ _ ?_
                    refine roundU [0] [1, 2, 6, 7, 33, 34, 35, 36, 64, 65] ⟨(pre2 ++ [s], suf2), by rw [← hp2]; simp⟩ ?_ (keep_c (he := (by first | rfl | (simp; done) | (rw [flat_snoc, new_3 ‹_› hy, List.append_assoc]) | (rw [flat_snoc, new_0 ‹_›, List.append_nil]))) (h := keep_n)) (slots_c (he := (by first | rfl | (congr 2; simp; done))) (h := (slots_c (he := (by first | rfl | (congr 1; simp; done) | (congr 1; rw [flat_snoc, new_3 ‹_› hy, List.append_assoc]) | (rw [flat_snoc, new_0 ‹_›, List.append_nil]))) (h := trivial)))) (.c (.c (.c (.c (.c (.c (.c (.c (.c (.c .n))))))))))
                    skip
                    all_goals (dsimp only; simp only [List.length_cons]; omega)
                · first
                | (first | omega | contradiction)
                | refine Ev.exit ?_
                  refine hR4 _ _ ?_
                  show Ev _ _ _ _
                  refine Ev.seq ?_
                  refine Ev.sr fun K hK => S.o q.mv (S.o (q.lena am_el22) (S.o q.gtr (S.end (hK _ ?_))))
                  clear hK K
                  refine Ev.cd (fun c22 => ?_) (fun c22 => ?_)
                  · first
                  | (first | omega | contradiction)
                  | refine Ev.sr fun K hK => S.o q.as (S.o q.as (S.end (hK _ ?_)))
                    clear hK K
                    refine Ev.weaken (Wk.nsh Bar.c 6 5) ?_
                    refine Ev.ret ?_
                    refine Ev.ret2 ?_
                    refine ⟨?_, rfl⟩
                    first
                     | (have hno : ¬ okApply a b l := fun h => absurd h.1.1 ‹_›
                        rw [show appV a b l = [] from if_neg hno, show appE a b l = 1 from if_neg hno]; done)
                     | (have hno : ¬ okApply a b l := fun h => absurd h.1.2 ‹_›
                        rw [show appV a b l = [] from if_neg hno, show appE a b l = 1 from if_neg hno]; done)
                     | (have hno : ¬ okApply a b l := fun h => absurd h.2 ‹_›
                        rw [show appV a b l = [] from if_neg hno, show appE a b l = 1 from if_neg hno]; done)
                     | (have hyes : okApply a b l := ⟨⟨‹_›, ‹_›⟩, ‹_›⟩
                        rw [show appV a b l = [] by rw [appV, if_pos hyes, if_neg ‹¬ fitsP a b l›], show appE a b l = 9 by rw [appE, if_pos hyes, if_neg ‹¬ fitsP a b l›]]; done)
                     | (have hlen : ¬ (applyP a b l).length ≤ 60 := by rw [hfin]; omega
                        rw [show appV a b l = [] by rw [appV, if_pos hyes, if_pos hf, if_neg hlen], show appE a b l = 4 by rw [appE, if_pos hyes, if_pos hf, if_neg hlen]]; done)
                     | (have hlen : (applyP a b l).length ≤ 60 := by rw [hfin]; omega
                        rw [show appV a b l = applyP a b l by rw [appV, if_pos hyes, if_pos hf, if_pos hlen], show appE a b l = 0 by rw [appE, if_pos hyes, if_pos hf, if_pos hlen], hfin]; done)
                  · first
                  | (first | omega | contradiction)
                  | refine Ev.skip ?_
                    show Ev _ _ _ _
                    refine Ev.sr fun K hK => S.o q.mv (S.o q.as (S.o q.as (S.end (hK _ ?_))))
                    clear hK K
                    refine Ev.weaken (Wk.frz 6 []) ?_
                    refine Ev.ret ?_
                    refine Ev.ret2 ?_
                    refine ⟨?_, rfl⟩
                    first
                     | (have hno : ¬ okApply a b l := fun h => absurd h.1.1 ‹_›
                        rw [show appV a b l = [] from if_neg hno, show appE a b l = 1 from if_neg hno]; done)
                     | (have hno : ¬ okApply a b l := fun h => absurd h.1.2 ‹_›
                        rw [show appV a b l = [] from if_neg hno, show appE a b l = 1 from if_neg hno]; done)
                     | (have hno : ¬ okApply a b l := fun h => absurd h.2 ‹_›
                        rw [show appV a b l = [] from if_neg hno, show appE a b l = 1 from if_neg hno]; done)
                     | (have hyes : okApply a b l := ⟨⟨‹_›, ‹_›⟩, ‹_›⟩
                        rw [show appV a b l = [] by rw [appV, if_pos hyes, if_neg ‹¬ fitsP a b l›], show appE a b l = 9 by rw [appE, if_pos hyes, if_neg ‹¬ fitsP a b l›]]; done)
                     | (have hlen : ¬ (applyP a b l).length ≤ 60 := by rw [hfin]; omega
                        rw [show appV a b l = [] by rw [appV, if_pos hyes, if_pos hf, if_neg hlen], show appE a b l = 4 by rw [appE, if_pos hyes, if_pos hf, if_neg hlen]]; done)
                     | (have hlen : (applyP a b l).length ≤ 60 := by rw [hfin]; omega
                        rw [show appV a b l = applyP a b l by rw [appV, if_pos hyes, if_pos hf, if_pos hlen], show appE a b l = 0 by rw [appE, if_pos hyes, if_pos hf, if_pos hlen], hfin]; done)
end Go.Proofs.Ytccddakkegelkaa
