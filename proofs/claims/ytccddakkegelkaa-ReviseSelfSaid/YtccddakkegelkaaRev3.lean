/-
  Layer 41: masses, fitting, copies.
  Conditions: none.
-/
import Derived.Test.YtccddakkegelkaaRev2
import Derived.Test.YtccddakkegelkaaBend
namespace Go.Proofs.Ytccddakkegelkaa
open Go Go.AM
set_option linter.unusedSimpArgs false
set_option linter.unusedVariables false
set_option maxRecDepth 100000

def massK (ks : List Int) (ch : List Chg) (l : List Bar) : Int := l.foldl (fun a b => if ofK ch b.mark ∈ ks then a + barMass b else a) 0
theorem massK_snoc (ks : List Int) (ch : List Chg) (l : List Bar) (s : Bar) : massK ks ch (l ++ [s]) = if ofK ch s.mark ∈ ks then massK ks ch l + barMass s else massK ks ch l := by simp [massK, List.foldl_append]
theorem massK_bd (ks : List Int) (ch : List Chg) : ∀ l : List Bar, (∀ b ∈ l, okBar b) → 0 ≤ massK ks ch l ∧ massK ks ch l ≤ 10343154000 * l.length := by
  refine snoc_ind (fun _ => by simp [massK]) ?_
  intro l s ih h
  have h1 := ih fun b hb => h b (by simp [hb])
  obtain ⟨_, _, h3, h4⟩ := barMass_bd (h s (by simp))
  rw [massK_snoc, List.length_append, List.length_singleton]
  split <;> omega
theorem mass_kinds_fun (l : List Bar) (ch : List Chg) (ks : List Int) (hok : ∀ b ∈ l, okBar b) (hl : l.length ≤ 60) (hch : ch.length ≤ 140737488355328) (hks : ks.length ≤ 100) : Fun Try.prog 37 [.sh 5 (l.map Bar.c), .sh 2 (ch.map findC), .sh 1 (ks.map intC)] (Ret (.tup [.lit (.int .i64 (massK ks ch l)), .lit (.int .i64 0)]) []) := by
  refine Fun.of (nt := 39) (rs := [.tmp 6, .tmp 7]) Try.func37 rfl rfl rfl rfl rfl ?_
  refine Ev.sr fun K hK => S.o q.as (S.o q.as (S.end (hK _ ?_)))
  clear hK K
  refine Ev.sr fun K hK => S.o q.as (S.end (hK _ ?_))
  clear hK K
  refine Ev.seq ?_
  refine Ev.sr fun K hK => S.o q.mv (S.o (q.lens am_el22) (S.o q.mv (S.end (hK _ ?_))))
  clear hK K
  refine Ev.block ?_
  refine Ev.loopU (ι := {p : List (Bar) × List (Bar) // p.1 ++ p.2 = l ∧ True}) [] [1, 2, 13, 14] (fun ⟨(pre, suf), _⟩ => [(15, .lit (.int .i64 ((pre.length : Int)))), (8, .lit (.int .i64 (massK ks ch pre)))]) (fun ⟨(pre, suf), _⟩ => []) (fun ⟨(pre, suf), _⟩ => suf.length) ⟨([], l), rfl, trivial⟩ (.c (.c (.c (.c .n)))) keep_n (slots_c (he := (by first | rfl | (congr 2; simp; done))) (h := (slots_c (he := (by first | rfl | exact iE (by rw [massK_snoc, if_pos ‹_›, hV]) | exact iE (by rw [massK_snoc, if_neg ‹_›]))) (h := trivial)))) ?_
  rintro ⟨⟨pre, suf⟩, hp, hinv⟩ R0 hR0
  dsimp only [List.cons_append, List.nil_append, List.length_cons, List.length_nil]
  simp only at hp hinv
  have hpl : pre.length + suf.length = (l).length := by rw [← hp, List.length_append]
  rcases suf with _ | ⟨s, suf⟩
  · rw [List.append_nil] at hp; subst hp; simp only [List.length_nil] at hpl
    refine Ev.sr fun K hK => S.o q.lss (S.end (hK _ ?_))
    clear hK K
    refine Ev.ud (fun c1 => ?_) (fun c1 => ?_)
    · first
    | (first | omega | contradiction)
    | refine Ev.seq ?_
      refine Ev.block ?_
      refine Ev.sr fun K hK => S.o (q.ix am_el22 am_cl43 (hl := (by first | exact atig (by omega)))) (S.o (q.lsA [_, _, _, _, _] am_ag43 am_cl43) (S.nn (q.al am_ze43) (S.sv [_, _, _, _, _] true [] am_in43 am_cl43 (h := S.end (hK _ ?_)))))
      clear hK K
      refine Ev.seq ?_
      refine Ev.sr fun K hK => S.o q.mv (S.o q.mv (S.o (q.fa 0 am_fi43_0 am_cl9) (S.o (q.lv am_ag9) (S.c0 (hF := of_fun _ _ (by omega)) (h := S.c0 (hF := contains_fun _ _ (by omega)) (h := S.o q.not (S.end (hK _ ?_))))))))
      clear hK K
      refine Ev.cn (fun c2 => ?_) (fun c2 => ?_)
      · first
      | (first | omega | contradiction)
      | refine Ev.exit ?_
        show Ev _ _ _ _
        refine Ev.region_S fun K hK => S.o q.add (S.o q.mv (S.end (hK _ ?_)))
        clear hK K
        refine hR0 _ _ ?_
        refine roundU [] [1, 2, 13, 14] ⟨(pre ++ [s], suf), by rw [← hp]; simp, ?_⟩ ?_ keep_n (slots_c (he := (by first | rfl | (congr 2; simp; done))) (h := (slots_c (he := (by first | rfl | exact iE (by rw [massK_snoc, if_pos ‹_›, hV]) | exact iE (by rw [massK_snoc, if_neg ‹_›]))) (h := trivial)))) (.c (.c (.c (.c .n))))
        trivial
        all_goals (dsimp only; simp only [List.length_cons]; omega)
      · first
      | (first | omega | contradiction)
      | refine Ev.skip ?_
        show Ev _ _ _ _
        have hE : okE s = 0 := if_pos hsok
        have hV : okV s (barMass s) = barMass s := if_pos hsok
        refine Ev.sr fun K hK => S.o (q.lvA [_, _, _, _, _] am_ag43 am_cl43) (S.c0 (hF := barMass_fun _ (by assumption)) (h := S.o q.mv (S.o q.ex (S.o q.ex (S.o q.as (S.o q.as (S.end (hK _ ?_))))))))
        clear hK K
        refine Ev.seq ?_
        refine Ev.sr fun K hK => S.o q.mv (S.o q.neq (S.end (hK _ ?_)))
        clear hK K
        refine Ev.cn (fun c3 => ?_) (fun c3 => ?_)
        · first
        | (first | omega | contradiction)
        | refine Ev.sr fun K hK => S.o q.mv (S.o q.as (S.o q.as (S.end (hK _ ?_))))
          clear hK K
          refine Ev.ret ?_
          refine hR0 _ _ ?_
          refine Ev.ret2 ?_
          refine ⟨?_, rfl⟩
          first | rfl | (exfalso; omega)
        · first
        | (first | omega | contradiction)
        | refine Ev.skip ?_
          show Ev _ _ _ _
          refine Ev.region_S fun K hK => S.o q.mv (S.o q.mv (S.o q.add (S.o q.as (S.end (hK _ ?_)))))
          clear hK K
          show Ev _ _ _ _
          refine Ev.region_S fun K hK => S.o q.add (S.o q.mv (S.end (hK _ ?_)))
          clear hK K
          refine hR0 _ _ ?_
          refine roundU [] [1, 2, 13, 14] ⟨(pre ++ [s], suf), by rw [← hp]; simp, ?_⟩ ?_ keep_n (slots_c (he := (by first | rfl | (congr 2; simp; done))) (h := (slots_c (he := (by first | rfl | exact iE (by rw [massK_snoc, if_pos ‹_›, hV]) | exact iE (by rw [massK_snoc, if_neg ‹_›]))) (h := trivial)))) (.c (.c (.c (.c .n))))
          trivial
          all_goals (dsimp only; simp only [List.length_cons]; omega)
    · first
    | (first | omega | contradiction)
    | refine Ev.exit ?_
      refine hR0 _ _ ?_
      show Ev _ _ _ _
      refine Ev.sr fun K hK => S.o q.mv (S.o q.as (S.o q.as (S.end (hK _ ?_))))
      clear hK K
      refine Ev.ret ?_
      refine Ev.ret2 ?_
      refine ⟨?_, rfl⟩
      first | rfl | (exfalso; omega)
  · simp only [List.length_cons] at hpl
    have hidx : (l)[pre.length]? = some s := by rw [← hp]; simp
    have hsok : okBar s := hok s (by rw [← hp]; simp)
    have hsw : s.w := okBar_w hsok
    obtain ⟨hb1, hb2⟩ := massK_bd ks ch pre (fun b hb => hok b (by rw [← hp]; simp [hb]))
    obtain ⟨_, _, hb3, hb4⟩ := barMass_bd hsok
    refine Ev.sr fun K hK => S.o q.lss (S.end (hK _ ?_))
    clear hK K
    refine Ev.ud (fun c4 => ?_) (fun c4 => ?_)
    · first
    | (first | omega | contradiction)
    | refine Ev.seq ?_
      refine Ev.block ?_
      refine Ev.sr fun K hK => S.o (q.ix am_el22 am_cl43 (hl := (by first | exact ati hidx (by omega) | exact atig (by omega)))) (S.o (q.lsA [_, _, _, _, _] am_ag43 am_cl43) (S.nn (q.al am_ze43) (S.sv [_, _, _, _, _] true [] am_in43 am_cl43 (h := S.end (hK _ ?_)))))
      clear hK K
      refine Ev.seq ?_
      refine Ev.sr fun K hK => S.o q.mv (S.o q.mv (S.o (q.fa 0 am_fi43_0 am_cl9) (S.o (q.lv am_ag9) (S.c0 (hF := of_fun _ _ (by omega)) (h := S.c0 (hF := contains_fun _ _ (by omega)) (h := S.o q.not (S.end (hK _ ?_))))))))
      clear hK K
      refine Ev.cn (fun c5 => ?_) (fun c5 => ?_)
      · first
      | (first | omega | contradiction)
      | refine Ev.exit ?_
        show Ev _ _ _ _
        refine Ev.region_S fun K hK => S.o q.add (S.o q.mv (S.end (hK _ ?_)))
        clear hK K
        refine hR0 _ _ ?_
        refine roundU [] [1, 2, 13, 14] ⟨(pre ++ [s], suf), by rw [← hp]; simp, ?_⟩ ?_ keep_n (slots_c (he := (by first | rfl | (congr 2; simp; done))) (h := (slots_c (he := (by first | rfl | exact iE (by rw [massK_snoc, if_pos ‹_›, hV]) | exact iE (by rw [massK_snoc, if_neg ‹_›]))) (h := trivial)))) (.c (.c (.c (.c .n))))
        trivial
        all_goals (dsimp only; simp only [List.length_cons]; omega)
      · first
      | (first | omega | contradiction)
      | refine Ev.skip ?_
        show Ev _ _ _ _
        have hE : okE s = 0 := if_pos hsok
        have hV : okV s (barMass s) = barMass s := if_pos hsok
        refine Ev.sr fun K hK => S.o (q.lvA [_, _, _, _, _] am_ag43 am_cl43) (S.c0 (hF := barMass_fun _ (by assumption)) (h := S.o q.mv (S.o q.ex (S.o q.ex (S.o q.as (S.o q.as (S.end (hK _ ?_))))))))
        clear hK K
        refine Ev.seq ?_
        refine Ev.sr fun K hK => S.o q.mv (S.o q.neq (S.end (hK _ ?_)))
        clear hK K
        refine Ev.cn (fun c6 => ?_) (fun c6 => ?_)
        · first
        | (first | omega | contradiction)
        | refine Ev.sr fun K hK => S.o q.mv (S.o q.as (S.o q.as (S.end (hK _ ?_))))
          clear hK K
          refine Ev.ret ?_
          refine hR0 _ _ ?_
          refine Ev.ret2 ?_
          refine ⟨?_, rfl⟩
          first | rfl | (exfalso; omega)
        · first
        | (first | omega | contradiction)
        | refine Ev.skip ?_
          show Ev _ _ _ _
          refine Ev.region_S fun K hK => S.o q.mv (S.o q.mv (S.o q.add (S.o q.as (S.end (hK _ ?_)))))
          clear hK K
          show Ev _ _ _ _
          refine Ev.region_S fun K hK => S.o q.add (S.o q.mv (S.end (hK _ ?_)))
          clear hK K
          refine hR0 _ _ ?_
          refine roundU [] [1, 2, 13, 14] ⟨(pre ++ [s], suf), by rw [← hp]; simp, ?_⟩ ?_ keep_n (slots_c (he := (by first | rfl | (congr 2; simp; done))) (h := (slots_c (he := (by first | rfl | exact iE (by rw [massK_snoc, if_pos ‹_›, hV]) | exact iE (by rw [massK_snoc, if_neg ‹_›]))) (h := trivial)))) (.c (.c (.c (.c .n))))
          trivial
          all_goals (dsimp only; simp only [List.length_cons]; omega)
    · first
    | (first | omega | contradiction)
    | refine Ev.exit ?_
      refine hR0 _ _ ?_
      show Ev _ _ _ _
      refine Ev.sr fun K hK => S.o q.mv (S.o q.as (S.o q.as (S.end (hK _ ?_))))
      clear hK K
      refine Ev.ret ?_
      refine Ev.ret2 ?_
      refine ⟨?_, rfl⟩
      first | rfl | (exfalso; omega)

def comesP (a b : List Bar) : Int := massK [3, 2] (cmpP a b) b
def goesP (a b : List Bar) : Int := massK [2, 4] (cmpP a b) a
def stV (a b : List Bar) (v : Int) : Int := if okSched a ∧ okSched b then v else 0
theorem cmp_len (a b : List Bar) : (cmpP a b).length ≤ a.length + b.length := by
  have := filter_le (newP a) b
  simp only [cmpP, List.length_append, List.length_map]
  omega
theorem Steel_fun (a b : List Bar) (ha : a.length ≤ 140737488355328) (hb : b.length ≤ 140737488355328) (hwa : schedW a) (hwb : schedW b) : Fun Try.prog 11 [.sh 5 (a.map Bar.c), .sh 5 (b.map Bar.c)] (Ret (.tup [.lit (.int .i64 (stV a b (comesP a b))), .lit (.int .i64 (stV a b (goesP a b))), .lit (.int .i64 (cmpE a b))]) []) := by
  refine Fun.of (nt := 42) (rs := [.tmp 4, .tmp 5, .tmp 6]) Try.func11 rfl rfl rfl rfl rfl ?_
  refine Ev.sr fun K hK => S.o q.as (S.o q.as (S.o q.as (S.end (hK _ ?_))))
  clear hK K
  refine Ev.sr fun K hK => S.o q.mv (S.o q.mv (S.c0 (hF := Compare_fun _ _ (by omega) (by omega) (by assumption) (by assumption)) (h := S.o q.mv (S.o q.ex (S.o q.ex (S.o q.as (S.o q.as (S.end (hK _ ?_)))))))))
  clear hK K
  refine Ev.seq ?_
  refine Ev.sr fun K hK => S.o q.mv (S.o q.neq (S.end (hK _ ?_)))
  clear hK K
  refine Ev.cn (fun c1 => ?_) (fun c1 => ?_)
  · first
  | (first | omega | contradiction)
  | have hno : ¬ (okSched a ∧ okSched b) := fun h => by have h1 : cmpE a b = 0 := if_pos h; omega
    refine Ev.sr fun K hK => S.o q.mv (S.o q.as (S.o q.as (S.o q.as (S.end (hK _ ?_)))))
    clear hK K
    refine Ev.ret ?_
    refine Ev.ret3 ?_
    refine ⟨?_, rfl⟩
    first
     | (rw [show stV a b (comesP a b) = 0 from if_neg hno, show stV a b (goesP a b) = 0 from if_neg hno]; done)
     | (exfalso; omega)
     | (rw [show stV a b (comesP a b) = comesP a b from if_pos hyes, show stV a b (goesP a b) = goesP a b from if_pos hyes, show cmpE a b = 0 from if_pos hyes]; rfl)
  · first
  | (first | omega | contradiction)
  | refine Ev.skip ?_
    show Ev _ _ _ _
    have hyes : okSched a ∧ okSched b := by
      by_cases h : okSched a ∧ okSched b
      · exact h
      · have h1 : cmpE a b = 1 := if_neg h
        omega
    have ho1 := hyes.1.2.1
    have ho2 := hyes.2.2.1
    have hl1 := hyes.1.1
    have hl2 := hyes.2.1
    have hcl := cmp_len a b
    rw [show cmpV a b = cmpP a b from if_pos hyes]
    refine Ev.sr fun K hK => S.o q.mv (S.o q.mv (S.nn (q.bs [[_], [_]] true am_el41 am_ze3 am_cl3) (S.c0 (hF := mass_kinds_fun b (cmpP a b) [3, 2] ho2 (by omega) (by omega) (by decide)) (h := S.o q.mv (S.o q.ex (S.o q.ex (S.o q.as (S.o q.as (S.end (hK _ ?_))))))))))
    clear hK K
    refine Ev.seq ?_
    refine Ev.sr fun K hK => S.o q.mv (S.o q.neq (S.end (hK _ ?_)))
    clear hK K
    refine Ev.cn (fun c2 => ?_) (fun c2 => ?_)
    · first
    | (first | omega | contradiction)
    | refine Ev.sr fun K hK => S.o q.mv (S.o q.as (S.o q.as (S.o q.as (S.end (hK _ ?_)))))
      clear hK K
      refine Ev.ret ?_
      refine Ev.ret3 ?_
      refine ⟨?_, rfl⟩
      first
       | (rw [show stV a b (comesP a b) = 0 from if_neg hno, show stV a b (goesP a b) = 0 from if_neg hno]; done)
       | (exfalso; omega)
       | (rw [show stV a b (comesP a b) = comesP a b from if_pos hyes, show stV a b (goesP a b) = goesP a b from if_pos hyes, show cmpE a b = 0 from if_pos hyes]; rfl)
    · first
    | (first | omega | contradiction)
    | refine Ev.skip ?_
      show Ev _ _ _ _
      refine Ev.sr fun K hK => S.o q.mv (S.o q.mv (S.nn (q.bs [[_], [_]] true am_el41 am_ze3 am_cl3) (S.c0 (hF := mass_kinds_fun a (cmpP a b) [2, 4] ho1 (by omega) (by omega) (by decide)) (h := S.o q.mv (S.o q.ex (S.o q.ex (S.o q.as (S.o q.as (S.end (hK _ ?_))))))))))
      clear hK K
      refine Ev.seq ?_
      refine Ev.sr fun K hK => S.o q.mv (S.o q.neq (S.end (hK _ ?_)))
      clear hK K
      refine Ev.cn (fun c3 => ?_) (fun c3 => ?_)
      · first
      | (first | omega | contradiction)
      | refine Ev.sr fun K hK => S.o q.mv (S.o q.as (S.o q.as (S.o q.as (S.end (hK _ ?_)))))
        clear hK K
        refine Ev.ret ?_
        refine Ev.ret3 ?_
        refine ⟨?_, rfl⟩
        first
         | (rw [show stV a b (comesP a b) = 0 from if_neg hno, show stV a b (goesP a b) = 0 from if_neg hno]; done)
         | (exfalso; omega)
         | (rw [show stV a b (comesP a b) = comesP a b from if_pos hyes, show stV a b (goesP a b) = goesP a b from if_pos hyes, show cmpE a b = 0 from if_pos hyes]; rfl)
      · first
      | (first | omega | contradiction)
      | refine Ev.skip ?_
        show Ev _ _ _ _
        refine Ev.sr fun K hK => S.o q.mv (S.o q.mv (S.o q.as (S.o q.as (S.o q.as (S.end (hK _ ?_))))))
        clear hK K
        refine Ev.ret ?_
        refine Ev.ret3 ?_
        refine ⟨?_, rfl⟩
        first
         | (rw [show stV a b (comesP a b) = 0 from if_neg hno, show stV a b (goesP a b) = 0 from if_neg hno]; done)
         | (exfalso; omega)
         | (rw [show stV a b (comesP a b) = comesP a b from if_pos hyes, show stV a b (goesP a b) = goesP a b from if_pos hyes, show cmpE a b = 0 from if_pos hyes]; rfl)

def fitC (a b : List Bar) (c : Chg) : Prop := (c.1 = 1 ∨ c.1 = 4 → 0 ≤ markI a c.2) ∧ (c.1 = 2 → 0 ≤ markI a c.2 ∧ 0 ≤ markI b c.2) ∧ (c.1 = 3 → markI a c.2 < 0 ∧ 0 ≤ markI b c.2)
instance (a b c) : Decidable (fitC a b c) := by unfold fitC; infer_instance
def fitsP (a b : List Bar) (l : List Chg) : Prop := (∀ c ∈ l, fitC a b c) ∧ ∀ x ∈ a, ofK l x.mark ≠ 0
instance (a b l) : Decidable (fitsP a b l) := by unfold fitsP; infer_instance
theorem fits1_fun (l : List Chg) (hlen : l.length ≤ 140737488355328) (x : Bar) : Fun Try.prog 80 [.agg x.c, .sadr [.sh 2 (l.map findC)] 0] (Ret (.lit (.bool (decide (ofK l x.mark = 0)))) []) := by
  refine Fun.of (nt := 9) (rs := [.tmp 3]) Try.func80 rfl rfl rfl rfl rfl ?_
  refine Ev.sr fun K hK => S.nn (q.bx [_, _, _, _, _] true) (S.o q.as (S.end (hK _ ?_)))
  clear hK K
  refine Ev.sr fun K hK => S.o (q.ls am_ag25) (S.o (q.fa 0 am_fi43_0 am_cl9) (S.o (q.lv am_ag9) (S.c0 (hF := of_fun _ _ (by omega)) (h := S.o q.eql (S.o q.as (S.end (hK _ ?_)))))))
  clear hK K
  refine Ev.ret ?_
  refine Ev.ret1 ?_
  refine ⟨?_, rfl⟩
  rfl
theorem fits_end {a b : List Bar} {l : List Chg} (h : ∀ c ∈ l, fitC a b c) : AV.lit (.bool (!decide (∃ x ∈ a, decide (ofK l x.mark = 0) = true))) = .lit (.bool (decide (fitsP a b l))) := by
  congr 2
  rw [← decide_not, decide_eq_decide]
  constructor
  · intro h1
    refine ⟨h, fun x hx e => h1 ⟨x, hx, by simpa using e⟩⟩
  · rintro ⟨_, h2⟩ ⟨x, hx, e⟩
    exact h2 x hx (by simpa using e)
theorem fits_fun (a b : List Bar) (l : List Chg) (ha : a.length ≤ 140737488355328) (hb : b.length ≤ 140737488355328) (hl : l.length ≤ 140737488355328) : Fun Try.prog 49 [.sh 5 (a.map Bar.c), .sh 5 (b.map Bar.c), .sh 2 (l.map findC)] (Ret (.lit (.bool (decide (fitsP a b l)))) []) := by
  refine Fun.of (nt := 53) (rs := [.tmp 6]) Try.func49 rfl rfl rfl rfl rfl ?_
  refine Ev.sr fun K hK => S.nn (q.bx [_] true) (S.o q.as (S.end (hK _ ?_)))
  clear hK K
  refine Ev.seq ?_
  refine Ev.sr fun K hK => S.o (q.lv am_ag25) (S.o (q.lens am_el25) (S.o q.mv (S.end (hK _ ?_))))
  clear hK K
  refine Ev.block ?_
  refine Ev.loopU (ι := {q : List Chg × List Chg // q.1 ++ q.2 = l ∧ ∀ c ∈ q.1, fitC a b c}) [0] [0, 1, 5, 11, 12] (fun ⟨(pre, suf), _⟩ => [(13, .lit (.int .i64 ((pre.length : Int))))]) (fun ⟨(pre, suf), _⟩ => [(0, ⟨false, 25, 1, [[.sh 2 ((l).map findC)]], true⟩)]) (fun ⟨(pre, suf), _⟩ => suf.length) ⟨([], l), rfl, fun x hx => by simp at hx⟩ (.c (.c (.c (.c (.c .n))))) (keep_c (he := (by first | rfl | (simp; done))) (h := keep_n)) (slots_c (he := (by first | rfl | (simp; done) | (congr 2; omega))) (h := trivial)) ?_
  rintro ⟨⟨pre, suf⟩, hp, hinv⟩ R0 hR0
  dsimp only [List.cons_append, List.nil_append, List.length_cons, List.length_nil]
  simp only at hp hinv
  have hpl : pre.length + suf.length = (l).length := by rw [← hp, List.length_append]
  rcases suf with _ | ⟨s, suf⟩
  · rw [List.append_nil] at hp; subst pre; simp only [List.length_nil] at hpl
    refine Ev.sr fun K hK => S.o q.lss (S.end (hK _ ?_))
    clear hK K
    refine Ev.ud (fun c1 => ?_) (fun c1 => ?_)
    · first
    | (first | omega | contradiction)
    | refine Ev.seq ?_
      refine Ev.block ?_
      refine Ev.sr fun K hK => S.o (q.ix am_el25 am_cl36 (hl := (by first | exact atig (by omega)))) (S.o (q.lsA [_, _] am_ag36 am_cl36) (S.nn (q.al am_ze36) (S.sv [_, _] true [_] am_in36 am_cl36 (h := S.end (hK _ ?_)))))
      clear hK K
      refine Ev.sm (tbs [(0, 0), (0, 0), (2, 2), (3, 7), (0, 0), (0, 0), (6, 32), (7, 127), (8, 255), (9, 511)]) 8 fun K hK => M.o q.mv (M.o (q.fa 1 am_fi36_1 am_cl9) (M.o (q.lv am_ag9) (M.c0 (hF := find_fun _ _ (by omega)) (h := M.o q.mv (M.o (q.fa 1 am_fi36_1 am_cl9) (M.o (q.lv am_ag9) (M.c0 (hF := find_fun _ _ (by omega)) (h := M.end [_, _] (h := S.o q.as (S.o q.as (S.end (hK _ ?_))))))))))))
      clear hK K
      refine Ev.sr fun K hK => S.o (q.fa 0 am_fi36_0 am_cl3) (S.o (q.lv am_ag3) (S.end (hK _ ?_)))
      clear hK K
      refine Ev.block ?_
      refine Ev.seq ?_
      refine Ev.sr fun K hK => S.o q.eql (S.o q.as (S.end (hK _ ?_)))
      clear hK K
      refine Ev.cd (fun c2 => ?_) (fun c2 => ?_)
      · first
      | (first | omega | contradiction)
      | refine Ev.skip ?_
        show Ev _ _ _ _
        refine Ev.cd (fun _ => ?_) (fun c => absurd c2 c)
        refine Ev.sr fun K hK => S.o q.mv (S.o q.lss (S.end (hK _ ?_)))
        clear hK K
        refine Ev.cd (fun c3 => ?_) (fun c3 => ?_)
        · first
        | (first | omega | contradiction)
        | refine Ev.sr fun K hK => S.o q.as (S.end (hK _ ?_))
          clear hK K
          refine Ev.ret ?_
          refine hR0 _ _ ?_
          refine Ev.ret1 ?_
          refine ⟨?_, rfl⟩
          first | exact bF (fun h => by have h1 := h.1 s (by rw [← hp]; simp); unfold fitC at h1; omega) | exact fits_end hinv
        · first
        | (first | omega | contradiction)
        | refine Ev.skip ?_
          show Ev _ _ _ _
          refine Ev.region_S fun K hK => S.o q.add (S.o q.mv (S.end (hK _ ?_)))
          clear hK K
          refine hR0 _ _ ?_
          refine roundU [0] [0, 1, 5, 11, 12] ⟨(pre ++ [s], suf), by rw [← hp]; simp, ?_⟩ ?_ (keep_c (he := (by first | rfl | (simp; done))) (h := keep_n)) (slots_c (he := (by first | rfl | (simp; done) | (congr 2; omega))) (h := trivial)) (.c (.c (.c (.c (.c .n)))))
          intro x hx; simp only [List.mem_append, List.mem_singleton] at hx; rcases hx with hx | rfl
          · exact hinv x hx
          · unfold fitC; omega
          all_goals (dsimp only; simp only [List.length_cons]; omega)
      · first
      | (first | omega | contradiction)
      | refine Ev.region_S fun K hK => S.o q.eql (S.o q.as (S.end (hK _ ?_)))
        clear hK K
        show Ev _ _ _ _
        refine Ev.cd (fun c4 => ?_) (fun c4 => ?_)
        · first
        | (first | omega | contradiction)
        | refine Ev.sr fun K hK => S.o q.mv (S.o q.lss (S.end (hK _ ?_)))
          clear hK K
          refine Ev.cd (fun c5 => ?_) (fun c5 => ?_)
          · first
          | (first | omega | contradiction)
          | refine Ev.sr fun K hK => S.o q.as (S.end (hK _ ?_))
            clear hK K
            refine Ev.ret ?_
            refine hR0 _ _ ?_
            refine Ev.ret1 ?_
            refine ⟨?_, rfl⟩
            first | exact bF (fun h => by have h1 := h.1 s (by rw [← hp]; simp); unfold fitC at h1; omega) | exact fits_end hinv
          · first
          | (first | omega | contradiction)
          | refine Ev.skip ?_
            show Ev _ _ _ _
            refine Ev.region_S fun K hK => S.o q.add (S.o q.mv (S.end (hK _ ?_)))
            clear hK K
            refine hR0 _ _ ?_
            refine roundU [0] [0, 1, 5, 11, 12] ⟨(pre ++ [s], suf), by rw [← hp]; simp, ?_⟩ ?_ (keep_c (he := (by first | rfl | (simp; done))) (h := keep_n)) (slots_c (he := (by first | rfl | (simp; done) | (congr 2; omega))) (h := trivial)) (.c (.c (.c (.c (.c .n)))))
            intro x hx; simp only [List.mem_append, List.mem_singleton] at hx; rcases hx with hx | rfl
            · exact hinv x hx
            · unfold fitC; omega
            all_goals (dsimp only; simp only [List.length_cons]; omega)
        · first
        | (first | omega | contradiction)
        | refine Ev.sr fun K hK => S.o q.eql (S.o q.as (S.end (hK _ ?_)))
          clear hK K
          refine Ev.cd (fun c6 => ?_) (fun c6 => ?_)
          · first
          | (first | omega | contradiction)
          | refine Ev.sr fun K hK => S.o q.mv (S.o q.lss (S.bd q.mv (fun c7 => ?_) (fun c7 => ?_)))
            · first
            | (first | omega | contradiction)
            | refine S.sk (S.sk (S.o q.pt (S.end (hK _ ?_))))
              clear hK K
              refine Ev.ct ?_
              refine Ev.sr fun K hK => S.o q.as (S.end (hK _ ?_))
              clear hK K
              refine Ev.ret ?_
              refine hR0 _ _ ?_
              refine Ev.ret1 ?_
              refine ⟨?_, rfl⟩
              first | exact bF (fun h => by have h1 := h.1 s (by rw [← hp]; simp); unfold fitC at h1; omega) | exact fits_end hinv
            · first
            | (first | omega | contradiction)
            | refine S.o q.mv (S.o q.lss (S.o q.pf (S.end (hK _ ?_))))
              clear hK K
              refine Ev.cd (fun c8 => ?_) (fun c8 => ?_)
              · first
              | (first | omega | contradiction)
              | refine Ev.sr fun K hK => S.o q.as (S.end (hK _ ?_))
                clear hK K
                refine Ev.ret ?_
                refine hR0 _ _ ?_
                refine Ev.ret1 ?_
                refine ⟨?_, rfl⟩
                first | exact bF (fun h => by have h1 := h.1 s (by rw [← hp]; simp); unfold fitC at h1; omega) | exact fits_end hinv
              · first
              | (first | omega | contradiction)
              | refine Ev.skip ?_
                show Ev _ _ _ _
                refine Ev.region_S fun K hK => S.o q.add (S.o q.mv (S.end (hK _ ?_)))
                clear hK K
                refine hR0 _ _ ?_
                refine roundU [0] [0, 1, 5, 11, 12] ⟨(pre ++ [s], suf), by rw [← hp]; simp, ?_⟩ ?_ (keep_c (he := (by first | rfl | (simp; done))) (h := keep_n)) (slots_c (he := (by first | rfl | (simp; done) | (congr 2; omega))) (h := trivial)) (.c (.c (.c (.c (.c .n)))))
                intro x hx; simp only [List.mem_append, List.mem_singleton] at hx; rcases hx with hx | rfl
                · exact hinv x hx
                · unfold fitC; omega
                all_goals (dsimp only; simp only [List.length_cons]; omega)
          · first
          | (first | omega | contradiction)
          | refine Ev.sr fun K hK => S.o q.eql (S.o q.as (S.end (hK _ ?_)))
            clear hK K
            refine Ev.cd (fun c9 => ?_) (fun c9 => ?_)
            · first
            | (first | omega | contradiction)
            | refine Ev.sr fun K hK => S.o q.mv (S.o q.geq (S.bd q.mv (fun c10 => ?_) (fun c10 => ?_)))
              · first
              | (first | omega | contradiction)
              | refine S.sk (S.sk (S.o q.pt (S.end (hK _ ?_))))
                clear hK K
                refine Ev.ct ?_
                refine Ev.sr fun K hK => S.o q.as (S.end (hK _ ?_))
                clear hK K
                refine Ev.ret ?_
                refine hR0 _ _ ?_
                refine Ev.ret1 ?_
                refine ⟨?_, rfl⟩
                first | exact bF (fun h => by have h1 := h.1 s (by rw [← hp]; simp); unfold fitC at h1; omega) | exact fits_end hinv
              · first
              | (first | omega | contradiction)
              | refine S.o q.mv (S.o q.lss (S.o q.pf (S.end (hK _ ?_))))
                clear hK K
                refine Ev.cd (fun c11 => ?_) (fun c11 => ?_)
                · first
                | (first | omega | contradiction)
                | refine Ev.sr fun K hK => S.o q.as (S.end (hK _ ?_))
                  clear hK K
                  refine Ev.ret ?_
                  refine hR0 _ _ ?_
                  refine Ev.ret1 ?_
                  refine ⟨?_, rfl⟩
                  first | exact bF (fun h => by have h1 := h.1 s (by rw [← hp]; simp); unfold fitC at h1; omega) | exact fits_end hinv
                · first
                | (first | omega | contradiction)
                | refine Ev.skip ?_
                  show Ev _ _ _ _
                  refine Ev.region_S fun K hK => S.o q.add (S.o q.mv (S.end (hK _ ?_)))
                  clear hK K
                  refine hR0 _ _ ?_
                  refine roundU [0] [0, 1, 5, 11, 12] ⟨(pre ++ [s], suf), by rw [← hp]; simp, ?_⟩ ?_ (keep_c (he := (by first | rfl | (simp; done))) (h := keep_n)) (slots_c (he := (by first | rfl | (simp; done) | (congr 2; omega))) (h := trivial)) (.c (.c (.c (.c (.c .n)))))
                  intro x hx; simp only [List.mem_append, List.mem_singleton] at hx; rcases hx with hx | rfl
                  · exact hinv x hx
                  · unfold fitC; omega
                  all_goals (dsimp only; simp only [List.length_cons]; omega)
            · first
            | (first | omega | contradiction)
            | refine Ev.skip ?_
              show Ev _ _ _ _
              refine Ev.region_S fun K hK => S.o q.add (S.o q.mv (S.end (hK _ ?_)))
              clear hK K
              refine hR0 _ _ ?_
              refine roundU [0] [0, 1, 5, 11, 12] ⟨(pre ++ [s], suf), by rw [← hp]; simp, ?_⟩ ?_ (keep_c (he := (by first | rfl | (simp; done))) (h := keep_n)) (slots_c (he := (by first | rfl | (simp; done) | (congr 2; omega))) (h := trivial)) (.c (.c (.c (.c (.c .n)))))
              intro x hx; simp only [List.mem_append, List.mem_singleton] at hx; rcases hx with hx | rfl
              · exact hinv x hx
              · unfold fitC; omega
              all_goals (dsimp only; simp only [List.length_cons]; omega)
    · first
    | (first | omega | contradiction)
    | refine Ev.exit ?_
      refine hR0 _ _ ?_
      show Ev _ _ _ _
      refine Ev.sr fun K hK => S.o q.mv (S.o q.mf (S.c0 (hF := containsFuncBar1 _ _ (fun x : Bar => decide (ofK l x.mark = 0)) (fits1_fun l hl) a ha) (h := S.o q.not (S.o q.as (S.end (hK _ ?_))))))
      clear hK K
      refine Ev.ret ?_
      refine Ev.ret1 ?_
      refine ⟨?_, rfl⟩
      first | exact bF (fun h => by have h1 := h.1 s (by rw [← hp]; simp); unfold fitC at h1; omega) | exact fits_end hinv
  · simp only [List.length_cons] at hpl
    have hidx : (l)[pre.length]? = some s := by rw [← hp]; simp
    refine Ev.sr fun K hK => S.o q.lss (S.end (hK _ ?_))
    clear hK K
    refine Ev.ud (fun c12 => ?_) (fun c12 => ?_)
    · first
    | (first | omega | contradiction)
    | refine Ev.seq ?_
      refine Ev.block ?_
      refine Ev.sr fun K hK => S.o (q.ix am_el25 am_cl36 (hl := (by first | exact ati hidx (by omega) | exact atig (by omega)))) (S.o (q.lsA [_, _] am_ag36 am_cl36) (S.nn (q.al am_ze36) (S.sv [_, _] true [_] am_in36 am_cl36 (h := S.end (hK _ ?_)))))
      clear hK K
      refine Ev.sm (tbs [(0, 0), (0, 0), (2, 2), (3, 7), (0, 0), (0, 0), (6, 32), (7, 127), (8, 255), (9, 511)]) 8 fun K hK => M.o q.mv (M.o (q.fa 1 am_fi36_1 am_cl9) (M.o (q.lv am_ag9) (M.c0 (hF := find_fun _ _ (by omega)) (h := M.o q.mv (M.o (q.fa 1 am_fi36_1 am_cl9) (M.o (q.lv am_ag9) (M.c0 (hF := find_fun _ _ (by omega)) (h := M.end [_, _] (h := S.o q.as (S.o q.as (S.end (hK _ ?_))))))))))))
      clear hK K
      refine Ev.sr fun K hK => S.o (q.fa 0 am_fi36_0 am_cl3) (S.o (q.lv am_ag3) (S.end (hK _ ?_)))
      clear hK K
      refine Ev.block ?_
      refine Ev.seq ?_
      refine Ev.sr fun K hK => S.o q.eql (S.o q.as (S.end (hK _ ?_)))
      clear hK K
      refine Ev.cd (fun c13 => ?_) (fun c13 => ?_)
      · first
      | (first | omega | contradiction)
      | refine Ev.skip ?_
        show Ev _ _ _ _
        refine Ev.cd (fun _ => ?_) (fun c => absurd c13 c)
        refine Ev.sr fun K hK => S.o q.mv (S.o q.lss (S.end (hK _ ?_)))
        clear hK K
        refine Ev.cd (fun c14 => ?_) (fun c14 => ?_)
        · first
        | (first | omega | contradiction)
        | refine Ev.sr fun K hK => S.o q.as (S.end (hK _ ?_))
          clear hK K
          refine Ev.ret ?_
          refine hR0 _ _ ?_
          refine Ev.ret1 ?_
          refine ⟨?_, rfl⟩
          first | exact bF (fun h => by have h1 := h.1 s (by rw [← hp]; simp); unfold fitC at h1; omega) | exact fits_end hinv
        · first
        | (first | omega | contradiction)
        | refine Ev.skip ?_
          show Ev _ _ _ _
          refine Ev.region_S fun K hK => S.o q.add (S.o q.mv (S.end (hK _ ?_)))
          clear hK K
          refine hR0 _ _ ?_
          refine roundU [0] [0, 1, 5, 11, 12] ⟨(pre ++ [s], suf), by rw [← hp]; simp, ?_⟩ ?_ (keep_c (he := (by first | rfl | (simp; done))) (h := keep_n)) (slots_c (he := (by first | rfl | (simp; done) | (congr 2; omega))) (h := trivial)) (.c (.c (.c (.c (.c .n)))))
          intro x hx; simp only [List.mem_append, List.mem_singleton] at hx; rcases hx with hx | rfl
          · exact hinv x hx
          · unfold fitC; omega
          all_goals (dsimp only; simp only [List.length_cons]; omega)
      · first
      | (first | omega | contradiction)
      | refine Ev.region_S fun K hK => S.o q.eql (S.o q.as (S.end (hK _ ?_)))
        clear hK K
        show Ev _ _ _ _
        refine Ev.cd (fun c15 => ?_) (fun c15 => ?_)
        · first
        | (first | omega | contradiction)
        | refine Ev.sr fun K hK => S.o q.mv (S.o q.lss (S.end (hK _ ?_)))
          clear hK K
          refine Ev.cd (fun c16 => ?_) (fun c16 => ?_)
          · first
          | (first | omega | contradiction)
          | refine Ev.sr fun K hK => S.o q.as (S.end (hK _ ?_))
            clear hK K
            refine Ev.ret ?_
            refine hR0 _ _ ?_
            refine Ev.ret1 ?_
            refine ⟨?_, rfl⟩
            first | exact bF (fun h => by have h1 := h.1 s (by rw [← hp]; simp); unfold fitC at h1; omega) | exact fits_end hinv
          · first
          | (first | omega | contradiction)
          | refine Ev.skip ?_
            show Ev _ _ _ _
            refine Ev.region_S fun K hK => S.o q.add (S.o q.mv (S.end (hK _ ?_)))
            clear hK K
            refine hR0 _ _ ?_
            refine roundU [0] [0, 1, 5, 11, 12] ⟨(pre ++ [s], suf), by rw [← hp]; simp, ?_⟩ ?_ (keep_c (he := (by first | rfl | (simp; done))) (h := keep_n)) (slots_c (he := (by first | rfl | (simp; done) | (congr 2; omega))) (h := trivial)) (.c (.c (.c (.c (.c .n)))))
            intro x hx; simp only [List.mem_append, List.mem_singleton] at hx; rcases hx with hx | rfl
            · exact hinv x hx
            · unfold fitC; omega
            all_goals (dsimp only; simp only [List.length_cons]; omega)
        · first
        | (first | omega | contradiction)
        | refine Ev.sr fun K hK => S.o q.eql (S.o q.as (S.end (hK _ ?_)))
          clear hK K
          refine Ev.cd (fun c17 => ?_) (fun c17 => ?_)
          · first
          | (first | omega | contradiction)
          | refine Ev.sr fun K hK => S.o q.mv (S.o q.lss (S.bd q.mv (fun c18 => ?_) (fun c18 => ?_)))
            · first
            | (first | omega | contradiction)
            | refine S.sk (S.sk (S.o q.pt (S.end (hK _ ?_))))
              clear hK K
              refine Ev.ct ?_
              refine Ev.sr fun K hK => S.o q.as (S.end (hK _ ?_))
              clear hK K
              refine Ev.ret ?_
              refine hR0 _ _ ?_
              refine Ev.ret1 ?_
              refine ⟨?_, rfl⟩
              first | exact bF (fun h => by have h1 := h.1 s (by rw [← hp]; simp); unfold fitC at h1; omega) | exact fits_end hinv
            · first
            | (first | omega | contradiction)
            | refine S.o q.mv (S.o q.lss (S.o q.pf (S.end (hK _ ?_))))
              clear hK K
              refine Ev.cd (fun c19 => ?_) (fun c19 => ?_)
              · first
              | (first | omega | contradiction)
              | refine Ev.sr fun K hK => S.o q.as (S.end (hK _ ?_))
                clear hK K
                refine Ev.ret ?_
                refine hR0 _ _ ?_
                refine Ev.ret1 ?_
                refine ⟨?_, rfl⟩
                first | exact bF (fun h => by have h1 := h.1 s (by rw [← hp]; simp); unfold fitC at h1; omega) | exact fits_end hinv
              · first
              | (first | omega | contradiction)
              | refine Ev.skip ?_
                show Ev _ _ _ _
                refine Ev.region_S fun K hK => S.o q.add (S.o q.mv (S.end (hK _ ?_)))
                clear hK K
                refine hR0 _ _ ?_
                refine roundU [0] [0, 1, 5, 11, 12] ⟨(pre ++ [s], suf), by rw [← hp]; simp, ?_⟩ ?_ (keep_c (he := (by first | rfl | (simp; done))) (h := keep_n)) (slots_c (he := (by first | rfl | (simp; done) | (congr 2; omega))) (h := trivial)) (.c (.c (.c (.c (.c .n)))))
                intro x hx; simp only [List.mem_append, List.mem_singleton] at hx; rcases hx with hx | rfl
                · exact hinv x hx
                · unfold fitC; omega
                all_goals (dsimp only; simp only [List.length_cons]; omega)
          · first
          | (first | omega | contradiction)
          | refine Ev.sr fun K hK => S.o q.eql (S.o q.as (S.end (hK _ ?_)))
            clear hK K
            refine Ev.cd (fun c20 => ?_) (fun c20 => ?_)
            · first
            | (first | omega | contradiction)
            | refine Ev.sr fun K hK => S.o q.mv (S.o q.geq (S.bd q.mv (fun c21 => ?_) (fun c21 => ?_)))
              · first
              | (first | omega | contradiction)
              | refine S.sk (S.sk (S.o q.pt (S.end (hK _ ?_))))
                clear hK K
                refine Ev.ct ?_
                refine Ev.sr fun K hK => S.o q.as (S.end (hK _ ?_))
                clear hK K
                refine Ev.ret ?_
                refine hR0 _ _ ?_
                refine Ev.ret1 ?_
                refine ⟨?_, rfl⟩
                first | exact bF (fun h => by have h1 := h.1 s (by rw [← hp]; simp); unfold fitC at h1; omega) | exact fits_end hinv
              · first
              | (first | omega | contradiction)
              | refine S.o q.mv (S.o q.lss (S.o q.pf (S.end (hK _ ?_))))
                clear hK K
                refine Ev.cd (fun c22 => ?_) (fun c22 => ?_)
                · first
                | (first | omega | contradiction)
                | refine Ev.sr fun K hK => S.o q.as (S.end (hK _ ?_))
                  clear hK K
                  refine Ev.ret ?_
                  refine hR0 _ _ ?_
                  refine Ev.ret1 ?_
                  refine ⟨?_, rfl⟩
                  first | exact bF (fun h => by have h1 := h.1 s (by rw [← hp]; simp); unfold fitC at h1; omega) | exact fits_end hinv
                · first
                | (first | omega | contradiction)
                | refine Ev.skip ?_
                  show Ev _ _ _ _
                  refine Ev.region_S fun K hK => S.o q.add (S.o q.mv (S.end (hK _ ?_)))
                  clear hK K
                  refine hR0 _ _ ?_
                  refine roundU [0] [0, 1, 5, 11, 12] ⟨(pre ++ [s], suf), by rw [← hp]; simp, ?_⟩ ?_ (keep_c (he := (by first | rfl | (simp; done))) (h := keep_n)) (slots_c (he := (by first | rfl | (simp; done) | (congr 2; omega))) (h := trivial)) (.c (.c (.c (.c (.c .n)))))
                  intro x hx; simp only [List.mem_append, List.mem_singleton] at hx; rcases hx with hx | rfl
                  · exact hinv x hx
                  · unfold fitC; omega
                  all_goals (dsimp only; simp only [List.length_cons]; omega)
            · first
            | (first | omega | contradiction)
            | refine Ev.skip ?_
              show Ev _ _ _ _
              refine Ev.region_S fun K hK => S.o q.add (S.o q.mv (S.end (hK _ ?_)))
              clear hK K
              refine hR0 _ _ ?_
              refine roundU [0] [0, 1, 5, 11, 12] ⟨(pre ++ [s], suf), by rw [← hp]; simp, ?_⟩ ?_ (keep_c (he := (by first | rfl | (simp; done))) (h := keep_n)) (slots_c (he := (by first | rfl | (simp; done) | (congr 2; omega))) (h := trivial)) (.c (.c (.c (.c (.c .n)))))
              intro x hx; simp only [List.mem_append, List.mem_singleton] at hx; rcases hx with hx | rfl
              · exact hinv x hx
              · unfold fitC; omega
              all_goals (dsimp only; simp only [List.length_cons]; omega)
    · first
    | (first | omega | contradiction)
    | refine Ev.exit ?_
      refine hR0 _ _ ?_
      show Ev _ _ _ _
      refine Ev.sr fun K hK => S.o q.mv (S.o q.mf (S.c0 (hF := containsFuncBar1 _ _ (fun x : Bar => decide (ofK l x.mark = 0)) (fits1_fun l hl) a ha) (h := S.o q.not (S.o q.as (S.end (hK _ ?_))))))
      clear hK K
      refine Ev.ret ?_
      refine Ev.ret1 ?_
      refine ⟨?_, rfl⟩
      first | exact bF (fun h => by have h1 := h.1 s (by rw [← hp]; simp); unfold fitC at h1; omega) | exact fits_end hinv

theorem cloneInts_fun (l : List Int) (hlen : l.length ≤ 1000000) : Fun Try.prog 82 [.sh 1 (l.map intC)] (Ret (.als 0 0 l.length) [(0, ⟨true, 3, 1, l.map intC, true⟩)]) := by
  refine Fun.of (nt := 8) (rs := [.tmp 2]) Try.func82 rfl rfl rfl rfl rfl ?_
  refine Ev.sr fun K hK => S.o q.as (S.end (hK _ ?_))
  clear hK K
  refine Ev.seq ?_
  refine Ev.sr fun K hK => S.o q.mv (S.eqn am_el41 (fun c1 c2 => (S.end (hK _ ?_))))
  clear hK K
  refine Ev.c (fun c3 => ?_) (fun c3 => ?_)
  · first
  | (first | omega | contradiction)
  | refine Ev.sr fun K hK => S.o q.as (S.end (hK _ ?_))
    clear hK K
    refine Ev.weaken (Wk.nown intC 2 3 1) ?_
    refine Ev.ret ?_
    refine Ev.own1 ?_
    refine ⟨?_, ?_⟩
    all_goals first
     | rfl
     | (rw [List.map_eq_nil_iff.1 (c2 c3)]; done) | (rw [List.map_eq_nil_iff.1 (c2 c3)] <;> rfl)
     | (congr 1; simp; done)
     | (simp; done)
  · first
  | (first | omega | contradiction)
  | refine Ev.skip ?_
    show Ev _ _ _ _
    refine Ev.sr fun K hK => S.nn (v := .als 0 0 ([] : List (Int)).length) (o := ⟨true, 3, 1, ([] : List (Int)).map intC, true⟩) (q.bs [] true am_el41 am_ze3 am_cl3) (S.o q.mv (S.ap' [] am_el41 am_ze3 am_cl3 am_by3 (hh := head_own') (hr := rows_sh) (h := S.o q.as (S.end (hK _ ?_)))))
    clear hK K
    refine Ev.ret ?_
    refine Ev.own1 ?_
    refine ⟨?_, ?_⟩
    all_goals first
     | rfl
     | (rw [List.map_eq_nil_iff.1 (c2 c3)]; done) | (rw [List.map_eq_nil_iff.1 (c2 c3)] <;> rfl)
     | (congr 1; simp; done)
     | (simp; done)
theorem copied_fun (b : Bar) (h : b.dims.length ≤ 1000000) : Fun Try.prog 51 [.agg b.c] (Ret (.agg b.c) []) := by
  refine Fun.of (nt := 8) (rs := [.cell 2 43]) Try.func51 rfl rfl rfl rfl rfl ?_
  refine Ev.sr fun K hK => S.nn (q.bx [_, _, _, _, _] true) (S.nn (q.al am_ze43) (S.end (hK _ ?_)))
  clear hK K
  refine Ev.sr fun K hK => S.o (q.fa 4 am_fi43_4 am_cl41) (S.o (q.lv am_ag41) (S.c1 (hF := cloneInts_fun _ (by omega)) (h := SeqL.weaken (Wk.frz 5 [_, _]) (S.o (q.fa 4 am_fi43_4 am_cl41) (S.sv [_, _, _, _, _] true [_] am_in41 am_cl41 (h := S.end (hK _ ?_)))))))
  clear hK K
  refine Ev.sr fun K hK => S.o (q.lvA [_, _, _, _, _] am_ag43 am_cl43) (S.sv [_, _, _, _, _] true [_] am_in43 am_cl43 (h := S.end (hK _ ?_)))
  clear hK K
  refine Ev.ret ?_
  refine Ev.retv1 (res_c [_, _, _, _, _] am_ag43 am_cl43 res_n) ?_
  refine ⟨?_, rfl⟩
  rfl
end Go.Proofs.Ytccddakkegelkaa
