/-
  Layer 41: the reference, part 2.
  Conditions: none.
-/
import Derived.Test.YtccddakkegelkaaRev8c
import Derived.Test.YtccddakkegelkaaRev3
import Derived.Test.YtccddakkegelkaaRbend
namespace Go.Proofs.Ytccddakkegelkaa
open Go Go.AM
set_option linter.unusedSimpArgs false
set_option linter.unusedVariables false
set_option maxRecDepth 100000
set_option maxHeartbeats 1000000

theorem rbarMassR_fun (b : Bar) (hok : okBar b) : Fun Try.prog 40 [.agg b.c] (Ret (.lit (.int .i64 (barMass b))) []) := by
  obtain ⟨h1, h2⟩ := cutOf_bd hok
  obtain ⟨h3, h4, h5, h6⟩ := barMass_bd hok
  refine Fun.of (nt := 11) (rs := [.tmp 2]) Try.func40 rfl rfl rfl rfl rfl ?_
  refine Ev.sr fun K hK => S.nn (q.bx [_, _, _, _, _] true) (S.o q.as (S.end (hK _ ?_)))
  clear hK K
  refine Ev.sm (tbs [(0, 0), (1, 1), (0, 0), (3, 4), (0, 0), (5, 16), (6, 60), (7, 127), (8, 255)]) 7 fun K hK => M.o (q.fa 2 am_fi43_2 am_cl3) (M.o (q.lv am_ag3) (M.o (q.fa 1 am_fi43_1 am_cl3) (M.o (q.lv am_ag3) (M.o (q.lvA [_, _, _, _, _] am_ag43 am_cl43) (M.c0 (hF := rcut_fun _ (by assumption)) (h := M.c0 (hF := rmass_fun _ _ hok.2.1 (by omega) (by omega)) (h := M.end [_] (h := S.o (q.mul (h1 := by unfold barMass oneOf at h5; omega) (h2 := by unfold barMass oneOf at h6; omega)) (S.o q.as (S.end (hK _ ?_)))))))))))
  clear hK K
  refine Ev.ret ?_
  refine Ev.ret1 ?_
  refine ⟨?_, rfl⟩
  rfl

/-! The steel that comes and goes, as the reference sums it. -/
def massAt (b : List Bar) (mk : List UInt8) : Int := match barAt b mk with
  | some y => barMass y
  | none => 0
def rcS (b : List Bar) (l : List Chg) : Int := (l.map fun c => if c.1 = 3 ∨ c.1 = 2 then massAt b c.2 else 0).sum
def rgS (a : List Bar) (l : List Chg) : Int := (l.map fun c => if c.1 = 4 ∨ c.1 = 2 then massAt a c.2 else 0).sum
theorem rcS_snoc (b : List Bar) (l : List Chg) (s : Chg) : rcS b (l ++ [s]) = rcS b l + (if s.1 = 3 ∨ s.1 = 2 then massAt b s.2 else 0) := by simp [rcS]
theorem rgS_snoc (a : List Bar) (l : List Chg) (s : Chg) : rgS a (l ++ [s]) = rgS a l + (if s.1 = 4 ∨ s.1 = 2 then massAt a s.2 else 0) := by simp [rgS]
theorem barAt_mem {b : List Bar} {mk : List UInt8} {y : Bar} (h : barAt b mk = some y) : y ∈ b ∧ y.mark = mk := ⟨List.mem_of_find?_eq_some h, by simpa using List.find?_some h⟩
theorem massAt_bd {b : List Bar} (h : ∀ y ∈ b, okBar y) (mk : List UInt8) : 0 ≤ massAt b mk ∧ massAt b mk ≤ 10343154000 := by
  unfold massAt
  split
  · rename_i y hy
    obtain ⟨_, _, h3, h4⟩ := barMass_bd (h y (barAt_mem hy).1)
    omega
  · omega
theorem rcS_bd {b : List Bar} (h : ∀ y ∈ b, okBar y) : ∀ l : List Chg, 0 ≤ rcS b l ∧ rcS b l ≤ 10343154000 * l.length := by
  refine snoc_ind (by simp [rcS]) ?_
  intro l s ih
  have h1 := massAt_bd h s.2
  rw [rcS_snoc, List.length_append, List.length_singleton]
  split <;> omega
theorem rgS_bd {b : List Bar} (h : ∀ y ∈ b, okBar y) : ∀ l : List Chg, 0 ≤ rgS b l ∧ rgS b l ≤ 10343154000 * l.length := by
  refine snoc_ind (by simp [rgS]) ?_
  intro l s ih
  have h1 := massAt_bd h s.2
  rw [rgS_snoc, List.length_append, List.length_singleton]
  split <;> omega
theorem markI_mem {l : List Bar} {x : Bar} (h : x ∈ l) : 0 ≤ markI l x.mark := (idxP_nonneg _ l 0 (Int.le_refl _)).2 ⟨x, h, by simp⟩
def cmpM (a b : List Bar) (c : Chg) : Prop := (c.1 = 3 ∨ c.1 = 2 → 0 ≤ markI b c.2) ∧ (c.1 = 4 ∨ c.1 = 2 → 0 ≤ markI a c.2)
theorem cmp_marks {a b : List Bar} {c : Chg} (h : c ∈ cmpP a b) : cmpM a b c := by
  unfold cmpM
  simp only [cmpP, List.mem_append, List.mem_map, List.mem_filter] at h
  rcases h with ⟨x, hx, rfl⟩ | ⟨x, ⟨hx, hn⟩, rfl⟩
  · refine ⟨fun hk => ?_, fun _ => markI_mem hx⟩
    simp only [cK] at hk ⊢
    by_cases hm : markI b x.mark < 0
    · rw [kind_4 hm] at hk; omega
    · omega
  · refine ⟨fun _ => markI_mem hx, fun hk => ?_⟩
    simp only [addK] at hk
    omega
theorem rc_yes {b : List Bar} {l : List Chg} {s : Chg} {y : Bar} (h : s.1 = 3 ∨ s.1 = 2) (hy : barAt b s.2 = some y) : rcS b l + barMass y = rcS b (l ++ [s]) := by rw [rcS_snoc, if_pos h, massAt, hy]
theorem rc_no {b : List Bar} {l : List Chg} {s : Chg} (h : ¬ (s.1 = 3 ∨ s.1 = 2)) : rcS b l = rcS b (l ++ [s]) := by rw [rcS_snoc, if_neg h, Int.add_zero]
theorem rg_yes {b : List Bar} {l : List Chg} {s : Chg} {y : Bar} (h : s.1 = 4 ∨ s.1 = 2) (hy : barAt b s.2 = some y) : rgS b l + barMass y = rgS b (l ++ [s]) := by rw [rgS_snoc, if_pos h, massAt, hy]
theorem rg_no {b : List Bar} {l : List Chg} {s : Chg} (h : ¬ (s.1 = 4 ∨ s.1 = 2)) : rgS b l = rgS b (l ++ [s]) := by rw [rgS_snoc, if_neg h, Int.add_zero]
theorem rSteel_sums (a b : List Bar) (ha : okSched a) (hb : okSched b) : Fun Try.prog 13 [.sh 5 (a.map Bar.c), .sh 5 (b.map Bar.c)] (Ret (.tup [.lit (.int .i64 (rcS b (cmpP a b))), .lit (.int .i64 (rgS a (cmpP a b)))]) []) := by
  have hal := ha.1
  have hbl := hb.1
  have hao := ha.2.1
  have hbo := hb.2.1
  have hcl := cmp_len a b
  generalize hL : cmpP a b = l at *
  have hlm : ∀ c ∈ l, cmpM a b c := fun c hc => cmp_marks (hL ▸ hc)
  refine Fun.of (nt := 75) (rs := [.tmp 4, .tmp 5]) Try.func13 rfl rfl rfl rfl rfl ?_
  refine Ev.sr fun K hK => S.o q.as (S.o q.as (S.end (hK _ ?_)))
  clear hK K
  refine Ev.sr fun K hK => S.o q.mv (S.o q.mv (S.c0 (hF := (hL ▸ rCompare_fun a b ha hb)) (h := S.o q.as (S.end (hK _ ?_)))))
  clear hK K
  refine Ev.sr fun K hK => S.o q.as (S.o q.as (S.end (hK _ ?_)))
  clear hK K
  refine Ev.seq ?_
  refine Ev.sr fun K hK => S.o q.as (S.end (hK _ ?_))
  clear hK K
  refine Ev.block ?_
  refine Ev.loopU (ι := {p : List (Chg) × List (Chg) // p.1 ++ p.2 = l ∧ True}) [] [0, 1, 4, 5, 6] (fun ⟨(pre, suf), _⟩ => [(9, .lit (.int .i64 ((pre.length : Int)))), (7, .lit (.int .i64 (rcS b pre))), (8, .lit (.int .i64 (rgS a pre)))]) (fun ⟨(pre, suf), _⟩ => []) (fun ⟨(pre, suf), _⟩ => suf.length) ⟨([], l), rfl, trivial⟩ (.c (.c (.c (.c (.c .n))))) keep_n (slots_c (he := (by first | rfl | (congr 2; simp; done))) (h := (slots_c (he := (by first | rfl | exact iE (rc_yes (by omega) hy) | exact iE (rc_no (by omega)))) (h := (slots_c (he := (by first | rfl | exact iE (rg_yes (by omega) hz) | exact iE (rg_no (by omega)))) (h := trivial)))))) ?_
  rintro ⟨⟨pre, suf⟩, hp, hinv⟩ R0 hR0
  dsimp only [List.cons_append, List.nil_append, List.length_cons, List.length_nil]
  simp only at hp hinv
  have hpl : pre.length + suf.length = (l).length := by rw [← hp, List.length_append]
  rcases suf with _ | ⟨s, suf⟩
  · rw [List.append_nil] at hp; subst pre; simp only [List.length_nil] at hpl
    refine Ev.seq ?_
    refine Ev.sr fun K hK => S.o q.mv (S.o q.mv (S.o (q.lens am_el25) (S.o q.lss (S.end (hK _ ?_)))))
    clear hK K
    refine Ev.cd (fun c1 => ?_) (fun c1 => ?_)
    · first
    | (first | omega | contradiction)
    | refine Ev.skip ?_
      show Ev _ _ _ _
      refine Ev.seq ?_
      refine Ev.block ?_
      refine Ev.seq ?_
      refine Ev.sr fun K hK => S.o q.mv (S.o q.mv (S.o (q.ix am_el25 am_cl36 (hl := (by first | exact ati hyi (by omega) | exact ati hzi (by omega) | exact atig (by omega)))) (S.o (q.fs 0 am_fi36_0 am_cl3) (S.o (q.ls am_ag3) (S.o q.eql (S.bd q.mv (fun c2 => ?_) (fun c2 => ?_)))))))
      · first
      | (first | omega | contradiction)
      | refine S.sk (S.sk (S.sk (S.sk (S.sk (S.sk (S.o q.pt (S.end (hK _ ?_))))))))
        clear hK K
        refine Ev.ct ?_
        have hmk := hsm.1 (by omega)
        obtain ⟨y, hy, hyi, hym, hyk⟩ := barAt_some hmk
        have hyok : okBar y := hbo y hym
        obtain ⟨_, _, hyb1, hyb2⟩ := barMass_bd hyok
        refine Ev.region_S fun K hK => S.o q.mv (S.o q.mv (S.o q.mv (S.o q.mv (S.o q.mv (S.o (q.ix am_el25 am_cl36 (hl := (by first | exact ati hyi (by omega) | exact ati hzi (by omega) | exact atig (by omega)))) (S.o (q.fs 1 am_fi36_1 am_cl9) (S.o (q.ls am_ag9) (S.c0 (hF := rfind_fun _ _ (by omega)) (h := S.o (q.ix am_el22 am_cl43 (hl := (by first | exact ati hyi (by omega) | exact ati hzi (by omega) | exact atig (by omega)))) (S.o (q.lsA [_, _, _, _, _] am_ag43 am_cl43) (S.c0 (hF := rbarMassR_fun y hyok) (h := S.o (q.add (h1 := by omega) (h2 := by omega)) (S.o q.as (S.end (hK _ ?_)))))))))))))))
        clear hK K
        show Ev _ _ _ _
        refine Ev.sr fun K hK => S.o q.mv (S.o q.mv (S.o (q.ix am_el25 am_cl36 (hl := (by first | exact ati hyi (by omega) | exact ati hzi (by omega) | exact atig (by omega)))) (S.o (q.fs 0 am_fi36_0 am_cl3) (S.o (q.ls am_ag3) (S.o q.eql (S.bd q.mv (fun c3 => ?_) (fun c3 => ?_)))))))
        · first
        | (first | omega | contradiction)
        | refine S.sk (S.sk (S.sk (S.sk (S.sk (S.sk (S.o q.pt (S.end (hK _ ?_))))))))
          clear hK K
          refine Ev.ct ?_
          have hmz := hsm.2 (by omega)
          obtain ⟨z, hz, hzi, hzm, hzk⟩ := barAt_some hmz
          have hzok : okBar z := hao z hzm
          obtain ⟨_, _, hzb1, hzb2⟩ := barMass_bd hzok
          refine Ev.region_S fun K hK => S.o q.mv (S.o q.mv (S.o q.mv (S.o q.mv (S.o q.mv (S.o (q.ix am_el25 am_cl36 (hl := (by first | exact ati hyi (by omega) | exact ati hzi (by omega) | exact atig (by omega)))) (S.o (q.fs 1 am_fi36_1 am_cl9) (S.o (q.ls am_ag9) (S.c0 (hF := rfind_fun _ _ (by omega)) (h := S.o (q.ix am_el22 am_cl43 (hl := (by first | exact ati hyi (by omega) | exact ati hzi (by omega) | exact atig (by omega)))) (S.o (q.lsA [_, _, _, _, _] am_ag43 am_cl43) (S.c0 (hF := rbarMassR_fun z hzok) (h := S.o (q.add (h1 := by omega) (h2 := by omega)) (S.o q.as (S.end (hK _ ?_)))))))))))))))
          clear hK K
          show Ev _ _ _ _
          refine Ev.region_S fun K hK => S.o q.mv (S.o q.add (S.o q.as (S.end (hK _ ?_))))
          clear hK K
          refine hR0 _ _ ?_
          refine roundU [] [0, 1, 4, 5, 6] ⟨(pre ++ [s], suf), by rw [← hp]; simp, ?_⟩ ?_ keep_n (slots_c (he := (by first | rfl | (congr 2; simp; done))) (h := (slots_c (he := (by first | rfl | exact iE (rc_yes (by omega) hy) | exact iE (rc_no (by omega)))) (h := (slots_c (he := (by first | rfl | exact iE (rg_yes (by omega) hz) | exact iE (rg_no (by omega)))) (h := trivial)))))) (.c (.c (.c (.c (.c .n)))))
          trivial
          all_goals (dsimp only; simp only [List.length_cons]; omega)
        · first
        | (first | omega | contradiction)
        | refine S.o q.mv (S.o q.mv (S.o (q.ix am_el25 am_cl36 (hl := (by first | exact ati hyi (by omega) | exact ati hzi (by omega) | exact atig (by omega)))) (S.o (q.fs 0 am_fi36_0 am_cl3) (S.o (q.ls am_ag3) (S.o q.eql (S.o q.pf (S.end (hK _ ?_))))))))
          clear hK K
          refine Ev.cd (fun c4 => ?_) (fun c4 => ?_)
          · first
          | (first | omega | contradiction)
          | have hmz := hsm.2 (by omega)
            obtain ⟨z, hz, hzi, hzm, hzk⟩ := barAt_some hmz
            have hzok : okBar z := hao z hzm
            obtain ⟨_, _, hzb1, hzb2⟩ := barMass_bd hzok
            refine Ev.region_S fun K hK => S.o q.mv (S.o q.mv (S.o q.mv (S.o q.mv (S.o q.mv (S.o (q.ix am_el25 am_cl36 (hl := (by first | exact ati hyi (by omega) | exact ati hzi (by omega) | exact atig (by omega)))) (S.o (q.fs 1 am_fi36_1 am_cl9) (S.o (q.ls am_ag9) (S.c0 (hF := rfind_fun _ _ (by omega)) (h := S.o (q.ix am_el22 am_cl43 (hl := (by first | exact ati hyi (by omega) | exact ati hzi (by omega) | exact atig (by omega)))) (S.o (q.lsA [_, _, _, _, _] am_ag43 am_cl43) (S.c0 (hF := rbarMassR_fun z hzok) (h := S.o (q.add (h1 := by omega) (h2 := by omega)) (S.o q.as (S.end (hK _ ?_)))))))))))))))
            clear hK K
            show Ev _ _ _ _
            refine Ev.region_S fun K hK => S.o q.mv (S.o q.add (S.o q.as (S.end (hK _ ?_))))
            clear hK K
            refine hR0 _ _ ?_
            refine roundU [] [0, 1, 4, 5, 6] ⟨(pre ++ [s], suf), by rw [← hp]; simp, ?_⟩ ?_ keep_n (slots_c (he := (by first | rfl | (congr 2; simp; done))) (h := (slots_c (he := (by first | rfl | exact iE (rc_yes (by omega) hy) | exact iE (rc_no (by omega)))) (h := (slots_c (he := (by first | rfl | exact iE (rg_yes (by omega) hz) | exact iE (rg_no (by omega)))) (h := trivial)))))) (.c (.c (.c (.c (.c .n)))))
            trivial
            all_goals (dsimp only; simp only [List.length_cons]; omega)
          · first
          | (first | omega | contradiction)
          | refine Ev.skip ?_
            show Ev _ _ _ _
            refine Ev.region_S fun K hK => S.o q.mv (S.o q.add (S.o q.as (S.end (hK _ ?_))))
            clear hK K
            refine hR0 _ _ ?_
            refine roundU [] [0, 1, 4, 5, 6] ⟨(pre ++ [s], suf), by rw [← hp]; simp, ?_⟩ ?_ keep_n (slots_c (he := (by first | rfl | (congr 2; simp; done))) (h := (slots_c (he := (by first | rfl | exact iE (rc_yes (by omega) hy) | exact iE (rc_no (by omega)))) (h := (slots_c (he := (by first | rfl | exact iE (rg_yes (by omega) hz) | exact iE (rg_no (by omega)))) (h := trivial)))))) (.c (.c (.c (.c (.c .n)))))
            trivial
            all_goals (dsimp only; simp only [List.length_cons]; omega)
      · first
      | (first | omega | contradiction)
      | refine S.o q.mv (S.o q.mv (S.o (q.ix am_el25 am_cl36 (hl := (by first | exact ati hyi (by omega) | exact ati hzi (by omega) | exact atig (by omega)))) (S.o (q.fs 0 am_fi36_0 am_cl3) (S.o (q.ls am_ag3) (S.o q.eql (S.o q.pf (S.end (hK _ ?_))))))))
        clear hK K
        refine Ev.cd (fun c5 => ?_) (fun c5 => ?_)
        · first
        | (first | omega | contradiction)
        | have hmk := hsm.1 (by omega)
          obtain ⟨y, hy, hyi, hym, hyk⟩ := barAt_some hmk
          have hyok : okBar y := hbo y hym
          obtain ⟨_, _, hyb1, hyb2⟩ := barMass_bd hyok
          refine Ev.region_S fun K hK => S.o q.mv (S.o q.mv (S.o q.mv (S.o q.mv (S.o q.mv (S.o (q.ix am_el25 am_cl36 (hl := (by first | exact ati hyi (by omega) | exact ati hzi (by omega) | exact atig (by omega)))) (S.o (q.fs 1 am_fi36_1 am_cl9) (S.o (q.ls am_ag9) (S.c0 (hF := rfind_fun _ _ (by omega)) (h := S.o (q.ix am_el22 am_cl43 (hl := (by first | exact ati hyi (by omega) | exact ati hzi (by omega) | exact atig (by omega)))) (S.o (q.lsA [_, _, _, _, _] am_ag43 am_cl43) (S.c0 (hF := rbarMassR_fun y hyok) (h := S.o (q.add (h1 := by omega) (h2 := by omega)) (S.o q.as (S.end (hK _ ?_)))))))))))))))
          clear hK K
          show Ev _ _ _ _
          refine Ev.sr fun K hK => S.o q.mv (S.o q.mv (S.o (q.ix am_el25 am_cl36 (hl := (by first | exact ati hyi (by omega) | exact ati hzi (by omega) | exact atig (by omega)))) (S.o (q.fs 0 am_fi36_0 am_cl3) (S.o (q.ls am_ag3) (S.o q.eql (S.bd q.mv (fun c6 => ?_) (fun c6 => ?_)))))))
          · first
          | (first | omega | contradiction)
          | refine S.sk (S.sk (S.sk (S.sk (S.sk (S.sk (S.o q.pt (S.end (hK _ ?_))))))))
            clear hK K
            refine Ev.ct ?_
            have hmz := hsm.2 (by omega)
            obtain ⟨z, hz, hzi, hzm, hzk⟩ := barAt_some hmz
            have hzok : okBar z := hao z hzm
            obtain ⟨_, _, hzb1, hzb2⟩ := barMass_bd hzok
            refine Ev.region_S fun K hK => S.o q.mv (S.o q.mv (S.o q.mv (S.o q.mv (S.o q.mv (S.o (q.ix am_el25 am_cl36 (hl := (by first | exact ati hyi (by omega) | exact ati hzi (by omega) | exact atig (by omega)))) (S.o (q.fs 1 am_fi36_1 am_cl9) (S.o (q.ls am_ag9) (S.c0 (hF := rfind_fun _ _ (by omega)) (h := S.o (q.ix am_el22 am_cl43 (hl := (by first | exact ati hyi (by omega) | exact ati hzi (by omega) | exact atig (by omega)))) (S.o (q.lsA [_, _, _, _, _] am_ag43 am_cl43) (S.c0 (hF := rbarMassR_fun z hzok) (h := S.o (q.add (h1 := by omega) (h2 := by omega)) (S.o q.as (S.end (hK _ ?_)))))))))))))))
            clear hK K
            show Ev _ _ _ _
            refine Ev.region_S fun K hK => S.o q.mv (S.o q.add (S.o q.as (S.end (hK _ ?_))))
            clear hK K
            refine hR0 _ _ ?_
            refine roundU [] [0, 1, 4, 5, 6] ⟨(pre ++ [s], suf), by rw [← hp]; simp, ?_⟩ ?_ keep_n (slots_c (he := (by first | rfl | (congr 2; simp; done))) (h := (slots_c (he := (by first | rfl | exact iE (rc_yes (by omega) hy) | exact iE (rc_no (by omega)))) (h := (slots_c (he := (by first | rfl | exact iE (rg_yes (by omega) hz) | exact iE (rg_no (by omega)))) (h := trivial)))))) (.c (.c (.c (.c (.c .n)))))
            trivial
            all_goals (dsimp only; simp only [List.length_cons]; omega)
          · first
          | (first | omega | contradiction)
          | refine S.o q.mv (S.o q.mv (S.o (q.ix am_el25 am_cl36 (hl := (by first | exact ati hyi (by omega) | exact ati hzi (by omega) | exact atig (by omega)))) (S.o (q.fs 0 am_fi36_0 am_cl3) (S.o (q.ls am_ag3) (S.o q.eql (S.o q.pf (S.end (hK _ ?_))))))))
            clear hK K
            refine Ev.cd (fun c7 => ?_) (fun c7 => ?_)
            · first
            | (first | omega | contradiction)
            | have hmz := hsm.2 (by omega)
              obtain ⟨z, hz, hzi, hzm, hzk⟩ := barAt_some hmz
              have hzok : okBar z := hao z hzm
              obtain ⟨_, _, hzb1, hzb2⟩ := barMass_bd hzok
              refine Ev.region_S fun K hK => S.o q.mv (S.o q.mv (S.o q.mv (S.o q.mv (S.o q.mv (S.o (q.ix am_el25 am_cl36 (hl := (by first | exact ati hyi (by omega) | exact ati hzi (by omega) | exact atig (by omega)))) (S.o (q.fs 1 am_fi36_1 am_cl9) (S.o (q.ls am_ag9) (S.c0 (hF := rfind_fun _ _ (by omega)) (h := S.o (q.ix am_el22 am_cl43 (hl := (by first | exact ati hyi (by omega) | exact ati hzi (by omega) | exact atig (by omega)))) (S.o (q.lsA [_, _, _, _, _] am_ag43 am_cl43) (S.c0 (hF := rbarMassR_fun z hzok) (h := S.o (q.add (h1 := by omega) (h2 := by omega)) (S.o q.as (S.end (hK _ ?_)))))))))))))))
              clear hK K
              show Ev _ _ _ _
              refine Ev.region_S fun K hK => S.o q.mv (S.o q.add (S.o q.as (S.end (hK _ ?_))))
              clear hK K
              refine hR0 _ _ ?_
              refine roundU [] [0, 1, 4, 5, 6] ⟨(pre ++ [s], suf), by rw [← hp]; simp, ?_⟩ ?_ keep_n (slots_c (he := (by first | rfl | (congr 2; simp; done))) (h := (slots_c (he := (by first | rfl | exact iE (rc_yes (by omega) hy) | exact iE (rc_no (by omega)))) (h := (slots_c (he := (by first | rfl | exact iE (rg_yes (by omega) hz) | exact iE (rg_no (by omega)))) (h := trivial)))))) (.c (.c (.c (.c (.c .n)))))
              trivial
              all_goals (dsimp only; simp only [List.length_cons]; omega)
            · first
            | (first | omega | contradiction)
            | refine Ev.skip ?_
              show Ev _ _ _ _
              refine Ev.region_S fun K hK => S.o q.mv (S.o q.add (S.o q.as (S.end (hK _ ?_))))
              clear hK K
              refine hR0 _ _ ?_
              refine roundU [] [0, 1, 4, 5, 6] ⟨(pre ++ [s], suf), by rw [← hp]; simp, ?_⟩ ?_ keep_n (slots_c (he := (by first | rfl | (congr 2; simp; done))) (h := (slots_c (he := (by first | rfl | exact iE (rc_yes (by omega) hy) | exact iE (rc_no (by omega)))) (h := (slots_c (he := (by first | rfl | exact iE (rg_yes (by omega) hz) | exact iE (rg_no (by omega)))) (h := trivial)))))) (.c (.c (.c (.c (.c .n)))))
              trivial
              all_goals (dsimp only; simp only [List.length_cons]; omega)
        · first
        | (first | omega | contradiction)
        | refine Ev.skip ?_
          show Ev _ _ _ _
          refine Ev.sr fun K hK => S.o q.mv (S.o q.mv (S.o (q.ix am_el25 am_cl36 (hl := (by first | exact ati hyi (by omega) | exact ati hzi (by omega) | exact atig (by omega)))) (S.o (q.fs 0 am_fi36_0 am_cl3) (S.o (q.ls am_ag3) (S.o q.eql (S.bd q.mv (fun c8 => ?_) (fun c8 => ?_)))))))
          · first
          | (first | omega | contradiction)
          | refine S.sk (S.sk (S.sk (S.sk (S.sk (S.sk (S.o q.pt (S.end (hK _ ?_))))))))
            clear hK K
            refine Ev.ct ?_
            have hmz := hsm.2 (by omega)
            obtain ⟨z, hz, hzi, hzm, hzk⟩ := barAt_some hmz
            have hzok : okBar z := hao z hzm
            obtain ⟨_, _, hzb1, hzb2⟩ := barMass_bd hzok
            refine Ev.region_S fun K hK => S.o q.mv (S.o q.mv (S.o q.mv (S.o q.mv (S.o q.mv (S.o (q.ix am_el25 am_cl36 (hl := (by first | exact ati hyi (by omega) | exact ati hzi (by omega) | exact atig (by omega)))) (S.o (q.fs 1 am_fi36_1 am_cl9) (S.o (q.ls am_ag9) (S.c0 (hF := rfind_fun _ _ (by omega)) (h := S.o (q.ix am_el22 am_cl43 (hl := (by first | exact ati hyi (by omega) | exact ati hzi (by omega) | exact atig (by omega)))) (S.o (q.lsA [_, _, _, _, _] am_ag43 am_cl43) (S.c0 (hF := rbarMassR_fun z hzok) (h := S.o (q.add (h1 := by omega) (h2 := by omega)) (S.o q.as (S.end (hK _ ?_)))))))))))))))
            clear hK K
            show Ev _ _ _ _
            refine Ev.region_S fun K hK => S.o q.mv (S.o q.add (S.o q.as (S.end (hK _ ?_))))
            clear hK K
            refine hR0 _ _ ?_
            refine roundU [] [0, 1, 4, 5, 6] ⟨(pre ++ [s], suf), by rw [← hp]; simp, ?_⟩ ?_ keep_n (slots_c (he := (by first | rfl | (congr 2; simp; done))) (h := (slots_c (he := (by first | rfl | exact iE (rc_yes (by omega) hy) | exact iE (rc_no (by omega)))) (h := (slots_c (he := (by first | rfl | exact iE (rg_yes (by omega) hz) | exact iE (rg_no (by omega)))) (h := trivial)))))) (.c (.c (.c (.c (.c .n)))))
            trivial
            all_goals (dsimp only; simp only [List.length_cons]; omega)
          · first
          | (first | omega | contradiction)
          | refine S.o q.mv (S.o q.mv (S.o (q.ix am_el25 am_cl36 (hl := (by first | exact ati hyi (by omega) | exact ati hzi (by omega) | exact atig (by omega)))) (S.o (q.fs 0 am_fi36_0 am_cl3) (S.o (q.ls am_ag3) (S.o q.eql (S.o q.pf (S.end (hK _ ?_))))))))
            clear hK K
            refine Ev.cd (fun c9 => ?_) (fun c9 => ?_)
            · first
            | (first | omega | contradiction)
            | have hmz := hsm.2 (by omega)
              obtain ⟨z, hz, hzi, hzm, hzk⟩ := barAt_some hmz
              have hzok : okBar z := hao z hzm
              obtain ⟨_, _, hzb1, hzb2⟩ := barMass_bd hzok
              refine Ev.region_S fun K hK => S.o q.mv (S.o q.mv (S.o q.mv (S.o q.mv (S.o q.mv (S.o (q.ix am_el25 am_cl36 (hl := (by first | exact ati hyi (by omega) | exact ati hzi (by omega) | exact atig (by omega)))) (S.o (q.fs 1 am_fi36_1 am_cl9) (S.o (q.ls am_ag9) (S.c0 (hF := rfind_fun _ _ (by omega)) (h := S.o (q.ix am_el22 am_cl43 (hl := (by first | exact ati hyi (by omega) | exact ati hzi (by omega) | exact atig (by omega)))) (S.o (q.lsA [_, _, _, _, _] am_ag43 am_cl43) (S.c0 (hF := rbarMassR_fun z hzok) (h := S.o (q.add (h1 := by omega) (h2 := by omega)) (S.o q.as (S.end (hK _ ?_)))))))))))))))
              clear hK K
              show Ev _ _ _ _
              refine Ev.region_S fun K hK => S.o q.mv (S.o q.add (S.o q.as (S.end (hK _ ?_))))
              clear hK K
              refine hR0 _ _ ?_
              refine roundU [] [0, 1, 4, 5, 6] ⟨(pre ++ [s], suf), by rw [← hp]; simp, ?_⟩ ?_ keep_n (slots_c (he := (by first | rfl | (congr 2; simp; done))) (h := (slots_c (he := (by first | rfl | exact iE (rc_yes (by omega) hy) | exact iE (rc_no (by omega)))) (h := (slots_c (he := (by first | rfl | exact iE (rg_yes (by omega) hz) | exact iE (rg_no (by omega)))) (h := trivial)))))) (.c (.c (.c (.c (.c .n)))))
              trivial
              all_goals (dsimp only; simp only [List.length_cons]; omega)
            · first
            | (first | omega | contradiction)
            | refine Ev.skip ?_
              show Ev _ _ _ _
              refine Ev.region_S fun K hK => S.o q.mv (S.o q.add (S.o q.as (S.end (hK _ ?_))))
              clear hK K
              refine hR0 _ _ ?_
              refine roundU [] [0, 1, 4, 5, 6] ⟨(pre ++ [s], suf), by rw [← hp]; simp, ?_⟩ ?_ keep_n (slots_c (he := (by first | rfl | (congr 2; simp; done))) (h := (slots_c (he := (by first | rfl | exact iE (rc_yes (by omega) hy) | exact iE (rc_no (by omega)))) (h := (slots_c (he := (by first | rfl | exact iE (rg_yes (by omega) hz) | exact iE (rg_no (by omega)))) (h := trivial)))))) (.c (.c (.c (.c (.c .n)))))
              trivial
              all_goals (dsimp only; simp only [List.length_cons]; omega)
    · first
    | (first | omega | contradiction)
    | refine Ev.exit ?_
      refine hR0 _ _ ?_
      show Ev _ _ _ _
      refine Ev.sr fun K hK => S.o q.mv (S.o q.mv (S.o q.as (S.o q.as (S.end (hK _ ?_)))))
      clear hK K
      refine Ev.ret ?_
      refine Ev.ret2 ?_
      refine ⟨?_, rfl⟩
      rfl
  · simp only [List.length_cons] at hpl
    have hidx : (l)[pre.length]? = some s := by rw [← hp]; simp
    have hsm := hlm s (by rw [← hp]; simp)
    have hcb := rcS_bd hbo pre
    have hgb := rgS_bd hao pre
    refine Ev.seq ?_
    refine Ev.sr fun K hK => S.o q.mv (S.o q.mv (S.o (q.lens am_el25) (S.o q.lss (S.end (hK _ ?_)))))
    clear hK K
    refine Ev.cd (fun c10 => ?_) (fun c10 => ?_)
    · first
    | (first | omega | contradiction)
    | refine Ev.skip ?_
      show Ev _ _ _ _
      refine Ev.seq ?_
      refine Ev.block ?_
      refine Ev.seq ?_
      refine Ev.sr fun K hK => S.o q.mv (S.o q.mv (S.o (q.ix am_el25 am_cl36 (hl := (by first | exact ati hyi (by omega) | exact ati hzi (by omega) | exact ati hidx (by omega) | exact atig (by omega)))) (S.o (q.fs 0 am_fi36_0 am_cl3) (S.o (q.ls am_ag3) (S.o q.eql (S.bd q.mv (fun c11 => ?_) (fun c11 => ?_)))))))
      · first
      | (first | omega | contradiction)
      | refine S.sk (S.sk (S.sk (S.sk (S.sk (S.sk (S.o q.pt (S.end (hK _ ?_))))))))
        clear hK K
        refine Ev.ct ?_
        have hmk := hsm.1 (by omega)
        obtain ⟨y, hy, hyi, hym, hyk⟩ := barAt_some hmk
        have hyok : okBar y := hbo y hym
        obtain ⟨_, _, hyb1, hyb2⟩ := barMass_bd hyok
        refine Ev.region_S fun K hK => S.o q.mv (S.o q.mv (S.o q.mv (S.o q.mv (S.o q.mv (S.o (q.ix am_el25 am_cl36 (hl := (by first | exact ati hyi (by omega) | exact ati hzi (by omega) | exact ati hidx (by omega) | exact atig (by omega)))) (S.o (q.fs 1 am_fi36_1 am_cl9) (S.o (q.ls am_ag9) (S.c0 (hF := rfind_fun _ _ (by omega)) (h := S.o (q.ix am_el22 am_cl43 (hl := (by first | exact ati hyi (by omega) | exact ati hzi (by omega) | exact ati hidx (by omega) | exact atig (by omega)))) (S.o (q.lsA [_, _, _, _, _] am_ag43 am_cl43) (S.c0 (hF := rbarMassR_fun y hyok) (h := S.o (q.add (h1 := by omega) (h2 := by omega)) (S.o q.as (S.end (hK _ ?_)))))))))))))))
        clear hK K
        show Ev _ _ _ _
        refine Ev.sr fun K hK => S.o q.mv (S.o q.mv (S.o (q.ix am_el25 am_cl36 (hl := (by first | exact ati hyi (by omega) | exact ati hzi (by omega) | exact ati hidx (by omega) | exact atig (by omega)))) (S.o (q.fs 0 am_fi36_0 am_cl3) (S.o (q.ls am_ag3) (S.o q.eql (S.bd q.mv (fun c12 => ?_) (fun c12 => ?_)))))))
        · first
        | (first | omega | contradiction)
        | refine S.sk (S.sk (S.sk (S.sk (S.sk (S.sk (S.o q.pt (S.end (hK _ ?_))))))))
          clear hK K
          refine Ev.ct ?_
          have hmz := hsm.2 (by omega)
          obtain ⟨z, hz, hzi, hzm, hzk⟩ := barAt_some hmz
          have hzok : okBar z := hao z hzm
          obtain ⟨_, _, hzb1, hzb2⟩ := barMass_bd hzok
          refine Ev.region_S fun K hK => S.o q.mv (S.o q.mv (S.o q.mv (S.o q.mv (S.o q.mv (S.o (q.ix am_el25 am_cl36 (hl := (by first | exact ati hyi (by omega) | exact ati hzi (by omega) | exact ati hidx (by omega) | exact atig (by omega)))) (S.o (q.fs 1 am_fi36_1 am_cl9) (S.o (q.ls am_ag9) (S.c0 (hF := rfind_fun _ _ (by omega)) (h := S.o (q.ix am_el22 am_cl43 (hl := (by first | exact ati hyi (by omega) | exact ati hzi (by omega) | exact ati hidx (by omega) | exact atig (by omega)))) (S.o (q.lsA [_, _, _, _, _] am_ag43 am_cl43) (S.c0 (hF := rbarMassR_fun z hzok) (h := S.o (q.add (h1 := by omega) (h2 := by omega)) (S.o q.as (S.end (hK _ ?_)))))))))))))))
          clear hK K
          show Ev _ _ _ _
          refine Ev.region_S fun K hK => S.o q.mv (S.o q.add (S.o q.as (S.end (hK _ ?_))))
          clear hK K
          refine hR0 _ _ ?_
          refine roundU [] [0, 1, 4, 5, 6] ⟨(pre ++ [s], suf), by rw [← hp]; simp, ?_⟩ ?_ keep_n (slots_c (he := (by first | rfl | (congr 2; simp; done))) (h := (slots_c (he := (by first | rfl | exact iE (rc_yes (by omega) hy) | exact iE (rc_no (by omega)))) (h := (slots_c (he := (by first | rfl | exact iE (rg_yes (by omega) hz) | exact iE (rg_no (by omega)))) (h := trivial)))))) (.c (.c (.c (.c (.c .n)))))
          trivial
          all_goals (dsimp only; simp only [List.length_cons]; omega)
        · first
        | (first | omega | contradiction)
        | refine S.o q.mv (S.o q.mv (S.o (q.ix am_el25 am_cl36 (hl := (by first | exact ati hyi (by omega) | exact ati hzi (by omega) | exact ati hidx (by omega) | exact atig (by omega)))) (S.o (q.fs 0 am_fi36_0 am_cl3) (S.o (q.ls am_ag3) (S.o q.eql (S.o q.pf (S.end (hK _ ?_))))))))
          clear hK K
          refine Ev.cd (fun c13 => ?_) (fun c13 => ?_)
          · first
          | (first | omega | contradiction)
          | have hmz := hsm.2 (by omega)
            obtain ⟨z, hz, hzi, hzm, hzk⟩ := barAt_some hmz
            have hzok : okBar z := hao z hzm
            obtain ⟨_, _, hzb1, hzb2⟩ := barMass_bd hzok
            refine Ev.region_S fun K hK => S.o q.mv (S.o q.mv (S.o q.mv (S.o q.mv (S.o q.mv (S.o (q.ix am_el25 am_cl36 (hl := (by first | exact ati hyi (by omega) | exact ati hzi (by omega) | exact ati hidx (by omega) | exact atig (by omega)))) (S.o (q.fs 1 am_fi36_1 am_cl9) (S.o (q.ls am_ag9) (S.c0 (hF := rfind_fun _ _ (by omega)) (h := S.o (q.ix am_el22 am_cl43 (hl := (by first | exact ati hyi (by omega) | exact ati hzi (by omega) | exact ati hidx (by omega) | exact atig (by omega)))) (S.o (q.lsA [_, _, _, _, _] am_ag43 am_cl43) (S.c0 (hF := rbarMassR_fun z hzok) (h := S.o (q.add (h1 := by omega) (h2 := by omega)) (S.o q.as (S.end (hK _ ?_)))))))))))))))
            clear hK K
            show Ev _ _ _ _
            refine Ev.region_S fun K hK => S.o q.mv (S.o q.add (S.o q.as (S.end (hK _ ?_))))
            clear hK K
            refine hR0 _ _ ?_
            refine roundU [] [0, 1, 4, 5, 6] ⟨(pre ++ [s], suf), by rw [← hp]; simp, ?_⟩ ?_ keep_n (slots_c (he := (by first | rfl | (congr 2; simp; done))) (h := (slots_c (he := (by first | rfl | exact iE (rc_yes (by omega) hy) | exact iE (rc_no (by omega)))) (h := (slots_c (he := (by first | rfl | exact iE (rg_yes (by omega) hz) | exact iE (rg_no (by omega)))) (h := trivial)))))) (.c (.c (.c (.c (.c .n)))))
            trivial
            all_goals (dsimp only; simp only [List.length_cons]; omega)
          · first
          | (first | omega | contradiction)
          | refine Ev.skip ?_
            show Ev _ _ _ _
            refine Ev.region_S fun K hK => S.o q.mv (S.o q.add (S.o q.as (S.end (hK _ ?_))))
            clear hK K
            refine hR0 _ _ ?_
            refine roundU [] [0, 1, 4, 5, 6] ⟨(pre ++ [s], suf), by rw [← hp]; simp, ?_⟩ ?_ keep_n (slots_c (he := (by first | rfl | (congr 2; simp; done))) (h := (slots_c (he := (by first | rfl | exact iE (rc_yes (by omega) hy) | exact iE (rc_no (by omega)))) (h := (slots_c (he := (by first | rfl | exact iE (rg_yes (by omega) hz) | exact iE (rg_no (by omega)))) (h := trivial)))))) (.c (.c (.c (.c (.c .n)))))
            trivial
            all_goals (dsimp only; simp only [List.length_cons]; omega)
      · first
      | (first | omega | contradiction)
      | refine S.o q.mv (S.o q.mv (S.o (q.ix am_el25 am_cl36 (hl := (by first | exact ati hyi (by omega) | exact ati hzi (by omega) | exact ati hidx (by omega) | exact atig (by omega)))) (S.o (q.fs 0 am_fi36_0 am_cl3) (S.o (q.ls am_ag3) (S.o q.eql (S.o q.pf (S.end (hK _ ?_))))))))
        clear hK K
        refine Ev.cd (fun c14 => ?_) (fun c14 => ?_)
        · first
        | (first | omega | contradiction)
        | have hmk := hsm.1 (by omega)
          obtain ⟨y, hy, hyi, hym, hyk⟩ := barAt_some hmk
          have hyok : okBar y := hbo y hym
          obtain ⟨_, _, hyb1, hyb2⟩ := barMass_bd hyok
          refine Ev.region_S fun K hK => S.o q.mv (S.o q.mv (S.o q.mv (S.o q.mv (S.o q.mv (S.o (q.ix am_el25 am_cl36 (hl := (by first | exact ati hyi (by omega) | exact ati hzi (by omega) | exact ati hidx (by omega) | exact atig (by omega)))) (S.o (q.fs 1 am_fi36_1 am_cl9) (S.o (q.ls am_ag9) (S.c0 (hF := rfind_fun _ _ (by omega)) (h := S.o (q.ix am_el22 am_cl43 (hl := (by first | exact ati hyi (by omega) | exact ati hzi (by omega) | exact ati hidx (by omega) | exact atig (by omega)))) (S.o (q.lsA [_, _, _, _, _] am_ag43 am_cl43) (S.c0 (hF := rbarMassR_fun y hyok) (h := S.o (q.add (h1 := by omega) (h2 := by omega)) (S.o q.as (S.end (hK _ ?_)))))))))))))))
          clear hK K
          show Ev _ _ _ _
          refine Ev.sr fun K hK => S.o q.mv (S.o q.mv (S.o (q.ix am_el25 am_cl36 (hl := (by first | exact ati hyi (by omega) | exact ati hzi (by omega) | exact ati hidx (by omega) | exact atig (by omega)))) (S.o (q.fs 0 am_fi36_0 am_cl3) (S.o (q.ls am_ag3) (S.o q.eql (S.bd q.mv (fun c15 => ?_) (fun c15 => ?_)))))))
          · first
          | (first | omega | contradiction)
          | refine S.sk (S.sk (S.sk (S.sk (S.sk (S.sk (S.o q.pt (S.end (hK _ ?_))))))))
            clear hK K
            refine Ev.ct ?_
            have hmz := hsm.2 (by omega)
            obtain ⟨z, hz, hzi, hzm, hzk⟩ := barAt_some hmz
            have hzok : okBar z := hao z hzm
            obtain ⟨_, _, hzb1, hzb2⟩ := barMass_bd hzok
            refine Ev.region_S fun K hK => S.o q.mv (S.o q.mv (S.o q.mv (S.o q.mv (S.o q.mv (S.o (q.ix am_el25 am_cl36 (hl := (by first | exact ati hyi (by omega) | exact ati hzi (by omega) | exact ati hidx (by omega) | exact atig (by omega)))) (S.o (q.fs 1 am_fi36_1 am_cl9) (S.o (q.ls am_ag9) (S.c0 (hF := rfind_fun _ _ (by omega)) (h := S.o (q.ix am_el22 am_cl43 (hl := (by first | exact ati hyi (by omega) | exact ati hzi (by omega) | exact ati hidx (by omega) | exact atig (by omega)))) (S.o (q.lsA [_, _, _, _, _] am_ag43 am_cl43) (S.c0 (hF := rbarMassR_fun z hzok) (h := S.o (q.add (h1 := by omega) (h2 := by omega)) (S.o q.as (S.end (hK _ ?_)))))))))))))))
            clear hK K
            show Ev _ _ _ _
            refine Ev.region_S fun K hK => S.o q.mv (S.o q.add (S.o q.as (S.end (hK _ ?_))))
            clear hK K
            refine hR0 _ _ ?_
            refine roundU [] [0, 1, 4, 5, 6] ⟨(pre ++ [s], suf), by rw [← hp]; simp, ?_⟩ ?_ keep_n (slots_c (he := (by first | rfl | (congr 2; simp; done))) (h := (slots_c (he := (by first | rfl | exact iE (rc_yes (by omega) hy) | exact iE (rc_no (by omega)))) (h := (slots_c (he := (by first | rfl | exact iE (rg_yes (by omega) hz) | exact iE (rg_no (by omega)))) (h := trivial)))))) (.c (.c (.c (.c (.c .n)))))
            trivial
            all_goals (dsimp only; simp only [List.length_cons]; omega)
          · first
          | (first | omega | contradiction)
          | refine S.o q.mv (S.o q.mv (S.o (q.ix am_el25 am_cl36 (hl := (by first | exact ati hyi (by omega) | exact ati hzi (by omega) | exact ati hidx (by omega) | exact atig (by omega)))) (S.o (q.fs 0 am_fi36_0 am_cl3) (S.o (q.ls am_ag3) (S.o q.eql (S.o q.pf (S.end (hK _ ?_))))))))
            clear hK K
            refine Ev.cd (fun c16 => ?_) (fun c16 => ?_)
            · first
            | (first | omega | contradiction)
            | have hmz := hsm.2 (by omega)
              obtain ⟨z, hz, hzi, hzm, hzk⟩ := barAt_some hmz
              have hzok : okBar z := hao z hzm
              obtain ⟨_, _, hzb1, hzb2⟩ := barMass_bd hzok
              refine Ev.region_S fun K hK => S.o q.mv (S.o q.mv (S.o q.mv (S.o q.mv (S.o q.mv (S.o (q.ix am_el25 am_cl36 (hl := (by first | exact ati hyi (by omega) | exact ati hzi (by omega) | exact ati hidx (by omega) | exact atig (by omega)))) (S.o (q.fs 1 am_fi36_1 am_cl9) (S.o (q.ls am_ag9) (S.c0 (hF := rfind_fun _ _ (by omega)) (h := S.o (q.ix am_el22 am_cl43 (hl := (by first | exact ati hyi (by omega) | exact ati hzi (by omega) | exact ati hidx (by omega) | exact atig (by omega)))) (S.o (q.lsA [_, _, _, _, _] am_ag43 am_cl43) (S.c0 (hF := rbarMassR_fun z hzok) (h := S.o (q.add (h1 := by omega) (h2 := by omega)) (S.o q.as (S.end (hK _ ?_)))))))))))))))
              clear hK K
              show Ev _ _ _ _
              refine Ev.region_S fun K hK => S.o q.mv (S.o q.add (S.o q.as (S.end (hK _ ?_))))
              clear hK K
              refine hR0 _ _ ?_
              refine roundU [] [0, 1, 4, 5, 6] ⟨(pre ++ [s], suf), by rw [← hp]; simp, ?_⟩ ?_ keep_n (slots_c (he := (by first | rfl | (congr 2; simp; done))) (h := (slots_c (he := (by first | rfl | exact iE (rc_yes (by omega) hy) | exact iE (rc_no (by omega)))) (h := (slots_c (he := (by first | rfl | exact iE (rg_yes (by omega) hz) | exact iE (rg_no (by omega)))) (h := trivial)))))) (.c (.c (.c (.c (.c .n)))))
              trivial
              all_goals (dsimp only; simp only [List.length_cons]; omega)
            · first
            | (first | omega | contradiction)
            | refine Ev.skip ?_
              show Ev _ _ _ _
              refine Ev.region_S fun K hK => S.o q.mv (S.o q.add (S.o q.as (S.end (hK _ ?_))))
              clear hK K
              refine hR0 _ _ ?_
              refine roundU [] [0, 1, 4, 5, 6] ⟨(pre ++ [s], suf), by rw [← hp]; simp, ?_⟩ ?_ keep_n (slots_c (he := (by first | rfl | (congr 2; simp; done))) (h := (slots_c (he := (by first | rfl | exact iE (rc_yes (by omega) hy) | exact iE (rc_no (by omega)))) (h := (slots_c (he := (by first | rfl | exact iE (rg_yes (by omega) hz) | exact iE (rg_no (by omega)))) (h := trivial)))))) (.c (.c (.c (.c (.c .n)))))
              trivial
              all_goals (dsimp only; simp only [List.length_cons]; omega)
        · first
        | (first | omega | contradiction)
        | refine Ev.skip ?_
          show Ev _ _ _ _
          refine Ev.sr fun K hK => S.o q.mv (S.o q.mv (S.o (q.ix am_el25 am_cl36 (hl := (by first | exact ati hyi (by omega) | exact ati hzi (by omega) | exact ati hidx (by omega) | exact atig (by omega)))) (S.o (q.fs 0 am_fi36_0 am_cl3) (S.o (q.ls am_ag3) (S.o q.eql (S.bd q.mv (fun c17 => ?_) (fun c17 => ?_)))))))
          · first
          | (first | omega | contradiction)
          | refine S.sk (S.sk (S.sk (S.sk (S.sk (S.sk (S.o q.pt (S.end (hK _ ?_))))))))
            clear hK K
            refine Ev.ct ?_
            have hmz := hsm.2 (by omega)
            obtain ⟨z, hz, hzi, hzm, hzk⟩ := barAt_some hmz
            have hzok : okBar z := hao z hzm
            obtain ⟨_, _, hzb1, hzb2⟩ := barMass_bd hzok
            refine Ev.region_S fun K hK => S.o q.mv (S.o q.mv (S.o q.mv (S.o q.mv (S.o q.mv (S.o (q.ix am_el25 am_cl36 (hl := (by first | exact ati hyi (by omega) | exact ati hzi (by omega) | exact ati hidx (by omega) | exact atig (by omega)))) (S.o (q.fs 1 am_fi36_1 am_cl9) (S.o (q.ls am_ag9) (S.c0 (hF := rfind_fun _ _ (by omega)) (h := S.o (q.ix am_el22 am_cl43 (hl := (by first | exact ati hyi (by omega) | exact ati hzi (by omega) | exact ati hidx (by omega) | exact atig (by omega)))) (S.o (q.lsA [_, _, _, _, _] am_ag43 am_cl43) (S.c0 (hF := rbarMassR_fun z hzok) (h := S.o (q.add (h1 := by omega) (h2 := by omega)) (S.o q.as (S.end (hK _ ?_)))))))))))))))
            clear hK K
            show Ev _ _ _ _
            refine Ev.region_S fun K hK => S.o q.mv (S.o q.add (S.o q.as (S.end (hK _ ?_))))
            clear hK K
            refine hR0 _ _ ?_
            refine roundU [] [0, 1, 4, 5, 6] ⟨(pre ++ [s], suf), by rw [← hp]; simp, ?_⟩ ?_ keep_n (slots_c (he := (by first | rfl | (congr 2; simp; done))) (h := (slots_c (he := (by first | rfl | exact iE (rc_yes (by omega) hy) | exact iE (rc_no (by omega)))) (h := (slots_c (he := (by first | rfl | exact iE (rg_yes (by omega) hz) | exact iE (rg_no (by omega)))) (h := trivial)))))) (.c (.c (.c (.c (.c .n)))))
            trivial
            all_goals (dsimp only; simp only [List.length_cons]; omega)
          · first
          | (first | omega | contradiction)
          | refine S.o q.mv (S.o q.mv (S.o (q.ix am_el25 am_cl36 (hl := (by first | exact ati hyi (by omega) | exact ati hzi (by omega) | exact ati hidx (by omega) | exact atig (by omega)))) (S.o (q.fs 0 am_fi36_0 am_cl3) (S.o (q.ls am_ag3) (S.o q.eql (S.o q.pf (S.end (hK _ ?_))))))))
            clear hK K
            refine Ev.cd (fun c18 => ?_) (fun c18 => ?_)
            · first
            | (first | omega | contradiction)
            | have hmz := hsm.2 (by omega)
              obtain ⟨z, hz, hzi, hzm, hzk⟩ := barAt_some hmz
              have hzok : okBar z := hao z hzm
              obtain ⟨_, _, hzb1, hzb2⟩ := barMass_bd hzok
              refine Ev.region_S fun K hK => S.o q.mv (S.o q.mv (S.o q.mv (S.o q.mv (S.o q.mv (S.o (q.ix am_el25 am_cl36 (hl := (by first | exact ati hyi (by omega) | exact ati hzi (by omega) | exact ati hidx (by omega) | exact atig (by omega)))) (S.o (q.fs 1 am_fi36_1 am_cl9) (S.o (q.ls am_ag9) (S.c0 (hF := rfind_fun _ _ (by omega)) (h := S.o (q.ix am_el22 am_cl43 (hl := (by first | exact ati hyi (by omega) | exact ati hzi (by omega) | exact ati hidx (by omega) | exact atig (by omega)))) (S.o (q.lsA [_, _, _, _, _] am_ag43 am_cl43) (S.c0 (hF := rbarMassR_fun z hzok) (h := S.o (q.add (h1 := by omega) (h2 := by omega)) (S.o q.as (S.end (hK _ ?_)))))))))))))))
              clear hK K
              show Ev _ _ _ _
              refine Ev.region_S fun K hK => S.o q.mv (S.o q.add (S.o q.as (S.end (hK _ ?_))))
              clear hK K
              refine hR0 _ _ ?_
              refine roundU [] [0, 1, 4, 5, 6] ⟨(pre ++ [s], suf), by rw [← hp]; simp, ?_⟩ ?_ keep_n (slots_c (he := (by first | rfl | (congr 2; simp; done))) (h := (slots_c (he := (by first | rfl | exact iE (rc_yes (by omega) hy) | exact iE (rc_no (by omega)))) (h := (slots_c (he := (by first | rfl | exact iE (rg_yes (by omega) hz) | exact iE (rg_no (by omega)))) (h := trivial)))))) (.c (.c (.c (.c (.c .n)))))
              trivial
              all_goals (dsimp only; simp only [List.length_cons]; omega)
            · first
            | (first | omega | contradiction)
            | refine Ev.skip ?_
              show Ev _ _ _ _
              refine Ev.region_S fun K hK => S.o q.mv (S.o q.add (S.o q.as (S.end (hK _ ?_))))
              clear hK K
              refine hR0 _ _ ?_
              refine roundU [] [0, 1, 4, 5, 6] ⟨(pre ++ [s], suf), by rw [← hp]; simp, ?_⟩ ?_ keep_n (slots_c (he := (by first | rfl | (congr 2; simp; done))) (h := (slots_c (he := (by first | rfl | exact iE (rc_yes (by omega) hy) | exact iE (rc_no (by omega)))) (h := (slots_c (he := (by first | rfl | exact iE (rg_yes (by omega) hz) | exact iE (rg_no (by omega)))) (h := trivial)))))) (.c (.c (.c (.c (.c .n)))))
              trivial
              all_goals (dsimp only; simp only [List.length_cons]; omega)
    · first
    | (first | omega | contradiction)
    | refine Ev.exit ?_
      refine hR0 _ _ ?_
      show Ev _ _ _ _
      refine Ev.sr fun K hK => S.o q.mv (S.o q.mv (S.o q.as (S.o q.as (S.end (hK _ ?_)))))
      clear hK K
      refine Ev.ret ?_
      refine Ev.ret2 ?_
      refine ⟨?_, rfl⟩
      rfl
end Go.Proofs.Ytccddakkegelkaa
