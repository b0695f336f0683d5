/-
  Orders: totals, short orders, merging.
  Conditions: none.
-/
import Derived.Test.YtckahagagfmpbaaSo2
import Derived.Test.YtckahagagfmpbaaCc1
namespace Go.Proofs.Ytckahagagfmpbaa
open Go Go.AM
set_option linter.unusedSimpArgs false
set_option linter.unusedVariables false
set_option maxRecDepth 100000
set_option maxHeartbeats 1000000

def totP (l : List (Int × Int)) : Int := (l.map fun p => p.1 * p.2).sum
theorem totP_snoc (l : List (Int × Int)) (s : Int × Int) : totP (l ++ [s]) = totP l + s.1 * s.2 := by simp [totP]
theorem totP_bd : ∀ l : List (Int × Int), (∀ b ∈ l, okPc b) → 0 ≤ totP l ∧ totP l ≤ 1048576000000 * l.length := by
  refine snoc_ind (fun _ => by simp [totP]) ?_
  intro l s ih h
  obtain ⟨i1, i2⟩ := ih fun b hb => h b (by simp [hb])
  obtain ⟨h1, h2, h3, h4⟩ := h s (by simp)
  obtain ⟨j1, j2⟩ := mul_bd (k := s.1) (K := 1048576) (a := s.2) (A := 1000000) (by omega) (by omega) (by omega) (by omega)
  rw [totP_snoc, List.length_append, List.length_singleton]
  omega
def tlV (l : List (Int × Int)) : Int := if okOrd l then totP l else 0
def tlE (l : List (Int × Int)) : Int := if okOrd l then 0 else 1
theorem stTotal_fun (l : List (Int × Int)) (hlen : l.length ≤ 140737488355328) : Fun Try.prog 12 [.sh 2 (l.map pairC)] (Ret (.tup [.lit (.int .i64 (tlV l)), .lit (.int .i64 (tlE l))]) []) := by
  refine Fun.of (nt := 25) (rs := [.tmp 2, .tmp 3]) Try.func12 rfl rfl rfl rfl rfl ?_
  refine Ev.sr fun K hK => S.o q.as (S.o q.as (S.end (hK _ ?_)))
  clear hK K
  refine Ev.seq ?_
  refine Ev.sr fun K hK => S.o q.mv (S.c0 (hF := order_fun _ (by omega)) (h := S.o q.not (S.end (hK _ ?_))))
  clear hK K
  refine Ev.cn (fun c1 => ?_) (fun c1 => ?_)
  · first
  | (first | omega | contradiction)
  | refine Ev.sr fun K hK => S.o q.as (S.o q.as (S.end (hK _ ?_)))
    clear hK K
    refine Ev.ret ?_
    refine Ev.ret2 ?_
    refine ⟨?_, rfl⟩
    first
     | (rw [show tlV l = 0 from if_neg ‹_›, show tlE l = 1 from if_neg ‹_›]; done)
     | (rw [show tlV l = totP l from if_pos hok, show tlE l = 0 from if_pos hok, ← hp]; done)
  · first
  | (first | omega | contradiction)
  | refine Ev.skip ?_
    show Ev _ _ _ _
    have hok : okOrd l := ‹_›
    have hll := hok.1
    refine Ev.sr fun K hK => S.o q.as (S.end (hK _ ?_))
    clear hK K
    refine Ev.seq ?_
    refine Ev.sr fun K hK => S.o q.mv (S.o (q.lens am_el23) (S.o q.mv (S.end (hK _ ?_))))
    clear hK K
    refine Ev.block ?_
    refine Ev.loopU (ι := {p : List (Int × Int) × List (Int × Int) // p.1 ++ p.2 = l ∧ True}) [] [2, 3, 10, 11] (fun ⟨(pre, suf), _⟩ => [(12, .lit (.int .i64 ((pre.length : Int)))), (4, .lit (.int .i64 (totP pre)))]) (fun ⟨(pre, suf), _⟩ => []) (fun ⟨(pre, suf), _⟩ => suf.length) ⟨([], l), rfl, trivial⟩ (.c (.c (.c (.c .n)))) keep_n (slots_c (he := (by first | rfl | (congr 2; simp; done))) (h := (slots_c (he := (by first | rfl | exact iE (by rw [totP_snoc]))) (h := trivial)))) ?_
    rintro ⟨⟨pre, suf⟩, hp, hinv⟩ R0 hR0
    dsimp only [List.cons_append, List.nil_append, List.length_cons, List.length_nil]
    simp only at hp hinv
    have hpl : pre.length + suf.length = (l).length := by rw [← hp, List.length_append]
    rcases suf with _ | ⟨s, suf⟩
    · rw [List.append_nil] at hp; simp only [List.length_nil] at hpl
      refine Ev.sr fun K hK => S.o q.lss (S.end (hK _ ?_))
      clear hK K
      refine Ev.ud (fun c2 => ?_) (fun c2 => ?_)
      · first
      | (first | omega | contradiction)
      | refine Ev.seq ?_
        refine Ev.block ?_
        refine Ev.sr fun K hK => S.o (q.ix am_el23 am_cl40 (hl := (by first | exact atig (by omega)))) (S.o (q.lsA [_, _] am_ag40 am_cl40) (S.nn (q.al am_ze40) (S.sv [_, _] true [] am_in40 am_cl40 (h := S.end (hK _ ?_)))))
        clear hK K
        refine Ev.region_S fun K hK => S.o q.mv (S.o (q.fa 0 am_fi40_0 am_cl3) (S.o (q.lv am_ag3) (S.o (q.fa 1 am_fi40_1 am_cl3) (S.o (q.lv am_ag3) (S.o q.mul (S.o q.add (S.o q.as (S.end (hK _ ?_)))))))))
        clear hK K
        show Ev _ _ _ _
        refine Ev.region_S fun K hK => S.o q.add (S.o q.mv (S.end (hK _ ?_)))
        clear hK K
        refine hR0 _ _ ?_
        refine roundU [] [2, 3, 10, 11] ⟨(pre ++ [(sx, sy)], suf), by rw [← hp]; simp, ?_⟩ ?_ keep_n (slots_c (he := (by first | rfl | (congr 2; simp; done))) (h := (slots_c (he := (by first | rfl | exact iE (by rw [totP_snoc]))) (h := trivial)))) (.c (.c (.c (.c .n))))
        trivial
        all_goals (dsimp only; simp only [List.length_cons]; omega)
      · first
      | (first | omega | contradiction)
      | refine Ev.exit ?_
        refine hR0 _ _ ?_
        show Ev _ _ _ _
        refine Ev.sr fun K hK => S.o q.mv (S.o q.as (S.o q.as (S.end (hK _ ?_))))
        clear hK K
        refine Ev.ret ?_
        refine Ev.ret2 ?_
        refine ⟨?_, rfl⟩
        first
         | (rw [show tlV l = 0 from if_neg ‹_›, show tlE l = 1 from if_neg ‹_›]; done)
         | (rw [show tlV l = totP l from if_pos hok, show tlE l = 0 from if_pos hok, ← hp]; done)
    · simp only [List.length_cons] at hpl
      have hidx : l[pre.length]? = some s := by rw [← hp]; simp
      obtain ⟨sx, sy⟩ := s
      obtain ⟨g1, g2, g3, g4⟩ := hok.2 (sx, sy) (by rw [← hp]; simp)
      simp only at g1 g2 g3 g4
      obtain ⟨t1, t2⟩ := totP_bd pre (fun x hx => hok.2 x (by rw [← hp]; simp [hx]))
      obtain ⟨j1, j2⟩ := mul_bd (k := sx) (K := 1048576) (a := sy) (A := 1000000) (by omega) (by omega) (by omega) (by omega)
      refine Ev.sr fun K hK => S.o q.lss (S.end (hK _ ?_))
      clear hK K
      refine Ev.ud (fun c3 => ?_) (fun c3 => ?_)
      · first
      | (first | omega | contradiction)
      | refine Ev.seq ?_
        refine Ev.block ?_
        refine Ev.sr fun K hK => S.o (q.ix am_el23 am_cl40 (hl := (by first | exact ati hidx (by omega) | exact atig (by omega)))) (S.o (q.lsA [_, _] am_ag40 am_cl40) (S.nn (q.al am_ze40) (S.sv [_, _] true [] am_in40 am_cl40 (h := S.end (hK _ ?_)))))
        clear hK K
        refine Ev.region_S fun K hK => S.o q.mv (S.o (q.fa 0 am_fi40_0 am_cl3) (S.o (q.lv am_ag3) (S.o (q.fa 1 am_fi40_1 am_cl3) (S.o (q.lv am_ag3) (S.o q.mul (S.o q.add (S.o q.as (S.end (hK _ ?_)))))))))
        clear hK K
        show Ev _ _ _ _
        refine Ev.region_S fun K hK => S.o q.add (S.o q.mv (S.end (hK _ ?_)))
        clear hK K
        refine hR0 _ _ ?_
        refine roundU [] [2, 3, 10, 11] ⟨(pre ++ [(sx, sy)], suf), by rw [← hp]; simp, ?_⟩ ?_ keep_n (slots_c (he := (by first | rfl | (congr 2; simp; done))) (h := (slots_c (he := (by first | rfl | exact iE (by rw [totP_snoc]))) (h := trivial)))) (.c (.c (.c (.c .n))))
        trivial
        all_goals (dsimp only; simp only [List.length_cons]; omega)
      · first
      | (first | omega | contradiction)
      | refine Ev.exit ?_
        refine hR0 _ _ ?_
        show Ev _ _ _ _
        refine Ev.sr fun K hK => S.o q.mv (S.o q.as (S.o q.as (S.end (hK _ ?_))))
        clear hK K
        refine Ev.ret ?_
        refine Ev.ret2 ?_
        refine ⟨?_, rfl⟩
        first
         | (rw [show tlV l = 0 from if_neg ‹_›, show tlE l = 1 from if_neg ‹_›]; done)
         | (rw [show tlV l = totP l from if_pos hok, show tlE l = 0 from if_pos hok, ← hp]; done)
theorem rTotal_fun (l : List (Int × Int)) (hok : okOrd l) : Fun Try.prog 17 [.sh 2 (l.map pairC)] (Ret (.lit (.int .i64 (totP l))) []) := by
  have hll := hok.1
  refine Fun.of (nt := 25) (rs := [.tmp 2]) Try.func17 rfl rfl rfl rfl rfl ?_
  refine Ev.sr fun K hK => S.o q.as (S.end (hK _ ?_))
  clear hK K
  refine Ev.sr fun K hK => S.o q.as (S.end (hK _ ?_))
  clear hK K
  refine Ev.seq ?_
  refine Ev.sr fun K hK => S.o q.as (S.end (hK _ ?_))
  clear hK K
  refine Ev.block ?_
  refine Ev.loopU (ι := {p : List (Int × Int) × List (Int × Int) // p.1 ++ p.2 = l ∧ True}) [] [0, 2] (fun ⟨(pre, suf), _⟩ => [(4, .lit (.int .i64 ((pre.length : Int)))), (3, .lit (.int .i64 (totP pre)))]) (fun ⟨(pre, suf), _⟩ => []) (fun ⟨(pre, suf), _⟩ => suf.length) ⟨([], l), rfl, trivial⟩ (.c (.c .n)) keep_n (slots_c (he := (by first | rfl | (congr 2; simp; done))) (h := (slots_c (he := (by first | rfl | exact iE (by rw [totP_snoc]))) (h := trivial)))) ?_
  rintro ⟨⟨pre, suf⟩, hp, hinv⟩ R0 hR0
  dsimp only [List.cons_append, List.nil_append, List.length_cons, List.length_nil]
  simp only at hp hinv
  have hpl : pre.length + suf.length = (l).length := by rw [← hp, List.length_append]
  rcases suf with _ | ⟨s, suf⟩
  · rw [List.append_nil] at hp; simp only [List.length_nil] at hpl
    refine Ev.seq ?_
    refine Ev.sr fun K hK => S.o q.mv (S.o q.mv (S.o (q.lens am_el23) (S.o q.lss (S.end (hK _ ?_)))))
    clear hK K
    refine Ev.cd (fun c1 => ?_) (fun c1 => ?_)
    · first
    | (first | omega | contradiction)
    | refine Ev.skip ?_
      show Ev _ _ _ _
      refine Ev.seq ?_
      refine Ev.block ?_
      refine Ev.region_M (tbs [(0, 0), (0, 0), (0, 0), (3, 6), (4, 14), (5, 30), (0, 0), (0, 0), (8, 192), (9, 448), (10, 960), (11, 2046), (12, 4095), (13, 8191)]) 13 fun K hK => M.o q.mv (M.o q.mv (M.o q.mv (M.o (q.ix am_el23 am_cl40 (hl := (by first | exact atig (by omega)))) (M.o (q.fs 0 am_fi40_0 am_cl3) (M.o (q.ls am_ag3) (M.o q.mv (M.o q.mv (M.o (q.ix am_el23 am_cl40 (hl := (by first | exact atig (by omega)))) (M.o (q.fs 1 am_fi40_1 am_cl3) (M.o (q.ls am_ag3) (M.o q.mul (M.o q.add (M.end [] (h := S.o q.as (S.end (hK _ ?_))))))))))))))))
      clear hK K
      show Ev _ _ _ _
      refine Ev.region_S fun K hK => S.o q.mv (S.o q.add (S.o q.as (S.end (hK _ ?_))))
      clear hK K
      refine hR0 _ _ ?_
      refine roundU [] [0, 2] ⟨(pre ++ [(sx, sy)], suf), by rw [← hp]; simp, ?_⟩ ?_ keep_n (slots_c (he := (by first | rfl | (congr 2; simp; done))) (h := (slots_c (he := (by first | rfl | exact iE (by rw [totP_snoc]))) (h := trivial)))) (.c (.c .n))
      trivial
      all_goals (dsimp only; simp only [List.length_cons]; omega)
    · first
    | (first | omega | contradiction)
    | refine Ev.exit ?_
      refine hR0 _ _ ?_
      show Ev _ _ _ _
      refine Ev.sr fun K hK => S.o q.mv (S.o q.as (S.end (hK _ ?_)))
      clear hK K
      refine Ev.ret ?_
      refine Ev.ret1 ?_
      refine ⟨?_, rfl⟩
      (rw [← hp]; done)
  · simp only [List.length_cons] at hpl
    have hidx : l[pre.length]? = some s := by rw [← hp]; simp
    obtain ⟨sx, sy⟩ := s
    obtain ⟨g1, g2, g3, g4⟩ := hok.2 (sx, sy) (by rw [← hp]; simp)
    simp only at g1 g2 g3 g4
    obtain ⟨t1, t2⟩ := totP_bd pre (fun x hx => hok.2 x (by rw [← hp]; simp [hx]))
    obtain ⟨j1, j2⟩ := mul_bd (k := sx) (K := 1048576) (a := sy) (A := 1000000) (by omega) (by omega) (by omega) (by omega)
    refine Ev.seq ?_
    refine Ev.sr fun K hK => S.o q.mv (S.o q.mv (S.o (q.lens am_el23) (S.o q.lss (S.end (hK _ ?_)))))
    clear hK K
    refine Ev.cd (fun c2 => ?_) (fun c2 => ?_)
    · first
    | (first | omega | contradiction)
    | refine Ev.skip ?_
      show Ev _ _ _ _
      refine Ev.seq ?_
      refine Ev.block ?_
      refine Ev.region_M (tbs [(0, 0), (0, 0), (0, 0), (3, 6), (4, 14), (5, 30), (0, 0), (0, 0), (8, 192), (9, 448), (10, 960), (11, 2046), (12, 4095), (13, 8191)]) 13 fun K hK => M.o q.mv (M.o q.mv (M.o q.mv (M.o (q.ix am_el23 am_cl40 (hl := (by first | exact ati hidx (by omega) | exact atig (by omega)))) (M.o (q.fs 0 am_fi40_0 am_cl3) (M.o (q.ls am_ag3) (M.o q.mv (M.o q.mv (M.o (q.ix am_el23 am_cl40 (hl := (by first | exact ati hidx (by omega) | exact atig (by omega)))) (M.o (q.fs 1 am_fi40_1 am_cl3) (M.o (q.ls am_ag3) (M.o q.mul (M.o q.add (M.end [] (h := S.o q.as (S.end (hK _ ?_))))))))))))))))
      clear hK K
      show Ev _ _ _ _
      refine Ev.region_S fun K hK => S.o q.mv (S.o q.add (S.o q.as (S.end (hK _ ?_))))
      clear hK K
      refine hR0 _ _ ?_
      refine roundU [] [0, 2] ⟨(pre ++ [(sx, sy)], suf), by rw [← hp]; simp, ?_⟩ ?_ keep_n (slots_c (he := (by first | rfl | (congr 2; simp; done))) (h := (slots_c (he := (by first | rfl | exact iE (by rw [totP_snoc]))) (h := trivial)))) (.c (.c .n))
      trivial
      all_goals (dsimp only; simp only [List.length_cons]; omega)
    · first
    | (first | omega | contradiction)
    | refine Ev.exit ?_
      refine hR0 _ _ ?_
      show Ev _ _ _ _
      refine Ev.sr fun K hK => S.o q.mv (S.o q.as (S.end (hK _ ?_)))
      clear hK K
      refine Ev.ret ?_
      refine Ev.ret1 ?_
      refine ⟨?_, rfl⟩
      (rw [← hp]; done)

theorem stShort_fun (l : List (Int × Int)) (hlen : l.length ≤ 140737488355328) : Fun Try.prog 25 [.sh 2 (l.map pairC)] (Ret (.tup [.sh 2 ((if okOrd l then shV l else []).map pairC), .lit (.int .i64 (if okOrd l then shE l else 1))]) []) := by
  refine Fun.of (nt := 11) (rs := [.tmp 2, .tmp 3]) Try.func25 rfl rfl rfl rfl rfl ?_
  refine Ev.sr fun K hK => S.o q.as (S.o q.as (S.end (hK _ ?_)))
  clear hK K
  refine Ev.seq ?_
  refine Ev.sr fun K hK => S.o q.mv (S.c0 (hF := order_fun _ (by omega)) (h := S.o q.not (S.end (hK _ ?_))))
  clear hK K
  refine Ev.cn (fun c1 => ?_) (fun c1 => ?_)
  · first
  | (first | omega | contradiction)
  | refine Ev.sr fun K hK => S.o q.as (S.o q.as (S.end (hK _ ?_)))
    clear hK K
    refine Ev.weaken (Wk.nsh pairC 2 2) ?_
    refine Ev.ret ?_
    refine Ev.ret2 ?_
    refine ⟨?_, rfl⟩
    first | (rw [if_neg ‹_›, if_neg ‹_›]; done) | (rw [if_pos hok, if_pos hok]; done)
  · first
  | (first | omega | contradiction)
  | refine Ev.skip ?_
    show Ev _ _ _ _
    have hok : okOrd l := ‹_›
    have hll := hok.1
    have hlo := hok.2
    refine Ev.sr fun K hK => S.o q.mv (S.c0 (hF := short_fun _ (by assumption) (by omega)) (h := S.o q.ex (S.o q.ex (S.o q.as (S.o q.as (S.end (hK _ ?_)))))))
    clear hK K
    refine Ev.ret ?_
    refine Ev.ret2 ?_
    refine ⟨?_, rfl⟩
    first | (rw [if_neg ‹_›, if_neg ‹_›]; done) | (rw [if_pos hok, if_pos hok]; done)

def mgV1 (c : List (Int × Int)) : List (Int × Int) := if shG c then (if (skP c).length ≤ 200 then skP c else []) else []
def mgE1 (c : List (Int × Int)) : Int := if shG c then (if (skP c).length ≤ 200 then 0 else 4) else 5
def mgV (a b : List (Int × Int)) : List (Int × Int) := if okOrd a ∧ okOrd b then mgV1 (a ++ b) else []
def mgE (a b : List (Int × Int)) : Int := if okOrd a ∧ okOrd b then mgE1 (a ++ b) else 1
theorem mg_bad {c : List (Int × Int)} (h : ¬ shE c = 0) : mgV1 c = [] ∧ mgE1 c = shE c := by
  have hg : ¬ shG c := fun hg => h (if_pos hg)
  exact ⟨if_neg hg, (if_neg hg).trans (if_neg hg).symm⟩
theorem mg_full {c : List (Int × Int)} (h : shE c = 0) (hl : 200 < ((shV c).length : Int)) : mgV1 c = [] ∧ mgE1 c = 4 := by
  have hg : shG c := Classical.byContradiction fun hg => by have h5 : shE c = 5 := if_neg hg; omega
  have e : shV c = skP c := if_pos hg
  rw [e] at hl
  have hl2 : ¬ (skP c).length ≤ 200 := by omega
  exact ⟨(if_pos hg).trans (if_neg hl2), (if_pos hg).trans (if_neg hl2)⟩
theorem mg_good {c : List (Int × Int)} (h : shE c = 0) (hl : ¬ 200 < ((shV c).length : Int)) : mgV1 c = shV c ∧ mgE1 c = 0 := by
  have hg : shG c := Classical.byContradiction fun hg => by have h5 : shE c = 5 := if_neg hg; omega
  have e : shV c = skP c := if_pos hg
  rw [e] at hl ⊢
  have hl2 : (skP c).length ≤ 200 := by omega
  exact ⟨(if_pos hg).trans (if_pos hl2), (if_pos hg).trans (if_pos hl2)⟩
theorem shV_len {c : List (Int × Int)} (hok : ∀ b ∈ c, okPc b) : (shV c).length ≤ c.length := by
  unfold shV
  split
  · exact skP_len hok
  · simp
theorem ok2 {a b : List (Int × Int)} (ha : okOrd a) (hb : okOrd b) : (∀ p ∈ a ++ b, okPc p) ∧ (a ++ b).length ≤ 400 := by
  refine ⟨fun p hp => ?_, ?_⟩
  · rcases List.mem_append.1 hp with h | h
    · exact ha.2 p h
    · exact hb.2 p h
  · have := ha.1; have := hb.1
    rw [List.length_append]; omega
theorem fl2 (a b : List (Int × Int)) : [a, b].flatten = a ++ b := by simp
theorem short2_fun (a b : List (Int × Int)) (hok : ∀ p ∈ a ++ b, okPc p) (hn : (a ++ b).length ≤ 400) : Fun Try.prog 46 [.sh 2 ([a, b].flatten.map pairC)] (Ret (.tup [.sh 2 ((shV (a ++ b)).map pairC), .lit (.int .i64 (shE (a ++ b)))]) []) := by
  rw [fl2]
  exact short_fun (a ++ b) hok hn
theorem stMerge_fun (a b : List (Int × Int)) (ha : a.length ≤ 140737488355328) (hb : b.length ≤ 140737488355328) : Fun Try.prog 26 [.sh 2 (a.map pairC), .sh 2 (b.map pairC)] (Ret (.tup [.sh 2 ((mgV a b).map pairC), .lit (.int .i64 (mgE a b))]) []) := by
  refine Fun.of (nt := 33) (rs := [.tmp 4, .tmp 5]) Try.func26 rfl rfl rfl rfl rfl ?_
  refine Ev.sr fun K hK => S.o q.as (S.o q.as (S.end (hK _ ?_)))
  clear hK K
  refine Ev.seq ?_
  refine Ev.sr fun K hK => S.o q.mv (S.c0 (hF := order_fun _ (by omega)) (h := S.o q.not (S.bn q.mv (fun c1 => ?_) (fun c1 => ?_))))
  · first
  | (first | omega | contradiction)
  | refine S.sk (S.sk (S.sk (S.o q.pt (S.end (hK _ ?_)))))
    clear hK K
    refine Ev.ct ?_
    refine Ev.sr fun K hK => S.o q.as (S.o q.as (S.end (hK _ ?_)))
    clear hK K
    refine Ev.weaken (Wk.nsh pairC 4 2) ?_
    refine Ev.ret ?_
    refine Ev.ret2 ?_
    refine ⟨?_, rfl⟩
    first
     | (rw [show mgV a b = [] from if_neg (fun h => absurd h.1 ‹_›), show mgE a b = 1 from if_neg (fun h => absurd h.1 ‹_›)]; done)
     | (rw [show mgV a b = [] from if_neg (fun h => absurd h.2 ‹_›), show mgE a b = 1 from if_neg (fun h => absurd h.2 ‹_›)]; done)
     | (rw [hvE.1, hvE.2, (mg_bad ‹_›).1, (mg_bad ‹_›).2]; done)
     | (rw [hvE.1, hvE.2, (mg_full (by omega) (by omega)).1, (mg_full (by omega) (by omega)).2]; done)
     | (rw [hvE.1, hvE.2, (mg_good (by omega) (by omega)).1, (mg_good (by omega) (by omega)).2]; done)
  · first
  | (first | omega | contradiction)
  | refine S.o q.mv (S.c0 (hF := order_fun _ (by omega)) (h := S.o q.not (S.o q.pf (S.end (hK _ ?_)))))
    clear hK K
    refine Ev.cn (fun c2 => ?_) (fun c2 => ?_)
    · first
    | (first | omega | contradiction)
    | refine Ev.sr fun K hK => S.o q.as (S.o q.as (S.end (hK _ ?_)))
      clear hK K
      refine Ev.weaken (Wk.nsh pairC 4 2) ?_
      refine Ev.ret ?_
      refine Ev.ret2 ?_
      refine ⟨?_, rfl⟩
      first
       | (rw [show mgV a b = [] from if_neg (fun h => absurd h.1 ‹_›), show mgE a b = 1 from if_neg (fun h => absurd h.1 ‹_›)]; done)
       | (rw [show mgV a b = [] from if_neg (fun h => absurd h.2 ‹_›), show mgE a b = 1 from if_neg (fun h => absurd h.2 ‹_›)]; done)
       | (rw [hvE.1, hvE.2, (mg_bad ‹_›).1, (mg_bad ‹_›).2]; done)
       | (rw [hvE.1, hvE.2, (mg_full (by omega) (by omega)).1, (mg_full (by omega) (by omega)).2]; done)
       | (rw [hvE.1, hvE.2, (mg_good (by omega) (by omega)).1, (mg_good (by omega) (by omega)).2]; done)
    · first
    | (first | omega | contradiction)
    | refine Ev.skip ?_
      show Ev _ _ _ _
      have hoa : okOrd a := ‹_›
      have hob : okOrd b := ‹_›
      have hall := hoa.1
      have hbl := hob.1
      obtain ⟨hok2, hln2⟩ := ok2 hoa hob
      have hvE : mgV a b = mgV1 (a ++ b) ∧ mgE a b = mgE1 (a ++ b) := ⟨if_pos ⟨hoa, hob⟩, if_pos ⟨hoa, hob⟩⟩
      have hsl := shV_len hok2
      refine Ev.sr fun K hK => S.o q.mv (S.o q.mv (S.nn (q.bs [[_], [_]] true am_el59 am_ze23 am_cl23) ?_))
      refine SeqL.weaken (Wk.frzl (f := pcsC) [a, b] 19 []) ?_
      refine S.c1 (hF := concatPc_fun [a, b] (by simp) (fun x hx => by simp only [List.mem_cons, List.not_mem_nil, or_false] at hx; rcases hx with rfl | rfl <;> omega)) (h := ?_)
      refine SeqL.weaken (Wk.frz 20 []) ?_
      refine S.c0 (hF := short2_fun a b hok2 hln2) (h := S.o q.mv (S.o q.ex (S.o q.ex (S.o q.as (S.o q.as (S.end (hK _ ?_)))))))
      clear hK K
      refine Ev.seq ?_
      refine Ev.block ?_
      refine Ev.sr fun K hK => S.o q.mv (S.o q.neq (S.o q.as (S.end (hK _ ?_))))
      clear hK K
      refine Ev.cn (fun c3 => ?_) (fun c3 => ?_)
      · first
      | (first | omega | contradiction)
      | refine Ev.sr fun K hK => S.o q.mv (S.o q.as (S.o q.as (S.end (hK _ ?_))))
        clear hK K
        refine Ev.weaken (Wk.nsh pairC 4 2) ?_
        refine Ev.ret ?_
        refine Ev.ret2 ?_
        refine ⟨?_, rfl⟩
        first
         | (rw [show mgV a b = [] from if_neg (fun h => absurd h.1 ‹_›), show mgE a b = 1 from if_neg (fun h => absurd h.1 ‹_›)]; done)
         | (rw [show mgV a b = [] from if_neg (fun h => absurd h.2 ‹_›), show mgE a b = 1 from if_neg (fun h => absurd h.2 ‹_›)]; done)
         | (rw [hvE.1, hvE.2, (mg_bad ‹_›).1, (mg_bad ‹_›).2]; done)
         | (rw [hvE.1, hvE.2, (mg_full (by omega) (by omega)).1, (mg_full (by omega) (by omega)).2]; done)
         | (rw [hvE.1, hvE.2, (mg_good (by omega) (by omega)).1, (mg_good (by omega) (by omega)).2]; done)
      · first
      | (first | omega | contradiction)
      | refine Ev.sr fun K hK => S.o q.mv (S.o (q.lens am_el23) (S.o q.gtr (S.o q.as (S.end (hK _ ?_)))))
        clear hK K
        refine Ev.cd (fun c4 => ?_) (fun c4 => ?_)
        · first
        | (first | omega | contradiction)
        | refine Ev.sr fun K hK => S.o q.as (S.o q.as (S.end (hK _ ?_)))
          clear hK K
          refine Ev.weaken (Wk.nsh pairC 4 2) ?_
          refine Ev.ret ?_
          refine Ev.ret2 ?_
          refine ⟨?_, rfl⟩
          first
           | (rw [show mgV a b = [] from if_neg (fun h => absurd h.1 ‹_›), show mgE a b = 1 from if_neg (fun h => absurd h.1 ‹_›)]; done)
           | (rw [show mgV a b = [] from if_neg (fun h => absurd h.2 ‹_›), show mgE a b = 1 from if_neg (fun h => absurd h.2 ‹_›)]; done)
           | (rw [hvE.1, hvE.2, (mg_bad ‹_›).1, (mg_bad ‹_›).2]; done)
           | (rw [hvE.1, hvE.2, (mg_full (by omega) (by omega)).1, (mg_full (by omega) (by omega)).2]; done)
           | (rw [hvE.1, hvE.2, (mg_good (by omega) (by omega)).1, (mg_good (by omega) (by omega)).2]; done)
        · first
        | (first | omega | contradiction)
        | refine Ev.skip ?_
          show Ev _ _ _ _
          refine Ev.sr fun K hK => S.o q.mv (S.o q.as (S.o q.as (S.end (hK _ ?_))))
          clear hK K
          refine Ev.ret ?_
          refine Ev.ret2 ?_
          refine ⟨?_, rfl⟩
          first
           | (rw [show mgV a b = [] from if_neg (fun h => absurd h.1 ‹_›), show mgE a b = 1 from if_neg (fun h => absurd h.1 ‹_›)]; done)
           | (rw [show mgV a b = [] from if_neg (fun h => absurd h.2 ‹_›), show mgE a b = 1 from if_neg (fun h => absurd h.2 ‹_›)]; done)
           | (rw [hvE.1, hvE.2, (mg_bad ‹_›).1, (mg_bad ‹_›).2]; done)
           | (rw [hvE.1, hvE.2, (mg_full (by omega) (by omega)).1, (mg_full (by omega) (by omega)).2]; done)
           | (rw [hvE.1, hvE.2, (mg_good (by omega) (by omega)).1, (mg_good (by omega) (by omega)).2]; done)
end Go.Proofs.Ytckahagagfmpbaa
