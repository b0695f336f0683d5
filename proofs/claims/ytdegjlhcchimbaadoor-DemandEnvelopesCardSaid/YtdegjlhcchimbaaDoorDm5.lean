/-
  Chapter 23: Scaled, walked.
  Conditions: none.
-/
import Derived.Test.YtdegjlhcchimbaaDoorDm4
import Derived.Test.YtdegjlhcchimbaaDoorAmOwn
namespace Go.Proofs.YtdegjlhcchimbaaDoor
open Go Go.AM
set_option linter.unusedSimpArgs false
set_option linter.unusedVariables false
set_option maxRecDepth 100000
set_option maxHeartbeats 1000000

theorem cloneS_fun (l : List (Int × Int)) (hlen : l.length ≤ 1000) : Fun Tryd.prog 46 [.sh 2 (l.map pairC)] (Ret (.als 0 0 l.length) [(0, ⟨true, 39, 2, l.map pairC, true⟩)]) := by
  refine Fun.of (nt := 8) (rs := [.tmp 2]) Tryd.func46 rfl rfl rfl rfl rfl ?_
  refine Ev.sr fun K hK => S.o q.as (S.end (hK _ ?_))
  clear hK K
  refine Ev.seq ?_
  refine Ev.sr fun K hK => S.o q.mv (S.eqn am_el29 (fun c1 c2 => (S.end (hK _ ?_))))
  clear hK K
  refine Ev.c (fun c3 => ?_) (fun c3 => ?_)
  · first
  | (first | omega | contradiction)
  | refine Ev.sr fun K hK => S.o q.as (S.end (hK _ ?_))
    clear hK K
    refine Ev.weaken (Wk.nown pairC 2 39 2) ?_
    refine Ev.ret ?_
    refine Ev.own1 ?_
    refine ⟨?_, ?_⟩
    all_goals first
     | rfl
     | (rw [List.map_eq_nil_iff.1 (c2 c3)]; done) | (rw [List.map_eq_nil_iff.1 (c2 c3)] <;> rfl)
     | (congr 1; simp; done)
     | (simp; done)
  · first
  | (first | omega | contradiction)
  | refine Ev.skip ?_
    show Ev _ _ _ _
    refine Ev.sr fun K hK => S.nn (v := .als 0 0 ([] : List (Int × Int)).length) (o := ⟨true, 39, 2, ([] : List (Int × Int)).map pairC, true⟩) (q.bs [] true am_el29 am_ze39 am_cl39) (S.o q.mv (S.ap' [] am_el29 am_ze39 am_cl39 am_by39 (hh := head_own') (hr := rows_sh) (h := S.o q.as (S.end (hK _ ?_)))))
    clear hK K
    refine Ev.ret ?_
    refine Ev.own1 ?_
    refine ⟨?_, ?_⟩
    all_goals first
     | rfl
     | (rw [List.map_eq_nil_iff.1 (c2 c3)]; done) | (rw [List.map_eq_nil_iff.1 (c2 c3)] <;> rfl)
     | (congr 1; simp; done)
     | (simp; done)

def sc1 (num den : Int) (s : Int × Int) : Int := (s.2 * num + den - 1) / den
def scL (num den : Int) (l : List (Int × Int)) : List (Int × Int) := l.map fun s => (s.1, sc1 num den s)
theorem scL_len (num den : Int) (l : List (Int × Int)) : (scL num den l).length = l.length := List.length_map _
def fac (num den : Int) : Prop := (1 ≤ num ∧ num ≤ 1000) ∧ 1 ≤ den ∧ den ≤ 1000
instance (n d) : Decidable (fac n d) := by unfold fac; infer_instance
def scBig (num den : Int) (l : List (Int × Int)) : Prop := ∃ s ∈ l, sc1 num den s > 1099511627776
instance (n d l) : Decidable (scBig n d l) := by unfold scBig; infer_instance
def scE (d : Dem) (num den : Int) : Int := if okDem d then (if fac num den then (if scBig num den d.steps then 5 else 0) else 2) else 1
def demZ : Dem := ⟨[], ⟨0, 0, 0, 0, 0, 0⟩, []⟩
def scD (d : Dem) (num den : Int) : Dem := if scE d num den = 0 then ⟨d.name, d.zone, scL num den d.steps⟩ else demZ
theorem sc_arg {d : Dem} {num den : Int} (h : ¬ okDem d) : scD d num den = demZ ∧ scE d num den = 1 := by
  have e : scE d num den = 1 := if_neg h
  exact ⟨by rw [scD, e]; rfl, e⟩
theorem sc_rng {d : Dem} {num den : Int} (h : okDem d) (h2 : ¬ fac num den) : scD d num den = demZ ∧ scE d num den = 2 := by
  have e : scE d num den = 2 := (if_pos h).trans (if_neg h2)
  exact ⟨by rw [scD, e]; rfl, e⟩
theorem sc_big {d : Dem} {num den : Int} (h : okDem d) (h2 : fac num den) (h3 : scBig num den d.steps) : scD d num den = demZ ∧ scE d num den = 5 := by
  have e : scE d num den = 5 := (if_pos h).trans ((if_pos h2).trans (if_pos h3))
  exact ⟨by rw [scD, e]; rfl, e⟩
theorem sc_ok {d : Dem} {num den : Int} (h : okDem d) (h2 : fac num den) (h3 : ¬ scBig num den d.steps) : scD d num den = ⟨d.name, d.zone, scL num den d.steps⟩ ∧ scE d num den = 0 := by
  have e : scE d num den = 0 := (if_pos h).trans ((if_pos h2).trans (if_neg h3))
  exact ⟨by rw [scD, e]; rfl, e⟩
theorem sc_bd {num den v : Int} (hf : fac num den) (h0 : 0 ≤ v) (h1 : v ≤ 1099511627776) : 0 ≤ v * num ∧ v * num ≤ 1099511627776000 ∧ (v * num + den - 1).tdiv den = (v * num + den - 1) / den ∧ 0 ≤ (v * num + den - 1) / den ∧ (v * num + den - 1) / den ≤ 1099511627777000 := by
  obtain ⟨⟨a1, a2⟩, a3, a4⟩ := hf
  have b1 : 0 ≤ v * num := Int.mul_nonneg h0 (by omega)
  have b2 : v * num ≤ 1099511627776 * 1000 := Int.mul_le_mul h1 a2 (by omega) (by omega)
  have b3 : 0 ≤ v * num + den - 1 := by omega
  refine ⟨b1, by omega, Int.tdiv_eq_ediv_of_nonneg b3, Int.ediv_nonneg b3 (by omega), ?_⟩
  exact Int.le_trans (Int.ediv_le_self _ b3) (by omega)
/-- The steps scaled so far, and those that are left. -/
def scM (num den : Int) (pre suf : List (Int × Int)) : List (Int × Int) := scL num den pre ++ suf
theorem scM_set (num den x y : Int) (pre suf : List (Int × Int)) : (scM num den pre ((x, y) :: suf)).set (pre.length : Int).toNat (x, (y * num + den - 1) / den) = scM num den (pre ++ [(x, y)]) suf := by
  have e : (pre.length : Int).toNat = (scL num den pre).length := by simp [scL_len]
  rw [scM, e, List.set_append_right _ _ (Nat.le_refl _), Nat.sub_self]
  simp [scM, scL, sc1]
theorem scM_len (num den : Int) (pre suf : List (Int × Int)) : (scM num den pre suf).length = pre.length + suf.length := by simp [scM, scL_len]
theorem scM_at (num den : Int) (pre suf : List (Int × Int)) (s : Int × Int) : (scM num den pre (s :: suf))[pre.length]? = some s := by
  have e : pre.length = (scL num den pre).length := (scL_len _ _ _).symm
  rw [scM, e]; simp
theorem demScaled_fun (d : Dem) (num den : Int) (hw : d.w) : Fun Tryd.prog 21 [.agg d.c, .lit (.int .i64 num), .lit (.int .i64 den)] (Ret (.tup [.agg (scD d num den).c, .lit (.int .i64 (scE d num den))]) []) := by
  refine Fun.of (nt := 60) (rs := [.cell 6 48, .tmp 7]) Tryd.func21 rfl rfl rfl rfl rfl ?_
  refine Ev.sr fun K hK => S.nn (q.bx [_, _, _, _, _, _, _, _] true) (S.nn (q.al am_ze48) (S.o q.as (S.end (hK _ ?_))))
  clear hK K
  refine Ev.seq ?_
  refine Ev.block ?_
  refine Ev.sr fun K hK => S.o (q.lvA [_, _, _, _, _, _, _, _] am_ag48 am_cl48) (S.c0 (hF := right_fun _ (by assumption)) (h := S.o q.not (S.o q.as (S.end (hK _ ?_)))))
  clear hK K
  refine Ev.cn (fun c1 => ?_) (fun c1 => ?_)
  · first
  | (first | omega | contradiction)
  | obtain ⟨e1, e2⟩ := sc_arg (num := num) (den := den) ‹¬ okDem d›
    rw [e1, e2]
    refine Ev.sr fun K hK => S.o (q.bd [_, _, _, _, _, _, _, _] am_ze48 am_pl48) (S.sv [_, _, _, _, _, _, _, _] true [_] am_in48 am_cl48 (h := S.o q.as (S.end (hK _ ?_))))
    clear hK K
    refine Ev.weaken (Wk.nshr [[0, 0, 0, 0, 0, 0, 0, 3]] 1 [_]) ?_
    refine Ev.ret ?_
    refine Ev.retv2 (res_c [_, _, _, _, _, _, _, _] am_ag48 am_cl48 (res_t res_n)) ?_
    refine ⟨?_, rfl⟩
    first | rfl | (rw [e1, e2]; rfl) | (simp [scM]; rfl)
  · first
  | (first | omega | contradiction)
  | refine Ev.sr fun K hK => S.o q.mv (S.o q.mv (S.c0 (hF := within_fun _ _ _ _) (h := S.o q.not (S.bn q.mv (fun c2 => ?_) (fun c2 => ?_)))))
    · first
    | (first | omega | contradiction)
    | refine S.sk (S.sk (S.sk (S.sk (S.o q.pt (S.o q.as (S.end (hK _ ?_)))))))
      clear hK K
      refine Ev.ct ?_
      obtain ⟨e1, e2⟩ := sc_rng (num := num) (den := den) ‹okDem d› (fun hf => by obtain ⟨f1, f2⟩ := hf; first | contradiction | exact absurd (And.intro f1.1 f1.2) ‹_› | exact absurd f1 ‹_› | exact absurd f2 ‹_›)
      rw [e1, e2]
      refine Ev.sr fun K hK => S.o (q.bd [_, _, _, _, _, _, _, _] am_ze48 am_pl48) (S.sv [_, _, _, _, _, _, _, _] true [_] am_in48 am_cl48 (h := S.o q.as (S.end (hK _ ?_))))
      clear hK K
      refine Ev.weaken (Wk.nshr [[0, 0, 0, 0, 0, 0, 0, 3]] 1 [_]) ?_
      refine Ev.ret ?_
      refine Ev.retv2 (res_c [_, _, _, _, _, _, _, _] am_ag48 am_cl48 (res_t res_n)) ?_
      refine ⟨?_, rfl⟩
      first | rfl | (rw [e1, e2]; rfl) | (simp [scM]; rfl)
    · first
    | (first | omega | contradiction)
    | refine S.o q.mv (S.o q.mv (S.c0 (hF := within_fun _ _ _ _) (h := S.o q.not (S.o q.pf (S.o q.as (S.end (hK _ ?_)))))))
      clear hK K
      refine Ev.cn (fun c3 => ?_) (fun c3 => ?_)
      · first
      | (first | omega | contradiction)
      | obtain ⟨e1, e2⟩ := sc_rng (num := num) (den := den) ‹okDem d› (fun hf => by obtain ⟨f1, f2⟩ := hf; first | contradiction | exact absurd (And.intro f1.1 f1.2) ‹_› | exact absurd f1 ‹_› | exact absurd f2 ‹_›)
        rw [e1, e2]
        refine Ev.sr fun K hK => S.o (q.bd [_, _, _, _, _, _, _, _] am_ze48 am_pl48) (S.sv [_, _, _, _, _, _, _, _] true [_] am_in48 am_cl48 (h := S.o q.as (S.end (hK _ ?_))))
        clear hK K
        refine Ev.weaken (Wk.nshr [[0, 0, 0, 0, 0, 0, 0, 3]] 1 [_]) ?_
        refine Ev.ret ?_
        refine Ev.retv2 (res_c [_, _, _, _, _, _, _, _] am_ag48 am_cl48 (res_t res_n)) ?_
        refine ⟨?_, rfl⟩
        first | rfl | (rw [e1, e2]; rfl) | (simp [scM]; rfl)
      · first
      | (first | omega | contradiction)
      | refine Ev.skip ?_
        show Ev _ _ _ _
        have hok : okDem d := ‹okDem d›
        have hfac : fac num den := ⟨‹_›, ‹_›⟩
        have hsl := hok.2.2.1
        refine Ev.sr fun K hK => S.o (q.fa 7 am_fi48_2 am_cl29) (S.o (q.lv am_ag29) (S.c1 (hF := cloneS_fun _ (by omega)) (h := S.o (q.fa 7 am_fi48_2 am_cl29) (S.sv [_, _, _, _, _, _, _, _] false [_, _] am_in29 am_cl29 (h := S.end (hK _ ?_))))))
        clear hK K
        refine Ev.seq ?_
        refine Ev.sr fun K hK => S.o (q.fa 7 am_fi48_2 am_cl29) (S.o (q.lv am_ag29) (S.o (q.lena am_el29) (S.o q.mv (S.end (hK _ ?_)))))
        clear hK K
        refine Ev.block ?_
        refine Ev.loopU (ι := {q : List (Int × Int) × List (Int × Int) // q.1 ++ q.2 = d.steps ∧ ∀ s ∈ q.1, ¬ sc1 num den s > 1099511627776}) [0, 2, 1] [1, 2, 3, 6, 33, 34] (fun ⟨(pre, suf), _⟩ => [(35, .lit (.int .i64 ((pre.length : Int))))]) (fun ⟨(pre, suf), _⟩ => [(0, ⟨false, 48, 8, [[.lit (str (d.name)), .lit (.int .i64 (d.zone.lx)), .lit (.int .i64 (d.zone.ly)), .lit (.int .i64 (d.zone.lz)), .lit (.int .i64 (d.zone.hx)), .lit (.int .i64 (d.zone.hy)), .lit (.int .i64 (d.zone.hz)), .als 1 0 (scM num den pre suf).length]], false⟩), (1, ⟨true, 39, 2, (scM num den pre suf).map pairC, true⟩), (2, ⟨false, 48, 8, [[.lit (str []), .lit (.int .i64 (0)), .lit (.int .i64 (0)), .lit (.int .i64 (0)), .lit (.int .i64 (0)), .lit (.int .i64 (0)), .lit (.int .i64 (0)), .lit (.slice none 0 0)]], true⟩)]) (fun ⟨(pre, suf), _⟩ => suf.length) ⟨([], d.steps), rfl, (fun s hs => by simp at hs)⟩ (.c (.c (.c (.c (.c (.c .n)))))) (keep_d (he := (by first | rfl | (rw [scM_len, scM_len]; simp; omega))) (h := (keep_c (he := (by first | rfl | (rw [scM_set]; done))) (h := (keep_c (he := (by first | rfl | (simp; done))) (h := keep_n)))))) (slots_c (he := (by first | rfl | (congr 2; simp; done))) (h := trivial)) ?_
        rintro ⟨⟨pre, suf⟩, hp, hinv⟩ R1 hR1
        dsimp only [List.cons_append, List.nil_append, List.length_cons, List.length_nil]
        simp only at hp hinv
        have hpl : pre.length + suf.length = (d.steps).length := by rw [← hp, List.length_append]
        rcases suf with _ | ⟨s, suf⟩
        · rw [List.append_nil] at hp; simp only [List.length_nil] at hpl
          subst hp
          refine Ev.sr fun K hK => S.o q.lss (S.end (hK _ ?_))
          clear hK K
          refine Ev.ud (fun c4 => ?_) (fun c4 => ?_)
          · first | omega | contradiction | (exfalso; simp at *; done)
          · first
          | (first | omega | contradiction)
          | refine Ev.exit ?_
            refine hR1 _ _ ?_
            show Ev _ _ _ _
            obtain ⟨e1, e2⟩ := sc_ok hok hfac (fun ⟨s, hs, hb⟩ => hinv s hs hb)
            rw [e1, e2]
            refine Ev.sr fun K hK => S.o (q.lvA [_, _, _, _, _, _, _, _] am_ag48 am_cl48) ?_
            refine SeqL.weaken (Wk.frzA (f := pairC) (scM num den d.steps []) 59 7 [_, _]) ?_
            refine S.sv [_, _, _, _, _, _, _, _] true [_] am_in48 am_cl48 (h := S.o q.as (S.end (hK _ ?_)))
            clear hK K
            refine Ev.weaken (Wk.nshr [[0, 0, 0, 0, 0, 0, 0, 3]] 2 [_]) ?_
            refine Ev.ret ?_
            refine Ev.retv2 (res_c [_, _, _, _, _, _, _, _] am_ag48 am_cl48 (res_t res_n)) ?_
            refine ⟨?_, rfl⟩
            first | rfl | (rw [e1, e2]; rfl) | (simp [scM]; rfl)
        · simp only [List.length_cons] at hpl
          obtain ⟨sx, sy⟩ := s
          have hidx := scM_at num den pre suf (sx, sy)
          have hst := hok.2.2.2.1 (sx, sy) (by rw [← hp]; simp)
          obtain ⟨hs0, hs1, hs2⟩ := hst
          simp only at hs1 hs2
          obtain ⟨b1, b2, b3, b4, b5⟩ := sc_bd hfac hs1 hs2
          have hml := scM_len num den pre ((sx, sy) :: suf)
          simp only [List.length_cons] at hml
          refine Ev.sr fun K hK => S.o q.lss (S.end (hK _ ?_))
          clear hK K
          refine Ev.ud (fun c5 => ?_) (fun c5 => ?_)
          · first
          | (first | omega | contradiction)
          | refine Ev.seq ?_
            refine Ev.block ?_
            refine Ev.sr fun K hK => S.o q.mv (S.o (q.ia am_el29 am_cl39) (S.o (q.lxA [_, _] am_ag39 am_cl39 (hl := (by first | exact at_ hidx (by omega) | exact at_g (by omega)))) (S.nn (q.al am_ze39) (S.o q.as (S.sv [_, _] true [_, _, _] am_in39 am_cl39 (h := S.end (hK _ ?_)))))))
            clear hK K
            refine Ev.sr fun K hK => S.o (q.fa 1 am_fi39_1 am_cl3) (S.o (q.lv am_ag3) (S.o q.mv (S.o q.mul (S.o q.mv (S.o q.add (S.o q.sub (S.o q.mv (S.o q.quo (S.o q.as (S.end (hK _ ?_)))))))))))
            clear hK K
            refine Ev.seq ?_
            refine Ev.sr fun K hK => S.o q.mv (S.o q.gtr (S.end (hK _ ?_)))
            clear hK K
            refine Ev.cd (fun c6 => ?_) (fun c6 => ?_)
            · first
            | (first | omega | contradiction)
            | have hbig : scBig num den d.steps := ⟨(sx, sy), by rw [← hp]; simp, by show (sy * num + den - 1) / den > _; assumption⟩
              obtain ⟨e1, e2⟩ := sc_big hok hfac hbig
              refine Ev.sr fun K hK => S.o (q.bd [_, _, _, _, _, _, _, _] am_ze48 am_pl48) (S.sv [_, _, _, _, _, _, _, _] true [_, _, _] am_in48 am_cl48 (h := S.o q.as (S.end (hK _ ?_))))
              clear hK K
              refine Ev.weaken (Wk.nshr [[0, 0, 0, 0, 0, 0, 0, 3]] 2 [_, _, _]) ?_
              refine Ev.ret ?_
              refine hR1 _ _ ?_
              refine Ev.retv2 (res_c [_, _, _, _, _, _, _, _] am_ag48 am_cl48 (res_t res_n)) ?_
              refine ⟨?_, rfl⟩
              first | rfl | (rw [e1, e2]; rfl) | (simp [scM]; rfl)
            · first
            | (first | omega | contradiction)
            | refine Ev.skip ?_
              show Ev _ _ _ _
              refine Ev.region_S fun K hK => S.o (q.fa 7 am_fi48_2 am_cl29) (S.o (q.lv am_ag29) (S.o q.mv (S.o q.mv (S.o (q.ia am_el29 am_cl39) (S.o (q.fa 1 am_fi39_1 am_cl3) (S.sx (⟨_, _⟩ : Int × Int) [_, _, _] am_in3 am_cl3 (hl := (by first | exact at_ hidx (by omega) | exact at_g (by omega))) (h := S.end (hK _ ?_))))))))
              clear hK K
              show Ev _ _ _ _
              refine Ev.region_S fun K hK => S.o q.add (S.o q.mv (S.end (hK _ ?_)))
              clear hK K
              refine hR1 _ _ ?_
              refine roundU [0, 1, 2] [1, 2, 3, 6, 33, 34] ⟨(pre ++ [(sx, sy)], suf), by rw [← hp]; simp, ?_⟩ ?_ (keep_d (he := (by first | rfl | (rw [scM_len, scM_len]; simp; omega))) (h := (keep_c (he := (by first | rfl | (rw [scM_set]; done))) (h := (keep_c (he := (by first | rfl | (simp; done))) (h := keep_n)))))) (slots_c (he := (by first | rfl | (congr 2; simp; done))) (h := trivial)) (.c (.c (.c (.c (.c (.c .n))))))
              intro s hs
              simp only [List.mem_append, List.mem_singleton] at hs
              rcases hs with hs | rfl
              · exact hinv s hs
              · show ¬ (sy * num + den - 1) / den > _
                assumption
              all_goals (dsimp only; simp only [List.length_cons]; omega)
          · first | omega | contradiction | (exfalso; simp at *; done)


end Go.Proofs.YtdegjlhcchimbaaDoor
