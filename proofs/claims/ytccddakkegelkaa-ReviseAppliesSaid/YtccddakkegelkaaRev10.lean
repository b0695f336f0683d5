/-
  Layer 14: the reference, copies.
  Conditions: none.
-/
import Derived.Test.YtccddakkegelkaaSched
namespace Go.Proofs.Ytccddakkegelkaa
open Go Go.AM
set_option linter.unusedSimpArgs false
set_option linter.unusedVariables false
set_option maxRecDepth 100000
set_option maxHeartbeats 1000000

theorem copy14_fun (l : List Bar) (hl : l.length ≤ 1000) (hd : ∀ b ∈ l, b.dims.length ≤ 1000000) : Fun Try.prog 58 [.sh 5 (l.map Bar.c)] (Ret (.sh 5 (l.map Bar.c)) []) := by
  refine Fun.of (nt := 29) (rs := [.tmp 2]) Try.func58 rfl rfl rfl rfl rfl ?_
  refine Ev.sr fun K hK => S.o q.as (S.end (hK _ ?_))
  clear hK K
  refine Ev.sr fun K hK => S.o q.as (S.end (hK _ ?_))
  clear hK K
  refine Ev.seq ?_
  refine Ev.sr fun K hK => S.o q.as (S.end (hK _ ?_))
  clear hK K
  refine Ev.block ?_
  refine Ev.weaken (Wk.nown Bar.c 3 43 5) ?_
  refine Ev.loopU (ι := {p : List (Bar) × List (Bar) // p.1 ++ p.2 = l ∧ True}) [0] [0, 2] (fun ⟨(pre, suf), _⟩ => [(4, .lit (.int .i64 ((pre.length : Int)))), (3, .als 0 0 (pre).length)]) (fun ⟨(pre, suf), _⟩ => [(0, ⟨true, 43, 5, (pre).map Bar.c, true⟩)]) (fun ⟨(pre, suf), _⟩ => suf.length) ⟨([], l), rfl, trivial⟩ (.c (.c .n)) (keep_c (he := (by first | rfl | (simp; done))) (h := keep_n)) (slots_c (he := (by first | rfl | (congr 2; simp; done))) (h := (slots_c (he := (by first | rfl | (simp; done) | (congr 2; omega))) (h := trivial)))) ?_
  rintro ⟨⟨pre, suf⟩, hp, hinv⟩ R0 hR0
  dsimp only [List.cons_append, List.nil_append, List.length_cons, List.length_nil]
  simp only at hp hinv
  have hpl : pre.length + suf.length = (l).length := by rw [← hp, List.length_append]
  rcases suf with _ | ⟨s, suf⟩
  · rw [List.append_nil] at hp; subst pre; simp only [List.length_nil] at hpl
    refine Ev.seq ?_
    refine Ev.sr fun K hK => S.o q.mv (S.o q.mv (S.o (q.lens am_el22) (S.o q.lss (S.end (hK _ ?_)))))
    clear hK K
    refine Ev.cd (fun c1 => ?_) (fun c1 => ?_)
    · first
    | (first | omega | contradiction)
    | refine Ev.skip ?_
      show Ev _ _ _ _
      refine Ev.seq ?_
      refine Ev.block ?_
      refine Ev.sr fun K hK => S.o q.mv (S.o q.mv (S.o (q.ix am_el22 am_cl43 (hl := (by first | exact atig (by omega)))) (S.o (q.lsA [_, _, _, _, _] am_ag43 am_cl43) (S.nn (q.al am_ze43) (S.sv [_, _, _, _, _] true [_] am_in43 am_cl43 (h := S.end (hK _ ?_)))))))
      clear hK K
      refine Ev.sr fun K hK => S.nn (v := .als 2 0 ([] : List (Int)).length) (o := ⟨true, 3, 1, ([] : List (Int)).map intC, true⟩) (q.bs [] true am_el41 am_ze3 am_cl3) (S.o q.mv (S.o q.mv (S.o (q.ix am_el22 am_cl43 (hl := (by first | exact atig (by omega)))) (S.o (q.fs 4 am_fi43_4 am_cl41) (S.o (q.ls am_ag41) (S.ap' [_, _] am_el41 am_ze3 am_cl3 am_by3 (hh := head_own') (hr := rows_sh) (h := S.o (q.fa 4 am_fi43_4 am_cl41) ?_)))))))
      refine SeqL.weaken (Wk.frz 22 [_, _]) ?_
      refine S.sv [_, _, _, _, _] true [_] am_in41 am_cl41 (h := S.end (hK _ ?_))
      clear hK K
      refine Ev.region_S fun K hK => S.o q.mv (S.o (q.lvA [_, _, _, _, _] am_ag43 am_cl43) (S.nn (q.bs [[_, _, _, _, _]] true am_el22 am_ze43 am_cl43) (S.ap' [_, _] am_el22 am_ze43 am_cl43 am_by43 (hh := head_own') (hr := (rows_lit [s])) (h := S.o q.as (S.end (hK _ ?_))))))
      clear hK K
      show Ev _ _ _ _
      refine Ev.region_S fun K hK => S.o q.mv (S.o q.add (S.o q.as (S.end (hK _ ?_))))
      clear hK K
      refine hR0 _ _ ?_
      refine roundU [5] [0, 2] ⟨(pre ++ [s], suf), by rw [← hp]; simp, ?_⟩ ?_ (keep_c (he := (by first | rfl | (simp; done))) (h := keep_n)) (slots_c (he := (by first | rfl | (congr 2; simp; done))) (h := (slots_c (he := (by first | rfl | (simp; done) | (congr 2; omega))) (h := trivial)))) (.c (.c .n))
      trivial
      all_goals (dsimp only; simp only [List.length_cons]; omega)
    · first
    | (first | omega | contradiction)
    | refine Ev.exit ?_
      refine hR0 _ _ ?_
      show Ev _ _ _ _
      refine Ev.sr fun K hK => S.o q.mv (S.o q.as (S.end (hK _ ?_)))
      clear hK K
      refine Ev.weaken (Wk.frz 2 []) ?_
      refine Ev.ret ?_
      refine Ev.ret1 ?_
      refine ⟨?_, rfl⟩
      rfl
  · simp only [List.length_cons] at hpl
    have hidx : (l)[pre.length]? = some s := by rw [← hp]; simp
    have hsd := hd s (by rw [← hp]; simp)
    refine Ev.seq ?_
    refine Ev.sr fun K hK => S.o q.mv (S.o q.mv (S.o (q.lens am_el22) (S.o q.lss (S.end (hK _ ?_)))))
    clear hK K
    refine Ev.cd (fun c2 => ?_) (fun c2 => ?_)
    · first
    | (first | omega | contradiction)
    | refine Ev.skip ?_
      show Ev _ _ _ _
      refine Ev.seq ?_
      refine Ev.block ?_
      refine Ev.sr fun K hK => S.o q.mv (S.o q.mv (S.o (q.ix am_el22 am_cl43 (hl := (by first | exact ati hidx (by omega) | exact atig (by omega)))) (S.o (q.lsA [_, _, _, _, _] am_ag43 am_cl43) (S.nn (q.al am_ze43) (S.sv [_, _, _, _, _] true [_] am_in43 am_cl43 (h := S.end (hK _ ?_)))))))
      clear hK K
      refine Ev.sr fun K hK => S.nn (v := .als 2 0 ([] : List (Int)).length) (o := ⟨true, 3, 1, ([] : List (Int)).map intC, true⟩) (q.bs [] true am_el41 am_ze3 am_cl3) (S.o q.mv (S.o q.mv (S.o (q.ix am_el22 am_cl43 (hl := (by first | exact ati hidx (by omega) | exact atig (by omega)))) (S.o (q.fs 4 am_fi43_4 am_cl41) (S.o (q.ls am_ag41) (S.ap' [_, _] am_el41 am_ze3 am_cl3 am_by3 (hh := head_own') (hr := rows_sh) (h := S.o (q.fa 4 am_fi43_4 am_cl41) ?_)))))))
      refine SeqL.weaken (Wk.frz 22 [_, _]) ?_
      refine S.sv [_, _, _, _, _] true [_] am_in41 am_cl41 (h := S.end (hK _ ?_))
      clear hK K
      refine Ev.region_S fun K hK => S.o q.mv (S.o (q.lvA [_, _, _, _, _] am_ag43 am_cl43) (S.nn (q.bs [[_, _, _, _, _]] true am_el22 am_ze43 am_cl43) (S.ap' [_, _] am_el22 am_ze43 am_cl43 am_by43 (hh := head_own') (hr := (rows_lit [s])) (h := S.o q.as (S.end (hK _ ?_))))))
      clear hK K
      show Ev _ _ _ _
      refine Ev.region_S fun K hK => S.o q.mv (S.o q.add (S.o q.as (S.end (hK _ ?_))))
      clear hK K
      refine hR0 _ _ ?_
      refine roundU [5] [0, 2] ⟨(pre ++ [s], suf), by rw [← hp]; simp, ?_⟩ ?_ (keep_c (he := (by first | rfl | (simp; done))) (h := keep_n)) (slots_c (he := (by first | rfl | (congr 2; simp; done))) (h := (slots_c (he := (by first | rfl | (simp; done) | (congr 2; omega))) (h := trivial)))) (.c (.c .n))
      trivial
      all_goals (dsimp only; simp only [List.length_cons]; omega)
    · first
    | (first | omega | contradiction)
    | refine Ev.exit ?_
      refine hR0 _ _ ?_
      show Ev _ _ _ _
      refine Ev.sr fun K hK => S.o q.mv (S.o q.as (S.end (hK _ ?_)))
      clear hK K
      refine Ev.weaken (Wk.frz 2 []) ?_
      refine Ev.ret ?_
      refine Ev.ret1 ?_
      refine ⟨?_, rfl⟩
      rfl
end Go.Proofs.Ytccddakkegelkaa
