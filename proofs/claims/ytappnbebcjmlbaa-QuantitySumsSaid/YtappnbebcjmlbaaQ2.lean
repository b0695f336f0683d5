/-
  slices.Clone.
  Conditions: none.
-/
import Derived.Test.YtappnbebcjmlbaaQ1
namespace Go.Proofs.Ytappnbebcjmlbaa
open Go Go.AM
set_option linter.unusedSimpArgs false
set_option linter.unusedVariables false
set_option maxRecDepth 100000

theorem clone_fun (l : List Bar) (hlen : l.length ≤ 1000) : Fun Try.prog 15 [.sh 5 (l.map Bar.c)] (Ret (.als 0 0 l.length) [(0, ⟨true, 40, 5, l.map Bar.c, true⟩)]) := by
  refine Fun.of (nt := 8) (rs := [.tmp 2]) Try.func15 rfl rfl rfl rfl rfl ?_
  refine Ev.sr fun K hK => S.o q.as (S.end (hK _ ?_))
  clear hK K
  refine Ev.seq ?_
  refine Ev.sr fun K hK => S.o q.mv (S.eqn am_el22 (fun c1 c2 => (S.end (hK _ ?_))))
  clear hK K
  refine Ev.c (fun c3 => ?_) (fun c3 => ?_)
  · first
    | (first | omega | contradiction)
    | refine Ev.sr fun K hK => S.o q.as (S.end (hK _ ?_))
      clear hK K
      refine Ev.weaken (Wk.nown Bar.c 2 40 5) ?_
      refine Ev.ret ?_
      refine Ev.own1 ?_
      refine ⟨?_, ?_⟩
      -- leaf 1
      all_goals first
       | rfl
       | (rw [List.map_eq_nil_iff.1 (c2 c3)]; done) | (rw [List.map_eq_nil_iff.1 (c2 c3)] <;> rfl)
       | (congr 1; simp; done)
       | (simp; done)
  · first
    | (first | omega | contradiction)
    | refine Ev.skip ?_
      show Ev _ _ _ _
      refine Ev.sr fun K hK => S.nn (v := .als 0 0 ([] : List (Bar)).length) (o := ⟨true, 40, 5, ([] : List (Bar)).map Bar.c, true⟩) (q.bs [] true am_el22 am_ze40 am_cl40) (S.o q.mv (S.ap' [] am_el22 am_ze40 am_cl40 am_by40 (hh := head_own') (hr := rows_sh) (h := S.o q.as (S.end (hK _ ?_)))))
      clear hK K
      refine Ev.ret ?_
      refine Ev.own1 ?_
      refine ⟨?_, ?_⟩
      -- leaf 2
      all_goals first
       | rfl
       | (rw [List.map_eq_nil_iff.1 (c2 c3)]; done) | (rw [List.map_eq_nil_iff.1 (c2 c3)] <;> rfl)
       | (congr 1; simp; done)
       | (simp; done)
end Go.Proofs.Ytappnbebcjmlbaa
