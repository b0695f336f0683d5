/-
  Patterns copied and turned.
  Conditions: none.
-/
import Derived.Test.YtappnbebcjmlbaaYl1
import Derived.Test.YtappnbebcjmlbaaAmLib
import Derived.Ground.SlgnProg
namespace Go.Proofs.Ytappnbebcjmlbaa
open Go Go.AM
set_option linter.unusedSimpArgs false
set_option linter.unusedVariables false
set_option maxRecDepth 100000

theorem clonePat_fun (l : List Pat) (hlen : l.length ≤ 1000) : Fun Try.prog 28 [.sh 3 (l.map patC)] (Ret (.als 0 0 l.length) [(0, ⟨true, 50, 3, l.map patC, true⟩)]) := by
  refine Fun.of (nt := 8) (rs := [.tmp 2]) Try.func28 rfl rfl rfl rfl rfl ?_
  refine Ev.sr fun K hK => S.o q.as (S.end (hK _ ?_))
  clear hK K
  refine Ev.seq ?_
  refine Ev.sr fun K hK => S.o q.mv (S.eqn am_el47 (fun c1 c2 => (S.end (hK _ ?_))))
  clear hK K
  refine Ev.c (fun c3 => ?_) (fun c3 => ?_)
  · first
  | (first | omega | contradiction)
  | refine Ev.sr fun K hK => S.o q.as (S.end (hK _ ?_))
    clear hK K
    refine Ev.weaken (Wk.nown patC 2 50 3) ?_
    refine Ev.ret ?_
    refine Ev.own1 ?_
    refine ⟨?_, ?_⟩
    all_goals first
     | rfl
     | (rw [List.map_eq_nil_iff.1 (c2 c3)]; done) | (rw [List.map_eq_nil_iff.1 (c2 c3)] <;> rfl)
     | (congr 1; simp; done)
     | (simp; done)
  · first
  | (first | omega | contradiction)
  | refine Ev.skip ?_
    show Ev _ _ _ _
    refine Ev.sr fun K hK => S.nn (v := .als 0 0 ([] : List (Pat)).length) (o := ⟨true, 50, 3, ([] : List (Pat)).map patC, true⟩) (q.bs [] true am_el47 am_ze50 am_cl50) (S.o q.mv (S.ap' [] am_el47 am_ze50 am_cl50 am_by50 (hh := head_own') (hr := rows_sh) (h := S.o q.as (S.end (hK _ ?_)))))
    clear hK K
    refine Ev.ret ?_
    refine Ev.own1 ?_
    refine ⟨?_, ?_⟩
    all_goals first
     | rfl
     | (rw [List.map_eq_nil_iff.1 (c2 c3)]; done) | (rw [List.map_eq_nil_iff.1 (c2 c3)] <;> rfl)
     | (congr 1; simp; done)
     | (simp; done)

open Go.Shelf in
shelf_lay_g SlLaysE0.n35 Slgn 35 at Try 29 as reversePatLay
theorem reversePat_fun (l : List Pat) (hlen : l.length ≤ 1000) : FunR Try.prog 29 [.als 0 0 l.length] [(0, ⟨true, 50, 3, l.map patC, true⟩)] 1 (Ret (.tup []) [(0, ⟨true, 50, 3, l.reverse.map patC, true⟩)]) := by
  have h := reverse_R reversePatLay (el := 50) (sz := 3) ⟨_, Try.func29, rfl, rfl⟩ (fun w => run_isAgg am_ag50 w) (fun w => run_cells am_in50 am_cl50 w) (by decide) (l.map patC) (by rw [List.length_map]; omega)
  rw [List.length_map] at h
  rw [List.map_reverse]
  exact h
end Go.Proofs.Ytappnbebcjmlbaa
