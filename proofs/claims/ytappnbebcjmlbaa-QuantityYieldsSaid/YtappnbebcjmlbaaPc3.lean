/-
  Comparing numbers, and pieces by their lengths.
  Conditions: none.
-/
import Derived.Test.YtappnbebcjmlbaaPc1
namespace Go.Proofs.Ytappnbebcjmlbaa
open Go Go.AM
set_option linter.unusedSimpArgs false
set_option linter.unusedVariables false
set_option maxRecDepth 100000

def cmpI (x y : Int) : Int := if x < y then -1 else if y < x then 1 else 0
theorem cmpI_fun (x y : Int) : Fun Try.prog 52 [.lit (.int .i64 x), .lit (.int .i64 y)] (Ret (.lit (.int .i64 (cmpI x y))) []) := by
  have hNaN : ∀ z : Int, Fun Try.prog 67 [.lit (.int .i64 z)] (Ret (.lit (.bool false)) []) := by
    intro z
    refine Fun.of (nt := 6) (rs := [.tmp 2]) Try.func67 rfl rfl rfl rfl rfl ?_
    refine Ev.sr fun K hK => S.o q.as (S.end (hK _ ?_))
    clear hK K
    refine Ev.sr fun K hK => S.o q.mv (S.o q.mv (S.o q.neq (S.o q.as (S.end (hK _ ?_)))))
    clear hK K
    refine Ev.ret ?_
    refine Ev.ret1 ?_
    refine ⟨?_, rfl⟩
    first | (rw [decide_eq_false (by omega)]; done) | (congr 2; simp; done)
  refine Fun.of (nt := 20) (rs := [.tmp 4]) Try.func52 rfl rfl rfl rfl rfl ?_
  refine Ev.sr fun K hK => S.o q.as (S.end (hK _ ?_))
  clear hK K
  refine Ev.sr fun K hK => S.o q.mv (S.c0 (hF := hNaN _) (h := S.o q.as (S.end (hK _ ?_))))
  clear hK K
  refine Ev.sr fun K hK => S.o q.mv (S.c0 (hF := hNaN _) (h := S.o q.as (S.end (hK _ ?_))))
  clear hK K
  refine Ev.seq ?_
  refine Ev.sr fun K hK => S.o q.mv (S.end (hK _ ?_))
  clear hK K
  refine Ev.cf ?_
  refine Ev.skip ?_
  show Ev _ _ _ _
  refine Ev.seq ?_
  refine Ev.sr fun K hK => S.o q.mv (S.end (hK _ ?_))
  clear hK K
  refine Ev.cf ?_
  refine Ev.skip ?_
  show Ev _ _ _ _
  refine Ev.seq ?_
  refine Ev.sr fun K hK => S.o q.mv (S.o q.mv (S.o q.lss (S.end (hK _ ?_))))
  clear hK K
  refine Ev.cd (fun c1 => ?_) (fun c1 => ?_)
  · first
  | (first | omega | contradiction)
  | refine Ev.sr fun K hK => S.o q.as (S.end (hK _ ?_))
    clear hK K
    refine Ev.ret ?_
    refine Ev.ret1 ?_
    refine ⟨?_, rfl⟩
    (unfold cmpI; first | (rw [if_pos ‹_›]; done) | (rw [if_neg ‹_›, if_pos (by omega)]; done) | (rw [if_neg ‹_›, if_neg (by omega)]; done))
  · first
  | (first | omega | contradiction)
  | refine Ev.skip ?_
    show Ev _ _ _ _
    refine Ev.seq ?_
    refine Ev.sr fun K hK => S.o q.mv (S.o q.mv (S.o q.gtr (S.end (hK _ ?_))))
    clear hK K
    refine Ev.cd (fun c2 => ?_) (fun c2 => ?_)
    · first
    | (first | omega | contradiction)
    | refine Ev.sr fun K hK => S.o q.as (S.end (hK _ ?_))
      clear hK K
      refine Ev.ret ?_
      refine Ev.ret1 ?_
      refine ⟨?_, rfl⟩
      (unfold cmpI; first | (rw [if_pos ‹_›]; done) | (rw [if_neg ‹_›, if_pos (by omega)]; done) | (rw [if_neg ‹_›, if_neg (by omega)]; done))
    · first
    | (first | omega | contradiction)
    | refine Ev.skip ?_
      show Ev _ _ _ _
      refine Ev.sr fun K hK => S.o q.as (S.end (hK _ ?_))
      clear hK K
      refine Ev.ret ?_
      refine Ev.ret1 ?_
      refine ⟨?_, rfl⟩
      (unfold cmpI; first | (rw [if_pos ‹_›]; done) | (rw [if_neg ‹_›, if_pos (by omega)]; done) | (rw [if_neg ‹_›, if_neg (by omega)]; done))

def pcCmp (x y : Int × Int) : Int := cmpI y.1 x.1
theorem pcCmp_fun (x y : Int × Int) : Fun Try.prog 51 [.agg (pairC x), .agg (pairC y)] (Ret (.lit (.int .i64 (pcCmp x y))) []) := by
  obtain ⟨x1, x2⟩ := x
  obtain ⟨y1, y2⟩ := y
  refine Fun.of (nt := 10) (rs := [.tmp 4]) Try.func51 rfl rfl rfl rfl rfl ?_
  refine Ev.sr fun K hK => S.nn (q.bx [_, _] true) (S.nn (q.bx [_, _] true) (S.o q.as (S.end (hK _ ?_))))
  clear hK K
  refine Ev.sr fun K hK => S.o (q.fa 0 am_fi63_0 am_cl3) (S.o (q.lv am_ag3) (S.o (q.fa 0 am_fi63_0 am_cl3) (S.o (q.lv am_ag3) (S.c0 (hF := cmpI_fun _ _) (h := S.o q.as (S.end (hK _ ?_)))))))
  clear hK K
  refine Ev.ret ?_
  refine Ev.ret1 ?_
  refine ⟨?_, rfl⟩
  rfl
end Go.Proofs.Ytappnbebcjmlbaa
