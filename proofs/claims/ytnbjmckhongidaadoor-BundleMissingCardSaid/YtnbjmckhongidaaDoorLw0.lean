/-
  The example of the chapter.
  Conditions: none.
-/
import Derived.Test.YtnbjmckhongidaaDoorMk2
import Derived.Test.YtnbjmckhongidaaDoorMk3
import Derived.Test.YtnbjmckhongidaaDoorBd4
namespace Go.Proofs.YtnbjmckhongidaaDoor
open Go Go.AM
set_option linter.unusedSimpArgs false
set_option linter.unusedVariables false
set_option maxRecDepth 100000
set_option maxHeartbeats 1000000

def exB : Bar := ⟨[97], 12, 5, 0, [1000]⟩
def exL : List Bar := [exB]
def exV : List Bundle := [⟨[116, 49], [97], 2, 1776⟩, ⟨[116, 50], [97], 2, 1776⟩, ⟨[116, 51], [97], 1, 888⟩]
theorem ex_ok : okSched exL := by decide +kernel
theorem ex_one : oneOf exB = 888 := by decide +kernel
theorem ex_chunks : chunks 2 5 = [2, 2, 1] := by
  rw [chunks_pos (by decide) (by decide), show (5 : Int) - min 5 2 = 3 by decide, chunks_pos (by decide) (by decide), show (3 : Int) - min 3 2 = 1 by decide, chunks_pos (by decide) (by decide), show (1 : Int) - min 1 2 = 0 by decide, chunks_zero 2 (by decide)]
  rfl
theorem tag_one {k : Nat} (h : k < 10) : tagOf k = [116, UInt8.ofNat (48 + k)] := by
  unfold tagOf
  rw [Go.Lib.itoa_nonneg, Go.Lib.decDigits, dif_pos h]
theorem ex_units : units 2000 exL = [(exB, 2), (exB, 2), (exB, 1)] := by
  simp only [units, exL, List.map_cons, List.map_nil, List.flatten_cons, List.flatten_nil, List.append_nil, unitsB, ex_one, show (2000 : Int) / 888 = 2 by decide, show exB.count = 5 from rfl, ex_chunks]
theorem ex_over : ¬ overP 2000 exL := by
  rintro ⟨b, hb, h⟩
  obtain rfl := List.mem_singleton.1 hb
  rw [ex_one] at h
  exact absurd h (by decide)
theorem ex_make : makeV exL 2000 = exV ∧ makeE exL 2000 = 0 := by
  obtain ⟨h1, h2⟩ := mk0 ex_ok (most := 2000) (by decide) ex_over (by rw [ex_units]; decide)
  refine ⟨?_, h2⟩
  rw [h1, ex_units]
  simp only [bunL, bun, tag_one (show 0 + 1 < 10 by decide), tag_one (show 0 + 1 + 1 < 10 by decide), tag_one (show 0 + 1 + 1 + 1 < 10 by decide), ex_one]
  rfl
theorem ex_check : chkV exL exV = [] ∧ chkE exL exV = 0 := by
  have M := made_of ex_make.2
  rw [ex_make.1] at M
  have h : okSched exL ∧ okBuns exV := ⟨ex_ok, M.ok⟩
  exact ⟨(if_pos h).trans M.check, if_pos h⟩
theorem ex_w : schedW exL := fun b hb => by
  obtain rfl := List.mem_singleton.1 hb
  exact ⟨by decide, by decide⟩
theorem ex_bw : bunW exV := by
  intro b hb
  simp only [exV, List.mem_cons, List.not_mem_nil, or_false] at hb
  rcases hb with rfl | rfl | rfl <;> exact ⟨by decide, by decide⟩
theorem example_fun : Fun Tryd.prog 36 [] (Ret (.sh 5 (exL.map Bar.c)) []) := by
  refine Fun.of (nt := 4) (rs := [.tmp 0]) Tryd.func36 rfl rfl rfl rfl rfl ?_
  refine Ev.sr fun K hK => S.o q.as (S.end (hK _ ?_))
  clear hK K
  refine Ev.sr fun K hK => S.nn (q.bs [[_]] true am_el40 am_ze3 am_cl3) (SeqL.weaken (Wk.frzl (f := intC) [_] 1 []) (S.o (q.bd [_, _, _, _, _] am_ze42 am_pl42) (S.nn (q.bs [[_, _, _, _, _]] true am_el22 am_ze42 am_cl42) (S.o q.as (S.end (hK _ ?_))))))
  clear hK K
  refine Ev.weaken (Wk.frzl (f := Bar.c) [(⟨_, _, _, _, _⟩ : Bar)] 0 []) ?_
  refine Ev.ret ?_
  refine Ev.ret1 ?_
  refine ⟨?_, rfl⟩
  rfl

theorem exMake_fun : Fun Tryd.prog 11 [.sh 5 (exL.map Bar.c), .lit (.int .i64 2000)] (Ret (.tup [.sh 4 (exV.map Bundle.c), .lit (.int .i64 0)]) []) := by
  have h := bmake_fun exL 2000 (by decide) ex_w
  rwa [ex_make.1, ex_make.2] at h
theorem exCheck_fun : Fun Tryd.prog 14 [.sh 5 (exL.map Bar.c), .sh 4 (exV.map Bundle.c)] (Ret (.tup [.sh 2 (([] : List (Int × List UInt8)).map findC), .lit (.int .i64 0)]) []) := by
  have h := bcheck_fun exL exV (by decide) (by decide) ex_w ex_bw
  rwa [ex_check.1, ex_check.2] at h
theorem awake_fun : Fun Tryd.prog 9 [] (Ret (.lit (.bool true)) []) := by
  refine Fun.of (nt := 35) (rs := [.tmp 0]) Tryd.func9 rfl rfl rfl rfl rfl ?_
  refine Ev.sr fun K hK => S.o q.as (S.end (hK _ ?_))
  clear hK K
  refine Ev.sr fun K hK => S.c0 (hF := example_fun) (h := S.c0 (hF := exMake_fun) (h := S.o q.mv (S.o q.ex (S.o q.ex (S.o q.as (S.o q.as (S.end (hK _ ?_))))))))
  clear hK K
  refine Ev.sr fun K hK => S.c0 (hF := example_fun) (h := S.o q.mv (S.c0 (hF := exCheck_fun) (h := S.o q.mv (S.o q.ex (S.o q.ex (S.o q.as (S.o q.as (S.end (hK _ ?_)))))))))
  clear hK K
  refine Ev.sr fun K hK => S.o q.mv (S.o q.eql (S.bd q.mv (fun c1 => ?_) (fun c1 => ?_)))
  · first
  | (first | omega | contradiction)
  | refine S.o q.mv (S.o (q.bd [_, _, _, _] am_ze46 am_pl46) (S.o (q.bd [_, _, _, _] am_ze46 am_pl46) (S.o (q.bd [_, _, _, _] am_ze46 am_pl46) (S.nn (q.bs [[_, _, _, _], [_, _, _, _], [_, _, _, _]] true am_el25 am_ze46 am_cl46) (S.c0 (hF := rSame_fun exV exV (by decide) (by decide)) (h := S.o q.pt (S.bd q.mv (fun c2 => ?_) (fun c2 => ?_))))))))
    · first
    | (first | omega | contradiction)
    | refine S.o q.mv (S.o q.eql (S.o q.pt (S.bd q.mv (fun c3 => ?_) (fun c3 => ?_))))
      · first
      | (first | omega | contradiction)
      | refine S.o q.mv (S.o (q.lens am_el35) (S.o q.eql (S.o q.pt (S.o q.as (S.end (hK _ ?_))))))
        clear hK K
        refine Ev.ret ?_
        refine Ev.ret1 ?_
        refine ⟨?_, rfl⟩
        first | rfl | exact lawT rfl | (exfalso; omega) | (exfalso; simp at *; done)
      · first
      | (first | omega | contradiction)
      | refine S.sk (S.sk (S.sk (S.o q.pf (S.o q.as (S.end (hK _ ?_))))))
        clear hK K
        refine Ev.ret ?_
        refine Ev.ret1 ?_
        refine ⟨?_, rfl⟩
        first | rfl | exact lawT rfl | (exfalso; omega) | (exfalso; simp at *; done)
    · first
    | (first | omega | contradiction)
    | refine S.sk (S.sk (S.o q.pf (S.o q.mv (S.sk (S.sk (S.sk (S.o q.pf (S.o q.as (S.end (hK _ ?_))))))))))
      clear hK K
      refine Ev.ret ?_
      refine Ev.ret1 ?_
      refine ⟨?_, rfl⟩
      first | rfl | exact lawT rfl | (exfalso; omega) | (exfalso; simp at *; done)
  · first
  | (first | omega | contradiction)
  | refine S.sk (S.sk (S.sk (S.sk (S.sk (S.sk (S.o q.pf (S.o q.mv (S.sk (S.sk (S.o q.pf (S.o q.mv (S.sk (S.sk (S.sk (S.o q.pf (S.o q.as (S.end (hK _ ?_))))))))))))))))))
    clear hK K
    refine Ev.ret ?_
    refine Ev.ret1 ?_
    refine ⟨?_, rfl⟩
    first | rfl | exact lawT rfl | (exfalso; omega) | (exfalso; simp at *; done)

theorem large_fun (l : List Bar) (hlen : l.length ≤ 140737488355328) : Fun Tryd.prog 10 [.sh 5 (l.map Bar.c)] (Ret (.lit (.bool (decide (¬ smallL l 8)))) []) := by
  refine Fun.of (nt := 6) (rs := [.tmp 2]) Tryd.func10 rfl rfl rfl rfl rfl ?_
  refine Ev.sr fun K hK => S.o q.as (S.end (hK _ ?_))
  clear hK K
  refine Ev.sr fun K hK => S.o q.mv (S.c0 (hF := small_fun _ _ (by omega)) (h := S.o q.not (S.o q.as (S.end (hK _ ?_)))))
  clear hK K
  refine Ev.ret ?_
  refine Ev.ret1 ?_
  refine ⟨?_, rfl⟩
  (first | rfl | exact dI Iff.rfl | (congr 2; simp; done))
end Go.Proofs.YtnbjmckhongidaaDoor
