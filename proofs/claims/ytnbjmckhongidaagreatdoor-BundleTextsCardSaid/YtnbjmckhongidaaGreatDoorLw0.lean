/-
  The example of the chapter.
  Conditions: none.
-/
import Derived.Test.YtnbjmckhongidaaGreatDoorMk1
import Derived.Test.YtnbjmckhongidaaGreatDoorMk3
import Derived.Test.YtnbjmckhongidaaGreatDoorBd1
import Derived.Test.YtnbjmckhongidaaGreatDoorMk4
import Derived.Test.YtnbjmckhongidaaGreatDoorRt1
namespace Go.Proofs.YtnbjmckhongidaaGreatDoor
open Go Go.AM
set_option linter.unusedSimpArgs false
set_option linter.unusedVariables false
set_option maxRecDepth 100000
set_option maxHeartbeats 1000000

def exB : Bar := ⟨[97], 12, 5, 0, [1000]⟩
def exL : List Bar := [exB]
def exV : List Bundle := [⟨[116, 49], [97], 2, 1776⟩, ⟨[116, 50], [97], 2, 1776⟩, ⟨[116, 51], [97], 1, 888⟩]
theorem ex_ok : okSched exL := by decide +kernel
theorem ex_one : oneOf exB = 888 := by decide +kernel
theorem ex_chunks : chunks 2 5 = [2, 2, 1] := by
  rw [chunks_pos (by decide) (by decide), show (5 : Int) - min 5 2 = 3 by decide, chunks_pos (by decide) (by decide), show (3 : Int) - min 3 2 = 1 by decide, chunks_pos (by decide) (by decide), show (1 : Int) - min 1 2 = 0 by decide, chunks_zero 2 (by decide)]
  rfl
theorem tag_one {k : Nat} (h : k < 10) : tagOf k = [116, UInt8.ofNat (48 + k)] := by
  unfold tagOf
  rw [Go.Lib.itoa_nonneg, Go.Lib.decDigits, dif_pos h]
theorem ex_units : units 2000 exL = [(exB, 2), (exB, 2), (exB, 1)] := by
  simp only [units, exL, List.map_cons, List.map_nil, List.flatten_cons, List.flatten_nil, List.append_nil, unitsB, ex_one, show (2000 : Int) / 888 = 2 by decide, show exB.count = 5 from rfl, ex_chunks]
theorem ex_over : ¬ overP 2000 exL := by
  rintro ⟨b, hb, h⟩
  obtain rfl := List.mem_singleton.1 hb
  rw [ex_one] at h
  exact absurd h (by decide)
theorem ex_make : makeV exL 2000 = exV ∧ makeE exL 2000 = 0 := by
  obtain ⟨h1, h2⟩ := mk0 ex_ok (most := 2000) (by decide) ex_over (by rw [ex_units]; decide)
  refine ⟨?_, h2⟩
  rw [h1, ex_units]
  simp only [bunL, bun, tag_one (show 0 + 1 < 10 by decide), tag_one (show 0 + 1 + 1 < 10 by decide), tag_one (show 0 + 1 + 1 + 1 < 10 by decide), ex_one]
  rfl
theorem ex_check : chkV exL exV = [] ∧ chkE exL exV = 0 := by
  have M := made_of ex_make.2
  rw [ex_make.1] at M
  have h : okSched exL ∧ okBuns exV := ⟨ex_ok, M.ok⟩
  exact ⟨(if_pos h).trans M.check, if_pos h⟩
theorem ex_w : schedW exL := fun b hb => by
  obtain rfl := List.mem_singleton.1 hb
  exact ⟨by decide, by decide⟩
theorem ex_bw : bunW exV := by
  intro b hb
  simp only [exV, List.mem_cons, List.not_mem_nil, or_false] at hb
  rcases hb with rfl | rfl | rfl <;> exact ⟨by decide, by decide⟩
theorem example_fun : Fun Tryz.prog 13 [] (Ret (.sh 5 (exL.map Bar.c)) []) := by
  refine Fun.of (nt := 4) (rs := [.tmp 0]) Tryz.func13 rfl rfl rfl rfl rfl ?_
  refine Ev.sr fun K hK => S.o q.as (S.end (hK _ ?_))
  clear hK K
  refine Ev.sr fun K hK => S.nn (q.bs [[_]] true am_el70 am_ze3 am_cl3) (SeqL.weaken (Wk.frzl (f := intC) [_] 1 []) (S.o (q.bd [_, _, _, _, _] am_ze72 am_pl72) (S.nn (q.bs [[_, _, _, _, _]] true am_el40 am_ze72 am_cl72) (S.o q.as (S.end (hK _ ?_))))))
  clear hK K
  refine Ev.weaken (Wk.frzl (f := Bar.c) [(⟨_, _, _, _, _⟩ : Bar)] 0 []) ?_
  refine Ev.ret ?_
  refine Ev.ret1 ?_
  refine ⟨?_, rfl⟩
  rfl

theorem exMake_fun : Fun Tryz.prog 12 [.sh 5 (exL.map Bar.c), .lit (.int .i64 2000)] (Ret (.tup [.sh 4 (exV.map Bundle.c), .lit (.int .i64 0)]) []) := by
  have h := bmake_fun exL 2000 (by decide) ex_w
  rwa [ex_make.1, ex_make.2] at h
theorem exCheck_fun : Fun Tryz.prog 14 [.sh 5 (exL.map Bar.c), .sh 4 (exV.map Bundle.c)] (Ret (.tup [.sh 2 (([] : List (Int × List UInt8)).map findC), .lit (.int .i64 0)]) []) := by
  have h := bcheck_fun exL exV (by decide) (by decide) ex_w ex_bw
  rwa [ex_check.1, ex_check.2] at h
theorem awake_fun : Fun Tryz.prog 4 [] (Ret (.lit (.bool true)) []) := by
  refine Fun.of (nt := 35) (rs := [.tmp 0]) Tryz.func4 rfl rfl rfl rfl rfl ?_
  refine Ev.sr fun K hK => S.o q.as (S.end (hK _ ?_))
  clear hK K
  refine Ev.sr fun K hK => S.c0 (hF := example_fun) (h := S.c0 (hF := exMake_fun) (h := S.o q.mv (S.o q.ex (S.o q.ex (S.o q.as (S.o q.as (S.end (hK _ ?_))))))))
  clear hK K
  refine Ev.sr fun K hK => S.c0 (hF := example_fun) (h := S.o q.mv (S.c0 (hF := exCheck_fun) (h := S.o q.mv (S.o q.ex (S.o q.ex (S.o q.as (S.o q.as (S.end (hK _ ?_)))))))))
  clear hK K
  refine Ev.sr fun K hK => S.o q.mv (S.o q.eql (S.bd q.mv (fun c1 => ?_) (fun c1 => ?_)))
  · first
  | (first | omega | contradiction)
  | refine S.o q.mv (S.o (q.bd [_, _, _, _] am_ze46 am_pl46) (S.o (q.bd [_, _, _, _] am_ze46 am_pl46) (S.o (q.bd [_, _, _, _] am_ze46 am_pl46) (S.nn (q.bs [[_, _, _, _], [_, _, _, _], [_, _, _, _]] true am_el22 am_ze46 am_cl46) (S.c0 (hF := rSame_fun exV exV (by decide) (by decide)) (h := S.o q.pt (S.bd q.mv (fun c2 => ?_) (fun c2 => ?_))))))))
    · first
    | (first | omega | contradiction)
    | refine S.o q.mv (S.o q.eql (S.o q.pt (S.bd q.mv (fun c3 => ?_) (fun c3 => ?_))))
      · first
      | (first | omega | contradiction)
      | refine S.o q.mv (S.o (q.lens am_el42) (S.o q.eql (S.o q.pt (S.o q.as (S.end (hK _ ?_))))))
        clear hK K
        refine Ev.ret ?_
        refine Ev.ret1 ?_
        refine ⟨?_, rfl⟩
        first | rfl | exact lawT rfl | (exfalso; omega) | (exfalso; simp at *; done)
      · first
      | (first | omega | contradiction)
      | refine S.sk (S.sk (S.sk (S.o q.pf (S.o q.as (S.end (hK _ ?_))))))
        clear hK K
        refine Ev.ret ?_
        refine Ev.ret1 ?_
        refine ⟨?_, rfl⟩
        first | rfl | exact lawT rfl | (exfalso; omega) | (exfalso; simp at *; done)
    · first
    | (first | omega | contradiction)
    | refine S.sk (S.sk (S.o q.pf (S.o q.mv (S.sk (S.sk (S.sk (S.o q.pf (S.o q.as (S.end (hK _ ?_))))))))))
      clear hK K
      refine Ev.ret ?_
      refine Ev.ret1 ?_
      refine ⟨?_, rfl⟩
      first | rfl | exact lawT rfl | (exfalso; omega) | (exfalso; simp at *; done)
  · first
  | (first | omega | contradiction)
  | refine S.sk (S.sk (S.sk (S.sk (S.sk (S.sk (S.o q.pf (S.o q.mv (S.sk (S.sk (S.o q.pf (S.o q.mv (S.sk (S.sk (S.sk (S.o q.pf (S.o q.as (S.end (hK _ ?_))))))))))))))))))
    clear hK K
    refine Ev.ret ?_
    refine Ev.ret1 ?_
    refine ⟨?_, rfl⟩
    first | rfl | exact lawT rfl | (exfalso; omega) | (exfalso; simp at *; done)

end Go.Proofs.YtnbjmckhongidaaGreatDoor
namespace Go.Proofs.YtnbjmckhongidaaGreatDoor
open Go Go.AM
set_option linter.unusedSimpArgs false
set_option linter.unusedVariables false
set_option maxRecDepth 100000
set_option maxHeartbeats 1000000

end Go.Proofs.YtnbjmckhongidaaGreatDoor
namespace Go.Proofs.YtnbjmckhongidaaGreatDoor
open Go Go.AM
set_option linter.unusedSimpArgs false
set_option linter.unusedVariables false
set_option maxRecDepth 100000
set_option maxHeartbeats 1000000
theorem parse_le (z : List UInt8) : (parseV z).length ≤ 1000 ∧ bunW (parseV z) := by
  by_cases h : parseE z = 0
  · obtain ⟨b1, _⟩ := parse_back h
    exact ⟨b1.1, fun b hb => okBun_w (b1.2.1 b hb)⟩
  · rw [parse_none h]
    exact ⟨by simp, fun b hb => by cases hb⟩
theorem texts_law (l : List Bundle) (z : List UInt8) (hlen : l.length ≤ 140737488355328) (hz : z.length ≤ 140737488355328) : Fun Tryz.prog 3 [.sh 4 (l.map Bundle.c), .lit (str z)] (Ret (.lit (.bool true)) []) := by
  obtain ⟨hpl, hpw⟩ := parse_le z
  refine Fun.of (nt := 70) (rs := [.tmp 4]) Tryz.func3 rfl rfl rfl rfl rfl ?_
  refine Ev.sr fun K hK => S.o q.as (S.end (hK _ ?_))
  clear hK K
  refine Ev.seq ?_
  refine Ev.sr fun K hK => S.c0 (hF := awake_fun) (h := S.o q.nott (S.end (hK _ ?_)))
  clear hK K
  refine Ev.cf ?_
  refine Ev.skip ?_
  show Ev _ _ _ _
  refine Ev.seq ?_
  refine Ev.sr fun K hK => S.o q.mv (S.c0 (hF := short_fun _ _ (by omega)) (h := S.o q.not (S.bn q.mv (fun c1 => ?_) (fun c1 => ?_))))
  · first
  | (first | omega | contradiction)
  | refine S.sk (S.sk (S.sk (S.o q.pt (S.end (hK _ ?_)))))
    clear hK K
    refine Ev.ct ?_
    refine Ev.sr fun K hK => S.o q.as (S.end (hK _ ?_))
    clear hK K
    refine Ev.ret ?_
    refine Ev.ret1 ?_
    refine ⟨?_, rfl⟩
    first | rfl | exact lawT rfl | exact lawT (by omega) | (exfalso; omega) | contradiction | (exfalso; simp at *; done) | (simp; done)
  · first
  | (first | omega | contradiction)
  | refine S.o q.mv (S.o (q.slen am_el9 am_un9) (S.o q.gtr (S.o q.pf (S.end (hK _ ?_)))))
    clear hK K
    refine Ev.cd (fun c2 => ?_) (fun c2 => ?_)
    · first
    | (first | omega | contradiction)
    | refine Ev.sr fun K hK => S.o q.as (S.end (hK _ ?_))
      clear hK K
      refine Ev.ret ?_
      refine Ev.ret1 ?_
      refine ⟨?_, rfl⟩
      first | rfl | exact lawT rfl | exact lawT (by omega) | (exfalso; omega) | contradiction | (exfalso; simp at *; done) | (simp; done)
    · first
    | (first | omega | contradiction)
    | refine Ev.skip ?_
      show Ev _ _ _ _
      have hsh : shortB l 30 := ‹shortB l 30›
      have hw := (short_w hsh).1
      refine Ev.sr fun K hK => S.o q.mv (S.c0 (hF := Text_fun l hlen hw) (h := S.o q.mv (S.o q.ex (S.o q.ex (S.o q.as (S.o q.as (S.end (hK _ ?_))))))))
      clear hK K
      refine Ev.seq ?_
      refine Ev.sr fun K hK => S.o q.mv (S.c0 (hF := rBvalid_fun _ (by omega) (by assumption)) (h := S.o q.not (S.end (hK _ ?_))))
      clear hK K
      refine Ev.cn (fun c3 => ?_) (fun c3 => ?_)
      · first
      | (first | omega | contradiction)
      | have f1 : textV l = [] := if_neg ‹¬ okBuns l›
        have f2 : textE l = 1 := if_neg ‹¬ okBuns l›
        rw [f1, f2]
        refine Ev.sr fun K hK => S.o q.mv (S.o q.snes (S.bn q.mv (fun c4 => ?_) (fun c4 => ?_)))
        · first
        | (first | omega | contradiction)
        | refine S.sk (S.sk (S.o q.pt (S.end (hK _ ?_))))
          clear hK K
          refine Ev.ct ?_
          refine Ev.sr fun K hK => S.o q.as (S.end (hK _ ?_))
          clear hK K
          refine Ev.ret ?_
          refine Ev.ret1 ?_
          refine ⟨?_, rfl⟩
          first | rfl | exact lawT rfl | exact lawT (by omega) | (exfalso; omega) | contradiction | (exfalso; simp at *; done) | (simp; done)
        · first
        | (first | omega | contradiction)
        | refine S.o q.mv (S.o q.neq (S.o q.pf (S.end (hK _ ?_))))
          clear hK K
          refine Ev.cn (fun c5 => ?_) (fun c5 => ?_)
          · first
          | (first | omega | contradiction)
          | refine Ev.sr fun K hK => S.o q.as (S.end (hK _ ?_))
            clear hK K
            refine Ev.ret ?_
            refine Ev.ret1 ?_
            refine ⟨?_, rfl⟩
            first | rfl | exact lawT rfl | exact lawT (by omega) | (exfalso; omega) | contradiction | (exfalso; simp at *; done) | (simp; done)
          · first
          | (first | omega | contradiction)
          | refine Ev.skip ?_
            show Ev _ _ _ _
            refine Ev.sr fun K hK => S.o q.mv (S.c0 (hF := Parse_fun z hz) (h := S.o q.mv (S.o q.ex (S.o q.ex (S.o q.ex (S.nn (q.al am_ze31) (S.o q.as (S.sv [_, _] true [] am_in31 am_cl31 (h := S.o q.as (S.end (hK _ ?_)))))))))))
            clear hK K
            refine Ev.sr fun K hK => S.o q.mv (S.c0 (hF := rParse_fun z hz) (h := S.o q.mv (S.o q.ex (S.o q.ex (S.o q.ex (S.nn (q.al am_ze31) (S.o q.as (S.sv [_, _] true [_] am_in31 am_cl31 (h := S.o q.as (S.end (hK _ ?_)))))))))))
            clear hK K
            refine Ev.sr fun K hK => S.o q.mv (S.o q.mv (S.c0 (hF := rSame_fun (parseV z) (parseV z) (by omega) (by omega)) (h := S.bd q.mv (fun c6 => ?_) (fun c6 => ?_))))
            · first
            | (first | omega | contradiction)
            | refine S.o (q.lvA [_, _] am_ag31 am_cl31) (S.o (q.lvA [_, _] am_ag31 am_cl31) (S.o (q.seql am_eq31 (am_sq31 _ _ _ _)) (S.o q.pt (S.bb q.mv (fun c7 => ?_) (fun c7 => ?_)))))
              · first
              | (first | omega | contradiction)
              | refine S.o q.mv (S.o q.mv (S.o q.eql (S.o q.pt (S.o q.as (S.end (hK _ ?_))))))
                clear hK K
                refine Ev.ret ?_
                refine Ev.ret1 ?_
                refine ⟨?_, rfl⟩
                first | rfl | exact lawT rfl | exact lawT (by omega) | (exfalso; omega) | contradiction | (exfalso; simp at *; done) | (simp; done)
              · first
              | (first | omega | contradiction)
              | refine S.sk (S.sk (S.sk (S.o q.pf (S.o q.as (S.end (hK _ ?_))))))
                clear hK K
                refine Ev.ret ?_
                refine Ev.ret1 ?_
                refine ⟨?_, rfl⟩
                first | rfl | exact lawT rfl | exact lawT (by omega) | (exfalso; omega) | contradiction | (exfalso; simp at *; done) | (simp; done)
            · first
            | (first | omega | contradiction)
            | refine S.sk (S.sk (S.sk (S.o q.pf (S.o q.mv (S.sk (S.sk (S.sk (S.o q.pf (S.o q.as (S.end (hK _ ?_)))))))))))
              clear hK K
              refine Ev.ret ?_
              refine Ev.ret1 ?_
              refine ⟨?_, rfl⟩
              first | rfl | exact lawT rfl | exact lawT (by omega) | (exfalso; omega) | contradiction | (exfalso; simp at *; done) | (simp; done)
      · first
      | (first | omega | contradiction)
      | have hok : okBuns l := ‹okBuns l›
        have f1 : textV l = textU l := if_pos hok
        have f2 : textE l = 0 := if_pos hok
        rw [f1, f2]
        refine Ev.sr fun K hK => S.o q.mv (S.o q.mv (S.c0 (hF := rText_fun _ (by assumption)) (h := S.o q.snes (S.bn q.mv (fun c8 => ?_) (fun c8 => ?_)))))
        · first
        | (first | omega | contradiction)
        | refine S.sk (S.sk (S.o q.pt (S.end (hK _ ?_))))
          clear hK K
          refine Ev.ct ?_
          refine Ev.sr fun K hK => S.o q.as (S.end (hK _ ?_))
          clear hK K
          refine Ev.ret ?_
          refine Ev.ret1 ?_
          refine ⟨?_, rfl⟩
          first | rfl | exact lawT rfl | exact lawT (by omega) | (exfalso; omega) | contradiction | (exfalso; simp at *; done) | (simp; done)
        · first
        | (first | omega | contradiction)
        | refine S.o q.mv (S.o q.neq (S.o q.pf (S.end (hK _ ?_))))
          clear hK K
          refine Ev.cn (fun c9 => ?_) (fun c9 => ?_)
          · first
          | (first | omega | contradiction)
          | refine Ev.sr fun K hK => S.o q.as (S.end (hK _ ?_))
            clear hK K
            refine Ev.ret ?_
            refine Ev.ret1 ?_
            refine ⟨?_, rfl⟩
            first | rfl | exact lawT rfl | exact lawT (by omega) | (exfalso; omega) | contradiction | (exfalso; simp at *; done) | (simp; done)
          · first
          | (first | omega | contradiction)
          | refine Ev.skip ?_
            show Ev _ _ _ _
            refine Ev.sr fun K hK => S.o q.mv (S.c0 (hF := Parse_fun z hz) (h := S.o q.mv (S.o q.ex (S.o q.ex (S.o q.ex (S.nn (q.al am_ze31) (S.o q.as (S.sv [_, _] true [] am_in31 am_cl31 (h := S.o q.as (S.end (hK _ ?_)))))))))))
            clear hK K
            refine Ev.sr fun K hK => S.o q.mv (S.c0 (hF := rParse_fun z hz) (h := S.o q.mv (S.o q.ex (S.o q.ex (S.o q.ex (S.nn (q.al am_ze31) (S.o q.as (S.sv [_, _] true [_] am_in31 am_cl31 (h := S.o q.as (S.end (hK _ ?_)))))))))))
            clear hK K
            refine Ev.sr fun K hK => S.o q.mv (S.o q.mv (S.c0 (hF := rSame_fun (parseV z) (parseV z) (by omega) (by omega)) (h := S.bd q.mv (fun c10 => ?_) (fun c10 => ?_))))
            · first
            | (first | omega | contradiction)
            | refine S.o (q.lvA [_, _] am_ag31 am_cl31) (S.o (q.lvA [_, _] am_ag31 am_cl31) (S.o (q.seql am_eq31 (am_sq31 _ _ _ _)) (S.o q.pt (S.bb q.mv (fun c11 => ?_) (fun c11 => ?_)))))
              · first
              | (first | omega | contradiction)
              | refine S.o q.mv (S.o q.mv (S.o q.eql (S.o q.pt (S.o q.as (S.end (hK _ ?_))))))
                clear hK K
                refine Ev.ret ?_
                refine Ev.ret1 ?_
                refine ⟨?_, rfl⟩
                first | rfl | exact lawT rfl | exact lawT (by omega) | (exfalso; omega) | contradiction | (exfalso; simp at *; done) | (simp; done)
              · first
              | (first | omega | contradiction)
              | refine S.sk (S.sk (S.sk (S.o q.pf (S.o q.as (S.end (hK _ ?_))))))
                clear hK K
                refine Ev.ret ?_
                refine Ev.ret1 ?_
                refine ⟨?_, rfl⟩
                first | rfl | exact lawT rfl | exact lawT (by omega) | (exfalso; omega) | contradiction | (exfalso; simp at *; done) | (simp; done)
            · first
            | (first | omega | contradiction)
            | refine S.sk (S.sk (S.sk (S.o q.pf (S.o q.mv (S.sk (S.sk (S.sk (S.o q.pf (S.o q.as (S.end (hK _ ?_)))))))))))
              clear hK K
              refine Ev.ret ?_
              refine Ev.ret1 ?_
              refine ⟨?_, rfl⟩
              first | rfl | exact lawT rfl | exact lawT (by omega) | (exfalso; omega) | contradiction | (exfalso; simp at *; done) | (simp; done)
end Go.Proofs.YtnbjmckhongidaaGreatDoor
