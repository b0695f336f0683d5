/-
  Layer 41: the law of joining.
  Conditions: none.
-/
import Derived.Test.YtccddakkegelkaaRev13
import Derived.Test.YtccddakkegelkaaRev14
import Derived.Test.YtccddakkegelkaaRev16
namespace Go.Proofs.Ytccddakkegelkaa
open Go Go.AM
set_option linter.unusedSimpArgs false
set_option linter.unusedVariables false
set_option maxRecDepth 100000
set_option maxHeartbeats 1000000

theorem joinV_len (l m : List Chg) : (joinV l m).length ≤ 120 := by
  unfold joinV
  split
  · split
    · split
      · assumption
      · simp
    · simp
  · simp
theorem joins_law (l m : List Chg) (hl : l.length ≤ 140737488355328) (hm : m.length ≤ 140737488355328) : Fun Try.prog 7 [.sh 2 (l.map findC), .sh 2 (m.map findC)] (Ret (.lit (.bool true)) []) := by
  have hjl := joinV_len l m
  refine Fun.of (nt := 52) (rs := [.tmp 4]) Try.func7 rfl rfl rfl rfl rfl ?_
  refine Ev.sr fun K hK => S.o q.as (S.end (hK _ ?_))
  clear hK K
  refine Ev.seq ?_
  refine Ev.sr fun K hK => S.c0 (hF := awake_fun) (h := S.o q.nott (S.end (hK _ ?_)))
  clear hK K
  refine Ev.cf ?_
  refine Ev.skip ?_
  show Ev _ _ _ _
  refine Ev.seq ?_
  refine Ev.sr fun K hK => S.o q.mv (S.c0 (hF := many_fun _ (by omega)) (h := S.bd q.mv (fun c1 => ?_) (fun c1 => ?_)))
  · first
  | (first | omega | contradiction)
  | refine S.sk (S.sk (S.o q.pt (S.end (hK _ ?_))))
    clear hK K
    refine Ev.ct ?_
    refine Ev.sr fun K hK => S.o q.as (S.end (hK _ ?_))
    clear hK K
    refine Ev.ret ?_
    refine Ev.ret1 ?_
    refine ⟨?_, rfl⟩
    first | rfl | exact lawT (by omega) | (exfalso; omega) | contradiction
  · first
  | (first | omega | contradiction)
  | refine S.o q.mv (S.c0 (hF := many_fun _ (by omega)) (h := S.o q.pf (S.end (hK _ ?_))))
    clear hK K
    refine Ev.cd (fun c2 => ?_) (fun c2 => ?_)
    · first
    | (first | omega | contradiction)
    | refine Ev.sr fun K hK => S.o q.as (S.end (hK _ ?_))
      clear hK K
      refine Ev.ret ?_
      refine Ev.ret1 ?_
      refine ⟨?_, rfl⟩
      first | rfl | exact lawT (by omega) | (exfalso; omega) | contradiction
    · first
    | (first | omega | contradiction)
    | refine Ev.skip ?_
      show Ev _ _ _ _
      have hwl := (many_w (l := l) ‹_›).1
      have hwm := (many_w (l := m) ‹_›).1
      refine Ev.sr fun K hK => S.o q.mv (S.o q.mv (S.c0 (hF := Join_fun _ _ (by omega) (by omega) (by assumption) (by assumption)) (h := S.o q.mv (S.o q.ex (S.o q.ex (S.o q.as (S.o q.as (S.end (hK _ ?_)))))))))
      clear hK K
      refine Ev.seq ?_
      refine Ev.sr fun K hK => S.o q.mv (S.c0 (hF := rchgValid_fun _ (by omega) (by assumption)) (h := S.o q.not (S.bn q.mv (fun c3 => ?_) (fun c3 => ?_))))
      · first
      | (first | omega | contradiction)
      | refine S.sk (S.sk (S.sk (S.o q.pt (S.end (hK _ ?_)))))
        clear hK K
        refine Ev.ct ?_
        have hno : ¬ ok2 l m := by first | exact fun h => absurd h.1 ‹_› | exact fun h => absurd h.2 ‹_›
        have e1 : joinE l m = 1 := if_neg hno
        have e2 : (joinV l m).length = 0 := by rw [show joinV l m = [] from if_neg hno]; rfl
        refine Ev.sr fun K hK => S.o q.mv (S.o (q.lens am_el25) (S.o q.eql (S.bd q.mv (fun c4 => ?_) (fun c4 => ?_))))
        · first
        | (first | omega | contradiction)
        | refine S.o q.mv (S.o q.eql (S.o q.pt (S.o q.as (S.end (hK _ ?_)))))
          clear hK K
          refine Ev.ret ?_
          refine Ev.ret1 ?_
          refine ⟨?_, rfl⟩
          first | rfl | exact lawT (by omega) | (exfalso; omega) | contradiction
        · first
        | (first | omega | contradiction)
        | refine S.sk (S.sk (S.o q.pf (S.o q.as (S.end (hK _ ?_)))))
          clear hK K
          refine Ev.ret ?_
          refine Ev.ret1 ?_
          refine ⟨?_, rfl⟩
          first | rfl | exact lawT (by omega) | (exfalso; omega) | contradiction
      · first
      | (first | omega | contradiction)
      | refine S.o q.mv (S.c0 (hF := rchgValid_fun _ (by omega) (by assumption)) (h := S.o q.not (S.o q.pf (S.end (hK _ ?_)))))
        clear hK K
        refine Ev.cn (fun c5 => ?_) (fun c5 => ?_)
        · first
        | (first | omega | contradiction)
        | have hno : ¬ ok2 l m := by first | exact fun h => absurd h.1 ‹_› | exact fun h => absurd h.2 ‹_›
          have e1 : joinE l m = 1 := if_neg hno
          have e2 : (joinV l m).length = 0 := by rw [show joinV l m = [] from if_neg hno]; rfl
          refine Ev.sr fun K hK => S.o q.mv (S.o (q.lens am_el25) (S.o q.eql (S.bd q.mv (fun c6 => ?_) (fun c6 => ?_))))
          · first
          | (first | omega | contradiction)
          | refine S.o q.mv (S.o q.eql (S.o q.pt (S.o q.as (S.end (hK _ ?_)))))
            clear hK K
            refine Ev.ret ?_
            refine Ev.ret1 ?_
            refine ⟨?_, rfl⟩
            first | rfl | exact lawT (by omega) | (exfalso; omega) | contradiction
          · first
          | (first | omega | contradiction)
          | refine S.sk (S.sk (S.o q.pf (S.o q.as (S.end (hK _ ?_)))))
            clear hK K
            refine Ev.ret ?_
            refine Ev.ret1 ?_
            refine ⟨?_, rfl⟩
            first | rfl | exact lawT (by omega) | (exfalso; omega) | contradiction
        · first
        | (first | omega | contradiction)
        | refine Ev.skip ?_
          show Ev _ _ _ _
          have hyes : ok2 l m := ⟨‹_›, ‹_›⟩
          refine Ev.sr fun K hK => S.o q.mv (S.o q.mv (S.c0 (hF := rJoin_fun _ _ (by assumption)) (h := S.o q.mv (S.o q.ex (S.o q.ex (S.o q.as (S.o q.as (S.end (hK _ ?_)))))))))
          clear hK K
          refine Ev.sr fun K hK => S.o q.mv (S.o q.mv (S.c0 (hF := eqChg_fun _ _ (by omega) (by omega)) (h := S.bd q.mv (fun c7 => ?_) (fun c7 => ?_))))
          · first
          | (first | omega | contradiction)
          | refine S.o q.mv (S.o q.mv (S.o q.eql (S.o q.pt (S.o q.as (S.end (hK _ ?_))))))
            clear hK K
            refine Ev.ret ?_
            refine Ev.ret1 ?_
            refine ⟨?_, rfl⟩
            first | rfl | exact lawT (by omega) | (exfalso; omega) | contradiction
          · first
          | (first | omega | contradiction)
          | refine S.sk (S.sk (S.sk (S.o q.pf (S.o q.as (S.end (hK _ ?_))))))
            clear hK K
            refine Ev.ret ?_
            refine Ev.ret1 ?_
            refine ⟨?_, rfl⟩
            first | rfl | exact lawT (by omega) | (exfalso; omega) | contradiction
end Go.Proofs.Ytccddakkegelkaa
