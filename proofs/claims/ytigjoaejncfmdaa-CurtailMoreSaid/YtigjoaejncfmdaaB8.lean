/-
  The laws CurtailLevels and CurtailBars, walked.
  Conditions: none.
-/
import Derived.Test.YtigjoaejncfmdaaB7
namespace Go.Proofs.Ytigjoaejncfmdaa
open Go Go.AM
set_option linter.unusedSimpArgs false
set_option linter.unusedVariables false
set_option maxRecDepth 100000

theorem lawT {p : Prop} [Decidable p] (h : p) : AV.lit (.bool (decide p)) = .lit (.bool true) := by rw [decide_eq_true h]
theorem demo_least : Fun Try.prog 19 [.sh 2 (demoL.map stepC), .lit (.int .i64 12)] (Ret (.tup [.lit (.int .i64 2), .lit (.int .i64 0)]) []) := by
  have h := Least_fun demoL 12
  rwa [show leastV demoL 12 = 2 by decide, show givenE demoL 12 0 = 0 by decide] at h
theorem demo_cover : Fun Try.prog 12 [.sh 2 (demoL.map stepC), .lit (.int .i64 12), .lit (.int .i64 50)] (Ret (.tup [.sh 2 (([(50, 350), (50, 350)] : List (Int × Int)).map stepC), .lit (.int .i64 0)]) []) := by
  have h := cover_fun demoL 12 50
  rwa [show coverV demoL 12 50 = [(50, 350), (50, 350)] by decide, show coverE demoL 12 50 = 0 by decide] at h
theorem demo_bound : Fun Try.prog 13 [.sh 2 (demoL.map stepC), .lit (.int .i64 12), .lit (.int .i64 50)] (Ret (.tup [.lit (.int .i64 600), .lit (.int .i64 0)]) []) := by
  have h := bound_fun demoL 12 50
  rwa [show boundV demoL 12 50 = 600 by decide, show boundE demoL 12 50 = 0 by decide] at h
theorem awake_fun : Fun Try.prog 10 [] (Ret (.lit (.bool true)) []) := by
  refine Fun.of (nt := 47) (rs := [.tmp 0]) Try.func10 rfl rfl rfl rfl rfl ?_
  refine Ev.sr fun K hK => S.o q.as (S.end (hK _ ?_))
  clear hK K
  refine Ev.sr fun K hK => S.c0 (hF := example_fun) (h := S.c0 (hF := demo_least) (h := S.o q.mv (S.o q.ex (S.o q.ex (S.o q.as (S.o q.as (S.end (hK _ ?_))))))))
  clear hK K
  refine Ev.sr fun K hK => S.c0 (hF := example_fun) (h := S.c0 (hF := demo_cover) (h := S.o q.mv (S.o q.ex (S.o q.ex (S.o q.as (S.o q.as (S.end (hK _ ?_))))))))
  clear hK K
  refine Ev.sr fun K hK => S.c0 (hF := example_fun) (h := S.c0 (hF := demo_bound) (h := S.o q.mv (S.o q.ex (S.o q.ex (S.o q.as (S.o q.as (S.end (hK _ ?_))))))))
  clear hK K
  refine Ev.sr fun K hK => S.o q.mv (S.o q.eql (S.bd q.mv (fun c1 => ?_) (fun c1 => ?_)))
  · first
  | (first | omega | contradiction)
  | refine S.o q.mv (S.o q.eql (S.o q.pt (S.bd q.mv (fun c2 => ?_) (fun c2 => ?_))))
    · first
    | (first | omega | contradiction)
    | refine S.o q.mv (S.o q.eql (S.o q.pt (S.bd q.mv (fun c3 => ?_) (fun c3 => ?_))))
      · first
      | (first | omega | contradiction)
      | refine S.o q.mv (S.o (q.bd [_, _] am_ze36 am_pl36) (S.o (q.bd [_, _] am_ze36 am_pl36) (S.nn (q.bs [[_, _], [_, _]] true am_el25 am_ze36 am_cl36) (S.c0 (hF := equal_fun _ [(50, 350), (50, 350)] (by decide) (by decide)) (h := S.o q.pt (S.bd q.mv (fun c4 => ?_) (fun c4 => ?_)))))))
        · first
        | (first | omega | contradiction)
        | refine S.o q.mv (S.o q.eql (S.o q.pt (S.bd q.mv (fun c5 => ?_) (fun c5 => ?_))))
          · first
          | (first | omega | contradiction)
          | refine S.o q.mv (S.o q.eql (S.o q.pt (S.o q.as (S.end (hK _ ?_)))))
            clear hK K
            refine Ev.ret ?_
            refine Ev.ret1 ?_
            refine ⟨?_, rfl⟩
            first | rfl | exact lawT rfl | (exfalso; omega) | (exfalso; simp at *; done)
          · first
          | (first | omega | contradiction)
          | refine S.sk (S.sk (S.o q.pf (S.o q.as (S.end (hK _ ?_)))))
            clear hK K
            refine Ev.ret ?_
            refine Ev.ret1 ?_
            refine ⟨?_, rfl⟩
            first | rfl | exact lawT rfl | (exfalso; omega) | (exfalso; simp at *; done)
        · first
        | (first | omega | contradiction)
        | refine S.sk (S.sk (S.o q.pf (S.o q.mv (S.sk (S.sk (S.o q.pf (S.o q.as (S.end (hK _ ?_)))))))))
          clear hK K
          refine Ev.ret ?_
          refine Ev.ret1 ?_
          refine ⟨?_, rfl⟩
          first | rfl | exact lawT rfl | (exfalso; omega) | (exfalso; simp at *; done)
      · first
      | (first | omega | contradiction)
      | refine S.sk (S.sk (S.sk (S.sk (S.sk (S.o q.pf (S.o q.mv (S.sk (S.sk (S.o q.pf (S.o q.mv (S.sk (S.sk (S.o q.pf (S.o q.as (S.end (hK _ ?_))))))))))))))))
        clear hK K
        refine Ev.ret ?_
        refine Ev.ret1 ?_
        refine ⟨?_, rfl⟩
        first | rfl | exact lawT rfl | (exfalso; omega) | (exfalso; simp at *; done)
    · first
    | (first | omega | contradiction)
    | refine S.sk (S.sk (S.o q.pf (S.o q.mv (S.sk (S.sk (S.sk (S.sk (S.sk (S.o q.pf (S.o q.mv (S.sk (S.sk (S.o q.pf (S.o q.mv (S.sk (S.sk (S.o q.pf (S.o q.as (S.end (hK _ ?_))))))))))))))))))))
      clear hK K
      refine Ev.ret ?_
      refine Ev.ret1 ?_
      refine ⟨?_, rfl⟩
      first | rfl | exact lawT rfl | (exfalso; omega) | (exfalso; simp at *; done)
  · first
  | (first | omega | contradiction)
  | refine S.sk (S.sk (S.o q.pf (S.o q.mv (S.sk (S.sk (S.o q.pf (S.o q.mv (S.sk (S.sk (S.sk (S.sk (S.sk (S.o q.pf (S.o q.mv (S.sk (S.sk (S.o q.pf (S.o q.mv (S.sk (S.sk (S.o q.pf (S.o q.as (S.end (hK _ ?_))))))))))))))))))))))))
    clear hK K
    refine Ev.ret ?_
    refine Ev.ret1 ?_
    refine ⟨?_, rfl⟩
    first | rfl | exact lawT rfl | (exfalso; omega) | (exfalso; simp at *; done)

theorem bars_bad {l : List (Int × Int)} {d a : Int} (h : ¬ givenE l d a = 0) : boundV l d a = 0 ∧ boundE l d a = givenE l d a ∧ coverE l d a = givenE l d a ∧ (coverV l d a).length = 0 := by
  obtain ⟨e1, e2⟩ := coverE1 h
  exact ⟨if_neg (fun h' => h h'.1), if_neg h, e1, by rw [e2]; rfl⟩
theorem bars_full {l : List (Int × Int)} {d a : Int} (h : givenE l d a = 0) (h2 : ¬ leastN l d ≤ 1000) : boundV l d a = 0 ∧ boundE l d a = 4 ∧ coverE l d a = 4 ∧ (coverV l d a).length = 0 := by
  obtain ⟨e1, e2⟩ := coverE2 h h2
  exact ⟨if_neg (fun h' => h2 h'.2), by rw [boundE, if_pos h, if_neg h2], e1, by rw [e2]; rfl⟩
theorem bars_t {l : List (Int × Int)} {d a : Int} (h : givenE l d a = 0) (h2 : leastN l d ≤ 1000) : boundV l d a = boundN l d a (leastN l d).toNat ∧ boundE l d a = 0 :=
  ⟨if_pos ⟨h, h2⟩, by rw [boundE, if_pos h, if_pos h2]⟩
end Go.Proofs.Ytigjoaejncfmdaa
