/-
  The laws CurtailLevels and CurtailBars, walked.
  Conditions: none.
-/
import Derived.Test.YtigjoaejncfmdaaB7
namespace Go.Proofs.Ytigjoaejncfmdaa
open Go Go.AM
set_option linter.unusedSimpArgs false
set_option linter.unusedVariables false
set_option maxRecDepth 100000

theorem lawT {p : Prop} [Decidable p] (h : p) : AV.lit (.bool (decide p)) = .lit (.bool true) := by rw [decide_eq_true h]
theorem demo_least : Fun Try.prog 19 [.sh 2 (demoL.map stepC), .lit (.int .i64 12)] (Ret (.tup [.lit (.int .i64 2), .lit (.int .i64 0)]) []) := by
  have h := Least_fun demoL 12
  rwa [show leastV demoL 12 = 2 by decide, show givenE demoL 12 0 = 0 by decide] at h
theorem demo_cover : Fun Try.prog 12 [.sh 2 (demoL.map stepC), .lit (.int .i64 12), .lit (.int .i64 50)] (Ret (.tup [.sh 2 (([(50, 350), (50, 350)] : List (Int × Int)).map stepC), .lit (.int .i64 0)]) []) := by
  have h := cover_fun demoL 12 50
  rwa [show coverV demoL 12 50 = [(50, 350), (50, 350)] by decide, show coverE demoL 12 50 = 0 by decide] at h
theorem demo_bound : Fun Try.prog 13 [.sh 2 (demoL.map stepC), .lit (.int .i64 12), .lit (.int .i64 50)] (Ret (.tup [.lit (.int .i64 600), .lit (.int .i64 0)]) []) := by
  have h := bound_fun demoL 12 50
  rwa [show boundV demoL 12 50 = 600 by decide, show boundE demoL 12 50 = 0 by decide] at h
theorem awake_fun : Fun Try.prog 10 [] (Ret (.lit (.bool true)) []) := by
  refine Fun.of (nt := 47) (rs := [.tmp 0]) Try.func10 rfl rfl rfl rfl rfl ?_
  refine Ev.sr fun K hK => S.o q.as (S.end (hK _ ?_))
  clear hK K
  refine Ev.sr fun K hK => S.c0 (hF := example_fun) (h := S.c0 (hF := demo_least) (h := S.o q.mv (S.o q.ex (S.o q.ex (S.o q.as (S.o q.as (S.end (hK _ ?_))))))))
  clear hK K
  refine Ev.sr fun K hK => S.c0 (hF := example_fun) (h := S.c0 (hF := demo_cover) (h := S.o q.mv (S.o q.ex (S.o q.ex (S.o q.as (S.o q.as (S.end (hK _ ?_))))))))
  clear hK K
  refine Ev.sr fun K hK => S.c0 (hF := example_fun) (h := S.c0 (hF := demo_bound) (h := S.o q.mv (S.o q.ex (S.o q.ex (S.o q.as (S.o q.as (S.end (hK _ ?_))))))))
  clear hK K
  refine Ev.sr fun K hK => S.o q.mv (S.o q.eql (S.bd q.mv (fun c1 => ?_) (fun c1 => ?_)))
  · first
  | (first | omega | contradiction)
  | refine S.o q.mv (S.o q.eql (S.o q.pt (S.bd q.mv (fun c2 => ?_) (fun c2 => ?_))))
    · first
    | (first | omega | contradiction)
    | refine S.o q.mv (S.o q.eql (S.o q.pt (S.bd q.mv (fun c3 => ?_) (fun c3 => ?_))))
      · first
      | (first | omega | contradiction)
      | refine S.o q.mv (S.o (q.bd [_, _] am_ze36 am_pl36) (S.o (q.bd [_, _] am_ze36 am_pl36) (S.nn (q.bs [[_, _], [_, _]] true am_el25 am_ze36 am_cl36) (S.c0 (hF := equal_fun _ [(50, 350), (50, 350)] (by decide) (by decide)) (h := S.o q.pt (S.bd q.mv (fun c4 => ?_) (fun c4 => ?_)))))))
        · first
        | (first | omega | contradiction)
        | refine S.o q.mv (S.o q.eql (S.o q.pt (S.bd q.mv (fun c5 => ?_) (fun c5 => ?_))))
          · first
          | (first | omega | contradiction)
          | refine S.o q.mv (S.o q.eql (S.o q.pt (S.o q.as (S.end (hK _ ?_)))))
            clear hK K
            refine Ev.ret ?_
            refine Ev.ret1 ?_
            refine ⟨?_, rfl⟩
            first | rfl | exact lawT rfl | (exfalso; omega) | (exfalso; simp at *; done)
          · first
          | (first | omega | contradiction)
          | refine S.sk (S.sk (S.o q.pf (S.o q.as (S.end (hK _ ?_)))))
            clear hK K
            refine Ev.ret ?_
            refine Ev.ret1 ?_
            refine ⟨?_, rfl⟩
            first | rfl | exact lawT rfl | (exfalso; omega) | (exfalso; simp at *; done)
        · first
        | (first | omega | contradiction)
        | refine S.sk (S.sk (S.o q.pf (S.o q.mv (S.sk (S.sk (S.o q.pf (S.o q.as (S.end (hK _ ?_)))))))))
          clear hK K
          refine Ev.ret ?_
          refine Ev.ret1 ?_
          refine ⟨?_, rfl⟩
          first | rfl | exact lawT rfl | (exfalso; omega) | (exfalso; simp at *; done)
      · first
      | (first | omega | contradiction)
      | refine S.sk (S.sk (S.sk (S.sk (S.sk (S.o q.pf (S.o q.mv (S.sk (S.sk (S.o q.pf (S.o q.mv (S.sk (S.sk (S.o q.pf (S.o q.as (S.end (hK _ ?_))))))))))))))))
        clear hK K
        refine Ev.ret ?_
        refine Ev.ret1 ?_
        refine ⟨?_, rfl⟩
        first | rfl | exact lawT rfl | (exfalso; omega) | (exfalso; simp at *; done)
    · first
    | (first | omega | contradiction)
    | refine S.sk (S.sk (S.o q.pf (S.o q.mv (S.sk (S.sk (S.sk (S.sk (S.sk (S.o q.pf (S.o q.mv (S.sk (S.sk (S.o q.pf (S.o q.mv (S.sk (S.sk (S.o q.pf (S.o q.as (S.end (hK _ ?_))))))))))))))))))))
      clear hK K
      refine Ev.ret ?_
      refine Ev.ret1 ?_
      refine ⟨?_, rfl⟩
      first | rfl | exact lawT rfl | (exfalso; omega) | (exfalso; simp at *; done)
  · first
  | (first | omega | contradiction)
  | refine S.sk (S.sk (S.o q.pf (S.o q.mv (S.sk (S.sk (S.o q.pf (S.o q.mv (S.sk (S.sk (S.sk (S.sk (S.sk (S.o q.pf (S.o q.mv (S.sk (S.sk (S.o q.pf (S.o q.mv (S.sk (S.sk (S.o q.pf (S.o q.as (S.end (hK _ ?_))))))))))))))))))))))))
    clear hK K
    refine Ev.ret ?_
    refine Ev.ret1 ?_
    refine ⟨?_, rfl⟩
    first | rfl | exact lawT rfl | (exfalso; omega) | (exfalso; simp at *; done)

theorem levels_bad {l : List (Int × Int)} {d k : Int} (h : ¬ givenE l d 0 = 0) : leastV l d = 0 ∧ levelE l d k = givenE l d 0 ∧ (levelV l d k).length = 0 :=
  ⟨if_neg h, if_neg h, by rw [levelV, if_neg (fun h' => h h'.1)]; rfl⟩
theorem levels_k {l : List (Int × Int)} {d k : Int} (h : givenE l d 0 = 0) (hk : ¬ (1 ≤ k ∧ k ≤ 1000)) : levelE l d k = 2 ∧ (levelV l d k).length = 0 :=
  ⟨by rw [levelE, if_pos h, if_neg hk], by rw [levelV, if_neg (fun h' => hk h'.2)]; rfl⟩
theorem levels_t {l : List (Int × Int)} {d k : Int} (h : givenE l d 0 = 0) (hk : 1 ≤ k ∧ k ≤ 1000) : levelE l d k = 0 ∧ levelV l d k = levGo ((k - 1) * areaOf d) l [] :=
  ⟨by rw [levelE, if_pos h, if_pos hk], by rw [levelV, if_pos ⟨h, hk⟩]⟩
theorem levels_law (l : List (Int × Int)) (d k : Int) (hlen : l.length ≤ 140737488355328) : Fun Try.prog 4 [.sh 2 (l.map stepC), .lit (.int .i64 d), .lit (.int .i64 k)] (Ret (.lit (.bool true)) []) := by
  refine Fun.of (nt := 83) (rs := [.tmp 6]) Try.func4 rfl rfl rfl rfl rfl ?_
  refine Ev.sr fun K hK => S.o q.as (S.end (hK _ ?_))
  clear hK K
  refine Ev.seq ?_
  refine Ev.sr fun K hK => S.c0 (hF := awake_fun) (h := S.o q.nott (S.end (hK _ ?_)))
  clear hK K
  refine Ev.cf ?_
  refine Ev.skip ?_
  show Ev _ _ _ _
  refine Ev.seq ?_
  refine Ev.sr fun K hK => S.o q.mv (S.c0 (hF := large_fun _ (by omega)) (h := S.end (hK _ ?_)))
  clear hK K
  refine Ev.cd (fun c1 => ?_) (fun c1 => ?_)
  · first
  | (first | omega | contradiction)
  | refine Ev.sr fun K hK => S.o q.as (S.end (hK _ ?_))
    clear hK K
    refine Ev.ret ?_
    refine Ev.ret1 ?_
    refine ⟨?_, rfl⟩
    first | rfl | exact lawT (by omega) | (exfalso; omega) | exact lawT (by assumption) | (exfalso; contradiction)
  · first
  | (first | omega | contradiction)
  | refine Ev.skip ?_
    show Ev _ _ _ _
    refine Ev.sr fun K hK => S.o q.mv (S.o q.mv (S.c0 (hF := Least_fun _ _) (h := S.o q.mv (S.o q.ex (S.o q.ex (S.o q.as (S.o q.as (S.end (hK _ ?_)))))))))
    clear hK K
    refine Ev.sr fun K hK => S.o q.mv (S.o q.mv (S.o q.mv (S.c0 (hF := Level_fun _ _ _) (h := S.o q.mv (S.o q.ex (S.o q.ex (S.o q.as (S.o q.as (S.end (hK _ ?_))))))))))
    clear hK K
    refine Ev.sr fun K hK => S.o q.mv (S.o q.mv (S.c0 (hF := rgiven_fun _ _ _ (by omega)) (h := S.o q.as (S.end (hK _ ?_)))))
    clear hK K
    refine Ev.seq ?_
    refine Ev.sr fun K hK => S.o q.mv (S.o q.neq (S.end (hK _ ?_)))
    clear hK K
    refine Ev.cn (fun c2 => ?_) (fun c2 => ?_)
    · first
    | (first | omega | contradiction)
    | obtain ⟨e1, e2, e3⟩ := levels_bad (k := k) ‹_›
      refine Ev.sr fun K hK => S.o q.mv (S.o q.eql (S.bd q.mv (fun c3 => ?_) (fun c3 => ?_)))
      · first
      | (first | omega | contradiction)
      | refine S.o q.mv (S.o q.mv (S.o q.eql (S.o q.pt (S.bd q.mv (fun c4 => ?_) (fun c4 => ?_)))))
        · first
        | (first | omega | contradiction)
        | refine S.o q.mv (S.o (q.lens am_el25) (S.o q.eql (S.o q.pt (S.bd q.mv (fun c5 => ?_) (fun c5 => ?_)))))
          · first
          | (first | omega | contradiction)
          | refine S.o q.mv (S.o q.mv (S.o q.eql (S.o q.pt (S.o q.as (S.end (hK _ ?_))))))
            clear hK K
            refine Ev.ret ?_
            refine Ev.ret1 ?_
            refine ⟨?_, rfl⟩
            first | rfl | exact lawT (by omega) | (exfalso; omega) | exact lawT (by assumption) | (exfalso; contradiction)
          · first
          | (first | omega | contradiction)
          | refine S.sk (S.sk (S.sk (S.o q.pf (S.o q.as (S.end (hK _ ?_))))))
            clear hK K
            refine Ev.ret ?_
            refine Ev.ret1 ?_
            refine ⟨?_, rfl⟩
            first | rfl | exact lawT (by omega) | (exfalso; omega) | exact lawT (by assumption) | (exfalso; contradiction)
        · first
        | (first | omega | contradiction)
        | refine S.sk (S.sk (S.sk (S.o q.pf (S.o q.mv (S.sk (S.sk (S.sk (S.o q.pf (S.o q.as (S.end (hK _ ?_)))))))))))
          clear hK K
          refine Ev.ret ?_
          refine Ev.ret1 ?_
          refine ⟨?_, rfl⟩
          first | rfl | exact lawT (by omega) | (exfalso; omega) | exact lawT (by assumption) | (exfalso; contradiction)
      · first
      | (first | omega | contradiction)
      | refine S.sk (S.sk (S.sk (S.o q.pf (S.o q.mv (S.sk (S.sk (S.sk (S.o q.pf (S.o q.mv (S.sk (S.sk (S.sk (S.o q.pf (S.o q.as (S.end (hK _ ?_))))))))))))))))
        clear hK K
        refine Ev.ret ?_
        refine Ev.ret1 ?_
        refine ⟨?_, rfl⟩
        first | rfl | exact lawT (by omega) | (exfalso; omega) | exact lawT (by assumption) | (exfalso; contradiction)
    · first
    | (first | omega | contradiction)
    | refine Ev.skip ?_
      show Ev _ _ _ _
      refine Ev.seq ?_
      obtain ⟨hs1, hs2, hlast, hz, hz1, hz2, hb1, hb2⟩ := givenZ ‹_›
      have e1 : leastV l d = leastN l d := if_pos ‹_›
      refine Ev.sr fun K hK => S.o q.mv (S.o q.mv (S.o q.mv (S.c0 (hF := rleast_fun _ _ (by omega) hz (fun s hs => (okL_mem hs2 s hs).2)) (h := S.o q.neq (S.bn q.mv (fun c6 => ?_) (fun c6 => ?_))))))
      · first
      | (first | omega | contradiction)
      | refine S.sk (S.sk (S.o q.pt (S.end (hK _ ?_))))
        clear hK K
        refine Ev.ct ?_
        refine Ev.sr fun K hK => S.o q.as (S.end (hK _ ?_))
        clear hK K
        refine Ev.ret ?_
        refine Ev.ret1 ?_
        refine ⟨?_, rfl⟩
        first | rfl | exact lawT (by omega) | (exfalso; omega) | exact lawT (by assumption) | (exfalso; contradiction)
      · first
      | (first | omega | contradiction)
      | refine S.o q.mv (S.o q.neq (S.o q.pf (S.end (hK _ ?_))))
        clear hK K
        refine Ev.cn (fun c7 => ?_) (fun c7 => ?_)
        · first
        | (first | omega | contradiction)
        | refine Ev.sr fun K hK => S.o q.as (S.end (hK _ ?_))
          clear hK K
          refine Ev.ret ?_
          refine Ev.ret1 ?_
          refine ⟨?_, rfl⟩
          first | rfl | exact lawT (by omega) | (exfalso; omega) | exact lawT (by assumption) | (exfalso; contradiction)
        · first
        | (first | omega | contradiction)
        | refine Ev.skip ?_
          show Ev _ _ _ _
          refine Ev.seq ?_
          refine Ev.sr fun K hK => S.o q.mv (S.o q.lss (S.bd q.mv (fun c8 => ?_) (fun c8 => ?_)))
          · first
          | (first | omega | contradiction)
          | refine S.sk (S.sk (S.o q.pt (S.end (hK _ ?_))))
            clear hK K
            refine Ev.ct ?_
            obtain ⟨e2, e3⟩ := levels_k (k := k) ‹givenE l d 0 = 0› (by omega)
            refine Ev.sr fun K hK => S.o q.mv (S.o (q.lens am_el25) (S.o q.eql (S.bd q.mv (fun c9 => ?_) (fun c9 => ?_))))
            · first
            | (first | omega | contradiction)
            | refine S.o q.mv (S.o q.eql (S.o q.pt (S.o q.as (S.end (hK _ ?_)))))
              clear hK K
              refine Ev.ret ?_
              refine Ev.ret1 ?_
              refine ⟨?_, rfl⟩
              first | rfl | exact lawT (by omega) | (exfalso; omega) | exact lawT (by assumption) | (exfalso; contradiction)
            · first
            | (first | omega | contradiction)
            | refine S.sk (S.sk (S.o q.pf (S.o q.as (S.end (hK _ ?_)))))
              clear hK K
              refine Ev.ret ?_
              refine Ev.ret1 ?_
              refine ⟨?_, rfl⟩
              first | rfl | exact lawT (by omega) | (exfalso; omega) | exact lawT (by assumption) | (exfalso; contradiction)
          · first
          | (first | omega | contradiction)
          | refine S.o q.mv (S.o q.gtr (S.o q.pf (S.end (hK _ ?_))))
            clear hK K
            refine Ev.cd (fun c10 => ?_) (fun c10 => ?_)
            · first
            | (first | omega | contradiction)
            | obtain ⟨e2, e3⟩ := levels_k (k := k) ‹givenE l d 0 = 0› (by omega)
              refine Ev.sr fun K hK => S.o q.mv (S.o (q.lens am_el25) (S.o q.eql (S.bd q.mv (fun c11 => ?_) (fun c11 => ?_))))
              · first
              | (first | omega | contradiction)
              | refine S.o q.mv (S.o q.eql (S.o q.pt (S.o q.as (S.end (hK _ ?_)))))
                clear hK K
                refine Ev.ret ?_
                refine Ev.ret1 ?_
                refine ⟨?_, rfl⟩
                first | rfl | exact lawT (by omega) | (exfalso; omega) | exact lawT (by assumption) | (exfalso; contradiction)
              · first
              | (first | omega | contradiction)
              | refine S.sk (S.sk (S.o q.pf (S.o q.as (S.end (hK _ ?_)))))
                clear hK K
                refine Ev.ret ?_
                refine Ev.ret1 ?_
                refine ⟨?_, rfl⟩
                first | rfl | exact lawT (by omega) | (exfalso; omega) | exact lawT (by assumption) | (exfalso; contradiction)
            · first
            | (first | omega | contradiction)
            | refine Ev.skip ?_
              show Ev _ _ _ _
              obtain ⟨e2, e3⟩ := levels_t (k := k) ‹givenE l d 0 = 0› (by omega)
              obtain ⟨hlv, _⟩ := spans_bd hs1 hs2 ((k - 1) * areaOf d)
              have e4 : (levelV l d k).length ≤ 200 := by rw [e3]; exact hlv
              refine Ev.sr fun K hK => S.o q.mv (S.o q.eql (S.bd q.mv (fun c12 => ?_) (fun c12 => ?_)))
              · first
              | (first | omega | contradiction)
              | refine S.o q.mv (S.o q.mv (S.o q.mv (S.o q.mv (S.c0 (hF := rlevel_fun _ _ _ (by omega) hz (by omega) (by omega)) (h := S.c0 (hF := equal_fun _ _ (by omega) (by omega)) (h := S.o q.pt (S.o q.as (S.end (hK _ ?_)))))))))
                clear hK K
                refine Ev.ret ?_
                refine Ev.ret1 ?_
                refine ⟨?_, rfl⟩
                first | rfl | exact lawT (by omega) | (exfalso; omega) | exact lawT (by assumption) | (exfalso; contradiction)
              · first
              | (first | omega | contradiction)
              | refine S.sk (S.sk (S.sk (S.sk (S.sk (S.sk (S.o q.pf (S.o q.as (S.end (hK _ ?_)))))))))
                clear hK K
                refine Ev.ret ?_
                refine Ev.ret1 ?_
                refine ⟨?_, rfl⟩
                first | rfl | exact lawT (by omega) | (exfalso; omega) | exact lawT (by assumption) | (exfalso; contradiction)

theorem bars_bad {l : List (Int × Int)} {d a : Int} (h : ¬ givenE l d a = 0) : boundV l d a = 0 ∧ boundE l d a = givenE l d a ∧ coverE l d a = givenE l d a ∧ (coverV l d a).length = 0 := by
  obtain ⟨e1, e2⟩ := coverE1 h
  exact ⟨if_neg (fun h' => h h'.1), if_neg h, e1, by rw [e2]; rfl⟩
theorem bars_full {l : List (Int × Int)} {d a : Int} (h : givenE l d a = 0) (h2 : ¬ leastN l d ≤ 1000) : boundV l d a = 0 ∧ boundE l d a = 4 ∧ coverE l d a = 4 ∧ (coverV l d a).length = 0 := by
  obtain ⟨e1, e2⟩ := coverE2 h h2
  exact ⟨if_neg (fun h' => h2 h'.2), by rw [boundE, if_pos h, if_neg h2], e1, by rw [e2]; rfl⟩
theorem bars_t {l : List (Int × Int)} {d a : Int} (h : givenE l d a = 0) (h2 : leastN l d ≤ 1000) : boundV l d a = boundN l d a (leastN l d).toNat ∧ boundE l d a = 0 :=
  ⟨if_pos ⟨h, h2⟩, by rw [boundE, if_pos h, if_pos h2]⟩
theorem bars_law (l : List (Int × Int)) (d a : Int) (hlen : l.length ≤ 140737488355328) : Fun Try.prog 3 [.sh 2 (l.map stepC), .lit (.int .i64 d), .lit (.int .i64 a)] (Ret (.lit (.bool true)) []) := by
  refine Fun.of (nt := 104) (rs := [.tmp 6]) Try.func3 rfl rfl rfl rfl rfl ?_
  refine Ev.sr fun K hK => S.o q.as (S.end (hK _ ?_))
  clear hK K
  refine Ev.seq ?_
  refine Ev.sr fun K hK => S.c0 (hF := awake_fun) (h := S.o q.nott (S.end (hK _ ?_)))
  clear hK K
  refine Ev.cf ?_
  refine Ev.skip ?_
  show Ev _ _ _ _
  refine Ev.seq ?_
  refine Ev.sr fun K hK => S.o q.mv (S.c0 (hF := large_fun _ (by omega)) (h := S.end (hK _ ?_)))
  clear hK K
  refine Ev.cd (fun c1 => ?_) (fun c1 => ?_)
  · first
  | (first | omega | contradiction)
  | refine Ev.sr fun K hK => S.o q.as (S.end (hK _ ?_))
    clear hK K
    refine Ev.ret ?_
    refine Ev.ret1 ?_
    refine ⟨?_, rfl⟩
    first | rfl | exact lawT (by omega) | (exfalso; omega) | exact lawT (by assumption) | (exfalso; contradiction)
  · first
  | (first | omega | contradiction)
  | refine Ev.skip ?_
    show Ev _ _ _ _
    refine Ev.sr fun K hK => S.o q.mv (S.o q.mv (S.o q.mv (S.c0 (hF := cover_fun _ _ _) (h := S.o q.mv (S.o q.ex (S.o q.ex (S.o q.as (S.o q.as (S.end (hK _ ?_))))))))))
    clear hK K
    refine Ev.sr fun K hK => S.o q.mv (S.o q.mv (S.o q.mv (S.c0 (hF := bound_fun _ _ _) (h := S.o q.mv (S.o q.ex (S.o q.ex (S.o q.as (S.o q.as (S.end (hK _ ?_))))))))))
    clear hK K
    refine Ev.seq ?_
    refine Ev.sr fun K hK => S.o q.mv (S.o q.mv (S.o q.mv (S.c0 (hF := rgiven_fun _ _ _ (by omega)) (h := S.o q.as (S.end (hK _ ?_))))))
    clear hK K
    refine Ev.sr fun K hK => S.o q.mv (S.o q.neq (S.end (hK _ ?_)))
    clear hK K
    refine Ev.cn (fun c2 => ?_) (fun c2 => ?_)
    · first
    | (first | omega | contradiction)
    | obtain ⟨e1, e2, e3, e4⟩ := bars_bad ‹_›
      refine Ev.sr fun K hK => S.o q.mv (S.o (q.lens am_el25) (S.o q.eql (S.bd q.mv (fun c3 => ?_) (fun c3 => ?_))))
      · first
      | (first | omega | contradiction)
      | refine S.o q.mv (S.o q.mv (S.o q.eql (S.o q.pt (S.bd q.mv (fun c4 => ?_) (fun c4 => ?_)))))
        · first
        | (first | omega | contradiction)
        | refine S.o q.mv (S.o q.eql (S.o q.pt (S.bd q.mv (fun c5 => ?_) (fun c5 => ?_))))
          · first
          | (first | omega | contradiction)
          | refine S.o q.mv (S.o q.mv (S.o q.eql (S.o q.pt (S.o q.as (S.end (hK _ ?_))))))
            clear hK K
            refine Ev.ret ?_
            refine Ev.ret1 ?_
            refine ⟨?_, rfl⟩
            first | rfl | exact lawT (by omega) | (exfalso; omega) | exact lawT (by assumption) | (exfalso; contradiction)
          · first
          | (first | omega | contradiction)
          | refine S.sk (S.sk (S.sk (S.o q.pf (S.o q.as (S.end (hK _ ?_))))))
            clear hK K
            refine Ev.ret ?_
            refine Ev.ret1 ?_
            refine ⟨?_, rfl⟩
            first | rfl | exact lawT (by omega) | (exfalso; omega) | exact lawT (by assumption) | (exfalso; contradiction)
        · first
        | (first | omega | contradiction)
        | refine S.sk (S.sk (S.o q.pf (S.o q.mv (S.sk (S.sk (S.sk (S.o q.pf (S.o q.as (S.end (hK _ ?_))))))))))
          clear hK K
          refine Ev.ret ?_
          refine Ev.ret1 ?_
          refine ⟨?_, rfl⟩
          first | rfl | exact lawT (by omega) | (exfalso; omega) | exact lawT (by assumption) | (exfalso; contradiction)
      · first
      | (first | omega | contradiction)
      | refine S.sk (S.sk (S.sk (S.o q.pf (S.o q.mv (S.sk (S.sk (S.o q.pf (S.o q.mv (S.sk (S.sk (S.sk (S.o q.pf (S.o q.as (S.end (hK _ ?_)))))))))))))))
        clear hK K
        refine Ev.ret ?_
        refine Ev.ret1 ?_
        refine ⟨?_, rfl⟩
        first | rfl | exact lawT (by omega) | (exfalso; omega) | exact lawT (by assumption) | (exfalso; contradiction)
    · first
    | (first | omega | contradiction)
    | refine Ev.skip ?_
      show Ev _ _ _ _
      refine Ev.seq ?_
      obtain ⟨hs1, hs2, hlast, hz, hz1, hz2, hb1, hb2⟩ := givenZ ‹_›
      refine Ev.sr fun K hK => S.o q.mv (S.o q.mv (S.c0 (hF := rleast_fun _ _ (by omega) hz (fun s hs => (okL_mem hs2 s hs).2)) (h := S.o q.gtr (S.end (hK _ ?_)))))
      clear hK K
      refine Ev.cd (fun c6 => ?_) (fun c6 => ?_)
      · first
      | (first | omega | contradiction)
      | obtain ⟨e1, e2, e3, e4⟩ := bars_full ‹givenE l d a = 0› (by omega)
        refine Ev.sr fun K hK => S.o q.mv (S.o (q.lens am_el25) (S.o q.eql (S.bd q.mv (fun c7 => ?_) (fun c7 => ?_))))
        · first
        | (first | omega | contradiction)
        | refine S.o q.mv (S.o q.eql (S.o q.pt (S.bd q.mv (fun c8 => ?_) (fun c8 => ?_))))
          · first
          | (first | omega | contradiction)
          | refine S.o q.mv (S.o q.eql (S.o q.pt (S.bd q.mv (fun c9 => ?_) (fun c9 => ?_))))
            · first
            | (first | omega | contradiction)
            | refine S.o q.mv (S.o q.eql (S.o q.pt (S.o q.as (S.end (hK _ ?_)))))
              clear hK K
              refine Ev.ret ?_
              refine Ev.ret1 ?_
              refine ⟨?_, rfl⟩
              first | rfl | exact lawT (by omega) | (exfalso; omega) | exact lawT (by assumption) | (exfalso; contradiction)
            · first
            | (first | omega | contradiction)
            | refine S.sk (S.sk (S.o q.pf (S.o q.as (S.end (hK _ ?_)))))
              clear hK K
              refine Ev.ret ?_
              refine Ev.ret1 ?_
              refine ⟨?_, rfl⟩
              first | rfl | exact lawT (by omega) | (exfalso; omega) | exact lawT (by assumption) | (exfalso; contradiction)
          · first
          | (first | omega | contradiction)
          | refine S.sk (S.sk (S.o q.pf (S.o q.mv (S.sk (S.sk (S.o q.pf (S.o q.as (S.end (hK _ ?_)))))))))
            clear hK K
            refine Ev.ret ?_
            refine Ev.ret1 ?_
            refine ⟨?_, rfl⟩
            first | rfl | exact lawT (by omega) | (exfalso; omega) | exact lawT (by assumption) | (exfalso; contradiction)
        · first
        | (first | omega | contradiction)
        | refine S.sk (S.sk (S.o q.pf (S.o q.mv (S.sk (S.sk (S.o q.pf (S.o q.mv (S.sk (S.sk (S.o q.pf (S.o q.as (S.end (hK _ ?_)))))))))))))
          clear hK K
          refine Ev.ret ?_
          refine Ev.ret1 ?_
          refine ⟨?_, rfl⟩
          first | rfl | exact lawT (by omega) | (exfalso; omega) | exact lawT (by assumption) | (exfalso; contradiction)
      · first
      | (first | omega | contradiction)
      | refine Ev.skip ?_
        show Ev _ _ _ _
        refine Ev.seq ?_
        obtain ⟨e1, e2⟩ := bars_t ‹givenE l d a = 0› (by omega)
        have hcl := coverN_len (d := d) (a := a) hs1 hs2 (leastN l d).toNat
        refine Ev.sr fun K hK => S.o q.mv (S.o q.mv (S.o q.mv (S.o q.mv (S.c0 (hF := rbound_fun _ _ _ ‹_› (by omega)) (h := S.o q.neq (S.bn q.mv (fun c10 => ?_) (fun c10 => ?_)))))))
        · first
        | (first | omega | contradiction)
        | refine S.sk (S.sk (S.o q.pt (S.end (hK _ ?_))))
          clear hK K
          refine Ev.ct ?_
          refine Ev.sr fun K hK => S.o q.as (S.end (hK _ ?_))
          clear hK K
          refine Ev.ret ?_
          refine Ev.ret1 ?_
          refine ⟨?_, rfl⟩
          first | rfl | exact lawT (by omega) | (exfalso; omega) | exact lawT (by assumption) | (exfalso; contradiction)
        · first
        | (first | omega | contradiction)
        | refine S.o q.mv (S.o q.neq (S.o q.pf (S.end (hK _ ?_))))
          clear hK K
          refine Ev.cn (fun c11 => ?_) (fun c11 => ?_)
          · first
          | (first | omega | contradiction)
          | refine Ev.sr fun K hK => S.o q.as (S.end (hK _ ?_))
            clear hK K
            refine Ev.ret ?_
            refine Ev.ret1 ?_
            refine ⟨?_, rfl⟩
            first | rfl | exact lawT (by omega) | (exfalso; omega) | exact lawT (by assumption) | (exfalso; contradiction)
          · first
          | (first | omega | contradiction)
          | refine Ev.skip ?_
            show Ev _ _ _ _
            refine Ev.sr fun K hK => S.o q.mv (S.o q.mv (S.o q.mv (S.c0 (hF := rcover_fun _ _ _ ‹_› (by omega)) (h := S.o q.as (S.end (hK _ ?_))))))
            clear hK K
            refine Ev.seq ?_
            refine Ev.sr fun K hK => S.o q.mv (S.o (q.lens am_el25) (S.o q.gtr (S.end (hK _ ?_))))
            clear hK K
            refine Ev.cd (fun c12 => ?_) (fun c12 => ?_)
            · first
            | (first | omega | contradiction)
            | obtain ⟨e3, e4⟩ := coverE3 ‹givenE l d a = 0› (by omega) (by omega)
              have e5 : (coverV l d a).length = 0 := by rw [e4]; rfl
              refine Ev.sr fun K hK => S.o q.mv (S.o (q.lens am_el25) (S.o q.eql (S.bd q.mv (fun c13 => ?_) (fun c13 => ?_))))
              · first
              | (first | omega | contradiction)
              | refine S.o q.mv (S.o q.eql (S.o q.pt (S.o q.as (S.end (hK _ ?_)))))
                clear hK K
                refine Ev.ret ?_
                refine Ev.ret1 ?_
                refine ⟨?_, rfl⟩
                first | rfl | exact lawT (by omega) | (exfalso; omega) | exact lawT (by assumption) | (exfalso; contradiction)
              · first
              | (first | omega | contradiction)
              | refine S.sk (S.sk (S.o q.pf (S.o q.as (S.end (hK _ ?_)))))
                clear hK K
                refine Ev.ret ?_
                refine Ev.ret1 ?_
                refine ⟨?_, rfl⟩
                first | rfl | exact lawT (by omega) | (exfalso; omega) | exact lawT (by assumption) | (exfalso; contradiction)
            · first
            | (first | omega | contradiction)
            | refine Ev.skip ?_
              show Ev _ _ _ _
              obtain ⟨e3, e4⟩ := coverE4 ‹givenE l d a = 0› (by omega) (by omega)
              have e5 : (coverV l d a).length ≤ 1000 := by rw [e4]; omega
              refine Ev.sr fun K hK => S.o q.mv (S.o q.eql (S.bd q.mv (fun c14 => ?_) (fun c14 => ?_)))
              · first
              | (first | omega | contradiction)
              | refine S.o q.mv (S.o q.mv (S.c0 (hF := equal_fun _ _ (by omega) (by omega)) (h := S.o q.pt (S.o q.as (S.end (hK _ ?_))))))
                clear hK K
                refine Ev.ret ?_
                refine Ev.ret1 ?_
                refine ⟨?_, rfl⟩
                first | rfl | exact lawT (by omega) | (exfalso; omega) | exact lawT (by assumption) | (exfalso; contradiction)
              · first
              | (first | omega | contradiction)
              | refine S.sk (S.sk (S.sk (S.o q.pf (S.o q.as (S.end (hK _ ?_))))))
                clear hK K
                refine Ev.ret ?_
                refine Ev.ret1 ?_
                refine ⟨?_, rfl⟩
                first | rfl | exact lawT (by omega) | (exfalso; omega) | exact lawT (by assumption) | (exfalso; contradiction)
end Go.Proofs.Ytigjoaejncfmdaa
