/-
  The law QuantityOrders, walked.
  Conditions: none.
-/
import Derived.Test.YtappnbebcjmlbaaQ1
import Derived.Test.YtappnbebcjmlbaaOrd1
import Derived.Test.YtappnbebcjmlbaaOrd2
import Derived.Test.YtappnbebcjmlbaaOrd3
namespace Go.Proofs.Ytappnbebcjmlbaa
open Go Go.AM
set_option linter.unusedSimpArgs false
set_option linter.unusedVariables false
set_option maxRecDepth 100000
set_option maxHeartbeats 1000000

theorem beq_no {b : Bool} (h : (b == b) = false) : False := by simp at h
theorem orders_law (l : List Bar) (p : List Pat) (d : Int) (hlen : l.length ≤ 140737488355328) (hpl0 : p.length ≤ 140737488355328) : Fun Try.prog 5 [.sh 5 (l.map Bar.c), .sh 3 (p.map patC), .lit (.int .i64 d)] (Ret (.lit (.bool true)) []) := by
  refine Fun.of (nt := 57) (rs := [.tmp 6]) Try.func5 rfl rfl rfl rfl rfl ?_
  refine Ev.sr fun K hK => S.o q.as (S.end (hK _ ?_))
  clear hK K
  refine Ev.seq ?_
  refine Ev.sr fun K hK => S.c0 (hF := awake_fun) (h := S.o q.nott (S.end (hK _ ?_)))
  clear hK K
  refine Ev.cf ?_
  refine Ev.skip ?_
  show Ev _ _ _ _
  refine Ev.seq ?_
  refine Ev.sr fun K hK => S.o q.mv (S.c0 (hF := small_fun _ _ (by omega)) (h := S.o q.not (S.bn q.mv (fun c1 => ?_) (fun c1 => ?_))))
  · first
  | (first | omega | contradiction)
  | refine S.sk (S.sk (S.sk (S.sk (S.sk (S.sk (S.sk (S.sk (S.o q.pt (S.o q.mv (S.sk (S.sk (S.sk (S.o q.pt (S.o q.mv (S.sk (S.sk (S.o q.pt (S.end (hK _ ?_)))))))))))))))))))
    clear hK K
    refine Ev.ct ?_
    refine Ev.sr fun K hK => S.o q.as (S.end (hK _ ?_))
    clear hK K
    refine Ev.ret ?_
    refine Ev.ret1 ?_
    refine ⟨?_, rfl⟩
    first | rfl | exact lawT (by omega) | (exfalso; omega) | contradiction | (exfalso; exact beq_no ‹_›)
  · first
  | (first | omega | contradiction)
  | refine S.o q.mv (S.o (q.lens am_el47) (S.o q.gtr (S.bd q.mv (fun c2 => ?_) (fun c2 => ?_))))
    · first
    | (first | omega | contradiction)
    | refine S.o q.mv (S.o (q.lens am_el47) (S.o q.leq (S.o q.pt (S.o q.pf (S.bd q.mv (fun c3 => ?_) (fun c3 => ?_))))))
      · first
      | (first | omega | contradiction)
      | refine S.sk (S.sk (S.sk (S.o q.pt (S.o q.mv (S.sk (S.sk (S.o q.pt (S.end (hK _ ?_)))))))))
        clear hK K
        refine Ev.ct ?_
        refine Ev.sr fun K hK => S.o q.as (S.end (hK _ ?_))
        clear hK K
        refine Ev.ret ?_
        refine Ev.ret1 ?_
        refine ⟨?_, rfl⟩
        first | rfl | exact lawT (by omega) | (exfalso; omega) | contradiction | (exfalso; exact beq_no ‹_›)
      · first
      | (first | omega | contradiction)
      | refine S.o q.mv (S.o (q.lens am_el47) (S.o q.gtr (S.o q.pf (S.bd q.mv (fun c4 => ?_) (fun c4 => ?_)))))
        · first
        | (first | omega | contradiction)
        | refine S.sk (S.sk (S.o q.pt (S.end (hK _ ?_))))
          clear hK K
          refine Ev.ct ?_
          refine Ev.sr fun K hK => S.o q.as (S.end (hK _ ?_))
          clear hK K
          refine Ev.ret ?_
          refine Ev.ret1 ?_
          refine ⟨?_, rfl⟩
          first | rfl | exact lawT (by omega) | (exfalso; omega) | contradiction | (exfalso; exact beq_no ‹_›)
        · first
        | (first | omega | contradiction)
        | refine S.o q.mv (S.c0 (hF := containsMemPat _ (fun x : Pat => decide (30 < (x.2.1.length : Int))) p (fun s _ => bigOrders_fun s) (by omega)) (h := S.o q.pf (S.end (hK _ ?_))))
          clear hK K
          refine Ev.cd (fun c5 => ?_) (fun c5 => ?_)
          · first
          | (first | omega | contradiction)
          | refine Ev.sr fun K hK => S.o q.as (S.end (hK _ ?_))
            clear hK K
            refine Ev.ret ?_
            refine Ev.ret1 ?_
            refine ⟨?_, rfl⟩
            first | rfl | exact lawT (by omega) | (exfalso; omega) | contradiction | (exfalso; exact beq_no ‹_›)
          · first
          | (first | omega | contradiction)
          | refine Ev.skip ?_
            show Ev _ _ _ _
            have hw := small_w ‹smallL l 8›
            have hpb := pats_w ‹_›
            have hpw : patW p := fun x hx => by have := hpb x hx; omega
            refine Ev.sr fun K hK => S.o q.mv (S.o q.mv (S.o q.mv (S.c0 (hF := Ordered_fun _ _ _ (by omega) (by assumption) (by omega) (by assumption)) (h := S.o q.mv (S.o q.ex (S.o q.ex (S.o q.as (S.o q.as (S.end (hK _ ?_))))))))))
            clear hK K
            refine Ev.sr fun K hK => S.o q.mv (S.o q.mv (S.o q.mv (S.c0 (hF := rOrdered_fun _ _ _ (by omega) (by assumption) (by omega) (by assumption)) (h := S.o q.mv (S.o q.ex (S.o q.ex (S.o q.as (S.o q.as (S.end (hK _ ?_))))))))))
            clear hK K
            refine Ev.sr fun K hK => S.o q.mv (S.o q.mv (S.o (q.beql am_un4) (S.bb q.mv (fun c6 => ?_) (fun c6 => ?_))))
            · first
            | (first | omega | contradiction)
            | refine S.o q.mv (S.o q.mv (S.o q.eql (S.o q.pt (S.o q.as (S.end (hK _ ?_))))))
              clear hK K
              refine Ev.ret ?_
              refine Ev.ret1 ?_
              refine ⟨?_, rfl⟩
              first | rfl | exact lawT (by omega) | (exfalso; omega) | contradiction | (exfalso; exact beq_no ‹_›)
            · first
            | (first | omega | contradiction)
            | refine S.sk (S.sk (S.sk (S.o q.pf (S.o q.as (S.end (hK _ ?_))))))
              clear hK K
              refine Ev.ret ?_
              refine Ev.ret1 ?_
              refine ⟨?_, rfl⟩
              first | rfl | exact lawT (by omega) | (exfalso; omega) | contradiction | (exfalso; exact beq_no ‹_›)
    · first
    | (first | omega | contradiction)
    | refine S.sk (S.sk (S.sk (S.o q.pf (S.o q.pf (S.o q.mv (S.o q.mv (S.o (q.lens am_el47) (S.o q.gtr (S.o q.pf (S.bd q.mv (fun c7 => ?_) (fun c7 => ?_)))))))))))
      · first
      | (first | omega | contradiction)
      | refine S.sk (S.sk (S.o q.pt (S.end (hK _ ?_))))
        clear hK K
        refine Ev.ct ?_
        refine Ev.sr fun K hK => S.o q.as (S.end (hK _ ?_))
        clear hK K
        refine Ev.ret ?_
        refine Ev.ret1 ?_
        refine ⟨?_, rfl⟩
        first | rfl | exact lawT (by omega) | (exfalso; omega) | contradiction | (exfalso; exact beq_no ‹_›)
      · first
      | (first | omega | contradiction)
      | refine S.o q.mv (S.c0 (hF := containsMemPat _ (fun x : Pat => decide (30 < (x.2.1.length : Int))) p (fun s _ => bigOrders_fun s) (by omega)) (h := S.o q.pf (S.end (hK _ ?_))))
        clear hK K
        refine Ev.cd (fun c8 => ?_) (fun c8 => ?_)
        · first
        | (first | omega | contradiction)
        | refine Ev.sr fun K hK => S.o q.as (S.end (hK _ ?_))
          clear hK K
          refine Ev.ret ?_
          refine Ev.ret1 ?_
          refine ⟨?_, rfl⟩
          first | rfl | exact lawT (by omega) | (exfalso; omega) | contradiction | (exfalso; exact beq_no ‹_›)
        · first
        | (first | omega | contradiction)
        | refine Ev.skip ?_
          show Ev _ _ _ _
          have hw := small_w ‹smallL l 8›
          have hpb := pats_w ‹_›
          have hpw : patW p := fun x hx => by have := hpb x hx; omega
          refine Ev.sr fun K hK => S.o q.mv (S.o q.mv (S.o q.mv (S.c0 (hF := Ordered_fun _ _ _ (by omega) (by assumption) (by omega) (by assumption)) (h := S.o q.mv (S.o q.ex (S.o q.ex (S.o q.as (S.o q.as (S.end (hK _ ?_))))))))))
          clear hK K
          refine Ev.sr fun K hK => S.o q.mv (S.o q.mv (S.o q.mv (S.c0 (hF := rOrdered_fun _ _ _ (by omega) (by assumption) (by omega) (by assumption)) (h := S.o q.mv (S.o q.ex (S.o q.ex (S.o q.as (S.o q.as (S.end (hK _ ?_))))))))))
          clear hK K
          refine Ev.sr fun K hK => S.o q.mv (S.o q.mv (S.o (q.beql am_un4) (S.bb q.mv (fun c9 => ?_) (fun c9 => ?_))))
          · first
          | (first | omega | contradiction)
          | refine S.o q.mv (S.o q.mv (S.o q.eql (S.o q.pt (S.o q.as (S.end (hK _ ?_))))))
            clear hK K
            refine Ev.ret ?_
            refine Ev.ret1 ?_
            refine ⟨?_, rfl⟩
            first | rfl | exact lawT (by omega) | (exfalso; omega) | contradiction | (exfalso; exact beq_no ‹_›)
          · first
          | (first | omega | contradiction)
          | refine S.sk (S.sk (S.sk (S.o q.pf (S.o q.as (S.end (hK _ ?_))))))
            clear hK K
            refine Ev.ret ?_
            refine Ev.ret1 ?_
            refine ⟨?_, rfl⟩
            first | rfl | exact lawT (by omega) | (exfalso; omega) | contradiction | (exfalso; exact beq_no ‹_›)
end Go.Proofs.Ytappnbebcjmlbaa
