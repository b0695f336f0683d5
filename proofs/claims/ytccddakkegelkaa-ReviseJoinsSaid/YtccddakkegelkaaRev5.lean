/-
  Layer 41: joining kinds.
  Conditions: none.
-/
import Derived.Test.YtccddakkegelkaaRev1
import Derived.Test.YtccddakkegelkaaAmOwn
namespace Go.Proofs.Ytccddakkegelkaa
open Go Go.AM
set_option linter.unusedSimpArgs false
set_option linter.unusedVariables false
set_option maxRecDepth 100000

def joinK (f l : Int) : Int :=
  if f = 1 ∨ f = 2 then (if f = 1 ∧ l = 1 then 1 else if l = 1 ∨ l = 2 then 2 else if l = 4 then 4 else -1)
  else if f = 3 then (if l = 1 ∨ l = 2 then 3 else if l = 4 then 0 else -1)
  else if f = 4 then (if l = 3 then 2 else if l = 0 then 4 else -1)
  else if l = 3 then 3 else -1
theorem joinK_eq {f l k : Int} (h : joinK f l = k) : AV.lit (.int .i64 k) = .lit (.int .i64 (joinK f l)) := by rw [h]
theorem joined_fun (f l : Int) : Fun Try.prog 60 [.lit (.int .i64 f), .lit (.int .i64 l)] (Ret (.lit (.int .i64 (joinK f l))) []) := by
  refine Fun.of (nt := 44) (rs := [.tmp 4]) Try.func60 rfl rfl rfl rfl rfl ?_
  refine Ev.sr fun K hK => S.o q.as (S.end (hK _ ?_))
  clear hK K
  refine Ev.sr fun K hK => S.o q.mv (S.o q.eql (S.bd q.mv (fun c1 => ?_) (fun c1 => ?_)))
  · first
  | (first | omega | contradiction)
  | refine S.sk (S.sk (S.o q.pt (S.o q.as (S.end (hK _ ?_)))))
    clear hK K
    refine Ev.seq ?_
    refine Ev.sr fun K hK => S.o q.mv (S.end (hK _ ?_))
    clear hK K
    refine Ev.block ?_
    refine Ev.seq ?_
    refine Ev.sr fun K hK => S.o q.eql (S.o q.as (S.end (hK _ ?_)))
    clear hK K
    refine Ev.cd (fun c2 => ?_) (fun c2 => ?_)
    · first
    | (first | omega | contradiction)
    | refine Ev.skip ?_
      show Ev _ _ _ _
      refine Ev.cd (fun _ => ?_) (fun c => absurd c2 c)
      refine Ev.block ?_
      refine Ev.sr fun K hK => S.o q.mv (S.o q.eql (S.bd q.mv (fun c3 => ?_) (fun c3 => ?_)))
      · first
      | (first | omega | contradiction)
      | refine S.o q.mv (S.o q.eql (S.o q.pt (S.o q.as (S.end (hK _ ?_)))))
        clear hK K
        refine Ev.cd (fun c4 => ?_) (fun c4 => ?_)
        · first
        | (first | omega | contradiction)
        | refine Ev.sr fun K hK => S.o q.as (S.end (hK _ ?_))
          clear hK K
          refine Ev.ret ?_
          refine Ev.ret1 ?_
          refine ⟨?_, rfl⟩
          exact joinK_eq (by unfold joinK; repeat' split <;> omega)
        · first
        | (first | omega | contradiction)
        | refine Ev.sr fun K hK => S.o q.mv (S.o q.as (S.end (hK _ ?_)))
          clear hK K
          refine Ev.ct ?_
          refine Ev.sr fun K hK => S.o q.as (S.end (hK _ ?_))
          clear hK K
          refine Ev.ret ?_
          refine Ev.ret1 ?_
          refine ⟨?_, rfl⟩
          exact joinK_eq (by unfold joinK; repeat' split <;> omega)
      · first
      | (first | omega | contradiction)
      | refine S.sk (S.sk (S.o q.pf (S.o q.as (S.end (hK _ ?_)))))
        clear hK K
        refine Ev.cf ?_
        refine Ev.sr fun K hK => S.o q.mv (S.o q.as (S.end (hK _ ?_)))
        clear hK K
        refine Ev.ct ?_
        refine Ev.sr fun K hK => S.o q.as (S.end (hK _ ?_))
        clear hK K
        refine Ev.ret ?_
        refine Ev.ret1 ?_
        refine ⟨?_, rfl⟩
        exact joinK_eq (by unfold joinK; repeat' split <;> omega)
    · first
    | (first | omega | contradiction)
    | refine Ev.region_S fun K hK => S.o q.eql (S.o q.as (S.end (hK _ ?_)))
      clear hK K
      show Ev _ _ _ _
      refine Ev.cd (fun c5 => ?_) (fun c5 => ?_)
      · first
      | (first | omega | contradiction)
      | refine Ev.block ?_
        refine Ev.sr fun K hK => S.o q.mv (S.o q.eql (S.bd q.mv (fun c6 => ?_) (fun c6 => ?_)))
        · first
        | (first | omega | contradiction)
        | refine S.o q.mv (S.o q.eql (S.o q.pt (S.o q.as (S.end (hK _ ?_)))))
          clear hK K
          refine Ev.cd (fun c7 => ?_) (fun c7 => ?_)
          · first
          | (first | omega | contradiction)
          | refine Ev.sr fun K hK => S.o q.as (S.end (hK _ ?_))
            clear hK K
            refine Ev.ret ?_
            refine Ev.ret1 ?_
            refine ⟨?_, rfl⟩
            exact joinK_eq (by unfold joinK; repeat' split <;> omega)
          · first
          | (first | omega | contradiction)
          | refine Ev.sr fun K hK => S.o q.mv (S.o q.as (S.end (hK _ ?_)))
            clear hK K
            refine Ev.ct ?_
            refine Ev.sr fun K hK => S.o q.as (S.end (hK _ ?_))
            clear hK K
            refine Ev.ret ?_
            refine Ev.ret1 ?_
            refine ⟨?_, rfl⟩
            exact joinK_eq (by unfold joinK; repeat' split <;> omega)
        · first
        | (first | omega | contradiction)
        | refine S.sk (S.sk (S.o q.pf (S.o q.as (S.end (hK _ ?_)))))
          clear hK K
          refine Ev.cf ?_
          refine Ev.sr fun K hK => S.o q.mv (S.o q.as (S.end (hK _ ?_)))
          clear hK K
          refine Ev.ct ?_
          refine Ev.sr fun K hK => S.o q.as (S.end (hK _ ?_))
          clear hK K
          refine Ev.ret ?_
          refine Ev.ret1 ?_
          refine ⟨?_, rfl⟩
          exact joinK_eq (by unfold joinK; repeat' split <;> omega)
      · first
      | (first | omega | contradiction)
      | refine Ev.sr fun K hK => S.o q.eql (S.o q.as (S.end (hK _ ?_)))
        clear hK K
        refine Ev.cd (fun c8 => ?_) (fun c8 => ?_)
        · first
        | (first | omega | contradiction)
        | refine Ev.block ?_
          refine Ev.sr fun K hK => S.o q.mv (S.o q.as (S.end (hK _ ?_)))
          clear hK K
          refine Ev.ct ?_
          refine Ev.sr fun K hK => S.o q.as (S.end (hK _ ?_))
          clear hK K
          refine Ev.ret ?_
          refine Ev.ret1 ?_
          refine ⟨?_, rfl⟩
          exact joinK_eq (by unfold joinK; repeat' split <;> omega)
        · first
        | (first | omega | contradiction)
        | refine Ev.sr fun K hK => S.o q.eql (S.o q.as (S.end (hK _ ?_)))
          clear hK K
          refine Ev.cd (fun c9 => ?_) (fun c9 => ?_)
          · first
          | (first | omega | contradiction)
          | refine Ev.sr fun K hK => S.o q.mv (S.end (hK _ ?_))
            clear hK K
            refine Ev.block ?_
            refine Ev.sr fun K hK => S.o q.eql (S.o q.as (S.end (hK _ ?_)))
            clear hK K
            refine Ev.cd (fun c10 => ?_) (fun c10 => ?_)
            · first
            | (first | omega | contradiction)
            | refine Ev.sr fun K hK => S.o q.as (S.end (hK _ ?_))
              clear hK K
              refine Ev.ret ?_
              refine Ev.ret1 ?_
              refine ⟨?_, rfl⟩
              exact joinK_eq (by unfold joinK; repeat' split <;> omega)
            · first
            | (first | omega | contradiction)
            | refine Ev.sr fun K hK => S.o q.eql (S.o q.as (S.end (hK _ ?_)))
              clear hK K
              refine Ev.cd (fun c11 => ?_) (fun c11 => ?_)
              · first
              | (first | omega | contradiction)
              | refine Ev.sr fun K hK => S.o q.as (S.end (hK _ ?_))
                clear hK K
                refine Ev.ret ?_
                refine Ev.ret1 ?_
                refine ⟨?_, rfl⟩
                exact joinK_eq (by unfold joinK; repeat' split <;> omega)
              · first
              | (first | omega | contradiction)
              | refine Ev.skip ?_
                show Ev _ _ _ _
                refine Ev.sr fun K hK => S.o q.as (S.end (hK _ ?_))
                clear hK K
                refine Ev.ret ?_
                refine Ev.ret1 ?_
                refine ⟨?_, rfl⟩
                exact joinK_eq (by unfold joinK; repeat' split <;> omega)
          · first
          | (first | omega | contradiction)
          | refine Ev.sr fun K hK => S.o q.mv (S.o q.eql (S.end (hK _ ?_)))
            clear hK K
            refine Ev.cd (fun c12 => ?_) (fun c12 => ?_)
            · first
            | (first | omega | contradiction)
            | refine Ev.sr fun K hK => S.o q.as (S.end (hK _ ?_))
              clear hK K
              refine Ev.ret ?_
              refine Ev.ret1 ?_
              refine ⟨?_, rfl⟩
              exact joinK_eq (by unfold joinK; repeat' split <;> omega)
            · first
            | (first | omega | contradiction)
            | refine Ev.skip ?_
              show Ev _ _ _ _
              refine Ev.sr fun K hK => S.o q.as (S.end (hK _ ?_))
              clear hK K
              refine Ev.ret ?_
              refine Ev.ret1 ?_
              refine ⟨?_, rfl⟩
              exact joinK_eq (by unfold joinK; repeat' split <;> omega)
  · first
  | (first | omega | contradiction)
  | refine S.o q.mv (S.o q.eql (S.o q.pf (S.o q.as (S.end (hK _ ?_)))))
    clear hK K
    refine Ev.seq ?_
    refine Ev.sr fun K hK => S.o q.mv (S.end (hK _ ?_))
    clear hK K
    refine Ev.block ?_
    refine Ev.seq ?_
    refine Ev.sr fun K hK => S.o q.eql (S.o q.as (S.end (hK _ ?_)))
    clear hK K
    refine Ev.cd (fun c13 => ?_) (fun c13 => ?_)
    · first
    | (first | omega | contradiction)
    | refine Ev.skip ?_
      show Ev _ _ _ _
      refine Ev.cd (fun _ => ?_) (fun c => absurd c13 c)
      refine Ev.block ?_
      refine Ev.sr fun K hK => S.o q.mv (S.o q.eql (S.bd q.mv (fun c14 => ?_) (fun c14 => ?_)))
      · first
      | (first | omega | contradiction)
      | refine S.o q.mv (S.o q.eql (S.o q.pt (S.o q.as (S.end (hK _ ?_)))))
        clear hK K
        refine Ev.cd (fun c15 => ?_) (fun c15 => ?_)
        · first
        | (first | omega | contradiction)
        | refine Ev.sr fun K hK => S.o q.as (S.end (hK _ ?_))
          clear hK K
          refine Ev.ret ?_
          refine Ev.ret1 ?_
          refine ⟨?_, rfl⟩
          exact joinK_eq (by unfold joinK; repeat' split <;> omega)
        · first
        | (first | omega | contradiction)
        | refine Ev.sr fun K hK => S.o q.mv (S.o q.as (S.end (hK _ ?_)))
          clear hK K
          refine Ev.cd (fun c16 => ?_) (fun c16 => ?_)
          · first
          | (first | omega | contradiction)
          | refine Ev.sr fun K hK => S.o q.as (S.end (hK _ ?_))
            clear hK K
            refine Ev.ret ?_
            refine Ev.ret1 ?_
            refine ⟨?_, rfl⟩
            exact joinK_eq (by unfold joinK; repeat' split <;> omega)
          · first
          | (first | omega | contradiction)
          | refine Ev.sr fun K hK => S.o q.mv (S.o q.eql (S.o q.as (S.end (hK _ ?_))))
            clear hK K
            refine Ev.cd (fun c17 => ?_) (fun c17 => ?_)
            · first
            | (first | omega | contradiction)
            | refine Ev.sr fun K hK => S.o q.as (S.end (hK _ ?_))
              clear hK K
              refine Ev.ret ?_
              refine Ev.ret1 ?_
              refine ⟨?_, rfl⟩
              exact joinK_eq (by unfold joinK; repeat' split <;> omega)
            · first
            | (first | omega | contradiction)
            | refine Ev.skip ?_
              show Ev _ _ _ _
              refine Ev.sr fun K hK => S.o q.as (S.end (hK _ ?_))
              clear hK K
              refine Ev.ret ?_
              refine Ev.ret1 ?_
              refine ⟨?_, rfl⟩
              exact joinK_eq (by unfold joinK; repeat' split <;> omega)
      · first
      | (first | omega | contradiction)
      | refine S.sk (S.sk (S.o q.pf (S.o q.as (S.end (hK _ ?_)))))
        clear hK K
        refine Ev.cf ?_
        refine Ev.sr fun K hK => S.o q.mv (S.o q.as (S.end (hK _ ?_)))
        clear hK K
        refine Ev.cd (fun c18 => ?_) (fun c18 => ?_)
        · first
        | (first | omega | contradiction)
        | refine Ev.sr fun K hK => S.o q.as (S.end (hK _ ?_))
          clear hK K
          refine Ev.ret ?_
          refine Ev.ret1 ?_
          refine ⟨?_, rfl⟩
          exact joinK_eq (by unfold joinK; repeat' split <;> omega)
        · first
        | (first | omega | contradiction)
        | refine Ev.sr fun K hK => S.o q.mv (S.o q.eql (S.o q.as (S.end (hK _ ?_))))
          clear hK K
          refine Ev.cd (fun c19 => ?_) (fun c19 => ?_)
          · first
          | (first | omega | contradiction)
          | refine Ev.sr fun K hK => S.o q.as (S.end (hK _ ?_))
            clear hK K
            refine Ev.ret ?_
            refine Ev.ret1 ?_
            refine ⟨?_, rfl⟩
            exact joinK_eq (by unfold joinK; repeat' split <;> omega)
          · first
          | (first | omega | contradiction)
          | refine Ev.skip ?_
            show Ev _ _ _ _
            refine Ev.sr fun K hK => S.o q.as (S.end (hK _ ?_))
            clear hK K
            refine Ev.ret ?_
            refine Ev.ret1 ?_
            refine ⟨?_, rfl⟩
            exact joinK_eq (by unfold joinK; repeat' split <;> omega)
    · first
    | (first | omega | contradiction)
    | refine Ev.region_S fun K hK => S.o q.eql (S.o q.as (S.end (hK _ ?_)))
      clear hK K
      show Ev _ _ _ _
      refine Ev.cd (fun c20 => ?_) (fun c20 => ?_)
      · first
      | (first | omega | contradiction)
      | refine Ev.block ?_
        refine Ev.sr fun K hK => S.o q.mv (S.o q.eql (S.bd q.mv (fun c21 => ?_) (fun c21 => ?_)))
        · first
        | (first | omega | contradiction)
        | refine S.o q.mv (S.o q.eql (S.o q.pt (S.o q.as (S.end (hK _ ?_)))))
          clear hK K
          refine Ev.cd (fun c22 => ?_) (fun c22 => ?_)
          · first
          | (first | omega | contradiction)
          | refine Ev.sr fun K hK => S.o q.as (S.end (hK _ ?_))
            clear hK K
            refine Ev.ret ?_
            refine Ev.ret1 ?_
            refine ⟨?_, rfl⟩
            exact joinK_eq (by unfold joinK; repeat' split <;> omega)
          · first
          | (first | omega | contradiction)
          | refine Ev.sr fun K hK => S.o q.mv (S.o q.as (S.end (hK _ ?_)))
            clear hK K
            refine Ev.cd (fun c23 => ?_) (fun c23 => ?_)
            · first
            | (first | omega | contradiction)
            | refine Ev.sr fun K hK => S.o q.as (S.end (hK _ ?_))
              clear hK K
              refine Ev.ret ?_
              refine Ev.ret1 ?_
              refine ⟨?_, rfl⟩
              exact joinK_eq (by unfold joinK; repeat' split <;> omega)
            · first
            | (first | omega | contradiction)
            | refine Ev.sr fun K hK => S.o q.mv (S.o q.eql (S.o q.as (S.end (hK _ ?_))))
              clear hK K
              refine Ev.cd (fun c24 => ?_) (fun c24 => ?_)
              · first
              | (first | omega | contradiction)
              | refine Ev.sr fun K hK => S.o q.as (S.end (hK _ ?_))
                clear hK K
                refine Ev.ret ?_
                refine Ev.ret1 ?_
                refine ⟨?_, rfl⟩
                exact joinK_eq (by unfold joinK; repeat' split <;> omega)
              · first
              | (first | omega | contradiction)
              | refine Ev.skip ?_
                show Ev _ _ _ _
                refine Ev.sr fun K hK => S.o q.as (S.end (hK _ ?_))
                clear hK K
                refine Ev.ret ?_
                refine Ev.ret1 ?_
                refine ⟨?_, rfl⟩
                exact joinK_eq (by unfold joinK; repeat' split <;> omega)
        · first
        | (first | omega | contradiction)
        | refine S.sk (S.sk (S.o q.pf (S.o q.as (S.end (hK _ ?_)))))
          clear hK K
          refine Ev.cf ?_
          refine Ev.sr fun K hK => S.o q.mv (S.o q.as (S.end (hK _ ?_)))
          clear hK K
          refine Ev.cd (fun c25 => ?_) (fun c25 => ?_)
          · first
          | (first | omega | contradiction)
          | refine Ev.sr fun K hK => S.o q.as (S.end (hK _ ?_))
            clear hK K
            refine Ev.ret ?_
            refine Ev.ret1 ?_
            refine ⟨?_, rfl⟩
            exact joinK_eq (by unfold joinK; repeat' split <;> omega)
          · first
          | (first | omega | contradiction)
          | refine Ev.sr fun K hK => S.o q.mv (S.o q.eql (S.o q.as (S.end (hK _ ?_))))
            clear hK K
            refine Ev.cd (fun c26 => ?_) (fun c26 => ?_)
            · first
            | (first | omega | contradiction)
            | refine Ev.sr fun K hK => S.o q.as (S.end (hK _ ?_))
              clear hK K
              refine Ev.ret ?_
              refine Ev.ret1 ?_
              refine ⟨?_, rfl⟩
              exact joinK_eq (by unfold joinK; repeat' split <;> omega)
            · first
            | (first | omega | contradiction)
            | refine Ev.skip ?_
              show Ev _ _ _ _
              refine Ev.sr fun K hK => S.o q.as (S.end (hK _ ?_))
              clear hK K
              refine Ev.ret ?_
              refine Ev.ret1 ?_
              refine ⟨?_, rfl⟩
              exact joinK_eq (by unfold joinK; repeat' split <;> omega)
      · first
      | (first | omega | contradiction)
      | refine Ev.sr fun K hK => S.o q.eql (S.o q.as (S.end (hK _ ?_)))
        clear hK K
        refine Ev.cd (fun c27 => ?_) (fun c27 => ?_)
        · first
        | (first | omega | contradiction)
        | refine Ev.block ?_
          refine Ev.sr fun K hK => S.o q.mv (S.o q.as (S.end (hK _ ?_)))
          clear hK K
          refine Ev.cd (fun c28 => ?_) (fun c28 => ?_)
          · first
          | (first | omega | contradiction)
          | refine Ev.sr fun K hK => S.o q.as (S.end (hK _ ?_))
            clear hK K
            refine Ev.ret ?_
            refine Ev.ret1 ?_
            refine ⟨?_, rfl⟩
            exact joinK_eq (by unfold joinK; repeat' split <;> omega)
          · first
          | (first | omega | contradiction)
          | refine Ev.sr fun K hK => S.o q.mv (S.o q.eql (S.o q.as (S.end (hK _ ?_))))
            clear hK K
            refine Ev.cd (fun c29 => ?_) (fun c29 => ?_)
            · first
            | (first | omega | contradiction)
            | refine Ev.sr fun K hK => S.o q.as (S.end (hK _ ?_))
              clear hK K
              refine Ev.ret ?_
              refine Ev.ret1 ?_
              refine ⟨?_, rfl⟩
              exact joinK_eq (by unfold joinK; repeat' split <;> omega)
            · first
            | (first | omega | contradiction)
            | refine Ev.skip ?_
              show Ev _ _ _ _
              refine Ev.sr fun K hK => S.o q.as (S.end (hK _ ?_))
              clear hK K
              refine Ev.ret ?_
              refine Ev.ret1 ?_
              refine ⟨?_, rfl⟩
              exact joinK_eq (by unfold joinK; repeat' split <;> omega)
        · first
        | (first | omega | contradiction)
        | refine Ev.sr fun K hK => S.o q.eql (S.o q.as (S.end (hK _ ?_)))
          clear hK K
          refine Ev.cd (fun c30 => ?_) (fun c30 => ?_)
          · first
          | (first | omega | contradiction)
          | refine Ev.sr fun K hK => S.o q.mv (S.end (hK _ ?_))
            clear hK K
            refine Ev.block ?_
            refine Ev.sr fun K hK => S.o q.eql (S.o q.as (S.end (hK _ ?_)))
            clear hK K
            refine Ev.cd (fun c31 => ?_) (fun c31 => ?_)
            · first
            | (first | omega | contradiction)
            | refine Ev.sr fun K hK => S.o q.as (S.end (hK _ ?_))
              clear hK K
              refine Ev.ret ?_
              refine Ev.ret1 ?_
              refine ⟨?_, rfl⟩
              exact joinK_eq (by unfold joinK; repeat' split <;> omega)
            · first
            | (first | omega | contradiction)
            | refine Ev.sr fun K hK => S.o q.eql (S.o q.as (S.end (hK _ ?_)))
              clear hK K
              refine Ev.cd (fun c32 => ?_) (fun c32 => ?_)
              · first
              | (first | omega | contradiction)
              | refine Ev.sr fun K hK => S.o q.as (S.end (hK _ ?_))
                clear hK K
                refine Ev.ret ?_
                refine Ev.ret1 ?_
                refine ⟨?_, rfl⟩
                exact joinK_eq (by unfold joinK; repeat' split <;> omega)
              · first
              | (first | omega | contradiction)
              | refine Ev.skip ?_
                show Ev _ _ _ _
                refine Ev.sr fun K hK => S.o q.as (S.end (hK _ ?_))
                clear hK K
                refine Ev.ret ?_
                refine Ev.ret1 ?_
                refine ⟨?_, rfl⟩
                exact joinK_eq (by unfold joinK; repeat' split <;> omega)
          · first
          | (first | omega | contradiction)
          | refine Ev.sr fun K hK => S.o q.mv (S.o q.eql (S.end (hK _ ?_)))
            clear hK K
            refine Ev.cd (fun c33 => ?_) (fun c33 => ?_)
            · first
            | (first | omega | contradiction)
            | refine Ev.sr fun K hK => S.o q.as (S.end (hK _ ?_))
              clear hK K
              refine Ev.ret ?_
              refine Ev.ret1 ?_
              refine ⟨?_, rfl⟩
              exact joinK_eq (by unfold joinK; repeat' split <;> omega)
            · first
            | (first | omega | contradiction)
            | refine Ev.skip ?_
              show Ev _ _ _ _
              refine Ev.sr fun K hK => S.o q.as (S.end (hK _ ?_))
              clear hK K
              refine Ev.ret ?_
              refine Ev.ret1 ?_
              refine ⟨?_, rfl⟩
              exact joinK_eq (by unfold joinK; repeat' split <;> omega)
theorem put_fun (mk : List UInt8) (k : Int) (l : List Chg) (hk : 0 < k) (hl : l.length ≤ 1000000) : FunR Try.prog 59 [.lit (str mk), .lit (.int .i64 k), .adr 0 0 0] [(0, ⟨false, 25, 1, [[.als 1 0 l.length]], false⟩), (1, ⟨true, 36, 2, l.map findC, true⟩)] 2
    (Ret (.lit (.bool (decide (0 ≤ k)))) [(0, ⟨false, 25, 1, [[.als 2 0 (l ++ [(k, mk)]).length]], false⟩), (2, ⟨true, 36, 2, (l ++ [(k, mk)]).map findC, true⟩)]) := by
  refine FunR.of (nt := 16) (rs := [.tmp 5]) Try.func59 rfl rfl rfl rfl rfl ?_
  refine Ev.sr fun K hK => S.o q.as (S.end (hK _ ?_))
  clear hK K
  refine Ev.seq ?_
  refine Ev.sr fun K hK => S.o q.mv (S.o q.gtr (S.end (hK _ ?_)))
  clear hK K
  refine Ev.cd (fun c1 => ?_) (fun c1 => ?_)
  · first
  | (first | omega | contradiction)
  | refine Ev.region_S fun K hK => S.o (q.lv am_ag25) (S.o q.mv (S.o q.mv (S.o (q.bd [_, _] am_ze36 am_pl36) (S.nn (q.bs [[_, _]] true am_el25 am_ze36 am_cl36) (S.ap' [_, _] am_el25 am_ze36 am_cl36 am_by36 (hh := head_own') (hr := (rows_lit [(⟨_, _⟩ : Int × List UInt8)])) (h := S.sv [_] false [_, _] am_in25 am_cl25 (h := S.end (hK _ ?_))))))))
    clear hK K
    show Ev _ _ _ _
    refine Ev.sr fun K hK => S.o q.mv (S.o q.geq (S.o q.as (S.end (hK _ ?_))))
    clear hK K
    refine Ev.ret ?_
    refine Ev.rr1 [0, 1, 3] (keepR_d (h := (keepR_g (h := (keepR_c (h := keepR_n)))))) (leadsB rfl) ?_
    refine ⟨?_, ?_⟩
    all_goals first | rfl | (exfalso; omega)
  · first
  | (first | omega | contradiction)
  | refine Ev.skip ?_
    show Ev _ _ _ _
    refine Ev.sr fun K hK => S.o q.mv (S.o q.geq (S.o q.as (S.end (hK _ ?_))))
    clear hK K
    refine Ev.ret ?_
    refine Ev.rr1 [0, 1] (keepR_d (h := (keepR_c (h := keepR_n)))) leads2 ?_
    refine ⟨?_, ?_⟩
    all_goals first | rfl | (exfalso; omega)
theorem put0_fun (mk : List UInt8) (k : Int) (l : List Chg) (hk : k ≤ 0) (hl : l.length ≤ 1000000) : FunR Try.prog 59 [.lit (str mk), .lit (.int .i64 k), .adr 0 0 0] [(0, ⟨false, 25, 1, [[.als 1 0 l.length]], false⟩), (1, ⟨true, 36, 2, l.map findC, true⟩)] 2
    (Ret (.lit (.bool (decide (0 ≤ k)))) [(0, ⟨false, 25, 1, [[.als 1 0 l.length]], false⟩), (1, ⟨true, 36, 2, l.map findC, true⟩)]) := by
  refine FunR.of (nt := 16) (rs := [.tmp 5]) Try.func59 rfl rfl rfl rfl rfl ?_
  refine Ev.sr fun K hK => S.o q.as (S.end (hK _ ?_))
  clear hK K
  refine Ev.seq ?_
  refine Ev.sr fun K hK => S.o q.mv (S.o q.gtr (S.end (hK _ ?_)))
  clear hK K
  refine Ev.cd (fun c1 => ?_) (fun c1 => ?_)
  · first
  | (first | omega | contradiction)
  | refine Ev.region_S fun K hK => S.o (q.lv am_ag25) (S.o q.mv (S.o q.mv (S.o (q.bd [_, _] am_ze36 am_pl36) (S.nn (q.bs [[_, _]] true am_el25 am_ze36 am_cl36) (S.ap' [_, _] am_el25 am_ze36 am_cl36 am_by36 (hh := head_own') (hr := (rows_lit [(⟨_, _⟩ : Int × List UInt8)])) (h := S.sv [_] false [_, _] am_in25 am_cl25 (h := S.end (hK _ ?_))))))))
    clear hK K
    show Ev _ _ _ _
    refine Ev.sr fun K hK => S.o q.mv (S.o q.geq (S.o q.as (S.end (hK _ ?_))))
    clear hK K
    refine Ev.ret ?_
    refine Ev.rr1 [0, 1, 3] (keepR_d (h := (keepR_g (h := (keepR_c (h := keepR_n)))))) (leadsB rfl) ?_
    refine ⟨?_, ?_⟩
    all_goals first | rfl | (exfalso; omega)
  · first
  | (first | omega | contradiction)
  | refine Ev.skip ?_
    show Ev _ _ _ _
    refine Ev.sr fun K hK => S.o q.mv (S.o q.geq (S.o q.as (S.end (hK _ ?_))))
    clear hK K
    refine Ev.ret ?_
    refine Ev.rr1 [0, 1] (keepR_d (h := (keepR_c (h := keepR_n)))) leads2 ?_
    refine ⟨?_, ?_⟩
    all_goals first | rfl | (exfalso; omega)
end Go.Proofs.Ytccddakkegelkaa
