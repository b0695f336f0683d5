/-
  Layer 41: joining kinds.
  Conditions: none.
-/
import Derived.Test.YtccddakkegelkaaGreatDoorRev1
import Derived.Test.YtccddakkegelkaaGreatDoorAmOwn
import Derived.Test.YtccddakkegelkaaGreatDoorBase
namespace Go.Proofs.YtccddakkegelkaaGreatDoor
open Go Go.AM
set_option linter.unusedSimpArgs false
set_option linter.unusedVariables false
set_option maxRecDepth 100000

def joinK (f l : Int) : Int :=
  if f = 1 ∨ f = 2 then (if f = 1 ∧ l = 1 then 1 else if l = 1 ∨ l = 2 then 2 else if l = 4 then 4 else -1)
  else if f = 3 then (if l = 1 ∨ l = 2 then 3 else if l = 4 then 0 else -1)
  else if f = 4 then (if l = 3 then 2 else if l = 0 then 4 else -1)
  else if l = 3 then 3 else -1
theorem joinK_eq {f l k : Int} (h : joinK f l = k) : AV.lit (.int .i64 k) = .lit (.int .i64 (joinK f l)) := by rw [h]
theorem joined_fun (f l : Int) : Fun Tryz.prog 36 [.lit (.int .i64 f), .lit (.int .i64 l)] (Ret (.lit (.int .i64 (joinK f l))) []) := by
  refine Fun.of (nt := 44) (rs := [.tmp 4]) Tryz.func36 rfl rfl rfl rfl rfl ?_
  refine Ev.sr fun K hK => S.o q.as (S.end (hK _ ?_))
  clear hK K
  refine Ev.sr fun K hK => S.o q.mv (S.o q.eql (S.bd q.mv (fun c1 => ?_) (fun c1 => ?_)))
  · first
  | (first | omega | contradiction)
  | refine S.sk (S.sk (S.o q.pt (S.o q.as (S.end (hK _ ?_)))))
    clear hK K
    refine Ev.seq ?_
    refine Ev.sr fun K hK => S.o q.mv (S.end (hK _ ?_))
    clear hK K
    refine Ev.block ?_
    refine Ev.seq ?_
    refine Ev.sr fun K hK => S.o q.eql (S.o q.as (S.end (hK _ ?_)))
    clear hK K
    refine Ev.cd (fun c2 => ?_) (fun c2 => ?_)
    · first
    | (first | omega | contradiction)
    | refine Ev.skip ?_
      show Ev _ _ _ _
      refine Ev.cd (fun _ => ?_) (fun c => absurd c2 c)
      refine Ev.block ?_
      refine Ev.sr fun K hK => S.o q.mv (S.o q.eql (S.bd q.mv (fun c3 => ?_) (fun c3 => ?_)))
      · first
      | (first | omega | contradiction)
      | refine S.o q.mv (S.o q.eql (S.o q.pt (S.o q.as (S.end (hK _ ?_)))))
        clear hK K
        refine Ev.cd (fun c4 => ?_) (fun c4 => ?_)
        · first
        | (first | omega | contradiction)
        | refine Ev.sr fun K hK => S.o q.as (S.end (hK _ ?_))
          clear hK K
          refine Ev.ret ?_
          refine Ev.ret1 ?_
          refine ⟨?_, rfl⟩
          exact joinK_eq (by unfold joinK; repeat' split <;> omega)
        · first
        | (first | omega | contradiction)
        | refine Ev.sr fun K hK => S.o q.mv (S.o q.as (S.end (hK _ ?_)))
          clear hK K
          refine Ev.ct ?_
          refine Ev.sr fun K hK => S.o q.as (S.end (hK _ ?_))
          clear hK K
          refine Ev.ret ?_
          refine Ev.ret1 ?_
          refine ⟨?_, rfl⟩
          exact joinK_eq (by unfold joinK; repeat' split <;> omega)
      · first
      | (first | omega | contradiction)
      | refine S.sk (S.sk (S.o q.pf (S.o q.as (S.end (hK _ ?_)))))
        clear hK K
        refine Ev.cf ?_
        refine Ev.sr fun K hK => S.o q.mv (S.o q.as (S.end (hK _ ?_)))
        clear hK K
        refine Ev.ct ?_
        refine Ev.sr fun K hK => S.o q.as (S.end (hK _ ?_))
        clear hK K
        refine Ev.ret ?_
        refine Ev.ret1 ?_
        refine ⟨?_, rfl⟩
        exact joinK_eq (by unfold joinK; repeat' split <;> omega)
    · first
    | (first | omega | contradiction)
    | refine Ev.region_S fun K hK => S.o q.eql (S.o q.as (S.end (hK _ ?_)))
      clear hK K
      show Ev _ _ _ _
      refine Ev.cd (fun c5 => ?_) (fun c5 => ?_)
      · first
      | (first | omega | contradiction)
      | refine Ev.block ?_
        refine Ev.sr fun K hK => S.o q.mv (S.o q.eql (S.bd q.mv (fun c6 => ?_) (fun c6 => ?_)))
        · first
        | (first | omega | contradiction)
        | refine S.o q.mv (S.o q.eql (S.o q.pt (S.o q.as (S.end (hK _ ?_)))))
          clear hK K
          refine Ev.cd (fun c7 => ?_) (fun c7 => ?_)
          · first
          | (first | omega | contradiction)
          | refine Ev.sr fun K hK => S.o q.as (S.end (hK _ ?_))
            clear hK K
            refine Ev.ret ?_
            refine Ev.ret1 ?_
            refine ⟨?_, rfl⟩
            exact joinK_eq (by unfold joinK; repeat' split <;> omega)
          · first
          | (first | omega | contradiction)
          | refine Ev.sr fun K hK => S.o q.mv (S.o q.as (S.end (hK _ ?_)))
            clear hK K
            refine Ev.ct ?_
            refine Ev.sr fun K hK => S.o q.as (S.end (hK _ ?_))
            clear hK K
            refine Ev.ret ?_
            refine Ev.ret1 ?_
            refine ⟨?_, rfl⟩
            exact joinK_eq (by unfold joinK; repeat' split <;> omega)
        · first
        | (first | omega | contradiction)
        | refine S.sk (S.sk (S.o q.pf (S.o q.as (S.end (hK _ ?_)))))
          clear hK K
          refine Ev.cf ?_
          refine Ev.sr fun K hK => S.o q.mv (S.o q.as (S.end (hK _ ?_)))
          clear hK K
          refine Ev.ct ?_
          refine Ev.sr fun K hK => S.o q.as (S.end (hK _ ?_))
          clear hK K
          refine Ev.ret ?_
          refine Ev.ret1 ?_
          refine ⟨?_, rfl⟩
          exact joinK_eq (by unfold joinK; repeat' split <;> omega)
      · first
      | (first | omega | contradiction)
      | refine Ev.sr fun K hK => S.o q.eql (S.o q.as (S.end (hK _ ?_)))
        clear hK K
        refine Ev.cd (fun c8 => ?_) (fun c8 => ?_)
        · first
        | (first | omega | contradiction)
        | refine Ev.block ?_
          refine Ev.sr fun K hK => S.o q.mv (S.o q.as (S.end (hK _ ?_)))
          clear hK K
          refine Ev.ct ?_
          refine Ev.sr fun K hK => S.o q.as (S.end (hK _ ?_))
          clear hK K
          refine Ev.ret ?_
          refine Ev.ret1 ?_
          refine ⟨?_, rfl⟩
          exact joinK_eq (by unfold joinK; repeat' split <;> omega)
        · first
        | (first | omega | contradiction)
        | refine Ev.sr fun K hK => S.o q.eql (S.o q.as (S.end (hK _ ?_)))
          clear hK K
          refine Ev.cd (fun c9 => ?_) (fun c9 => ?_)
          · first
          | (first | omega | contradiction)
          | refine Ev.sr fun K hK => S.o q.mv (S.end (hK _ ?_))
            clear hK K
            refine Ev.block ?_
            refine Ev.sr fun K hK => S.o q.eql (S.o q.as (S.end (hK _ ?_)))
            clear hK K
            refine Ev.cd (fun c10 => ?_) (fun c10 => ?_)
            · first
            | (first | omega | contradiction)
            | refine Ev.sr fun K hK => S.o q.as (S.end (hK _ ?_))
              clear hK K
              refine Ev.ret ?_
              refine Ev.ret1 ?_
              refine ⟨?_, rfl⟩
              exact joinK_eq (by unfold joinK; repeat' split <;> omega)
            · first
            | (first | omega | contradiction)
            | refine Ev.sr fun K hK => S.o q.eql (S.o q.as (S.end (hK _ ?_)))
              clear hK K
              refine Ev.cd (fun c11 => ?_) (fun c11 => ?_)
              · first
              | (first | omega | contradiction)
              | refine Ev.sr fun K hK => S.o q.as (S.end (hK _ ?_))
                clear hK K
                refine Ev.ret ?_
                refine Ev.ret1 ?_
                refine ⟨?_, rfl⟩
                exact joinK_eq (by unfold joinK; repeat' split <;> omega)
              · first
              | (first | omega | contradiction)
              | refine Ev.skip ?_
                show Ev _ _ _ _
                refine Ev.sr fun K hK => S.o q.as (S.end (hK _ ?_))
                clear hK K
                refine Ev.ret ?_
                refine Ev.ret1 ?_
                refine ⟨?_, rfl⟩
                exact joinK_eq (by unfold joinK; repeat' split <;> omega)
          · first
          | (first | omega | contradiction)
          | refine Ev.sr fun K hK => S.o q.mv (S.o q.eql (S.end (hK _ ?_)))
            clear hK K
            refine Ev.cd (fun c12 => ?_) (fun c12 => ?_)
            · first
            | (first | omega | contradiction)
            | refine Ev.sr fun K hK => S.o q.as (S.end (hK _ ?_))
              clear hK K
              refine Ev.ret ?_
              refine Ev.ret1 ?_
              refine ⟨?_, rfl⟩
              exact joinK_eq (by unfold joinK; repeat' split <;> omega)
            · first
            | (first | omega | contradiction)
            | refine Ev.skip ?_
              show Ev _ _ _ _
              refine Ev.sr fun K hK => S.o q.as (S.end (hK _ ?_))
              clear hK K
              refine Ev.ret ?_
              refine Ev.ret1 ?_
              refine ⟨?_, rfl⟩
              exact joinK_eq (by unfold joinK; repeat' split <;> omega)
  · first
  | (first | omega | contradiction)
  | refine S.o q.mv (S.o q.eql (S.o q.pf (S.o q.as (S.end (hK _ ?_)))))
    clear hK K
    refine Ev.seq ?_
    refine Ev.sr fun K hK => S.o q.mv (S.end (hK _ ?_))
    clear hK K
    refine Ev.block ?_
    refine Ev.seq ?_
    refine Ev.sr fun K hK => S.o q.eql (S.o q.as (S.end (hK _ ?_)))
    clear hK K
    refine Ev.cd (fun c13 => ?_) (fun c13 => ?_)
    · first
    | (first | omega | contradiction)
    | refine Ev.skip ?_
      show Ev _ _ _ _
      refine Ev.cd (fun _ => ?_) (fun c => absurd c13 c)
      refine Ev.block ?_
      refine Ev.sr fun K hK => S.o q.mv (S.o q.eql (S.bd q.mv (fun c14 => ?_) (fun c14 => ?_)))
      · first
      | (first | omega | contradiction)
      | refine S.o q.mv (S.o q.eql (S.o q.pt (S.o q.as (S.end (hK _ ?_)))))
        clear hK K
        refine Ev.cd (fun c15 => ?_) (fun c15 => ?_)
        · first
        | (first | omega | contradiction)
        | refine Ev.sr fun K hK => S.o q.as (S.end (hK _ ?_))
          clear hK K
          refine Ev.ret ?_
          refine Ev.ret1 ?_
          refine ⟨?_, rfl⟩
          exact joinK_eq (by unfold joinK; repeat' split <;> omega)
        · first
        | (first | omega | contradiction)
        | refine Ev.sr fun K hK => S.o q.mv (S.o q.as (S.end (hK _ ?_)))
          clear hK K
          refine Ev.cd (fun c16 => ?_) (fun c16 => ?_)
          · first
          | (first | omega | contradiction)
          | refine Ev.sr fun K hK => S.o q.as (S.end (hK _ ?_))
            clear hK K
            refine Ev.ret ?_
            refine Ev.ret1 ?_
            refine ⟨?_, rfl⟩
            exact joinK_eq (by unfold joinK; repeat' split <;> omega)
          · first
          | (first | omega | contradiction)
          | refine Ev.sr fun K hK => S.o q.mv (S.o q.eql (S.o q.as (S.end (hK _ ?_))))
            clear hK K
            refine Ev.cd (fun c17 => ?_) (fun c17 => ?_)
            · first
            | (first | omega | contradiction)
            | refine Ev.sr fun K hK => S.o q.as (S.end (hK _ ?_))
              clear hK K
              refine Ev.ret ?_
              refine Ev.ret1 ?_
              refine ⟨?_, rfl⟩
              exact joinK_eq (by unfold joinK; repeat' split <;> omega)
            · first
            | (first | omega | contradiction)
            | refine Ev.skip ?_
              show Ev _ _ _ _
              refine Ev.sr fun K hK => S.o q.as (S.end (hK _ ?_))
              clear hK K
              refine Ev.ret ?_
              refine Ev.ret1 ?_
              refine ⟨?_, rfl⟩
              exact joinK_eq (by unfold joinK; repeat' split <;> omega)
      · first
      | (first | omega | contradiction)
      | refine S.sk (S.sk (S.o q.pf (S.o q.as (S.end (hK _ ?_)))))
        clear hK K
        refine Ev.cf ?_
        refine Ev.sr fun K hK => S.o q.mv (S.o q.as (S.end (hK _ ?_)))
        clear hK K
        refine Ev.cd (fun c18 => ?_) (fun c18 => ?_)
        · first
        | (first | omega | contradiction)
        | refine Ev.sr fun K hK => S.o q.as (S.end (hK _ ?_))
          clear hK K
          refine Ev.ret ?_
          refine Ev.ret1 ?_
          refine ⟨?_, rfl⟩
          exact joinK_eq (by unfold joinK; repeat' split <;> omega)
        · first
        | (first | omega | contradiction)
        | refine Ev.sr fun K hK => S.o q.mv (S.o q.eql (S.o q.as (S.end (hK _ ?_))))
          clear hK K
          refine Ev.cd (fun c19 => ?_) (fun c19 => ?_)
          · first
          | (first | omega | contradiction)
          | refine Ev.sr fun K hK => S.o q.as (S.end (hK _ ?_))
            clear hK K
            refine Ev.ret ?_
            refine Ev.ret1 ?_
            refine ⟨?_, rfl⟩
            exact joinK_eq (by unfold joinK; repeat' split <;> omega)
          · first
          | (first | omega | contradiction)
          | refine Ev.skip ?_
            show Ev _ _ _ _
            refine Ev.sr fun K hK => S.o q.as (S.end (hK _ ?_))
            clear hK K
            refine Ev.ret ?_
            refine Ev.ret1 ?_
            refine ⟨?_, rfl⟩
            exact joinK_eq (by unfold joinK; repeat' split <;> omega)
    · first
    | (first | omega | contradiction)
    | refine Ev.region_S fun K hK => S.o q.eql (S.o q.as (S.end (hK _ ?_)))
      clear hK K
      show Ev _ _ _ _
      refine Ev.cd (fun c20 => ?_) (fun c20 => ?_)
      · first
      | (first | omega | contradiction)
      | refine Ev.block ?_
        refine Ev.sr fun K hK => S.o q.mv (S.o q.eql (S.bd q.mv (fun c21 => ?_) (fun c21 => ?_)))
        · first
        | (first | omega | contradiction)
        | refine S.o q.mv (S.o q.eql (S.o q.pt (S.o q.as (S.end (hK _ ?_)))))
          clear hK K
          refine Ev.cd (fun c22 => ?_) (fun c22 => ?_)
          · first
          | (first | omega | contradiction)
          | refine Ev.sr fun K hK => S.o q.as (S.end (hK _ ?_))
            clear hK K
            refine Ev.ret ?_
            refine Ev.ret1 ?_
            refine ⟨?_, rfl⟩
            exact joinK_eq (by unfold joinK; repeat' split <;> omega)
          · first
          | (first | omega | contradiction)
          | refine Ev.sr fun K hK => S.o q.mv (S.o q.as (S.end (hK _ ?_)))
            clear hK K
            refine Ev.cd (fun c23 => ?_) (fun c23 => ?_)
            · first
            | (first | omega | contradiction)
            | refine Ev.sr fun K hK => S.o q.as (S.end (hK _ ?_))
              clear hK K
              refine Ev.ret ?_
              refine Ev.ret1 ?_
              refine ⟨?_, rfl⟩
              exact joinK_eq (by unfold joinK; repeat' split <;> omega)
            · first
            | (first | omega | contradiction)
            | refine Ev.sr fun K hK => S.o q.mv (S.o q.eql (S.o q.as (S.end (hK _ ?_))))
              clear hK K
              refine Ev.cd (fun c24 => ?_) (fun c24 => ?_)
              · first
              | (first | omega | contradiction)
              | refine Ev.sr fun K hK => S.o q.as (S.end (hK _ ?_))
                clear hK K
                refine Ev.ret ?_
                refine Ev.ret1 ?_
                refine ⟨?_, rfl⟩
                exact joinK_eq (by unfold joinK; repeat' split <;> omega)
              · first
              | (first | omega | contradiction)
              | refine Ev.skip ?_
                show Ev _ _ _ _
                refine Ev.sr fun K hK => S.o q.as (S.end (hK _ ?_))
                clear hK K
                refine Ev.ret ?_
                refine Ev.ret1 ?_
                refine ⟨?_, rfl⟩
                exact joinK_eq (by unfold joinK; repeat' split <;> omega)
        · first
        | (first | omega | contradiction)
        | refine S.sk (S.sk (S.o q.pf (S.o q.as (S.end (hK _ ?_)))))
          clear hK K
          refine Ev.cf ?_
          refine Ev.sr fun K hK => S.o q.mv (S.o q.as (S.end (hK _ ?_)))
          clear hK K
          refine Ev.cd (fun c25 => ?_) (fun c25 => ?_)
          · first
          | (first | omega | contradiction)
          | refine Ev.sr fun K hK => S.o q.as (S.end (hK _ ?_))
            clear hK K
            refine Ev.ret ?_
            refine Ev.ret1 ?_
            refine ⟨?_, rfl⟩
            exact joinK_eq (by unfold joinK; repeat' split <;> omega)
          · first
          | (first | omega | contradiction)
          | refine Ev.sr fun K hK => S.o q.mv (S.o q.eql (S.o q.as (S.end (hK _ ?_))))
            clear hK K
            refine Ev.cd (fun c26 => ?_) (fun c26 => ?_)
            · first
            | (first | omega | contradiction)
            | refine Ev.sr fun K hK => S.o q.as (S.end (hK _ ?_))
              clear hK K
              refine Ev.ret ?_
              refine Ev.ret1 ?_
              refine ⟨?_, rfl⟩
              exact joinK_eq (by unfold joinK; repeat' split <;> omega)
            · first
            | (first | omega | contradiction)
            | refine Ev.skip ?_
              show Ev _ _ _ _
              refine Ev.sr fun K hK => S.o q.as (S.end (hK _ ?_))
              clear hK K
              refine Ev.ret ?_
              refine Ev.ret1 ?_
              refine ⟨?_, rfl⟩
              exact joinK_eq (by unfold joinK; repeat' split <;> omega)
      · first
      | (first | omega | contradiction)
      | refine Ev.sr fun K hK => S.o q.eql (S.o q.as (S.end (hK _ ?_)))
        clear hK K
        refine Ev.cd (fun c27 => ?_) (fun c27 => ?_)
        · first
        | (first | omega | contradiction)
        | refine Ev.block ?_
          refine Ev.sr fun K hK => S.o q.mv (S.o q.as (S.end (hK _ ?_)))
          clear hK K
          refine Ev.cd (fun c28 => ?_) (fun c28 => ?_)
          · first
          | (first | omega | contradiction)
          | refine Ev.sr fun K hK => S.o q.as (S.end (hK _ ?_))
            clear hK K
            refine Ev.ret ?_
            refine Ev.ret1 ?_
            refine ⟨?_, rfl⟩
            exact joinK_eq (by unfold joinK; repeat' split <;> omega)
          · first
          | (first | omega | contradiction)
          | refine Ev.sr fun K hK => S.o q.mv (S.o q.eql (S.o q.as (S.end (hK _ ?_))))
            clear hK K
            refine Ev.cd (fun c29 => ?_) (fun c29 => ?_)
            · first
            | (first | omega | contradiction)
            | refine Ev.sr fun K hK => S.o q.as (S.end (hK _ ?_))
              clear hK K
              refine Ev.ret ?_
              refine Ev.ret1 ?_
              refine ⟨?_, rfl⟩
              exact joinK_eq (by unfold joinK; repeat' split <;> omega)
            · first
            | (first | omega | contradiction)
            | refine Ev.skip ?_
              show Ev _ _ _ _
              refine Ev.sr fun K hK => S.o q.as (S.end (hK _ ?_))
              clear hK K
              refine Ev.ret ?_
              refine Ev.ret1 ?_
              refine ⟨?_, rfl⟩
              exact joinK_eq (by unfold joinK; repeat' split <;> omega)
        · first
        | (first | omega | contradiction)
        | refine Ev.sr fun K hK => S.o q.eql (S.o q.as (S.end (hK _ ?_)))
          clear hK K
          refine Ev.cd (fun c30 => ?_) (fun c30 => ?_)
          · first
          | (first | omega | contradiction)
          | refine Ev.sr fun K hK => S.o q.mv (S.end (hK _ ?_))
            clear hK K
            refine Ev.block ?_
            refine Ev.sr fun K hK => S.o q.eql (S.o q.as (S.end (hK _ ?_)))
            clear hK K
            refine Ev.cd (fun c31 => ?_) (fun c31 => ?_)
            · first
            | (first | omega | contradiction)
            | refine Ev.sr fun K hK => S.o q.as (S.end (hK _ ?_))
              clear hK K
              refine Ev.ret ?_
              refine Ev.ret1 ?_
              refine ⟨?_, rfl⟩
              exact joinK_eq (by unfold joinK; repeat' split <;> omega)
            · first
            | (first | omega | contradiction)
            | refine Ev.sr fun K hK => S.o q.eql (S.o q.as (S.end (hK _ ?_)))
              clear hK K
              refine Ev.cd (fun c32 => ?_) (fun c32 => ?_)
              · first
              | (first | omega | contradiction)
              | refine Ev.sr fun K hK => S.o q.as (S.end (hK _ ?_))
                clear hK K
                refine Ev.ret ?_
                refine Ev.ret1 ?_
                refine ⟨?_, rfl⟩
                exact joinK_eq (by unfold joinK; repeat' split <;> omega)
              · first
              | (first | omega | contradiction)
              | refine Ev.skip ?_
                show Ev _ _ _ _
                refine Ev.sr fun K hK => S.o q.as (S.end (hK _ ?_))
                clear hK K
                refine Ev.ret ?_
                refine Ev.ret1 ?_
                refine ⟨?_, rfl⟩
                exact joinK_eq (by unfold joinK; repeat' split <;> omega)
          · first
          | (first | omega | contradiction)
          | refine Ev.sr fun K hK => S.o q.mv (S.o q.eql (S.end (hK _ ?_)))
            clear hK K
            refine Ev.cd (fun c33 => ?_) (fun c33 => ?_)
            · first
            | (first | omega | contradiction)
            | refine Ev.sr fun K hK => S.o q.as (S.end (hK _ ?_))
              clear hK K
              refine Ev.ret ?_
              refine Ev.ret1 ?_
              refine ⟨?_, rfl⟩
              exact joinK_eq (by unfold joinK; repeat' split <;> omega)
            · first
            | (first | omega | contradiction)
            | refine Ev.skip ?_
              show Ev _ _ _ _
              refine Ev.sr fun K hK => S.o q.as (S.end (hK _ ?_))
              clear hK K
              refine Ev.ret ?_
              refine Ev.ret1 ?_
              refine ⟨?_, rfl⟩
              exact joinK_eq (by unfold joinK; repeat' split <;> omega)
theorem put_fun (mk : List UInt8) (k : Int) (l : List Chg) (hk : 0 < k) (hl : l.length ≤ 1000000) : FunR Tryz.prog 35 [.lit (str mk), .lit (.int .i64 k), .adr 0 0 0] [(0, ⟨false, 25, 1, [[.als 1 0 l.length]], false⟩), (1, ⟨true, 34, 2, l.map findC, true⟩)] 2
    (Ret (.lit (.bool (decide (0 ≤ k)))) [(0, ⟨false, 25, 1, [[.als 2 0 (l ++ [(k, mk)]).length]], false⟩), (2, ⟨true, 34, 2, (l ++ [(k, mk)]).map findC, true⟩)]) := by
  refine FunR.of (nt := 16) (rs := [.tmp 5]) Tryz.func35 rfl rfl rfl rfl rfl ?_
  refine Ev.sr fun K hK => S.o q.as (S.end (hK _ ?_))
  clear hK K
  refine Ev.seq ?_
  refine Ev.sr fun K hK => S.o q.mv (S.o q.gtr (S.end (hK _ ?_)))
  clear hK K
  refine Ev.cd (fun c1 => ?_) (fun c1 => ?_)
  · first
  | (first | omega | contradiction)
  | refine Ev.region_S fun K hK => S.o (q.lv am_ag25) (S.o q.mv (S.o q.mv (S.o (q.bd [_, _] am_ze34 am_pl34) (S.nn (q.bs [[_, _]] true am_el25 am_ze34 am_cl34) (S.ap' [_, _] am_el25 am_ze34 am_cl34 am_by34 (hh := head_own') (hr := (rows_lit [(⟨_, _⟩ : Int × List UInt8)])) (h := S.sv [_] false [_, _] am_in25 am_cl25 (h := S.end (hK _ ?_))))))))
    clear hK K
    show Ev _ _ _ _
    refine Ev.sr fun K hK => S.o q.mv (S.o q.geq (S.o q.as (S.end (hK _ ?_))))
    clear hK K
    refine Ev.ret ?_
    refine Ev.rr1 [0, 1, 3] (keepR_d (h := (keepR_g (h := (keepR_c (h := keepR_n)))))) (leadsB rfl) ?_
    refine ⟨?_, ?_⟩
    all_goals first | rfl | (exfalso; omega)
  · first
  | (first | omega | contradiction)
  | refine Ev.skip ?_
    show Ev _ _ _ _
    refine Ev.sr fun K hK => S.o q.mv (S.o q.geq (S.o q.as (S.end (hK _ ?_))))
    clear hK K
    refine Ev.ret ?_
    refine Ev.rr1 [0, 1] (keepR_d (h := (keepR_c (h := keepR_n)))) leads2 ?_
    refine ⟨?_, ?_⟩
    all_goals first | rfl | (exfalso; omega)
theorem put0_fun (mk : List UInt8) (k : Int) (l : List Chg) (hk : k ≤ 0) (hl : l.length ≤ 1000000) : FunR Tryz.prog 35 [.lit (str mk), .lit (.int .i64 k), .adr 0 0 0] [(0, ⟨false, 25, 1, [[.als 1 0 l.length]], false⟩), (1, ⟨true, 34, 2, l.map findC, true⟩)] 2
    (Ret (.lit (.bool (decide (0 ≤ k)))) [(0, ⟨false, 25, 1, [[.als 1 0 l.length]], false⟩), (1, ⟨true, 34, 2, l.map findC, true⟩)]) := by
  refine FunR.of (nt := 16) (rs := [.tmp 5]) Tryz.func35 rfl rfl rfl rfl rfl ?_
  refine Ev.sr fun K hK => S.o q.as (S.end (hK _ ?_))
  clear hK K
  refine Ev.seq ?_
  refine Ev.sr fun K hK => S.o q.mv (S.o q.gtr (S.end (hK _ ?_)))
  clear hK K
  refine Ev.cd (fun c1 => ?_) (fun c1 => ?_)
  · first
  | (first | omega | contradiction)
  | refine Ev.region_S fun K hK => S.o (q.lv am_ag25) (S.o q.mv (S.o q.mv (S.o (q.bd [_, _] am_ze34 am_pl34) (S.nn (q.bs [[_, _]] true am_el25 am_ze34 am_cl34) (S.ap' [_, _] am_el25 am_ze34 am_cl34 am_by34 (hh := head_own') (hr := (rows_lit [(⟨_, _⟩ : Int × List UInt8)])) (h := S.sv [_] false [_, _] am_in25 am_cl25 (h := S.end (hK _ ?_))))))))
    clear hK K
    show Ev _ _ _ _
    refine Ev.sr fun K hK => S.o q.mv (S.o q.geq (S.o q.as (S.end (hK _ ?_))))
    clear hK K
    refine Ev.ret ?_
    refine Ev.rr1 [0, 1, 3] (keepR_d (h := (keepR_g (h := (keepR_c (h := keepR_n)))))) (leadsB rfl) ?_
    refine ⟨?_, ?_⟩
    all_goals first | rfl | (exfalso; omega)
  · first
  | (first | omega | contradiction)
  | refine Ev.skip ?_
    show Ev _ _ _ _
    refine Ev.sr fun K hK => S.o q.mv (S.o q.geq (S.o q.as (S.end (hK _ ?_))))
    clear hK K
    refine Ev.ret ?_
    refine Ev.rr1 [0, 1] (keepR_d (h := (keepR_c (h := keepR_n)))) leads2 ?_
    refine ⟨?_, ?_⟩
    all_goals first | rfl | (exfalso; omega)
end Go.Proofs.YtccddakkegelkaaGreatDoor
namespace Go.Proofs.YtccddakkegelkaaGreatDoor
open Go Go.AM
set_option linter.unusedSimpArgs false
set_option linter.unusedVariables false
set_option maxRecDepth 100000

theorem opt_len {T : Type} (o : Option T) : o.toList.length ≤ 1 := by cases o <;> simp
theorem flat_len {T U : Type} (f : T → List U) (h : ∀ x, (f x).length ≤ 1) : ∀ l : List T, (l.flatMap f).length ≤ l.length
  | [] => by simp
  | x :: l => by
    have := h x
    have := flat_len f h l
    simp only [List.flatMap_cons, List.length_append, List.length_cons]
    omega
theorem flat_snoc {T U : Type} (f : T → List U) (l : List T) (s : T) : (l ++ [s]).flatMap f = l.flatMap f ++ f s := by simp
end Go.Proofs.YtccddakkegelkaaGreatDoor
namespace Go.Proofs.YtccddakkegelkaaGreatDoor
open Go Go.AM
set_option linter.unusedSimpArgs false
set_option linter.unusedVariables false
set_option maxRecDepth 100000

def joinF (m : List Chg) (c : Chg) : List Chg := if 0 < joinK c.1 (ofK m c.2) then [(joinK c.1 (ofK m c.2), c.2)] else []
def joinG (l : List Chg) (c : Chg) : List Chg := if ofK l c.2 = 0 ∧ 0 < joinK 0 c.1 then [(joinK 0 c.1, c.2)] else []
def okJ (l m : List Chg) : Prop := (∀ c ∈ l, 0 ≤ joinK c.1 (ofK m c.2)) ∧ ∀ c ∈ m, ofK l c.2 = 0 → 0 ≤ joinK 0 c.1
instance (l m) : Decidable (okJ l m) := by unfold okJ; infer_instance
def joinP (l m : List Chg) : List Chg := l.flatMap (joinF m) ++ m.flatMap (joinG l)
def ok2 (l m : List Chg) : Prop := okChgs l ∧ okChgs m
instance (l m) : Decidable (ok2 l m) := by unfold ok2; infer_instance
def joinV (l m : List Chg) : List Chg := if ok2 l m then if okJ l m then if (joinP l m).length ≤ 120 then joinP l m else [] else [] else []
def joinE (l m : List Chg) : Int := if ok2 l m then if okJ l m then if (joinP l m).length ≤ 120 then 0 else 4 else 13 else 1
theorem joinF_pos {m : List Chg} {c : Chg} (h : 0 < joinK c.1 (ofK m c.2)) : joinF m c = [(joinK c.1 (ofK m c.2), c.2)] := if_pos h
theorem joinF_neg {m : List Chg} {c : Chg} (h : joinK c.1 (ofK m c.2) ≤ 0) : joinF m c = [] := if_neg (by omega)
theorem joinG_pos {l : List Chg} {c : Chg} (h0 : ofK l c.2 = 0) (h : 0 < joinK 0 c.1) : joinG l c = [(joinK 0 c.1, c.2)] := if_pos ⟨h0, h⟩
theorem joinG_neg {l : List Chg} {c : Chg} (h : joinK 0 c.1 ≤ 0) : joinG l c = [] := if_neg (by omega)
theorem joinG_in {l : List Chg} {c : Chg} (h : ¬ ofK l c.2 = 0) : joinG l c = [] := if_neg (by omega)
theorem joinF_len (m : List Chg) (c : Chg) : (joinF m c).length ≤ 1 := by unfold joinF; split <;> simp
theorem joinG_len (l : List Chg) (c : Chg) : (joinG l c).length ≤ 1 := by unfold joinG; split <;> simp
theorem jE13 {l m : List Chg} (hyes : ok2 l m) (hbad : ¬ okJ l m) : AV.tup [.sh 2 (([] : List Chg).map findC), .lit (.int .i64 13)] = .tup [.sh 2 ((joinV l m).map findC), .lit (.int .i64 (joinE l m))] := by
  rw [show joinV l m = [] by rw [joinV, if_pos hyes, if_neg hbad], show joinE l m = 13 by rw [joinE, if_pos hyes, if_neg hbad]]
theorem jE4 {l m : List Chg} (hyes : ok2 l m) (hJ : okJ l m) (hlen : ¬ (joinP l m).length ≤ 120) : AV.tup [.sh 2 (([] : List Chg).map findC), .lit (.int .i64 4)] = .tup [.sh 2 ((joinV l m).map findC), .lit (.int .i64 (joinE l m))] := by
  rw [show joinV l m = [] by rw [joinV, if_pos hyes, if_pos hJ, if_neg hlen], show joinE l m = 4 by rw [joinE, if_pos hyes, if_pos hJ, if_neg hlen]]
theorem jE0 {l m x : List Chg} (hyes : ok2 l m) (hJ : okJ l m) (hf : joinP l m = x) (hlen : x.length ≤ 120) : AV.tup [.sh 2 (x.map findC), .lit (.int .i64 0)] = .tup [.sh 2 ((joinV l m).map findC), .lit (.int .i64 (joinE l m))] := by
  subst hf
  rw [show joinV l m = joinP l m by rw [joinV, if_pos hyes, if_pos hJ, if_pos hlen], show joinE l m = 0 by rw [joinE, if_pos hyes, if_pos hJ, if_pos hlen]]
theorem jE1 {l m : List Chg} (hno : ¬ ok2 l m) : AV.tup [.sh 2 (([] : List Chg).map findC), .lit (.int .i64 1)] = .tup [.sh 2 ((joinV l m).map findC), .lit (.int .i64 (joinE l m))] := by
  rw [show joinV l m = [] from if_neg hno, show joinE l m = 1 from if_neg hno]
theorem Join_fun (l m : List Chg) (hl : l.length ≤ 140737488355328) (hm : m.length ≤ 140737488355328) (hwl : chgW l) (hwm : chgW m) :
    Fun Tryz.prog 14 [.sh 2 (l.map findC), .sh 2 (m.map findC)] (Ret (.tup [.sh 2 ((joinV l m).map findC), .lit (.int .i64 (joinE l m))]) []) := by
  refine Fun.of (nt := 66) (rs := [.tmp 4, .tmp 5]) Tryz.func14 rfl rfl rfl rfl rfl ?_
  refine Ev.sr fun K hK => S.o q.as (S.o q.as (S.end (hK _ ?_)))
  clear hK K
  refine Ev.seq ?_
  refine Ev.sr fun K hK => S.o q.mv (S.c0 (hF := rvalid_chg _ (by omega) (by assumption)) (h := S.o q.not (S.bn q.mv (fun c1 => ?_) (fun c1 => ?_))))
  · first
  | (first | omega | contradiction)
  | refine S.sk (S.sk (S.sk (S.o q.pt (S.end (hK _ ?_)))))
    clear hK K
    refine Ev.ct ?_
    refine Ev.sr fun K hK => S.o q.as (S.o q.as (S.end (hK _ ?_)))
    clear hK K
    refine Ev.weaken (Wk.nsh findC 4 2) ?_
    refine Ev.ret ?_
    refine Ev.ret2 ?_
    refine ⟨?_, rfl⟩
    first
     | exact jE1 (fun h => absurd h.1 ‹_›)
     | exact jE1 (fun h => absurd h.2 ‹_›)
     | exact jE13 hyes (fun h => by have h1 := h.1 s (by rw [← hp]; simp); omega)
     | exact jE13 hyes (fun h => by have h1 := h.2 s (by rw [← hp2]; simp) (by omega); omega)
     | exact jE4 hyes hJ (by rw [hfin]; omega)
     | exact jE0 hyes hJ hfin (by omega)
  · first
  | (first | omega | contradiction)
  | refine S.o q.mv (S.c0 (hF := rvalid_chg _ (by omega) (by assumption)) (h := S.o q.not (S.o q.pf (S.end (hK _ ?_)))))
    clear hK K
    refine Ev.cn (fun c2 => ?_) (fun c2 => ?_)
    · first
    | (first | omega | contradiction)
    | refine Ev.sr fun K hK => S.o q.as (S.o q.as (S.end (hK _ ?_)))
      clear hK K
      refine Ev.weaken (Wk.nsh findC 4 2) ?_
      refine Ev.ret ?_
      refine Ev.ret2 ?_
      refine ⟨?_, rfl⟩
      first
       | exact jE1 (fun h => absurd h.1 ‹_›)
       | exact jE1 (fun h => absurd h.2 ‹_›)
       | exact jE13 hyes (fun h => by have h1 := h.1 s (by rw [← hp]; simp); omega)
       | exact jE13 hyes (fun h => by have h1 := h.2 s (by rw [← hp2]; simp) (by omega); omega)
       | exact jE4 hyes hJ (by rw [hfin]; omega)
       | exact jE0 hyes hJ hfin (by omega)
    · first
    | (first | omega | contradiction)
    | refine Ev.skip ?_
      show Ev _ _ _ _
      have hyes : ok2 l m := ⟨‹_›, ‹_›⟩
      have hll := hyes.1.1
      have hml := hyes.2.1
      refine Ev.sr fun K hK => S.nn (q.al am_ze25) (S.end (hK _ ?_))
      clear hK K
      refine Ev.sr fun K hK => S.o q.mf (S.o q.as (S.end (hK _ ?_)))
      clear hK K
      refine Ev.seq ?_
      refine Ev.weaken (Wk.nilv (f := findC) 0 0 34 2 []) ?_
      refine Ev.sr fun K hK => S.o q.mv (S.o (q.lens am_el25) (S.o q.mv (S.end (hK _ ?_))))
      clear hK K
      refine Ev.block ?_
      refine Ev.loopU (ι := {q : List Chg × List Chg // q.1 ++ q.2 = l ∧ ∀ c ∈ q.1, 0 ≤ joinK c.1 (ofK m c.2)}) [0, 1] [0, 1, 6, 7, 21, 22] (fun ⟨(pre, suf), _⟩ => [(23, .lit (.int .i64 ((pre.length : Int))))]) (fun ⟨(pre, suf), _⟩ => [(0, ⟨false, 25, 1, [[.als 1 0 (pre.flatMap (joinF m)).length]], false⟩), (1, ⟨true, 34, 2, (pre.flatMap (joinF m)).map findC, true⟩)]) (fun ⟨(pre, suf), _⟩ => suf.length) ⟨([], l), rfl, fun x hx => by simp at hx⟩ (.c (.c (.c (.c (.c (.c .n)))))) (keep_d (he := (by first | rfl | (rw [flat_snoc, joinF_pos hk]) | (rw [flat_snoc, joinF_neg hk, List.append_nil]))) (h := (keep_c (he := (by first | rfl | (rw [flat_snoc, joinF_pos hk]) | (rw [flat_snoc, joinF_neg hk, List.append_nil]))) (h := keep_n)))) (slots_c (he := (by first | rfl | (congr 2; simp; done))) (h := trivial)) ?_
      rintro ⟨⟨pre, suf⟩, hp, hinv⟩ R0 hR0
      dsimp only [List.cons_append, List.nil_append, List.length_cons, List.length_nil]
      simp only at hp hinv
      have hpl : pre.length + suf.length = (l).length := by rw [← hp, List.length_append]
      rcases suf with _ | ⟨s, suf⟩
      · rw [List.append_nil] at hp; subst pre; simp only [List.length_nil] at hpl
        have hkl := flat_len (joinF m) (joinF_len m) l
        refine Ev.sr fun K hK => S.o q.lss (S.end (hK _ ?_))
        clear hK K
        refine Ev.ud (fun c3 => ?_) (fun c3 => ?_)
        · first
        | (first | omega | contradiction)
        | refine Ev.seq ?_
          refine Ev.block ?_
          refine Ev.sr fun K hK => S.o (q.ix am_el25 am_cl34 (hl := (by first | exact atig (by omega)))) (S.o (q.lsA [_, _] am_ag34 am_cl34) (S.nn (q.al am_ze34) (S.sv [_, _] true [_, _] am_in34 am_cl34 (h := S.end (hK _ ?_)))))
          clear hK K
          refine Ev.sm (tbs [(0, 0), (0, 0), (2, 2), (0, 0), (4, 8), (0, 0), (0, 0), (7, 64), (8, 224), (9, 504), (10, 1023), (11, 2047)]) 10 fun K hK => M.o q.mv (M.o (q.fa 1 am_fi34_1 am_cl9) (M.o (q.lv am_ag9) (M.o (q.fa 0 am_fi34_0 am_cl3) (M.o (q.lv am_ag3) (M.o q.mv (M.o (q.fa 1 am_fi34_1 am_cl9) (M.o (q.lv am_ag9) (M.c0 (hF := of_fun _ _ (by omega)) (h := M.c0 (hF := joined_fun _ _) (h := M.end [_, _, _] (h := ?_)))))))))))
          rcases Int.lt_or_le 0 (joinK s.1 (ofK m s.2)) with hk | hk
          · skip
            refine S.cR [0, 1] 44 [_, _, _] (hob := (keep_d (he := rfl) (h := (keep_c (he := rfl) (h := keep_n))))) (hF := put_fun _ _ _ hk (by (try simp only [List.length_append]); omega)) (hn' := belowL rfl rfl) (h := S.o q.not (S.end (hK _ ?_)))
            clear hK K
            refine Ev.cn (fun c4 => ?_) (fun c4 => ?_)
            · first
            | (first | omega | contradiction)
            | refine Ev.sr fun K hK => S.o q.as (S.o q.as (S.end (hK _ ?_)))
              clear hK K
              refine Ev.weaken (Wk.nsh findC 4 2) ?_
              refine Ev.ret ?_
              refine hR0 _ _ ?_
              refine Ev.ret2 ?_
              refine ⟨?_, rfl⟩
              first
               | exact jE1 (fun h => absurd h.1 ‹_›)
               | exact jE1 (fun h => absurd h.2 ‹_›)
               | exact jE13 hyes (fun h => by have h1 := h.1 s (by rw [← hp]; simp); omega)
               | exact jE13 hyes (fun h => by have h1 := h.2 s (by rw [← hp2]; simp) (by omega); omega)
               | exact jE4 hyes hJ (by rw [hfin]; omega)
               | exact jE0 hyes hJ hfin (by omega)
            · first
            | (first | omega | contradiction)
            | refine Ev.skip ?_
              show Ev _ _ _ _
              refine Ev.region_S fun K hK => S.o q.add (S.o q.mv (S.end (hK _ ?_)))
              clear hK K
              refine hR0 _ _ ?_
              refine roundU [0, 43] [0, 1, 6, 7, 21, 22] ⟨(pre ++ [s], suf), by rw [← hp]; simp, ?_⟩ ?_ (keep_d (he := (by first | rfl | (rw [flat_snoc, joinF_pos hk]) | (rw [flat_snoc, joinF_neg hk, List.append_nil]))) (h := (keep_c (he := (by first | rfl | (rw [flat_snoc, joinF_pos hk]) | (rw [flat_snoc, joinF_neg hk, List.append_nil]))) (h := keep_n)))) (slots_c (he := (by first | rfl | (congr 2; simp; done))) (h := trivial)) (.c (.c (.c (.c (.c (.c .n))))))
              intro x hx; simp only [List.mem_append, List.mem_singleton] at hx; rcases hx with hx | rfl
              · exact hinv x hx
              · omega
              all_goals (dsimp only; simp only [List.length_cons]; omega)
          · skip
            refine S.cR [0, 1] 43 [_, _, _] (hob := (keep_d (he := rfl) (h := (keep_c (he := rfl) (h := keep_n))))) (hF := put0_fun _ _ _ hk (by (try simp only [List.length_append]); omega)) (hn' := belowL rfl rfl) (h := S.o q.not (S.end (hK _ ?_)))
            clear hK K
            refine Ev.cn (fun c5 => ?_) (fun c5 => ?_)
            · first
            | (first | omega | contradiction)
            | refine Ev.sr fun K hK => S.o q.as (S.o q.as (S.end (hK _ ?_)))
              clear hK K
              refine Ev.weaken (Wk.nsh findC 4 2) ?_
              refine Ev.ret ?_
              refine hR0 _ _ ?_
              refine Ev.ret2 ?_
              refine ⟨?_, rfl⟩
              first
               | exact jE1 (fun h => absurd h.1 ‹_›)
               | exact jE1 (fun h => absurd h.2 ‹_›)
               | exact jE13 hyes (fun h => by have h1 := h.1 s (by rw [← hp]; simp); omega)
               | exact jE13 hyes (fun h => by have h1 := h.2 s (by rw [← hp2]; simp) (by omega); omega)
               | exact jE4 hyes hJ (by rw [hfin]; omega)
               | exact jE0 hyes hJ hfin (by omega)
            · first
            | (first | omega | contradiction)
            | refine Ev.skip ?_
              show Ev _ _ _ _
              refine Ev.region_S fun K hK => S.o q.add (S.o q.mv (S.end (hK _ ?_)))
              clear hK K
              refine hR0 _ _ ?_
              refine roundU [0, 1] [0, 1, 6, 7, 21, 22] ⟨(pre ++ [s], suf), by rw [← hp]; simp, ?_⟩ ?_ (keep_d (he := (by first | rfl | (rw [flat_snoc, joinF_pos hk]) | (rw [flat_snoc, joinF_neg hk, List.append_nil]))) (h := (keep_c (he := (by first | rfl | (rw [flat_snoc, joinF_pos hk]) | (rw [flat_snoc, joinF_neg hk, List.append_nil]))) (h := keep_n)))) (slots_c (he := (by first | rfl | (congr 2; simp; done))) (h := trivial)) (.c (.c (.c (.c (.c (.c .n))))))
              intro x hx; simp only [List.mem_append, List.mem_singleton] at hx; rcases hx with hx | rfl
              · exact hinv x hx
              · omega
              all_goals (dsimp only; simp only [List.length_cons]; omega)
        · first
        | (first | omega | contradiction)
        | refine Ev.exit ?_
          refine hR0 _ _ ?_
          show Ev _ _ _ _
          refine Ev.seq ?_
          refine Ev.sr fun K hK => S.o q.mv (S.o (q.lens am_el25) (S.o q.mv (S.end (hK _ ?_))))
          clear hK K
          refine Ev.block ?_
          refine Ev.loopU (ι := {q : List Chg × List Chg // q.1 ++ q.2 = m ∧ ∀ c ∈ q.1, ofK l c.2 = 0 → 0 ≤ joinK 0 c.1}) [0, 1] [0, 1, 6, 7, 21, 22, 23, 24, 40, 41] (fun ⟨(pre2, suf2), _⟩ => [(42, .lit (.int .i64 ((pre2.length : Int))))]) (fun ⟨(pre2, suf2), _⟩ => [(0, ⟨false, 25, 1, [[.als 1 0 (l.flatMap (joinF m) ++ pre2.flatMap (joinG l)).length]], false⟩), (1, ⟨true, 34, 2, (l.flatMap (joinF m) ++ pre2.flatMap (joinG l)).map findC, true⟩)]) (fun ⟨(pre2, suf2), _⟩ => suf2.length) ⟨([], m), rfl, fun x hx => by simp at hx⟩ (.c (.c (.c (.c (.c (.c (.c (.c (.c (.c .n)))))))))) (keep_d (he := (by first | rfl | (simp; done) | (rw [flat_snoc, joinG_pos ‹_› hk, List.append_assoc]) | (rw [flat_snoc, joinG_neg hk, List.append_nil]) | (rw [flat_snoc, joinG_in ‹_›, List.append_nil]))) (h := (keep_c (he := (by first | rfl | (simp; done) | (rw [flat_snoc, joinG_pos ‹_› hk, List.append_assoc]) | (rw [flat_snoc, joinG_neg hk, List.append_nil]) | (rw [flat_snoc, joinG_in ‹_›, List.append_nil]))) (h := keep_n)))) (slots_c (he := (by first | rfl | (congr 2; simp; done))) (h := trivial)) ?_
          rintro ⟨⟨pre2, suf2⟩, hp2, hinv2⟩ R2 hR2
          dsimp only [List.cons_append, List.nil_append, List.length_cons, List.length_nil]
          simp only at hp2 hinv2
          have hpl2 : pre2.length + suf2.length = m.length := by rw [← hp2, List.length_append]
          have hnl := flat_len (joinG l) (joinG_len l) pre2
          rcases suf2 with _ | ⟨s, suf2⟩
          · rw [List.append_nil] at hp2; simp only [List.length_nil] at hpl2
            have hfin : joinP l m = l.flatMap (joinF m) ++ pre2.flatMap (joinG l) := by rw [hp2]; rfl
            have hJ : okJ l m := ⟨hinv, by rw [← hp2]; exact hinv2⟩
            refine Ev.sr fun K hK => S.o q.lss (S.end (hK _ ?_))
            clear hK K
            refine Ev.ud (fun c6 => ?_) (fun c6 => ?_)
            · first
            | (first | omega | contradiction)
            | refine Ev.seq ?_
              refine Ev.block ?_
              refine Ev.sr fun K hK => S.o (q.ix am_el25 am_cl34 (hl := (by first | exact atig (by omega)))) (S.o (q.lsA [_, _] am_ag34 am_cl34) (S.nn (q.al am_ze34) (S.sv [_, _] true [_, _] am_in34 am_cl34 (h := S.end (hK _ ?_)))))
              clear hK K
              refine Ev.sm (tbs [(0, 0), (0, 0), (2, 2), (3, 7), (4, 15), (5, 31), (6, 63), (6, 63), (8, 191), (6, 63), (10, 575), (11, 1599), (12, 4095), (13, 8191), (14, 16383)]) 12 fun K hK => M.o q.mv (M.o (q.fa 1 am_fi34_1 am_cl9) (M.o (q.lv am_ag9) (M.c0 (hF := of_fun _ _ (by omega)) (h := M.o q.eql (M.bd q.mv (fun c7 => ?_) (fun c7 => ?_))))))
              · first
              | (first | omega | contradiction)
              | refine M.o q.mv (M.o (q.fa 1 am_fi34_1 am_cl9) (M.o (q.lv am_ag9) (M.o (q.fa 0 am_fi34_0 am_cl3) (M.o (q.lv am_ag3) (M.c0 (hF := joined_fun _ _) (h := M.end [_, _, _] (h := ?_)))))))
                rcases Int.lt_or_le 0 (joinK 0 s.1) with hk | hk
                · skip
                  refine S.cR [0, 1] 52 [_, _, _] (hob := (keep_d (he := rfl) (h := (keep_c (he := rfl) (h := keep_n))))) (hF := put_fun _ _ _ hk (by (try simp only [List.length_append]); omega)) (hn' := belowL rfl rfl) (h := S.o q.not (S.o q.pt (S.end (hK _ ?_))))
                  clear hK K
                  refine Ev.cn (fun c8 => ?_) (fun c8 => ?_)
                  · first
                  | (first | omega | contradiction)
                  | refine Ev.sr fun K hK => S.o q.as (S.o q.as (S.end (hK _ ?_)))
                    clear hK K
                    refine Ev.weaken (Wk.nsh findC 4 2) ?_
                    refine Ev.ret ?_
                    refine hR2 _ _ ?_
                    refine Ev.ret2 ?_
                    refine ⟨?_, rfl⟩
                    first
                     | exact jE1 (fun h => absurd h.1 ‹_›)
                     | exact jE1 (fun h => absurd h.2 ‹_›)
                     | exact jE13 hyes (fun h => by have h1 := h.1 s (by rw [← hp]; simp); omega)
                     | exact jE13 hyes (fun h => by have h1 := h.2 s (by rw [← hp2]; simp) (by omega); omega)
                     | exact jE4 hyes hJ (by rw [hfin]; omega)
                     | exact jE0 hyes hJ hfin (by omega)
                  · first
                  | (first | omega | contradiction)
                  | refine Ev.skip ?_
                    show Ev _ _ _ _
                    refine Ev.region_S fun K hK => S.o q.add (S.o q.mv (S.end (hK _ ?_)))
                    clear hK K
                    refine hR2 _ _ ?_
                    refine roundU [0, 51] [0, 1, 6, 7, 21, 22, 23, 24, 40, 41] ⟨(pre2 ++ [s], suf2), by rw [← hp2]; simp, ?_⟩ ?_ (keep_d (he := (by first | rfl | (simp; done) | (rw [flat_snoc, joinG_pos ‹_› hk, List.append_assoc]) | (rw [flat_snoc, joinG_neg hk, List.append_nil]) | (rw [flat_snoc, joinG_in ‹_›, List.append_nil]))) (h := (keep_c (he := (by first | rfl | (simp; done) | (rw [flat_snoc, joinG_pos ‹_› hk, List.append_assoc]) | (rw [flat_snoc, joinG_neg hk, List.append_nil]) | (rw [flat_snoc, joinG_in ‹_›, List.append_nil]))) (h := keep_n)))) (slots_c (he := (by first | rfl | (congr 2; simp; done))) (h := trivial)) (.c (.c (.c (.c (.c (.c (.c (.c (.c (.c .n))))))))))
                    intro x hx; simp only [List.mem_append, List.mem_singleton] at hx; rcases hx with hx | rfl
                    · exact hinv2 x hx
                    · intro h0; omega
                    all_goals (dsimp only; simp only [List.length_cons]; omega)
                · skip
                  refine S.cR [0, 1] 51 [_, _, _] (hob := (keep_d (he := rfl) (h := (keep_c (he := rfl) (h := keep_n))))) (hF := put0_fun _ _ _ hk (by (try simp only [List.length_append]); omega)) (hn' := belowL rfl rfl) (h := S.o q.not (S.o q.pt (S.end (hK _ ?_))))
                  clear hK K
                  refine Ev.cn (fun c9 => ?_) (fun c9 => ?_)
                  · first
                  | (first | omega | contradiction)
                  | refine Ev.sr fun K hK => S.o q.as (S.o q.as (S.end (hK _ ?_)))
                    clear hK K
                    refine Ev.weaken (Wk.nsh findC 4 2) ?_
                    refine Ev.ret ?_
                    refine hR2 _ _ ?_
                    refine Ev.ret2 ?_
                    refine ⟨?_, rfl⟩
                    first
                     | exact jE1 (fun h => absurd h.1 ‹_›)
                     | exact jE1 (fun h => absurd h.2 ‹_›)
                     | exact jE13 hyes (fun h => by have h1 := h.1 s (by rw [← hp]; simp); omega)
                     | exact jE13 hyes (fun h => by have h1 := h.2 s (by rw [← hp2]; simp) (by omega); omega)
                     | exact jE4 hyes hJ (by rw [hfin]; omega)
                     | exact jE0 hyes hJ hfin (by omega)
                  · first
                  | (first | omega | contradiction)
                  | refine Ev.skip ?_
                    show Ev _ _ _ _
                    refine Ev.region_S fun K hK => S.o q.add (S.o q.mv (S.end (hK _ ?_)))
                    clear hK K
                    refine hR2 _ _ ?_
                    refine roundU [0, 1] [0, 1, 6, 7, 21, 22, 23, 24, 40, 41] ⟨(pre2 ++ [s], suf2), by rw [← hp2]; simp, ?_⟩ ?_ (keep_d (he := (by first | rfl | (simp; done) | (rw [flat_snoc, joinG_pos ‹_› hk, List.append_assoc]) | (rw [flat_snoc, joinG_neg hk, List.append_nil]) | (rw [flat_snoc, joinG_in ‹_›, List.append_nil]))) (h := (keep_c (he := (by first | rfl | (simp; done) | (rw [flat_snoc, joinG_pos ‹_› hk, List.append_assoc]) | (rw [flat_snoc, joinG_neg hk, List.append_nil]) | (rw [flat_snoc, joinG_in ‹_›, List.append_nil]))) (h := keep_n)))) (slots_c (he := (by first | rfl | (congr 2; simp; done))) (h := trivial)) (.c (.c (.c (.c (.c (.c (.c (.c (.c (.c .n))))))))))
                    intro x hx; simp only [List.mem_append, List.mem_singleton] at hx; rcases hx with hx | rfl
                    · exact hinv2 x hx
                    · intro h0; omega
                    all_goals (dsimp only; simp only [List.length_cons]; omega)
              · first
              | (first | omega | contradiction)
              | refine M.sk (M.sk (M.sk (M.sk (M.sk (M.sk (M.end [_, _, _] (h := ?_)))))))
                rcases Int.lt_or_le 0 (joinK 0 s.1) with hk | hk
                · skip
                  refine S.sk (S.sk (S.o q.pf (S.end (hK _ ?_))))
                  clear hK K
                  refine Ev.cf ?_
                  refine Ev.skip ?_
                  show Ev _ _ _ _
                  refine Ev.region_S fun K hK => S.o q.add (S.o q.mv (S.end (hK _ ?_)))
                  clear hK K
                  refine hR2 _ _ ?_
                  refine roundU [0, 1] [0, 1, 6, 7, 21, 22, 23, 24, 40, 41] ⟨(pre2 ++ [s], suf2), by rw [← hp2]; simp, ?_⟩ ?_ (keep_d (he := (by first | rfl | (simp; done) | (rw [flat_snoc, joinG_pos ‹_› hk, List.append_assoc]) | (rw [flat_snoc, joinG_neg hk, List.append_nil]) | (rw [flat_snoc, joinG_in ‹_›, List.append_nil]))) (h := (keep_c (he := (by first | rfl | (simp; done) | (rw [flat_snoc, joinG_pos ‹_› hk, List.append_assoc]) | (rw [flat_snoc, joinG_neg hk, List.append_nil]) | (rw [flat_snoc, joinG_in ‹_›, List.append_nil]))) (h := keep_n)))) (slots_c (he := (by first | rfl | (congr 2; simp; done))) (h := trivial)) (.c (.c (.c (.c (.c (.c (.c (.c (.c (.c .n))))))))))
                  intro x hx; simp only [List.mem_append, List.mem_singleton] at hx; rcases hx with hx | rfl
                  · exact hinv2 x hx
                  · intro h0; omega
                  all_goals (dsimp only; simp only [List.length_cons]; omega)
                · skip
                  refine S.sk (S.sk (S.o q.pf (S.end (hK _ ?_))))
                  clear hK K
                  refine Ev.cf ?_
                  refine Ev.skip ?_
                  show Ev _ _ _ _
                  refine Ev.region_S fun K hK => S.o q.add (S.o q.mv (S.end (hK _ ?_)))
                  clear hK K
                  refine hR2 _ _ ?_
                  refine roundU [0, 1] [0, 1, 6, 7, 21, 22, 23, 24, 40, 41] ⟨(pre2 ++ [s], suf2), by rw [← hp2]; simp, ?_⟩ ?_ (keep_d (he := (by first | rfl | (simp; done) | (rw [flat_snoc, joinG_pos ‹_› hk, List.append_assoc]) | (rw [flat_snoc, joinG_neg hk, List.append_nil]) | (rw [flat_snoc, joinG_in ‹_›, List.append_nil]))) (h := (keep_c (he := (by first | rfl | (simp; done) | (rw [flat_snoc, joinG_pos ‹_› hk, List.append_assoc]) | (rw [flat_snoc, joinG_neg hk, List.append_nil]) | (rw [flat_snoc, joinG_in ‹_›, List.append_nil]))) (h := keep_n)))) (slots_c (he := (by first | rfl | (congr 2; simp; done))) (h := trivial)) (.c (.c (.c (.c (.c (.c (.c (.c (.c (.c .n))))))))))
                  intro x hx; simp only [List.mem_append, List.mem_singleton] at hx; rcases hx with hx | rfl
                  · exact hinv2 x hx
                  · intro h0; omega
                  all_goals (dsimp only; simp only [List.length_cons]; omega)
            · first
            | (first | omega | contradiction)
            | refine Ev.exit ?_
              refine hR2 _ _ ?_
              show Ev _ _ _ _
              refine Ev.seq ?_
              refine Ev.sr fun K hK => S.o (q.lv am_ag25) (S.o (q.lena am_el25) (S.o q.gtr (S.end (hK _ ?_))))
              clear hK K
              refine Ev.cd (fun c10 => ?_) (fun c10 => ?_)
              · first
              | (first | omega | contradiction)
              | refine Ev.sr fun K hK => S.o q.as (S.o q.as (S.end (hK _ ?_)))
                clear hK K
                refine Ev.weaken (Wk.nsh findC 4 2) ?_
                refine Ev.ret ?_
                refine Ev.ret2 ?_
                refine ⟨?_, rfl⟩
                first
                 | exact jE1 (fun h => absurd h.1 ‹_›)
                 | exact jE1 (fun h => absurd h.2 ‹_›)
                 | exact jE13 hyes (fun h => by have h1 := h.1 s (by rw [← hp]; simp); omega)
                 | exact jE13 hyes (fun h => by have h1 := h.2 s (by rw [← hp2]; simp) (by omega); omega)
                 | exact jE4 hyes hJ (by rw [hfin]; omega)
                 | exact jE0 hyes hJ hfin (by omega)
              · first
              | (first | omega | contradiction)
              | refine Ev.skip ?_
                show Ev _ _ _ _
                refine Ev.sr fun K hK => S.o (q.lv am_ag25) (S.o q.as (S.o q.as (S.end (hK _ ?_))))
                clear hK K
                refine Ev.weaken (Wk.frz 4 [_]) ?_
                refine Ev.ret ?_
                refine Ev.ret2 ?_
                refine ⟨?_, rfl⟩
                first
                 | exact jE1 (fun h => absurd h.1 ‹_›)
                 | exact jE1 (fun h => absurd h.2 ‹_›)
                 | exact jE13 hyes (fun h => by have h1 := h.1 s (by rw [← hp]; simp); omega)
                 | exact jE13 hyes (fun h => by have h1 := h.2 s (by rw [← hp2]; simp) (by omega); omega)
                 | exact jE4 hyes hJ (by rw [hfin]; omega)
                 | exact jE0 hyes hJ hfin (by omega)
          · simp only [List.length_cons] at hpl2
            have hidx2 : m[pre2.length]? = some s := by rw [← hp2]; simp
            refine Ev.sr fun K hK => S.o q.lss (S.end (hK _ ?_))
            clear hK K
            refine Ev.ud (fun c11 => ?_) (fun c11 => ?_)
            · first
            | (first | omega | contradiction)
            | refine Ev.seq ?_
              refine Ev.block ?_
              refine Ev.sr fun K hK => S.o (q.ix am_el25 am_cl34 (hl := (by first | exact ati hidx2 (by omega) | exact atig (by omega)))) (S.o (q.lsA [_, _] am_ag34 am_cl34) (S.nn (q.al am_ze34) (S.sv [_, _] true [_, _] am_in34 am_cl34 (h := S.end (hK _ ?_)))))
              clear hK K
              refine Ev.sm (tbs [(0, 0), (0, 0), (2, 2), (3, 7), (4, 15), (5, 31), (6, 63), (6, 63), (8, 191), (6, 63), (10, 575), (11, 1599), (12, 4095), (13, 8191), (14, 16383)]) 12 fun K hK => M.o q.mv (M.o (q.fa 1 am_fi34_1 am_cl9) (M.o (q.lv am_ag9) (M.c0 (hF := of_fun _ _ (by omega)) (h := M.o q.eql (M.bd q.mv (fun c12 => ?_) (fun c12 => ?_))))))
              · first
              | (first | omega | contradiction)
              | refine M.o q.mv (M.o (q.fa 1 am_fi34_1 am_cl9) (M.o (q.lv am_ag9) (M.o (q.fa 0 am_fi34_0 am_cl3) (M.o (q.lv am_ag3) (M.c0 (hF := joined_fun _ _) (h := M.end [_, _, _] (h := ?_)))))))
                rcases Int.lt_or_le 0 (joinK 0 s.1) with hk | hk
                · skip
                  refine S.cR [0, 1] 52 [_, _, _] (hob := (keep_d (he := rfl) (h := (keep_c (he := rfl) (h := keep_n))))) (hF := put_fun _ _ _ hk (by (try simp only [List.length_append]); omega)) (hn' := belowL rfl rfl) (h := S.o q.not (S.o q.pt (S.end (hK _ ?_))))
                  clear hK K
                  refine Ev.cn (fun c13 => ?_) (fun c13 => ?_)
                  · first
                  | (first | omega | contradiction)
                  | refine Ev.sr fun K hK => S.o q.as (S.o q.as (S.end (hK _ ?_)))
                    clear hK K
                    refine Ev.weaken (Wk.nsh findC 4 2) ?_
                    refine Ev.ret ?_
                    refine hR2 _ _ ?_
                    refine Ev.ret2 ?_
                    refine ⟨?_, rfl⟩
                    first
                     | exact jE1 (fun h => absurd h.1 ‹_›)
                     | exact jE1 (fun h => absurd h.2 ‹_›)
                     | exact jE13 hyes (fun h => by have h1 := h.1 s (by rw [← hp]; simp); omega)
                     | exact jE13 hyes (fun h => by have h1 := h.2 s (by rw [← hp2]; simp) (by omega); omega)
                     | exact jE4 hyes hJ (by rw [hfin]; omega)
                     | exact jE0 hyes hJ hfin (by omega)
                  · first
                  | (first | omega | contradiction)
                  | refine Ev.skip ?_
                    show Ev _ _ _ _
                    refine Ev.region_S fun K hK => S.o q.add (S.o q.mv (S.end (hK _ ?_)))
                    clear hK K
                    refine hR2 _ _ ?_
                    refine roundU [0, 51] [0, 1, 6, 7, 21, 22, 23, 24, 40, 41] ⟨(pre2 ++ [s], suf2), by rw [← hp2]; simp, ?_⟩ ?_ (keep_d (he := (by first | rfl | (simp; done) | (rw [flat_snoc, joinG_pos ‹_› hk, List.append_assoc]) | (rw [flat_snoc, joinG_neg hk, List.append_nil]) | (rw [flat_snoc, joinG_in ‹_›, List.append_nil]))) (h := (keep_c (he := (by first | rfl | (simp; done) | (rw [flat_snoc, joinG_pos ‹_› hk, List.append_assoc]) | (rw [flat_snoc, joinG_neg hk, List.append_nil]) | (rw [flat_snoc, joinG_in ‹_›, List.append_nil]))) (h := keep_n)))) (slots_c (he := (by first | rfl | (congr 2; simp; done))) (h := trivial)) (.c (.c (.c (.c (.c (.c (.c (.c (.c (.c .n))))))))))
                    intro x hx; simp only [List.mem_append, List.mem_singleton] at hx; rcases hx with hx | rfl
                    · exact hinv2 x hx
                    · intro h0; omega
                    all_goals (dsimp only; simp only [List.length_cons]; omega)
                · skip
                  refine S.cR [0, 1] 51 [_, _, _] (hob := (keep_d (he := rfl) (h := (keep_c (he := rfl) (h := keep_n))))) (hF := put0_fun _ _ _ hk (by (try simp only [List.length_append]); omega)) (hn' := belowL rfl rfl) (h := S.o q.not (S.o q.pt (S.end (hK _ ?_))))
                  clear hK K
                  refine Ev.cn (fun c14 => ?_) (fun c14 => ?_)
                  · first
                  | (first | omega | contradiction)
                  | refine Ev.sr fun K hK => S.o q.as (S.o q.as (S.end (hK _ ?_)))
                    clear hK K
                    refine Ev.weaken (Wk.nsh findC 4 2) ?_
                    refine Ev.ret ?_
                    refine hR2 _ _ ?_
                    refine Ev.ret2 ?_
                    refine ⟨?_, rfl⟩
                    first
                     | exact jE1 (fun h => absurd h.1 ‹_›)
                     | exact jE1 (fun h => absurd h.2 ‹_›)
                     | exact jE13 hyes (fun h => by have h1 := h.1 s (by rw [← hp]; simp); omega)
                     | exact jE13 hyes (fun h => by have h1 := h.2 s (by rw [← hp2]; simp) (by omega); omega)
                     | exact jE4 hyes hJ (by rw [hfin]; omega)
                     | exact jE0 hyes hJ hfin (by omega)
                  · first
                  | (first | omega | contradiction)
                  | refine Ev.skip ?_
                    show Ev _ _ _ _
                    refine Ev.region_S fun K hK => S.o q.add (S.o q.mv (S.end (hK _ ?_)))
                    clear hK K
                    refine hR2 _ _ ?_
                    refine roundU [0, 1] [0, 1, 6, 7, 21, 22, 23, 24, 40, 41] ⟨(pre2 ++ [s], suf2), by rw [← hp2]; simp, ?_⟩ ?_ (keep_d (he := (by first | rfl | (simp; done) | (rw [flat_snoc, joinG_pos ‹_› hk, List.append_assoc]) | (rw [flat_snoc, joinG_neg hk, List.append_nil]) | (rw [flat_snoc, joinG_in ‹_›, List.append_nil]))) (h := (keep_c (he := (by first | rfl | (simp; done) | (rw [flat_snoc, joinG_pos ‹_› hk, List.append_assoc]) | (rw [flat_snoc, joinG_neg hk, List.append_nil]) | (rw [flat_snoc, joinG_in ‹_›, List.append_nil]))) (h := keep_n)))) (slots_c (he := (by first | rfl | (congr 2; simp; done))) (h := trivial)) (.c (.c (.c (.c (.c (.c (.c (.c (.c (.c .n))))))))))
                    intro x hx; simp only [List.mem_append, List.mem_singleton] at hx; rcases hx with hx | rfl
                    · exact hinv2 x hx
                    · intro h0; omega
                    all_goals (dsimp only; simp only [List.length_cons]; omega)
              · first
              | (first | omega | contradiction)
              | refine M.sk (M.sk (M.sk (M.sk (M.sk (M.sk (M.end [_, _, _] (h := ?_)))))))
                rcases Int.lt_or_le 0 (joinK 0 s.1) with hk | hk
                · skip
                  refine S.sk (S.sk (S.o q.pf (S.end (hK _ ?_))))
                  clear hK K
                  refine Ev.cf ?_
                  refine Ev.skip ?_
                  show Ev _ _ _ _
                  refine Ev.region_S fun K hK => S.o q.add (S.o q.mv (S.end (hK _ ?_)))
                  clear hK K
                  refine hR2 _ _ ?_
                  refine roundU [0, 1] [0, 1, 6, 7, 21, 22, 23, 24, 40, 41] ⟨(pre2 ++ [s], suf2), by rw [← hp2]; simp, ?_⟩ ?_ (keep_d (he := (by first | rfl | (simp; done) | (rw [flat_snoc, joinG_pos ‹_› hk, List.append_assoc]) | (rw [flat_snoc, joinG_neg hk, List.append_nil]) | (rw [flat_snoc, joinG_in ‹_›, List.append_nil]))) (h := (keep_c (he := (by first | rfl | (simp; done) | (rw [flat_snoc, joinG_pos ‹_› hk, List.append_assoc]) | (rw [flat_snoc, joinG_neg hk, List.append_nil]) | (rw [flat_snoc, joinG_in ‹_›, List.append_nil]))) (h := keep_n)))) (slots_c (he := (by first | rfl | (congr 2; simp; done))) (h := trivial)) (.c (.c (.c (.c (.c (.c (.c (.c (.c (.c .n))))))))))
                  intro x hx; simp only [List.mem_append, List.mem_singleton] at hx; rcases hx with hx | rfl
                  · exact hinv2 x hx
                  · intro h0; omega
                  all_goals (dsimp only; simp only [List.length_cons]; omega)
                · skip
                  refine S.sk (S.sk (S.o q.pf (S.end (hK _ ?_))))
                  clear hK K
                  refine Ev.cf ?_
                  refine Ev.skip ?_
                  show Ev _ _ _ _
                  refine Ev.region_S fun K hK => S.o q.add (S.o q.mv (S.end (hK _ ?_)))
                  clear hK K
                  refine hR2 _ _ ?_
                  refine roundU [0, 1] [0, 1, 6, 7, 21, 22, 23, 24, 40, 41] ⟨(pre2 ++ [s], suf2), by rw [← hp2]; simp, ?_⟩ ?_ (keep_d (he := (by first | rfl | (simp; done) | (rw [flat_snoc, joinG_pos ‹_› hk, List.append_assoc]) | (rw [flat_snoc, joinG_neg hk, List.append_nil]) | (rw [flat_snoc, joinG_in ‹_›, List.append_nil]))) (h := (keep_c (he := (by first | rfl | (simp; done) | (rw [flat_snoc, joinG_pos ‹_› hk, List.append_assoc]) | (rw [flat_snoc, joinG_neg hk, List.append_nil]) | (rw [flat_snoc, joinG_in ‹_›, List.append_nil]))) (h := keep_n)))) (slots_c (he := (by first | rfl | (congr 2; simp; done))) (h := trivial)) (.c (.c (.c (.c (.c (.c (.c (.c (.c (.c .n))))))))))
                  intro x hx; simp only [List.mem_append, List.mem_singleton] at hx; rcases hx with hx | rfl
                  · exact hinv2 x hx
                  · intro h0; omega
                  all_goals (dsimp only; simp only [List.length_cons]; omega)
            · first
            | (first | omega | contradiction)
            | refine Ev.exit ?_
              refine hR2 _ _ ?_
              show Ev _ _ _ _
              refine Ev.seq ?_
              refine Ev.sr fun K hK => S.o (q.lv am_ag25) (S.o (q.lena am_el25) (S.o q.gtr (S.end (hK _ ?_))))
              clear hK K
              refine Ev.cd (fun c15 => ?_) (fun c15 => ?_)
              · first
              | (first | omega | contradiction)
              | refine Ev.sr fun K hK => S.o q.as (S.o q.as (S.end (hK _ ?_)))
                clear hK K
                refine Ev.weaken (Wk.nsh findC 4 2) ?_
                refine Ev.ret ?_
                refine Ev.ret2 ?_
                refine ⟨?_, rfl⟩
                first
                 | exact jE1 (fun h => absurd h.1 ‹_›)
                 | exact jE1 (fun h => absurd h.2 ‹_›)
                 | exact jE13 hyes (fun h => by have h1 := h.1 s (by rw [← hp]; simp); omega)
                 | exact jE13 hyes (fun h => by have h1 := h.2 s (by rw [← hp2]; simp) (by omega); omega)
                 | exact jE4 hyes hJ (by rw [hfin]; omega)
                 | exact jE0 hyes hJ hfin (by omega)
              · first
              | (first | omega | contradiction)
              | refine Ev.skip ?_
                show Ev _ _ _ _
                refine Ev.sr fun K hK => S.o (q.lv am_ag25) (S.o q.as (S.o q.as (S.end (hK _ ?_))))
                clear hK K
                refine Ev.weaken (Wk.frz 4 [_]) ?_
                refine Ev.ret ?_
                refine Ev.ret2 ?_
                refine ⟨?_, rfl⟩
                first
                 | exact jE1 (fun h => absurd h.1 ‹_›)
                 | exact jE1 (fun h => absurd h.2 ‹_›)
                 | exact jE13 hyes (fun h => by have h1 := h.1 s (by rw [← hp]; simp); omega)
                 | exact jE13 hyes (fun h => by have h1 := h.2 s (by rw [← hp2]; simp) (by omega); omega)
                 | exact jE4 hyes hJ (by rw [hfin]; omega)
                 | exact jE0 hyes hJ hfin (by omega)
      · simp only [List.length_cons] at hpl
        have hidx : (l)[pre.length]? = some s := by rw [← hp]; simp
        have hkl := flat_len (joinF m) (joinF_len m) pre
        refine Ev.sr fun K hK => S.o q.lss (S.end (hK _ ?_))
        clear hK K
        refine Ev.ud (fun c16 => ?_) (fun c16 => ?_)
        · first
        | (first | omega | contradiction)
        | refine Ev.seq ?_
          refine Ev.block ?_
          refine Ev.sr fun K hK => S.o (q.ix am_el25 am_cl34 (hl := (by first | exact ati hidx (by omega) | exact atig (by omega)))) (S.o (q.lsA [_, _] am_ag34 am_cl34) (S.nn (q.al am_ze34) (S.sv [_, _] true [_, _] am_in34 am_cl34 (h := S.end (hK _ ?_)))))
          clear hK K
          refine Ev.sm (tbs [(0, 0), (0, 0), (2, 2), (0, 0), (4, 8), (0, 0), (0, 0), (7, 64), (8, 224), (9, 504), (10, 1023), (11, 2047)]) 10 fun K hK => M.o q.mv (M.o (q.fa 1 am_fi34_1 am_cl9) (M.o (q.lv am_ag9) (M.o (q.fa 0 am_fi34_0 am_cl3) (M.o (q.lv am_ag3) (M.o q.mv (M.o (q.fa 1 am_fi34_1 am_cl9) (M.o (q.lv am_ag9) (M.c0 (hF := of_fun _ _ (by omega)) (h := M.c0 (hF := joined_fun _ _) (h := M.end [_, _, _] (h := ?_)))))))))))
          rcases Int.lt_or_le 0 (joinK s.1 (ofK m s.2)) with hk | hk
          · skip
            refine S.cR [0, 1] 44 [_, _, _] (hob := (keep_d (he := rfl) (h := (keep_c (he := rfl) (h := keep_n))))) (hF := put_fun _ _ _ hk (by (try simp only [List.length_append]); omega)) (hn' := belowL rfl rfl) (h := S.o q.not (S.end (hK _ ?_)))
            clear hK K
            refine Ev.cn (fun c17 => ?_) (fun c17 => ?_)
            · first
            | (first | omega | contradiction)
            | refine Ev.sr fun K hK => S.o q.as (S.o q.as (S.end (hK _ ?_)))
              clear hK K
              refine Ev.weaken (Wk.nsh findC 4 2) ?_
              refine Ev.ret ?_
              refine hR0 _ _ ?_
              refine Ev.ret2 ?_
              refine ⟨?_, rfl⟩
              first
               | exact jE1 (fun h => absurd h.1 ‹_›)
               | exact jE1 (fun h => absurd h.2 ‹_›)
               | exact jE13 hyes (fun h => by have h1 := h.1 s (by rw [← hp]; simp); omega)
               | exact jE13 hyes (fun h => by have h1 := h.2 s (by rw [← hp2]; simp) (by omega); omega)
               | exact jE4 hyes hJ (by rw [hfin]; omega)
               | exact jE0 hyes hJ hfin (by omega)
            · first
            | (first | omega | contradiction)
            | refine Ev.skip ?_
              show Ev _ _ _ _
              refine Ev.region_S fun K hK => S.o q.add (S.o q.mv (S.end (hK _ ?_)))
              clear hK K
              refine hR0 _ _ ?_
              refine roundU [0, 43] [0, 1, 6, 7, 21, 22] ⟨(pre ++ [s], suf), by rw [← hp]; simp, ?_⟩ ?_ (keep_d (he := (by first | rfl | (rw [flat_snoc, joinF_pos hk]) | (rw [flat_snoc, joinF_neg hk, List.append_nil]))) (h := (keep_c (he := (by first | rfl | (rw [flat_snoc, joinF_pos hk]) | (rw [flat_snoc, joinF_neg hk, List.append_nil]))) (h := keep_n)))) (slots_c (he := (by first | rfl | (congr 2; simp; done))) (h := trivial)) (.c (.c (.c (.c (.c (.c .n))))))
              intro x hx; simp only [List.mem_append, List.mem_singleton] at hx; rcases hx with hx | rfl
              · exact hinv x hx
              · omega
              all_goals (dsimp only; simp only [List.length_cons]; omega)
          · skip
            refine S.cR [0, 1] 43 [_, _, _] (hob := (keep_d (he := rfl) (h := (keep_c (he := rfl) (h := keep_n))))) (hF := put0_fun _ _ _ hk (by (try simp only [List.length_append]); omega)) (hn' := belowL rfl rfl) (h := S.o q.not (S.end (hK _ ?_)))
            clear hK K
            refine Ev.cn (fun c18 => ?_) (fun c18 => ?_)
            · first
            | (first | omega | contradiction)
            | refine Ev.sr fun K hK => S.o q.as (S.o q.as (S.end (hK _ ?_)))
              clear hK K
              refine Ev.weaken (Wk.nsh findC 4 2) ?_
              refine Ev.ret ?_
              refine hR0 _ _ ?_
              refine Ev.ret2 ?_
              refine ⟨?_, rfl⟩
              first
               | exact jE1 (fun h => absurd h.1 ‹_›)
               | exact jE1 (fun h => absurd h.2 ‹_›)
               | exact jE13 hyes (fun h => by have h1 := h.1 s (by rw [← hp]; simp); omega)
               | exact jE13 hyes (fun h => by have h1 := h.2 s (by rw [← hp2]; simp) (by omega); omega)
               | exact jE4 hyes hJ (by rw [hfin]; omega)
               | exact jE0 hyes hJ hfin (by omega)
            · first
            | (first | omega | contradiction)
            | refine Ev.skip ?_
              show Ev _ _ _ _
              refine Ev.region_S fun K hK => S.o q.add (S.o q.mv (S.end (hK _ ?_)))
              clear hK K
              refine hR0 _ _ ?_
              refine roundU [0, 1] [0, 1, 6, 7, 21, 22] ⟨(pre ++ [s], suf), by rw [← hp]; simp, ?_⟩ ?_ (keep_d (he := (by first | rfl | (rw [flat_snoc, joinF_pos hk]) | (rw [flat_snoc, joinF_neg hk, List.append_nil]))) (h := (keep_c (he := (by first | rfl | (rw [flat_snoc, joinF_pos hk]) | (rw [flat_snoc, joinF_neg hk, List.append_nil]))) (h := keep_n)))) (slots_c (he := (by first | rfl | (congr 2; simp; done))) (h := trivial)) (.c (.c (.c (.c (.c (.c .n))))))
              intro x hx; simp only [List.mem_append, List.mem_singleton] at hx; rcases hx with hx | rfl
              · exact hinv x hx
              · omega
              all_goals (dsimp only; simp only [List.length_cons]; omega)
        · first
        | (first | omega | contradiction)
        | refine Ev.exit ?_
          refine hR0 _ _ ?_
          show Ev _ _ _ _
          refine Ev.seq ?_
          refine Ev.sr fun K hK => S.o q.mv (S.o (q.lens am_el25) (S.o q.mv (S.end (hK _ ?_))))
          clear hK K
          refine Ev.block ?_
          refine Ev.loopU (ι := {q : List Chg × List Chg // q.1 ++ q.2 = m ∧ ∀ c ∈ q.1, ofK l c.2 = 0 → 0 ≤ joinK 0 c.1}) [0, 1] [0, 1, 6, 7, 21, 22, 23, 24, 40, 41] (fun ⟨(pre2, suf2), _⟩ => [(42, .lit (.int .i64 ((pre2.length : Int))))]) (fun ⟨(pre2, suf2), _⟩ => [(0, ⟨false, 25, 1, [[.als 1 0 (l.flatMap (joinF m) ++ pre2.flatMap (joinG l)).length]], false⟩), (1, ⟨true, 34, 2, (l.flatMap (joinF m) ++ pre2.flatMap (joinG l)).map findC, true⟩)]) (fun ⟨(pre2, suf2), _⟩ => suf2.length) ⟨([], m), rfl, fun x hx => by simp at hx⟩ (.c (.c (.c (.c (.c (.c (.c (.c (.c (.c .n)))))))))) (keep_d (he := (by first | rfl | (simp; done) | (rw [flat_snoc, joinG_pos ‹_› hk, List.append_assoc]) | (rw [flat_snoc, joinG_neg hk, List.append_nil]) | (rw [flat_snoc, joinG_in ‹_›, List.append_nil]))) (h := (keep_c (he := (by first | rfl | (simp; done) | (rw [flat_snoc, joinG_pos ‹_› hk, List.append_assoc]) | (rw [flat_snoc, joinG_neg hk, List.append_nil]) | (rw [flat_snoc, joinG_in ‹_›, List.append_nil]))) (h := keep_n)))) (slots_c (he := (by first | rfl | (congr 2; simp; done))) (h := trivial)) ?_
          rintro ⟨⟨pre2, suf2⟩, hp2, hinv2⟩ R2 hR2
          dsimp only [List.cons_append, List.nil_append, List.length_cons, List.length_nil]
          simp only at hp2 hinv2
          have hpl2 : pre2.length + suf2.length = m.length := by rw [← hp2, List.length_append]
          have hnl := flat_len (joinG l) (joinG_len l) pre2
          rcases suf2 with _ | ⟨s, suf2⟩
          · rw [List.append_nil] at hp2; simp only [List.length_nil] at hpl2
            have hfin : joinP l m = l.flatMap (joinF m) ++ pre2.flatMap (joinG l) := by rw [hp2]; rfl
            have hJ : okJ l m := ⟨hinv, by rw [← hp2]; exact hinv2⟩
            refine Ev.sr fun K hK => S.o q.lss (S.end (hK _ ?_))
            clear hK K
            refine Ev.ud (fun c19 => ?_) (fun c19 => ?_)
            · first
            | (first | omega | contradiction)
            | refine Ev.seq ?_
              refine Ev.block ?_
              refine Ev.sr fun K hK => S.o (q.ix am_el25 am_cl34 (hl := (by first | exact ati hidx (by omega) | exact atig (by omega)))) (S.o (q.lsA [_, _] am_ag34 am_cl34) (S.nn (q.al am_ze34) (S.sv [_, _] true [_, _] am_in34 am_cl34 (h := S.end (hK _ ?_)))))
              clear hK K
              refine Ev.sm (tbs [(0, 0), (0, 0), (2, 2), (3, 7), (4, 15), (5, 31), (6, 63), (6, 63), (8, 191), (6, 63), (10, 575), (11, 1599), (12, 4095), (13, 8191), (14, 16383)]) 12 fun K hK => M.o q.mv (M.o (q.fa 1 am_fi34_1 am_cl9) (M.o (q.lv am_ag9) (M.c0 (hF := of_fun _ _ (by omega)) (h := M.o q.eql (M.bd q.mv (fun c20 => ?_) (fun c20 => ?_))))))
              · first
              | (first | omega | contradiction)
              | refine M.o q.mv (M.o (q.fa 1 am_fi34_1 am_cl9) (M.o (q.lv am_ag9) (M.o (q.fa 0 am_fi34_0 am_cl3) (M.o (q.lv am_ag3) (M.c0 (hF := joined_fun _ _) (h := M.end [_, _, _] (h := ?_)))))))
                rcases Int.lt_or_le 0 (joinK 0 s.1) with hk | hk
                · skip
                  refine S.cR [0, 1] 52 [_, _, _] (hob := (keep_d (he := rfl) (h := (keep_c (he := rfl) (h := keep_n))))) (hF := put_fun _ _ _ hk (by (try simp only [List.length_append]); omega)) (hn' := belowL rfl rfl) (h := S.o q.not (S.o q.pt (S.end (hK _ ?_))))
                  clear hK K
                  refine Ev.cn (fun c21 => ?_) (fun c21 => ?_)
                  · first
                  | (first | omega | contradiction)
                  | refine Ev.sr fun K hK => S.o q.as (S.o q.as (S.end (hK _ ?_)))
                    clear hK K
                    refine Ev.weaken (Wk.nsh findC 4 2) ?_
                    refine Ev.ret ?_
                    refine hR2 _ _ ?_
                    refine Ev.ret2 ?_
                    refine ⟨?_, rfl⟩
                    first
                     | exact jE1 (fun h => absurd h.1 ‹_›)
                     | exact jE1 (fun h => absurd h.2 ‹_›)
                     | exact jE13 hyes (fun h => by have h1 := h.1 s (by rw [← hp]; simp); omega)
                     | exact jE13 hyes (fun h => by have h1 := h.2 s (by rw [← hp2]; simp) (by omega); omega)
                     | exact jE4 hyes hJ (by rw [hfin]; omega)
                     | exact jE0 hyes hJ hfin (by omega)
                  · first
                  | (first | omega | contradiction)
                  | refine Ev.skip ?_
                    show Ev _ _ _ _
                    refine Ev.region_S fun K hK => S.o q.add (S.o q.mv (S.end (hK _ ?_)))
                    clear hK K
                    refine hR2 _ _ ?_
                    refine roundU [0, 51] [0, 1, 6, 7, 21, 22, 23, 24, 40, 41] ⟨(pre2 ++ [s], suf2), by rw [← hp2]; simp, ?_⟩ ?_ (keep_d (he := (by first | rfl | (simp; done) | (rw [flat_snoc, joinG_pos ‹_› hk, List.append_assoc]) | (rw [flat_snoc, joinG_neg hk, List.append_nil]) | (rw [flat_snoc, joinG_in ‹_›, List.append_nil]))) (h := (keep_c (he := (by first | rfl | (simp; done) | (rw [flat_snoc, joinG_pos ‹_› hk, List.append_assoc]) | (rw [flat_snoc, joinG_neg hk, List.append_nil]) | (rw [flat_snoc, joinG_in ‹_›, List.append_nil]))) (h := keep_n)))) (slots_c (he := (by first | rfl | (congr 2; simp; done))) (h := trivial)) (.c (.c (.c (.c (.c (.c (.c (.c (.c (.c .n))))))))))
                    intro x hx; simp only [List.mem_append, List.mem_singleton] at hx; rcases hx with hx | rfl
                    · exact hinv2 x hx
                    · intro h0; omega
                    all_goals (dsimp only; simp only [List.length_cons]; omega)
                · skip
                  refine S.cR [0, 1] 51 [_, _, _] (hob := (keep_d (he := rfl) (h := (keep_c (he := rfl) (h := keep_n))))) (hF := put0_fun _ _ _ hk (by (try simp only [List.length_append]); omega)) (hn' := belowL rfl rfl) (h := S.o q.not (S.o q.pt (S.end (hK _ ?_))))
                  clear hK K
                  refine Ev.cn (fun c22 => ?_) (fun c22 => ?_)
                  · first
                  | (first | omega | contradiction)
                  | refine Ev.sr fun K hK => S.o q.as (S.o q.as (S.end (hK _ ?_)))
                    clear hK K
                    refine Ev.weaken (Wk.nsh findC 4 2) ?_
                    refine Ev.ret ?_
                    refine hR2 _ _ ?_
                    refine Ev.ret2 ?_
                    refine ⟨?_, rfl⟩
                    first
                     | exact jE1 (fun h => absurd h.1 ‹_›)
                     | exact jE1 (fun h => absurd h.2 ‹_›)
                     | exact jE13 hyes (fun h => by have h1 := h.1 s (by rw [← hp]; simp); omega)
                     | exact jE13 hyes (fun h => by have h1 := h.2 s (by rw [← hp2]; simp) (by omega); omega)
                     | exact jE4 hyes hJ (by rw [hfin]; omega)
                     | exact jE0 hyes hJ hfin (by omega)
                  · first
                  | (first | omega | contradiction)
                  | refine Ev.skip ?_
                    show Ev _ _ _ _
                    refine Ev.region_S fun K hK => S.o q.add (S.o q.mv (S.end (hK _ ?_)))
                    clear hK K
                    refine hR2 _ _ ?_
                    refine roundU [0, 1] [0, 1, 6, 7, 21, 22, 23, 24, 40, 41] ⟨(pre2 ++ [s], suf2), by rw [← hp2]; simp, ?_⟩ ?_ (keep_d (he := (by first | rfl | (simp; done) | (rw [flat_snoc, joinG_pos ‹_› hk, List.append_assoc]) | (rw [flat_snoc, joinG_neg hk, List.append_nil]) | (rw [flat_snoc, joinG_in ‹_›, List.append_nil]))) (h := (keep_c (he := (by first | rfl | (simp; done) | (rw [flat_snoc, joinG_pos ‹_› hk, List.append_assoc]) | (rw [flat_snoc, joinG_neg hk, List.append_nil]) | (rw [flat_snoc, joinG_in ‹_›, List.append_nil]))) (h := keep_n)))) (slots_c (he := (by first | rfl | (congr 2; simp; done))) (h := trivial)) (.c (.c (.c (.c (.c (.c (.c (.c (.c (.c .n))))))))))
                    intro x hx; simp only [List.mem_append, List.mem_singleton] at hx; rcases hx with hx | rfl
                    · exact hinv2 x hx
                    · intro h0; omega
                    all_goals (dsimp only; simp only [List.length_cons]; omega)
              · first
              | (first | omega | contradiction)
              | refine M.sk (M.sk (M.sk (M.sk (M.sk (M.sk (M.end [_, _, _] (h := ?_)))))))
                rcases Int.lt_or_le 0 (joinK 0 s.1) with hk | hk
                · skip
                  refine S.sk (S.sk (S.o q.pf (S.end (hK _ ?_))))
                  clear hK K
                  refine Ev.cf ?_
                  refine Ev.skip ?_
                  show Ev _ _ _ _
                  refine Ev.region_S fun K hK => S.o q.add (S.o q.mv (S.end (hK _ ?_)))
                  clear hK K
                  refine hR2 _ _ ?_
                  refine roundU [0, 1] [0, 1, 6, 7, 21, 22, 23, 24, 40, 41] ⟨(pre2 ++ [s], suf2), by rw [← hp2]; simp, ?_⟩ ?_ (keep_d (he := (by first | rfl | (simp; done) | (rw [flat_snoc, joinG_pos ‹_› hk, List.append_assoc]) | (rw [flat_snoc, joinG_neg hk, List.append_nil]) | (rw [flat_snoc, joinG_in ‹_›, List.append_nil]))) (h := (keep_c (he := (by first | rfl | (simp; done) | (rw [flat_snoc, joinG_pos ‹_› hk, List.append_assoc]) | (rw [flat_snoc, joinG_neg hk, List.append_nil]) | (rw [flat_snoc, joinG_in ‹_›, List.append_nil]))) (h := keep_n)))) (slots_c (he := (by first | rfl | (congr 2; simp; done))) (h := trivial)) (.c (.c (.c (.c (.c (.c (.c (.c (.c (.c .n))))))))))
                  intro x hx; simp only [List.mem_append, List.mem_singleton] at hx; rcases hx with hx | rfl
                  · exact hinv2 x hx
                  · intro h0; omega
                  all_goals (dsimp only; simp only [List.length_cons]; omega)
                · skip
                  refine S.sk (S.sk (S.o q.pf (S.end (hK _ ?_))))
                  clear hK K
                  refine Ev.cf ?_
                  refine Ev.skip ?_
                  show Ev _ _ _ _
                  refine Ev.region_S fun K hK => S.o q.add (S.o q.mv (S.end (hK _ ?_)))
                  clear hK K
                  refine hR2 _ _ ?_
                  refine roundU [0, 1] [0, 1, 6, 7, 21, 22, 23, 24, 40, 41] ⟨(pre2 ++ [s], suf2), by rw [← hp2]; simp, ?_⟩ ?_ (keep_d (he := (by first | rfl | (simp; done) | (rw [flat_snoc, joinG_pos ‹_› hk, List.append_assoc]) | (rw [flat_snoc, joinG_neg hk, List.append_nil]) | (rw [flat_snoc, joinG_in ‹_›, List.append_nil]))) (h := (keep_c (he := (by first | rfl | (simp; done) | (rw [flat_snoc, joinG_pos ‹_› hk, List.append_assoc]) | (rw [flat_snoc, joinG_neg hk, List.append_nil]) | (rw [flat_snoc, joinG_in ‹_›, List.append_nil]))) (h := keep_n)))) (slots_c (he := (by first | rfl | (congr 2; simp; done))) (h := trivial)) (.c (.c (.c (.c (.c (.c (.c (.c (.c (.c .n))))))))))
                  intro x hx; simp only [List.mem_append, List.mem_singleton] at hx; rcases hx with hx | rfl
                  · exact hinv2 x hx
                  · intro h0; omega
                  all_goals (dsimp only; simp only [List.length_cons]; omega)
            · first
            | (first | omega | contradiction)
            | refine Ev.exit ?_
              refine hR2 _ _ ?_
              show Ev _ _ _ _
              refine Ev.seq ?_
              refine Ev.sr fun K hK => S.o (q.lv am_ag25) (S.o (q.lena am_el25) (S.o q.gtr (S.end (hK _ ?_))))
              clear hK K
              refine Ev.cd (fun c23 => ?_) (fun c23 => ?_)
              · first
              | (first | omega | contradiction)
              | refine Ev.sr fun K hK => S.o q.as (S.o q.as (S.end (hK _ ?_)))
                clear hK K
                refine Ev.weaken (Wk.nsh findC 4 2) ?_
                refine Ev.ret ?_
                refine Ev.ret2 ?_
                refine ⟨?_, rfl⟩
                first
                 | exact jE1 (fun h => absurd h.1 ‹_›)
                 | exact jE1 (fun h => absurd h.2 ‹_›)
                 | exact jE13 hyes (fun h => by have h1 := h.1 s (by rw [← hp]; simp); omega)
                 | exact jE13 hyes (fun h => by have h1 := h.2 s (by rw [← hp2]; simp) (by omega); omega)
                 | exact jE4 hyes hJ (by rw [hfin]; omega)
                 | exact jE0 hyes hJ hfin (by omega)
              · first
              | (first | omega | contradiction)
              | refine Ev.skip ?_
                show Ev _ _ _ _
                refine Ev.sr fun K hK => S.o (q.lv am_ag25) (S.o q.as (S.o q.as (S.end (hK _ ?_))))
                clear hK K
                refine Ev.weaken (Wk.frz 4 [_]) ?_
                refine Ev.ret ?_
                refine Ev.ret2 ?_
                refine ⟨?_, rfl⟩
                first
                 | exact jE1 (fun h => absurd h.1 ‹_›)
                 | exact jE1 (fun h => absurd h.2 ‹_›)
                 | exact jE13 hyes (fun h => by have h1 := h.1 s (by rw [← hp]; simp); omega)
                 | exact jE13 hyes (fun h => by have h1 := h.2 s (by rw [← hp2]; simp) (by omega); omega)
                 | exact jE4 hyes hJ (by rw [hfin]; omega)
                 | exact jE0 hyes hJ hfin (by omega)
          · simp only [List.length_cons] at hpl2
            have hidx2 : m[pre2.length]? = some s := by rw [← hp2]; simp
            refine Ev.sr fun K hK => S.o q.lss (S.end (hK _ ?_))
            clear hK K
            refine Ev.ud (fun c24 => ?_) (fun c24 => ?_)
            · first
            | (first | omega | contradiction)
            | refine Ev.seq ?_
              refine Ev.block ?_
              refine Ev.sr fun K hK => S.o (q.ix am_el25 am_cl34 (hl := (by first | exact ati hidx (by omega) | exact ati hidx2 (by omega) | exact atig (by omega)))) (S.o (q.lsA [_, _] am_ag34 am_cl34) (S.nn (q.al am_ze34) (S.sv [_, _] true [_, _] am_in34 am_cl34 (h := S.end (hK _ ?_)))))
              clear hK K
              refine Ev.sm (tbs [(0, 0), (0, 0), (2, 2), (3, 7), (4, 15), (5, 31), (6, 63), (6, 63), (8, 191), (6, 63), (10, 575), (11, 1599), (12, 4095), (13, 8191), (14, 16383)]) 12 fun K hK => M.o q.mv (M.o (q.fa 1 am_fi34_1 am_cl9) (M.o (q.lv am_ag9) (M.c0 (hF := of_fun _ _ (by omega)) (h := M.o q.eql (M.bd q.mv (fun c25 => ?_) (fun c25 => ?_))))))
              · first
              | (first | omega | contradiction)
              | refine M.o q.mv (M.o (q.fa 1 am_fi34_1 am_cl9) (M.o (q.lv am_ag9) (M.o (q.fa 0 am_fi34_0 am_cl3) (M.o (q.lv am_ag3) (M.c0 (hF := joined_fun _ _) (h := M.end [_, _, _] (h := ?_)))))))
                rcases Int.lt_or_le 0 (joinK 0 s.1) with hk | hk
                · skip
                  refine S.cR [0, 1] 52 [_, _, _] (hob := (keep_d (he := rfl) (h := (keep_c (he := rfl) (h := keep_n))))) (hF := put_fun _ _ _ hk (by (try simp only [List.length_append]); omega)) (hn' := belowL rfl rfl) (h := S.o q.not (S.o q.pt (S.end (hK _ ?_))))
                  clear hK K
                  refine Ev.cn (fun c26 => ?_) (fun c26 => ?_)
                  · first
                  | (first | omega | contradiction)
                  | refine Ev.sr fun K hK => S.o q.as (S.o q.as (S.end (hK _ ?_)))
                    clear hK K
                    refine Ev.weaken (Wk.nsh findC 4 2) ?_
                    refine Ev.ret ?_
                    refine hR2 _ _ ?_
                    refine Ev.ret2 ?_
                    refine ⟨?_, rfl⟩
                    first
                     | exact jE1 (fun h => absurd h.1 ‹_›)
                     | exact jE1 (fun h => absurd h.2 ‹_›)
                     | exact jE13 hyes (fun h => by have h1 := h.1 s (by rw [← hp]; simp); omega)
                     | exact jE13 hyes (fun h => by have h1 := h.2 s (by rw [← hp2]; simp) (by omega); omega)
                     | exact jE4 hyes hJ (by rw [hfin]; omega)
                     | exact jE0 hyes hJ hfin (by omega)
                  · first
                  | (first | omega | contradiction)
                  | refine Ev.skip ?_
                    show Ev _ _ _ _
                    refine Ev.region_S fun K hK => S.o q.add (S.o q.mv (S.end (hK _ ?_)))
                    clear hK K
                    refine hR2 _ _ ?_
                    refine roundU [0, 51] [0, 1, 6, 7, 21, 22, 23, 24, 40, 41] ⟨(pre2 ++ [s], suf2), by rw [← hp2]; simp, ?_⟩ ?_ (keep_d (he := (by first | rfl | (simp; done) | (rw [flat_snoc, joinG_pos ‹_› hk, List.append_assoc]) | (rw [flat_snoc, joinG_neg hk, List.append_nil]) | (rw [flat_snoc, joinG_in ‹_›, List.append_nil]))) (h := (keep_c (he := (by first | rfl | (simp; done) | (rw [flat_snoc, joinG_pos ‹_› hk, List.append_assoc]) | (rw [flat_snoc, joinG_neg hk, List.append_nil]) | (rw [flat_snoc, joinG_in ‹_›, List.append_nil]))) (h := keep_n)))) (slots_c (he := (by first | rfl | (congr 2; simp; done))) (h := trivial)) (.c (.c (.c (.c (.c (.c (.c (.c (.c (.c .n))))))))))
                    intro x hx; simp only [List.mem_append, List.mem_singleton] at hx; rcases hx with hx | rfl
                    · exact hinv2 x hx
                    · intro h0; omega
                    all_goals (dsimp only; simp only [List.length_cons]; omega)
                · skip
                  refine S.cR [0, 1] 51 [_, _, _] (hob := (keep_d (he := rfl) (h := (keep_c (he := rfl) (h := keep_n))))) (hF := put0_fun _ _ _ hk (by (try simp only [List.length_append]); omega)) (hn' := belowL rfl rfl) (h := S.o q.not (S.o q.pt (S.end (hK _ ?_))))
                  clear hK K
                  refine Ev.cn (fun c27 => ?_) (fun c27 => ?_)
                  · first
                  | (first | omega | contradiction)
                  | refine Ev.sr fun K hK => S.o q.as (S.o q.as (S.end (hK _ ?_)))
                    clear hK K
                    refine Ev.weaken (Wk.nsh findC 4 2) ?_
                    refine Ev.ret ?_
                    refine hR2 _ _ ?_
                    refine Ev.ret2 ?_
                    refine ⟨?_, rfl⟩
                    first
                     | exact jE1 (fun h => absurd h.1 ‹_›)
                     | exact jE1 (fun h => absurd h.2 ‹_›)
                     | exact jE13 hyes (fun h => by have h1 := h.1 s (by rw [← hp]; simp); omega)
                     | exact jE13 hyes (fun h => by have h1 := h.2 s (by rw [← hp2]; simp) (by omega); omega)
                     | exact jE4 hyes hJ (by rw [hfin]; omega)
                     | exact jE0 hyes hJ hfin (by omega)
                  · first
                  | (first | omega | contradiction)
                  | refine Ev.skip ?_
                    show Ev _ _ _ _
                    refine Ev.region_S fun K hK => S.o q.add (S.o q.mv (S.end (hK _ ?_)))
                    clear hK K
                    refine hR2 _ _ ?_
                    refine roundU [0, 1] [0, 1, 6, 7, 21, 22, 23, 24, 40, 41] ⟨(pre2 ++ [s], suf2), by rw [← hp2]; simp, ?_⟩ ?_ (keep_d (he := (by first | rfl | (simp; done) | (rw [flat_snoc, joinG_pos ‹_› hk, List.append_assoc]) | (rw [flat_snoc, joinG_neg hk, List.append_nil]) | (rw [flat_snoc, joinG_in ‹_›, List.append_nil]))) (h := (keep_c (he := (by first | rfl | (simp; done) | (rw [flat_snoc, joinG_pos ‹_› hk, List.append_assoc]) | (rw [flat_snoc, joinG_neg hk, List.append_nil]) | (rw [flat_snoc, joinG_in ‹_›, List.append_nil]))) (h := keep_n)))) (slots_c (he := (by first | rfl | (congr 2; simp; done))) (h := trivial)) (.c (.c (.c (.c (.c (.c (.c (.c (.c (.c .n))))))))))
                    intro x hx; simp only [List.mem_append, List.mem_singleton] at hx; rcases hx with hx | rfl
                    · exact hinv2 x hx
                    · intro h0; omega
                    all_goals (dsimp only; simp only [List.length_cons]; omega)
              · first
              | (first | omega | contradiction)
              | refine M.sk (M.sk (M.sk (M.sk (M.sk (M.sk (M.end [_, _, _] (h := ?_)))))))
                rcases Int.lt_or_le 0 (joinK 0 s.1) with hk | hk
                · skip
                  refine S.sk (S.sk (S.o q.pf (S.end (hK _ ?_))))
                  clear hK K
                  refine Ev.cf ?_
                  refine Ev.skip ?_
                  show Ev _ _ _ _
                  refine Ev.region_S fun K hK => S.o q.add (S.o q.mv (S.end (hK _ ?_)))
                  clear hK K
                  refine hR2 _ _ ?_
                  refine roundU [0, 1] [0, 1, 6, 7, 21, 22, 23, 24, 40, 41] ⟨(pre2 ++ [s], suf2), by rw [← hp2]; simp, ?_⟩ ?_ (keep_d (he := (by first | rfl | (simp; done) | (rw [flat_snoc, joinG_pos ‹_› hk, List.append_assoc]) | (rw [flat_snoc, joinG_neg hk, List.append_nil]) | (rw [flat_snoc, joinG_in ‹_›, List.append_nil]))) (h := (keep_c (he := (by first | rfl | (simp; done) | (rw [flat_snoc, joinG_pos ‹_› hk, List.append_assoc]) | (rw [flat_snoc, joinG_neg hk, List.append_nil]) | (rw [flat_snoc, joinG_in ‹_›, List.append_nil]))) (h := keep_n)))) (slots_c (he := (by first | rfl | (congr 2; simp; done))) (h := trivial)) (.c (.c (.c (.c (.c (.c (.c (.c (.c (.c .n))))))))))
                  intro x hx; simp only [List.mem_append, List.mem_singleton] at hx; rcases hx with hx | rfl
                  · exact hinv2 x hx
                  · intro h0; omega
                  all_goals (dsimp only; simp only [List.length_cons]; omega)
                · skip
                  refine S.sk (S.sk (S.o q.pf (S.end (hK _ ?_))))
                  clear hK K
                  refine Ev.cf ?_
                  refine Ev.skip ?_
                  show Ev _ _ _ _
                  refine Ev.region_S fun K hK => S.o q.add (S.o q.mv (S.end (hK _ ?_)))
                  clear hK K
                  refine hR2 _ _ ?_
                  refine roundU [0, 1] [0, 1, 6, 7, 21, 22, 23, 24, 40, 41] ⟨(pre2 ++ [s], suf2), by rw [← hp2]; simp, ?_⟩ ?_ (keep_d (he := (by first | rfl | (simp; done) | (rw [flat_snoc, joinG_pos ‹_› hk, List.append_assoc]) | (rw [flat_snoc, joinG_neg hk, List.append_nil]) | (rw [flat_snoc, joinG_in ‹_›, List.append_nil]))) (h := (keep_c (he := (by first | rfl | (simp; done) | (rw [flat_snoc, joinG_pos ‹_› hk, List.append_assoc]) | (rw [flat_snoc, joinG_neg hk, List.append_nil]) | (rw [flat_snoc, joinG_in ‹_›, List.append_nil]))) (h := keep_n)))) (slots_c (he := (by first | rfl | (congr 2; simp; done))) (h := trivial)) (.c (.c (.c (.c (.c (.c (.c (.c (.c (.c .n))))))))))
                  intro x hx; simp only [List.mem_append, List.mem_singleton] at hx; rcases hx with hx | rfl
                  · exact hinv2 x hx
                  · intro h0; omega
                  all_goals (dsimp only; simp only [List.length_cons]; omega)
            · first
            | (first | omega | contradiction)
            | refine Ev.exit ?_
              refine hR2 _ _ ?_
              show Ev _ _ _ _
              refine Ev.seq ?_
              refine Ev.sr fun K hK => S.o (q.lv am_ag25) (S.o (q.lena am_el25) (S.o q.gtr (S.end (hK _ ?_))))
              clear hK K
              refine Ev.cd (fun c28 => ?_) (fun c28 => ?_)
              · first
              | (first | omega | contradiction)
              | refine Ev.sr fun K hK => S.o q.as (S.o q.as (S.end (hK _ ?_)))
                clear hK K
                refine Ev.weaken (Wk.nsh findC 4 2) ?_
                refine Ev.ret ?_
                refine Ev.ret2 ?_
                refine ⟨?_, rfl⟩
                first
                 | exact jE1 (fun h => absurd h.1 ‹_›)
                 | exact jE1 (fun h => absurd h.2 ‹_›)
                 | exact jE13 hyes (fun h => by have h1 := h.1 s (by rw [← hp]; simp); omega)
                 | exact jE13 hyes (fun h => by have h1 := h.2 s (by rw [← hp2]; simp) (by omega); omega)
                 | exact jE4 hyes hJ (by rw [hfin]; omega)
                 | exact jE0 hyes hJ hfin (by omega)
              · first
              | (first | omega | contradiction)
              | refine Ev.skip ?_
                show Ev _ _ _ _
                refine Ev.sr fun K hK => S.o (q.lv am_ag25) (S.o q.as (S.o q.as (S.end (hK _ ?_))))
                clear hK K
                refine Ev.weaken (Wk.frz 4 [_]) ?_
                refine Ev.ret ?_
                refine Ev.ret2 ?_
                refine ⟨?_, rfl⟩
                first
                 | exact jE1 (fun h => absurd h.1 ‹_›)
                 | exact jE1 (fun h => absurd h.2 ‹_›)
                 | exact jE13 hyes (fun h => by have h1 := h.1 s (by rw [← hp]; simp); omega)
                 | exact jE13 hyes (fun h => by have h1 := h.2 s (by rw [← hp2]; simp) (by omega); omega)
                 | exact jE4 hyes hJ (by rw [hfin]; omega)
                 | exact jE0 hyes hJ hfin (by omega)
end Go.Proofs.YtccddakkegelkaaGreatDoor
