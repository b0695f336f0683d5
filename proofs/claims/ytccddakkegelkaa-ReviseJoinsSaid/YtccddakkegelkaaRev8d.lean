/-
  Layer 41: the reference, joining kinds.
  Conditions: none.
-/
import Derived.Test.YtccddakkegelkaaRev5
namespace Go.Proofs.Ytccddakkegelkaa
open Go Go.AM
set_option linter.unusedSimpArgs false
set_option linter.unusedVariables false
set_option maxRecDepth 100000

def rjB (f l : Int) : Bool := if f = 4 then decide (l = 0 ∨ l = 3) else decide (¬ (l = 0 ∨ l = 3))
def rjK (f l : Int) : Int := if f = 4 then (if l = 0 then 4 else if l = 3 then 2 else 0) else if l = 0 ∨ l = 3 then 0 else if f = 3 then (if l = 4 then 0 else 3) else if l = 4 then 4 else if f = 1 ∧ l = 1 then 1 else 2
theorem rj_law {f l : Int} (h1 : 1 ≤ f) (h2 : f ≤ 4) (h3 : 0 ≤ l) (h4 : l ≤ 4) : joinK f l = if rjB f l then rjK f l else -1 := by
  have hf : f = 1 ∨ f = 2 ∨ f = 3 ∨ f = 4 := by omega
  have hl : l = 0 ∨ l = 1 ∨ l = 2 ∨ l = 3 ∨ l = 4 := by omega
  rcases hf with rfl | rfl | rfl | rfl <;> rcases hl with rfl | rfl | rfl | rfl | rfl <;> rfl
theorem rj_eq {f l k : Int} {c : Bool} (h1 : rjK f l = k) (h2 : rjB f l = c) : AV.tup [.lit (.int .i64 k), .lit (.bool c)] = .tup [.lit (.int .i64 (rjK f l)), .lit (.bool (rjB f l))] := by rw [h1, h2]
theorem rjoined_fun (f l : Int) : Fun Try.prog 61 [.lit (.int .i64 f), .lit (.int .i64 l)] (Ret (.tup [.lit (.int .i64 (rjK f l)), .lit (.bool (rjB f l))]) []) := by
  refine Fun.of (nt := 31) (rs := [.tmp 4, .tmp 5]) Try.func61 rfl rfl rfl rfl rfl ?_
  refine Ev.sr fun K hK => S.o q.as (S.o q.as (S.end (hK _ ?_)))
  clear hK K
  refine Ev.seq ?_
  refine Ev.sr fun K hK => S.o q.mv (S.o q.eql (S.end (hK _ ?_)))
  clear hK K
  refine Ev.cd (fun c1 => ?_) (fun c1 => ?_)
  · first
  | (first | omega | contradiction)
  | refine Ev.seq ?_
    refine Ev.sr fun K hK => S.o q.mv (S.end (hK _ ?_))
    clear hK K
    refine Ev.block ?_
    refine Ev.sr fun K hK => S.o q.eql (S.o q.as (S.end (hK _ ?_)))
    clear hK K
    refine Ev.cd (fun c2 => ?_) (fun c2 => ?_)
    · first
    | (first | omega | contradiction)
    | refine Ev.sr fun K hK => S.o q.as (S.o q.as (S.end (hK _ ?_)))
      clear hK K
      refine Ev.ret ?_
      refine Ev.ret2 ?_
      refine ⟨?_, rfl⟩
      exact rj_eq (by unfold rjK; repeat' split <;> first | omega | rfl) (by unfold rjB; split <;> first | omega | (exact decide_eq_true (by omega)) | (exact decide_eq_false (by omega)))
    · first
    | (first | omega | contradiction)
    | refine Ev.sr fun K hK => S.o q.eql (S.o q.as (S.end (hK _ ?_)))
      clear hK K
      refine Ev.cd (fun c3 => ?_) (fun c3 => ?_)
      · first
      | (first | omega | contradiction)
      | refine Ev.sr fun K hK => S.o q.as (S.o q.as (S.end (hK _ ?_)))
        clear hK K
        refine Ev.ret ?_
        refine Ev.ret2 ?_
        refine ⟨?_, rfl⟩
        exact rj_eq (by unfold rjK; repeat' split <;> first | omega | rfl) (by unfold rjB; split <;> first | omega | (exact decide_eq_true (by omega)) | (exact decide_eq_false (by omega)))
      · first
      | (first | omega | contradiction)
      | refine Ev.skip ?_
        show Ev _ _ _ _
        refine Ev.sr fun K hK => S.o q.as (S.o q.as (S.end (hK _ ?_)))
        clear hK K
        refine Ev.ret ?_
        refine Ev.ret2 ?_
        refine ⟨?_, rfl⟩
        exact rj_eq (by unfold rjK; repeat' split <;> first | omega | rfl) (by unfold rjB; split <;> first | omega | (exact decide_eq_true (by omega)) | (exact decide_eq_false (by omega)))
  · first
  | (first | omega | contradiction)
  | refine Ev.skip ?_
    show Ev _ _ _ _
    refine Ev.seq ?_
    refine Ev.sr fun K hK => S.o q.mv (S.o q.eql (S.bd q.mv (fun c4 => ?_) (fun c4 => ?_)))
    · first
    | (first | omega | contradiction)
    | refine S.sk (S.sk (S.o q.pt (S.end (hK _ ?_))))
      clear hK K
      refine Ev.ct ?_
      refine Ev.sr fun K hK => S.o q.as (S.o q.as (S.end (hK _ ?_)))
      clear hK K
      refine Ev.ret ?_
      refine Ev.ret2 ?_
      refine ⟨?_, rfl⟩
      exact rj_eq (by unfold rjK; repeat' split <;> first | omega | rfl) (by unfold rjB; split <;> first | omega | (exact decide_eq_true (by omega)) | (exact decide_eq_false (by omega)))
    · first
    | (first | omega | contradiction)
    | refine S.o q.mv (S.o q.eql (S.o q.pf (S.end (hK _ ?_))))
      clear hK K
      refine Ev.cd (fun c5 => ?_) (fun c5 => ?_)
      · first
      | (first | omega | contradiction)
      | refine Ev.sr fun K hK => S.o q.as (S.o q.as (S.end (hK _ ?_)))
        clear hK K
        refine Ev.ret ?_
        refine Ev.ret2 ?_
        refine ⟨?_, rfl⟩
        exact rj_eq (by unfold rjK; repeat' split <;> first | omega | rfl) (by unfold rjB; split <;> first | omega | (exact decide_eq_true (by omega)) | (exact decide_eq_false (by omega)))
      · first
      | (first | omega | contradiction)
      | refine Ev.skip ?_
        show Ev _ _ _ _
        refine Ev.seq ?_
        refine Ev.sr fun K hK => S.o q.mv (S.o q.eql (S.end (hK _ ?_)))
        clear hK K
        refine Ev.cd (fun c6 => ?_) (fun c6 => ?_)
        · first
        | (first | omega | contradiction)
        | refine Ev.seq ?_
          refine Ev.sr fun K hK => S.o q.mv (S.o q.eql (S.end (hK _ ?_)))
          clear hK K
          refine Ev.cd (fun c7 => ?_) (fun c7 => ?_)
          · first
          | (first | omega | contradiction)
          | refine Ev.sr fun K hK => S.o q.as (S.o q.as (S.end (hK _ ?_)))
            clear hK K
            refine Ev.ret ?_
            refine Ev.ret2 ?_
            refine ⟨?_, rfl⟩
            exact rj_eq (by unfold rjK; repeat' split <;> first | omega | rfl) (by unfold rjB; split <;> first | omega | (exact decide_eq_true (by omega)) | (exact decide_eq_false (by omega)))
          · first
          | (first | omega | contradiction)
          | refine Ev.skip ?_
            show Ev _ _ _ _
            refine Ev.sr fun K hK => S.o q.as (S.o q.as (S.end (hK _ ?_)))
            clear hK K
            refine Ev.ret ?_
            refine Ev.ret2 ?_
            refine ⟨?_, rfl⟩
            exact rj_eq (by unfold rjK; repeat' split <;> first | omega | rfl) (by unfold rjB; split <;> first | omega | (exact decide_eq_true (by omega)) | (exact decide_eq_false (by omega)))
        · first
        | (first | omega | contradiction)
        | refine Ev.skip ?_
          show Ev _ _ _ _
          refine Ev.seq ?_
          refine Ev.sr fun K hK => S.o q.mv (S.o q.eql (S.end (hK _ ?_)))
          clear hK K
          refine Ev.cd (fun c8 => ?_) (fun c8 => ?_)
          · first
          | (first | omega | contradiction)
          | refine Ev.sr fun K hK => S.o q.as (S.o q.as (S.end (hK _ ?_)))
            clear hK K
            refine Ev.ret ?_
            refine Ev.ret2 ?_
            refine ⟨?_, rfl⟩
            exact rj_eq (by unfold rjK; repeat' split <;> first | omega | rfl) (by unfold rjB; split <;> first | omega | (exact decide_eq_true (by omega)) | (exact decide_eq_false (by omega)))
          · first
          | (first | omega | contradiction)
          | refine Ev.skip ?_
            show Ev _ _ _ _
            refine Ev.seq ?_
            refine Ev.sr fun K hK => S.o q.mv (S.o q.eql (S.bd q.mv (fun c9 => ?_) (fun c9 => ?_)))
            · first
            | (first | omega | contradiction)
            | refine S.o q.mv (S.o q.eql (S.o q.pt (S.end (hK _ ?_))))
              clear hK K
              refine Ev.cd (fun c10 => ?_) (fun c10 => ?_)
              · first
              | (first | omega | contradiction)
              | refine Ev.sr fun K hK => S.o q.as (S.o q.as (S.end (hK _ ?_)))
                clear hK K
                refine Ev.ret ?_
                refine Ev.ret2 ?_
                refine ⟨?_, rfl⟩
                exact rj_eq (by unfold rjK; repeat' split <;> first | omega | rfl) (by unfold rjB; split <;> first | omega | (exact decide_eq_true (by omega)) | (exact decide_eq_false (by omega)))
              · first
              | (first | omega | contradiction)
              | refine Ev.skip ?_
                show Ev _ _ _ _
                refine Ev.sr fun K hK => S.o q.as (S.o q.as (S.end (hK _ ?_)))
                clear hK K
                refine Ev.ret ?_
                refine Ev.ret2 ?_
                refine ⟨?_, rfl⟩
                exact rj_eq (by unfold rjK; repeat' split <;> first | omega | rfl) (by unfold rjB; split <;> first | omega | (exact decide_eq_true (by omega)) | (exact decide_eq_false (by omega)))
            · first
            | (first | omega | contradiction)
            | refine S.sk (S.sk (S.o q.pf (S.end (hK _ ?_))))
              clear hK K
              refine Ev.cf ?_
              refine Ev.skip ?_
              show Ev _ _ _ _
              refine Ev.sr fun K hK => S.o q.as (S.o q.as (S.end (hK _ ?_)))
              clear hK K
              refine Ev.ret ?_
              refine Ev.ret2 ?_
              refine ⟨?_, rfl⟩
              exact rj_eq (by unfold rjK; repeat' split <;> first | omega | rfl) (by unfold rjB; split <;> first | omega | (exact decide_eq_true (by omega)) | (exact decide_eq_false (by omega)))
end Go.Proofs.Ytccddakkegelkaa
