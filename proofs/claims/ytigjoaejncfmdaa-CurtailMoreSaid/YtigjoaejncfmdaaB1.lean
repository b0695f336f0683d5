/-
  slices.IndexFunc and ContainsFunc.
  Conditions: none.
-/
import Derived.Test.YtigjoaejncfmdaaA1
import Derived.Test.YtigjoaejncfmdaaAmAuto
import Derived.Test.YtigjoaejncfmdaaAmFactx
namespace Go.Proofs.Ytigjoaejncfmdaa
open Go Go.AM
set_option linter.unusedSimpArgs false
set_option linter.unusedVariables false
set_option maxRecDepth 100000

theorem bT {p : Prop} [Decidable p] (h : p) : AV.lit (.bool true) = .lit (.bool (decide p)) := by rw [decide_eq_true h]
theorem bF {p : Prop} [Decidable p] (h : ¬ p) : AV.lit (.bool false) = .lit (.bool (decide p)) := by rw [decide_eq_false h]

/-- The place of the first one, or -1. -/
def idxP {T : Type} (p : T → Bool) : List T → Int → Int
  | [], _ => -1
  | x :: l, k => if p x = true then k else idxP p l (k + 1)
theorem idxP_append {T : Type} (p : T → Bool) (s : T) : ∀ (l m : List T) (k : Int), (∀ x ∈ l, p x = false) → idxP p (l ++ m) k = idxP p m (k + l.length)
  | [], m, k, _ => by simp
  | x :: l, m, k, h => by
    have h1 := h x (by simp)
    rw [List.cons_append, idxP, h1, if_neg (by simp), idxP_append p s l m _ (fun y hy => h y (by simp [hy]))]
    congr 1
    simp; omega
theorem idxP_nonneg {T : Type} (p : T → Bool) : ∀ (l : List T) (k : Int), 0 ≤ k → (0 ≤ idxP p l k ↔ ∃ x ∈ l, p x = true)
  | [], k, _ => by simp [idxP]
  | x :: l, k, hk => by
    rw [idxP]
    split
    · rename_i h; simp [h, hk]
    · rename_i h; rw [idxP_nonneg p l (k + 1) (by omega)]; simp [h]

theorem indexFuncStep0 (g : FuncId) (p : Int × Int → Bool) (hg : ∀ s, Fun Try.prog g [.agg (stepC s)] (Ret (.lit (.bool (p s))) [])) (l : List (Int × Int)) (hlen : l.length ≤ 140737488355328) :
    Fun Try.prog 60 [.sh 2 (l.map stepC), .fn (.func g) [] []] (Ret (.lit (.int .i64 (idxP p l 0))) []) := by
  refine Fun.of (nt := 19) (rs := [.tmp 4]) Try.func60 rfl rfl rfl rfl rfl ?_
  refine Ev.sr fun K hK => S.o q.as (S.end (hK _ ?_))
  clear hK K
  refine Ev.seq ?_
  refine Ev.sr fun K hK => S.o q.mv (S.o (q.lens am_el22) (S.o q.mv (S.end (hK _ ?_))))
  clear hK K
  refine Ev.block ?_
  refine Ev.loopU (ι := {q : List (Int × Int) × List (Int × Int) // q.1 ++ q.2 = l ∧ ∀ x ∈ q.1, p x = false}) [] [0, 1, 7] (fun ⟨(pre, suf), _⟩ => [(8, .lit (.int .i64 ((pre.length : Int))))]) (fun ⟨(pre, suf), _⟩ => []) (fun ⟨(pre, suf), _⟩ => suf.length) ⟨([], l), rfl, fun x hx => by simp at hx⟩ (.c (.c (.c .n))) keep_n (slots_c (he := (by first | rfl | (simp; done) | (congr 2; omega))) (h := trivial)) ?_
  rintro ⟨⟨pre, suf⟩, hp, hinv⟩ R0 hR0
  dsimp only [List.cons_append, List.nil_append, List.length_cons, List.length_nil]
  simp only at hp hinv
  rcases suf with _ | ⟨s, suf⟩
  · rw [List.append_nil] at hp; subst hp
    refine Ev.sr fun K hK => S.o q.lss (S.end (hK _ ?_))
    clear hK K
    refine Ev.ud (fun c1 => ?_) (fun c1 => ?_)
    · first
    | (first | omega | contradiction)
    | refine Ev.seq ?_
      refine Ev.block ?_
      refine Ev.sr fun K hK => S.o q.mv (S.o q.as (S.end (hK _ ?_)))
      clear hK K
      refine Ev.sr fun K hK => S.o q.mv (S.o q.mv (S.o q.mv (S.o (q.ix am_el22 am_cl57 (hl := (by first | exact atig (by omega)))) (S.o (q.lsA [_, _] am_ag57 am_cl57) (S.c0 (hF := hg s) (h := S.end (hK _ ?_)))))))
      clear hK K
      refine Ev.c (fun c2 => ?_) (fun c2 => ?_)
      · first
      | (first | omega | contradiction)
      | refine Ev.sr fun K hK => S.o q.mv (S.o q.as (S.end (hK _ ?_)))
        clear hK K
        refine Ev.ret ?_
        refine hR0 _ _ ?_
        refine Ev.ret1 ?_
        refine ⟨?_, rfl⟩
        first | (congr 2; rw [← hp, idxP_append p s pre _ 0 hinv, idxP, if_pos ‹_›]; omega) | (congr 2; have := idxP_append p (0,0) pre [] 0 hinv; rw [List.append_nil] at this; rw [this]; rfl)
      · first
      | (first | omega | contradiction)
      | refine Ev.skip ?_
        show Ev _ _ _ _
        refine Ev.region_S fun K hK => S.o q.add (S.o q.mv (S.end (hK _ ?_)))
        clear hK K
        refine hR0 _ _ ?_
        refine roundU [] [0, 1, 7] ⟨(pre ++ [s], suf), by rw [← hp]; simp, ?_⟩ ?_ keep_n (slots_c (he := (by first | rfl | (simp; done) | (congr 2; omega))) (h := trivial)) (.c (.c (.c .n)))
        intro x hx; simp only [List.mem_append, List.mem_singleton] at hx; rcases hx with hx | rfl
        · exact hinv x hx
        · assumption
        all_goals (simp only [List.length_cons]; omega)
    · first
    | (first | omega | contradiction)
    | refine Ev.exit ?_
      refine hR0 _ _ ?_
      show Ev _ _ _ _
      refine Ev.sr fun K hK => S.o q.as (S.end (hK _ ?_))
      clear hK K
      refine Ev.ret ?_
      refine Ev.ret1 ?_
      refine ⟨?_, rfl⟩
      first | (congr 2; rw [← hp, idxP_append p s pre _ 0 hinv, idxP, if_pos ‹_›]; omega) | (congr 2; have := idxP_append p (0,0) pre [] 0 hinv; rw [List.append_nil] at this; rw [this]; rfl)
  · have hlt : (pre.length : Int) < (l).length := by rw [← hp, List.length_append, List.length_cons]; omega
    have hidx : (l)[pre.length]? = some s := by rw [← hp]; simp
    refine Ev.sr fun K hK => S.o q.lss (S.end (hK _ ?_))
    clear hK K
    refine Ev.ud (fun c3 => ?_) (fun c3 => ?_)
    · first
    | (first | omega | contradiction)
    | refine Ev.seq ?_
      refine Ev.block ?_
      refine Ev.sr fun K hK => S.o q.mv (S.o q.as (S.end (hK _ ?_)))
      clear hK K
      refine Ev.sr fun K hK => S.o q.mv (S.o q.mv (S.o q.mv (S.o (q.ix am_el22 am_cl57 (hl := (by first | exact ati hidx (by omega) | exact atig (by omega)))) (S.o (q.lsA [_, _] am_ag57 am_cl57) (S.c0 (hF := hg s) (h := S.end (hK _ ?_)))))))
      clear hK K
      refine Ev.c (fun c4 => ?_) (fun c4 => ?_)
      · first
      | (first | omega | contradiction)
      | refine Ev.sr fun K hK => S.o q.mv (S.o q.as (S.end (hK _ ?_)))
        clear hK K
        refine Ev.ret ?_
        refine hR0 _ _ ?_
        refine Ev.ret1 ?_
        refine ⟨?_, rfl⟩
        first | (congr 2; rw [← hp, idxP_append p s pre _ 0 hinv, idxP, if_pos ‹_›]; omega) | (congr 2; have := idxP_append p (0,0) pre [] 0 hinv; rw [List.append_nil] at this; rw [this]; rfl)
      · first
      | (first | omega | contradiction)
      | refine Ev.skip ?_
        show Ev _ _ _ _
        refine Ev.region_S fun K hK => S.o q.add (S.o q.mv (S.end (hK _ ?_)))
        clear hK K
        refine hR0 _ _ ?_
        refine roundU [] [0, 1, 7] ⟨(pre ++ [s], suf), by rw [← hp]; simp, ?_⟩ ?_ keep_n (slots_c (he := (by first | rfl | (simp; done) | (congr 2; omega))) (h := trivial)) (.c (.c (.c .n)))
        intro x hx; simp only [List.mem_append, List.mem_singleton] at hx; rcases hx with hx | rfl
        · exact hinv x hx
        · assumption
        all_goals (simp only [List.length_cons]; omega)
    · first
    | (first | omega | contradiction)
    | refine Ev.exit ?_
      refine hR0 _ _ ?_
      show Ev _ _ _ _
      refine Ev.sr fun K hK => S.o q.as (S.end (hK _ ?_))
      clear hK K
      refine Ev.ret ?_
      refine Ev.ret1 ?_
      refine ⟨?_, rfl⟩
      first | (congr 2; rw [← hp, idxP_append p s pre _ 0 hinv, idxP, if_pos ‹_›]; omega) | (congr 2; have := idxP_append p (0,0) pre [] 0 hinv; rw [List.append_nil] at this; rw [this]; rfl)
theorem containsFuncStep0 (g : FuncId) (p : Int × Int → Bool) (hg : ∀ s, Fun Try.prog g [.agg (stepC s)] (Ret (.lit (.bool (p s))) [])) (l : List (Int × Int)) (hlen : l.length ≤ 140737488355328) :
    Fun Try.prog 36 [.sh 2 (l.map stepC), .fn (.func g) [] []] (Ret (.lit (.bool (decide (∃ x ∈ l, p x = true)))) []) := by
  have hd : (decide (∃ x ∈ l, p x = true)) = decide (0 ≤ idxP p l 0) := by simp only [idxP_nonneg p l 0 (Int.le_refl _)]
  rw [hd]
  refine Fun.of (nt := 9) (rs := [.tmp 4]) Try.func36 rfl rfl rfl rfl rfl ?_
  refine Ev.sr fun K hK => S.o q.as (S.end (hK _ ?_))
  clear hK K
  refine Ev.sr fun K hK => S.o q.mv (S.o q.mv (S.c0 (hF := indexFuncStep0 g p hg l hlen) (h := S.o q.geq (S.o q.as (S.end (hK _ ?_))))))
  clear hK K
  refine Ev.ret ?_
  refine Ev.ret1 ?_
  refine ⟨?_, rfl⟩
  rfl
end Go.Proofs.Ytigjoaejncfmdaa
