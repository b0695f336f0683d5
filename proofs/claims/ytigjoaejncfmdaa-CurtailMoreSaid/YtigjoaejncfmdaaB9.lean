/-
  steps.At.
  Conditions: none.
-/
import Derived.Test.YtigjoaejncfmdaaB8
import Derived.Test.YtigjoaejncfmdaaAmStr
namespace Go.Proofs.Ytigjoaejncfmdaa
open Go Go.AM
set_option linter.unusedSimpArgs false
set_option linter.unusedVariables false
set_option maxRecDepth 100000

theorem search2_fun (g : FuncId) (c0 c1 : List AV) (n k : Nat) (hk : k ≤ n) (hn : n ≤ 140737488355328) (hg : ∀ i : Nat, i < n → Fun Try.prog g [.lit (.int .i64 (i : Int)), .sadr c0 0, .sadr c1 0] (Ret (.lit (.bool (decide (k ≤ i)))) [])) :
    Fun Try.prog 65 [.lit (.int .i64 (n : Int)), .fn (.func g) [] [.sadr c0 0, .sadr c1 0]] (Ret (.lit (.int .i64 (k : Int))) []) := by
  refine Fun.of (nt := 26) (rs := [.tmp 4]) Try.func65 rfl rfl rfl rfl rfl ?_
  refine Ev.sr fun K hK => S.o q.as (S.end (hK _ ?_))
  clear hK K
  refine Ev.sr fun K hK => S.o q.mv (S.o q.as (S.o q.as (S.end (hK _ ?_))))
  clear hK K
  refine Ev.seq ?_
  refine Ev.block ?_
  refine Ev.loopU (ι := {q : Nat × Nat // q.1 ≤ k ∧ k ≤ q.2 ∧ q.2 ≤ n}) [] [1, 4] (fun ⟨(i, j), _⟩ => [(5, .lit (.int .i64 ((i : Int)))), (6, .lit (.int .i64 ((j : Int))))]) (fun ⟨(i, j), _⟩ => []) (fun ⟨(i, j), _⟩ => j - i) ⟨(0, n), by omega, by omega, by omega⟩ (.c (.c .n)) keep_n (slots_c (he := (by first | rfl | (simp; done) | (congr 2; omega))) (h := (slots_c (he := (by first | rfl | (simp; done) | (congr 2; omega))) (h := trivial)))) ?_
  rintro ⟨⟨i, j⟩, hi, hj, hn2⟩ R0 hR0
  dsimp only [List.cons_append, List.nil_append, List.length_cons, List.length_nil]
  simp only at hi hj hn2
  refine Ev.seq ?_
  refine Ev.sr fun K hK => S.o q.mv (S.o q.mv (S.o q.lss (S.end (hK _ ?_))))
  clear hK K
  refine Ev.cd (fun c1 => ?_) (fun c1 => ?_)
  · first
  | (first | omega | contradiction)
  | refine Ev.skip ?_
    show Ev _ _ _ _
    refine Ev.block ?_
    refine Ev.sr fun K hK => S.o q.mv (S.o q.mv (S.o q.add (S.o (q.cvu am_un83 am_us3) (S.o q.shr1 (S.o (q.cvi am_un3 am_us83) (S.o q.as (S.end (hK _ ?_))))))))
    clear hK K
    refine Ev.sr fun K hK => S.o q.mv (S.o q.mv (S.c0 (hF := by have := hg ((i + j) / 2) (by omega); rwa [show (((i + j) / 2 : Nat) : Int) = ((i : Int) + j) / 2 by omega] at this) (h := S.o q.not (S.end (hK _ ?_)))))
    clear hK K
    refine Ev.cn (fun c2 => ?_) (fun c2 => ?_)
    · first
    | (first | omega | contradiction)
    | refine Ev.region_S fun K hK => S.o q.mv (S.o q.add (S.o q.as (S.end (hK _ ?_))))
      clear hK K
      refine hR0 _ _ ?_
      refine roundU [] [1, 4] ⟨((i + j) / 2 + 1, j), by dsimp only; omega⟩ ?_ keep_n (slots_c (he := (by first | rfl | (simp; done) | (congr 2; omega))) (h := (slots_c (he := (by first | rfl | (simp; done) | (congr 2; omega))) (h := trivial)))) (.c (.c .n))
      skip
      all_goals (dsimp only; omega)
    · first
    | (first | omega | contradiction)
    | refine Ev.region_S fun K hK => S.o q.mv (S.o q.as (S.end (hK _ ?_)))
      clear hK K
      refine hR0 _ _ ?_
      refine roundU [] [1, 4] ⟨(i, (i + j) / 2), by dsimp only; omega⟩ ?_ keep_n (slots_c (he := (by first | rfl | (simp; done) | (congr 2; omega))) (h := (slots_c (he := (by first | rfl | (simp; done) | (congr 2; omega))) (h := trivial)))) (.c (.c .n))
      skip
      all_goals (dsimp only; omega)
  · first
  | (first | omega | contradiction)
  | refine Ev.exit ?_
    refine hR0 _ _ ?_
    show Ev _ _ _ _
    refine Ev.sr fun K hK => S.o q.mv (S.o q.as (S.end (hK _ ?_)))
    clear hK K
    refine Ev.ret ?_
    refine Ev.ret1 ?_
    refine ⟨?_, rfl⟩
    congr 2; omega

/-- The value of the last step at or before a place, or one that was there before. -/
def atF (v : Int) : List (Int × Int) → Int → Int
  | [], _ => v
  | s :: l, y => atF (if s.1 ≤ y then s.2 else v) l y
/-- How many steps are at or before a place. -/
def atK : List (Int × Int) → Int → Nat
  | [], _ => 0
  | s :: l, y => if s.1 ≤ y then atK l y + 1 else 0
theorem atK_le : ∀ (l : List (Int × Int)) (y : Int), atK l y ≤ l.length
  | [], _ => Nat.le_refl _
  | s :: l, y => by
    rw [atK]
    split
    · have := atK_le l y; simp only [List.length_cons]; omega
    · simp
theorem okL_head {p : Option (Int × Int)} : ∀ {l : List (Int × Int)}, okL p l → ∀ q, p = some q → ∀ s ∈ l, q.1 < s.1
  | [], _, _, _, s, hs => by cases hs
  | x :: l, h, q, hq, s, hs => by
    have h1 := h.1.2.2.2 q hq
    rcases List.mem_cons.1 hs with rfl | hs
    · exact h1
    · have := okL_head h.2 x rfl s hs
      omega
theorem atK_iff {y : Int} : ∀ {l : List (Int × Int)} {p : Option (Int × Int)} {i : Nat} {s : Int × Int}, okL p l → l[i]? = some s → (atK l y ≤ i ↔ y < s.1)
  | [], _, i, s, _, h => by simp at h
  | x :: l, p, i, s, hl, h => by
    rw [atK]
    rcases i with _ | i
    · simp only [List.length_cons, List.getElem?_cons_zero, Option.some.injEq] at h
      subst h
      split <;> omega
    · rw [List.getElem?_cons_succ] at h
      have hx := okL_head hl.2 x rfl s (List.mem_of_getElem? h)
      have ih := atK_iff (y := y) hl.2 h
      split <;> omega
theorem atF_K {y : Int} : ∀ {l : List (Int × Int)} {p : Option (Int × Int)} (v : Int), okL p l → atF v l y = if h : atK l y = 0 then v else ((l[atK l y - 1]?).map (·.2)).getD 0
  | [], _, v, _ => by simp [atF, atK]
  | x :: l, p, v, hl => by
    have ih := atF_K (y := y) (if x.1 ≤ y then x.2 else v) hl.2
    rw [atF, ih]
    by_cases hx : x.1 ≤ y
    · simp only [atK, hx, if_true]
      rcases hk : atK l y with _ | k
      · simp
      · simp
    · have : atK l y = 0 := by
        rcases l with _ | ⟨z, l⟩
        · rfl
        · have := hl.2.1.2.2.2 x rfl
          rw [atK, if_neg (by omega)]
      simp [atK, hx, this]
theorem at1_fun (l : List (Int × Int)) (y : Int) (hl : okL none l) (i : Nat) (hi : i < l.length) : Fun Try.prog 66 [.lit (.int .i64 (i : Int)), .sadr [.sh 2 (l.map stepC)] 0, .sadr [.lit (.int .i64 y)] 0] (Ret (.lit (.bool (decide (atK l y ≤ i)))) []) := by
  obtain ⟨s, hidx⟩ : ∃ s, l[i]? = some s := ⟨_, List.getElem?_eq_getElem hi⟩
  have hk := atK_iff (y := y) hl hidx
  refine Fun.of (nt := 12) (rs := [.tmp 4]) Try.func66 rfl rfl rfl rfl rfl ?_
  refine Ev.sr fun K hK => S.o q.as (S.end (hK _ ?_))
  clear hK K
  refine Ev.sm (tbs [(0, 0), (0, 0), (2, 3), (3, 7), (4, 15), (0, 0), (6, 63), (7, 127)]) 7 fun K hK => M.o (q.ls am_ag22) (M.o q.mv (M.o (q.ix am_el22 am_cl57 (hl := (by first | exact ati hidx (by omega) | exact atig (by omega)))) (M.o (q.fs 0 am_fi57_0 am_cl3) (M.o (q.ls am_ag3) (M.o (q.ls am_ag3) (M.o q.gtr (M.end [] (h := S.o q.as (S.end (hK _ ?_))))))))))
  clear hK K
  refine Ev.ret ?_
  refine Ev.ret1 ?_
  refine ⟨?_, rfl⟩
  exact dI (by omega)
theorem at_fun (l : List (Int × Int)) (y : Int) (hl : okL none l) (hlen : l.length ≤ 200) : Fun Try.prog 48 [.sh 2 (l.map stepC), .lit (.int .i64 y)] (Ret (.lit (.int .i64 (atF 0 l y))) []) := by
  have hk := atK_le l y
  have hf := atF_K (y := y) 0 hl
  have hg : ∀ h : ¬ atK l y = 0, l[atK l y - 1]? = some (l[atK l y - 1]'(by omega)) := fun h => List.getElem?_eq_getElem _
  refine Fun.of (nt := 18) (rs := [.tmp 4]) Try.func48 rfl rfl rfl rfl rfl ?_
  refine Ev.sr fun K hK => S.nn (q.bx [_] true) (S.nn (q.bx [_] true) (S.o q.as (S.end (hK _ ?_))))
  clear hK K
  refine Ev.sr fun K hK => S.o (q.lv am_ag22) (S.o (q.lens am_el22) (S.o q.mf (S.c0 (hF := search2_fun _ _ _ l.length (atK l y) hk (by omega) (fun i hi => at1_fun l y hl i hi)) (h := S.o q.as (S.end (hK _ ?_))))))
  clear hK K
  refine Ev.seq ?_
  refine Ev.sr fun K hK => S.o q.mv (S.o q.eql (S.end (hK _ ?_)))
  clear hK K
  refine Ev.cd (fun c1 => ?_) (fun c1 => ?_)
  · first
  | (first | omega | contradiction)
  | refine Ev.sr fun K hK => S.o q.as (S.end (hK _ ?_))
    clear hK K
    refine Ev.ret ?_
    refine Ev.ret1 ?_
    refine ⟨?_, rfl⟩
    first | (rw [hf, dif_pos (by omega)]; done) | (rw [hf, dif_neg (by omega), hg (by omega)]; rfl)
  · first
  | (first | omega | contradiction)
  | refine Ev.skip ?_
    show Ev _ _ _ _
    refine Ev.sr fun K hK => S.o (q.lv am_ag22) (S.o q.mv (S.o q.sub (S.o (q.ix am_el22 am_cl57 (hl := (by first | exact ati (hg (by omega)) (by omega) | exact atig (by omega)))) (S.o (q.fs 1 am_fi57_1 am_cl3) (S.o (q.ls am_ag3) (S.o q.as (S.end (hK _ ?_))))))))
    clear hK K
    refine Ev.ret ?_
    refine Ev.ret1 ?_
    refine ⟨?_, rfl⟩
    first | (rw [hf, dif_pos (by omega)]; done) | (rw [hf, dif_neg (by omega), hg (by omega)]; rfl)

def atV (l : List (Int × Int)) (y : Int) : Int := if OKSteps l then atF 0 l y else 0
def atE (l : List (Int × Int)) : Int := if OKSteps l then 0 else 1
end Go.Proofs.Ytigjoaejncfmdaa
