/-
  Events compared by their places, then by their kinds.
  Conditions: none.
-/
import Derived.Test.YtigjoaejncfmdaaB9
import Derived.Test.YtigjoaejncfmdaaCk1
namespace Go.Proofs.Ytigjoaejncfmdaa
open Go Go.AM
set_option linter.unusedSimpArgs false
set_option linter.unusedVariables false
set_option maxRecDepth 100000

def cmpI (x y : Int) : Int := if x < y then -1 else if y < x then 1 else 0
theorem cmpI_fun (x y : Int) : Fun Try.prog 57 [.lit (.int .i64 x), .lit (.int .i64 y)] (Ret (.lit (.int .i64 (cmpI x y))) []) := by
  have hNaN : ∀ z : Int, Fun Try.prog 73 [.lit (.int .i64 z)] (Ret (.lit (.bool false)) []) := by
    intro z
    refine Fun.of (nt := 6) (rs := [.tmp 2]) Try.func73 rfl rfl rfl rfl rfl ?_
    refine Ev.sr fun K hK => S.o q.as (S.end (hK _ ?_))
    clear hK K
    refine Ev.sr fun K hK => S.o q.mv (S.o q.mv (S.o q.neq (S.o q.as (S.end (hK _ ?_)))))
    clear hK K
    refine Ev.ret ?_
    refine Ev.ret1 ?_
    refine ⟨?_, rfl⟩
    first | (rw [decide_eq_false (by omega)]; done) | (congr 2; simp; done)
  refine Fun.of (nt := 20) (rs := [.tmp 4]) Try.func57 rfl rfl rfl rfl rfl ?_
  refine Ev.sr fun K hK => S.o q.as (S.end (hK _ ?_))
  clear hK K
  refine Ev.sr fun K hK => S.o q.mv (S.c0 (hF := hNaN _) (h := S.o q.as (S.end (hK _ ?_))))
  clear hK K
  refine Ev.sr fun K hK => S.o q.mv (S.c0 (hF := hNaN _) (h := S.o q.as (S.end (hK _ ?_))))
  clear hK K
  refine Ev.seq ?_
  refine Ev.sr fun K hK => S.o q.mv (S.end (hK _ ?_))
  clear hK K
  refine Ev.cf ?_
  refine Ev.skip ?_
  show Ev _ _ _ _
  refine Ev.seq ?_
  refine Ev.sr fun K hK => S.o q.mv (S.end (hK _ ?_))
  clear hK K
  refine Ev.cf ?_
  refine Ev.skip ?_
  show Ev _ _ _ _
  refine Ev.seq ?_
  refine Ev.sr fun K hK => S.o q.mv (S.o q.mv (S.o q.lss (S.end (hK _ ?_))))
  clear hK K
  refine Ev.cd (fun c1 => ?_) (fun c1 => ?_)
  · first
  | (first | omega | contradiction)
  | refine Ev.sr fun K hK => S.o q.as (S.end (hK _ ?_))
    clear hK K
    refine Ev.ret ?_
    refine Ev.ret1 ?_
    refine ⟨?_, rfl⟩
    (unfold cmpI; first | (rw [if_pos ‹_›]; done) | (rw [if_neg ‹_›, if_pos (by omega)]; done) | (rw [if_neg ‹_›, if_neg (by omega)]; done))
  · first
  | (first | omega | contradiction)
  | refine Ev.skip ?_
    show Ev _ _ _ _
    refine Ev.seq ?_
    refine Ev.sr fun K hK => S.o q.mv (S.o q.mv (S.o q.gtr (S.end (hK _ ?_))))
    clear hK K
    refine Ev.cd (fun c2 => ?_) (fun c2 => ?_)
    · first
    | (first | omega | contradiction)
    | refine Ev.sr fun K hK => S.o q.as (S.end (hK _ ?_))
      clear hK K
      refine Ev.ret ?_
      refine Ev.ret1 ?_
      refine ⟨?_, rfl⟩
      (unfold cmpI; first | (rw [if_pos ‹_›]; done) | (rw [if_neg ‹_›, if_pos (by omega)]; done) | (rw [if_neg ‹_›, if_neg (by omega)]; done))
    · first
    | (first | omega | contradiction)
    | refine Ev.skip ?_
      show Ev _ _ _ _
      refine Ev.sr fun K hK => S.o q.as (S.end (hK _ ?_))
      clear hK K
      refine Ev.ret ?_
      refine Ev.ret1 ?_
      refine ⟨?_, rfl⟩
      (unfold cmpI; first | (rw [if_pos ‹_›]; done) | (rw [if_neg ‹_›, if_pos (by omega)]; done) | (rw [if_neg ‹_›, if_neg (by omega)]; done))

def orL : List Int → Int
  | [] => 0
  | x :: l => if x = 0 then orL l else x
theorem orL_at {s : Int} {suf : List Int} : ∀ {pre : List Int}, (∀ x ∈ pre, x = 0) → ¬ s = 0 → orL (pre ++ s :: suf) = s
  | [], _, h => by rw [List.nil_append, orL, if_neg h]
  | x :: pre, h0, h => by rw [List.cons_append, orL, if_pos (h0 x (by simp))]; exact orL_at (fun y hy => h0 y (by simp [hy])) h
theorem orL_no : ∀ {l : List Int}, (∀ x ∈ l, x = 0) → orL l = 0
  | [], _ => rfl
  | x :: l, h => by rw [orL, if_pos (h x (by simp))]; exact orL_no fun y hy => h y (by simp [hy])
theorem orL_fun (l : List Int) (hlen : l.length ≤ 1000) : Fun Try.prog 56 [.sh 1 (l.map intC)] (Ret (.lit (.int .i64 (orL l))) []) := by
  refine Fun.of (nt := 18) (rs := [.tmp 2]) Try.func56 rfl rfl rfl rfl rfl ?_
  refine Ev.sr fun K hK => S.o q.as (S.end (hK _ ?_))
  clear hK K
  refine Ev.sr fun K hK => S.o q.as (S.end (hK _ ?_))
  clear hK K
  refine Ev.seq ?_
  refine Ev.sr fun K hK => S.o q.mv (S.o (q.lens am_el43) (S.o q.mv (S.end (hK _ ?_))))
  clear hK K
  refine Ev.block ?_
  refine Ev.loopU (ι := {q : List Int × List Int // q.1 ++ q.2 = l ∧ ∀ x ∈ q.1, x = 0}) [] [3, 6, 7] (fun ⟨(pre, suf), _⟩ => [(8, .lit (.int .i64 ((pre.length : Int))))]) (fun ⟨(pre, suf), _⟩ => []) (fun ⟨(pre, suf), _⟩ => suf.length) ⟨([], l), rfl, fun x hx => by simp at hx⟩ (.c (.c (.c .n))) keep_n (slots_c (he := (by first | rfl | (simp; done) | (congr 2; omega))) (h := trivial)) ?_
  rintro ⟨⟨pre, suf⟩, hp, hinv⟩ R0 hR0
  dsimp only [List.cons_append, List.nil_append, List.length_cons, List.length_nil]
  simp only at hp hinv
  have hpl : pre.length + suf.length = (l).length := by rw [← hp, List.length_append]
  rcases suf with _ | ⟨s, suf⟩
  · rw [List.append_nil] at hp; subst pre; simp only [List.length_nil] at hpl
    refine Ev.sr fun K hK => S.o q.lss (S.end (hK _ ?_))
    clear hK K
    refine Ev.ud (fun c1 => ?_) (fun c1 => ?_)
    · first
    | (first | omega | contradiction)
    | refine Ev.seq ?_
      refine Ev.block ?_
      refine Ev.sr fun K hK => S.o (q.ix am_el43 am_cl3 (hl := (by first | exact atig (by omega)))) (S.o (q.ls am_ag3) (S.o q.as (S.end (hK _ ?_))))
      clear hK K
      refine Ev.sr fun K hK => S.o q.mv (S.o q.mv (S.o q.neq (S.end (hK _ ?_))))
      clear hK K
      refine Ev.cn (fun c2 => ?_) (fun c2 => ?_)
      · first
      | (first | omega | contradiction)
      | refine Ev.sr fun K hK => S.o q.mv (S.o q.as (S.end (hK _ ?_)))
        clear hK K
        refine Ev.ret ?_
        refine hR0 _ _ ?_
        refine Ev.ret1 ?_
        refine ⟨?_, rfl⟩
        first | (rw [← hp, orL_at hinv ‹_›]; done) | (rw [← hp, orL_no hinv]; done) | (rw [orL_no hinv]; done)
      · first
      | (first | omega | contradiction)
      | refine Ev.skip ?_
        show Ev _ _ _ _
        refine Ev.region_S fun K hK => S.o q.add (S.o q.mv (S.end (hK _ ?_)))
        clear hK K
        refine hR0 _ _ ?_
        refine roundU [] [3, 6, 7] ⟨(pre ++ [s], suf), by rw [← hp]; simp, ?_⟩ ?_ keep_n (slots_c (he := (by first | rfl | (simp; done) | (congr 2; omega))) (h := trivial)) (.c (.c (.c .n)))
        intro x hx; simp only [List.mem_append, List.mem_singleton] at hx; rcases hx with hx | rfl
        · exact hinv x hx
        · omega
        all_goals (dsimp only; simp only [List.length_cons]; omega)
    · first
    | (first | omega | contradiction)
    | refine Ev.exit ?_
      refine hR0 _ _ ?_
      show Ev _ _ _ _
      refine Ev.sr fun K hK => S.o q.mv (S.o q.as (S.end (hK _ ?_)))
      clear hK K
      refine Ev.ret ?_
      refine Ev.ret1 ?_
      refine ⟨?_, rfl⟩
      first | (rw [← hp, orL_at hinv ‹_›]; done) | (rw [← hp, orL_no hinv]; done) | (rw [orL_no hinv]; done)
  · simp only [List.length_cons] at hpl
    have hidx : (l)[pre.length]? = some s := by rw [← hp]; simp
    refine Ev.sr fun K hK => S.o q.lss (S.end (hK _ ?_))
    clear hK K
    refine Ev.ud (fun c3 => ?_) (fun c3 => ?_)
    · first
    | (first | omega | contradiction)
    | refine Ev.seq ?_
      refine Ev.block ?_
      refine Ev.sr fun K hK => S.o (q.ix am_el43 am_cl3 (hl := (by first | exact ati hidx (by omega) | exact atig (by omega)))) (S.o (q.ls am_ag3) (S.o q.as (S.end (hK _ ?_))))
      clear hK K
      refine Ev.sr fun K hK => S.o q.mv (S.o q.mv (S.o q.neq (S.end (hK _ ?_))))
      clear hK K
      refine Ev.cn (fun c4 => ?_) (fun c4 => ?_)
      · first
      | (first | omega | contradiction)
      | refine Ev.sr fun K hK => S.o q.mv (S.o q.as (S.end (hK _ ?_)))
        clear hK K
        refine Ev.ret ?_
        refine hR0 _ _ ?_
        refine Ev.ret1 ?_
        refine ⟨?_, rfl⟩
        first | (rw [← hp, orL_at hinv ‹_›]; done) | (rw [← hp, orL_no hinv]; done) | (rw [orL_no hinv]; done)
      · first
      | (first | omega | contradiction)
      | refine Ev.skip ?_
        show Ev _ _ _ _
        refine Ev.region_S fun K hK => S.o q.add (S.o q.mv (S.end (hK _ ?_)))
        clear hK K
        refine hR0 _ _ ?_
        refine roundU [] [3, 6, 7] ⟨(pre ++ [s], suf), by rw [← hp]; simp, ?_⟩ ?_ keep_n (slots_c (he := (by first | rfl | (simp; done) | (congr 2; omega))) (h := trivial)) (.c (.c (.c .n)))
        intro x hx; simp only [List.mem_append, List.mem_singleton] at hx; rcases hx with hx | rfl
        · exact hinv x hx
        · omega
        all_goals (dsimp only; simp only [List.length_cons]; omega)
    · first
    | (first | omega | contradiction)
    | refine Ev.exit ?_
      refine hR0 _ _ ?_
      show Ev _ _ _ _
      refine Ev.sr fun K hK => S.o q.mv (S.o q.as (S.end (hK _ ?_)))
      clear hK K
      refine Ev.ret ?_
      refine Ev.ret1 ?_
      refine ⟨?_, rfl⟩
      first | (rw [← hp, orL_at hinv ‹_›]; done) | (rw [← hp, orL_no hinv]; done) | (rw [orL_no hinv]; done)

def ev3C : Ev3 → List AV
  | (a, b, c) => [.lit (.int .i64 a), .lit (.int .i64 b), .lit (.int .i64 c)]
def evCmp (x y : Ev3) : Int := orL [cmpI x.1 y.1, cmpI x.2.1 y.2.1]
theorem evCmp_fun (x y : Ev3) : Fun Try.prog 55 [.agg (ev3C x), .agg (ev3C y)] (Ret (.lit (.int .i64 (evCmp x y))) []) := by
  obtain ⟨x1, x2, x3⟩ := x
  obtain ⟨y1, y2, y3⟩ := y
  refine Fun.of (nt := 17) (rs := [.tmp 4]) Try.func55 rfl rfl rfl rfl rfl ?_
  refine Ev.sr fun K hK => S.nn (q.bx [_, _, _] true) (S.nn (q.bx [_, _, _] true) (S.o q.as (S.end (hK _ ?_))))
  clear hK K
  refine Ev.sm (tbs [(0, 0), (1, 1), (0, 0), (3, 4), (4, 15), (0, 0), (6, 32), (0, 0), (8, 128), (9, 511), (10, 1023), (11, 2047), (12, 4095)]) 10 fun K hK => M.o (q.fa 0 am_fi70_0 am_cl3) (M.o (q.lv am_ag3) (M.o (q.fa 0 am_fi70_0 am_cl3) (M.o (q.lv am_ag3) (M.c0 (hF := cmpI_fun _ _) (h := M.o (q.fa 1 am_fi70_1 am_cl3) (M.o (q.lv am_ag3) (M.o (q.fa 1 am_fi70_1 am_cl3) (M.o (q.lv am_ag3) (M.c0 (hF := cmpI_fun _ _) (h := M.end [_, _] (h := S.nn (q.bs [[_], [_]] true am_el43 am_ze3 am_cl3) ?_)))))))))))
  refine SeqL.weaken (Wk.frzl (f := intC) [cmpI x1 y1, cmpI x2 y2] 15 [_, _]) ?_
  refine S.c0 (hF := orL_fun [cmpI x1 y1, cmpI x2 y2] (by simp)) (h := S.o q.as (S.end (hK _ ?_)))
  clear hK K
  refine Ev.ret ?_
  refine Ev.ret1 ?_
  refine ⟨?_, rfl⟩
  rfl
end Go.Proofs.Ytigjoaejncfmdaa
