/-
  Layer 41: what the laws ask ahead.
  Conditions: none.
-/
import Derived.Test.YtccddakkegelkaaRev1
namespace Go.Proofs.Ytccddakkegelkaa
open Go Go.AM
set_option linter.unusedSimpArgs false
set_option linter.unusedVariables false
set_option maxRecDepth 100000
set_option maxHeartbeats 1000000

def barsC (l : List Bar) : List AV := [.sh 5 (l.map Bar.c)]
theorem indexMemBars (g : FuncId) (p : List Bar → Bool) (l : List (List Bar)) (hg : ∀ s ∈ l, Fun Try.prog g [(barsC s).headD .top] (Ret (.lit (.bool (p s))) [])) (hlen : l.length ≤ 140737488355328) :
    Fun Try.prog 62 [.sh 1 (l.map barsC), .fn (.func g) [] []] (Ret (.lit (.int .i64 (idxP p l 0))) []) := by
  refine Fun.of (nt := 19) (rs := [.tmp 4]) Try.func62 rfl rfl rfl rfl rfl ?_
  refine Ev.sr fun K hK => S.o q.as (S.end (hK _ ?_))
  clear hK K
  refine Ev.seq ?_
  refine Ev.sr fun K hK => S.o q.mv (S.o (q.lens am_el65) (S.o q.mv (S.end (hK _ ?_))))
  clear hK K
  refine Ev.block ?_
  refine Ev.loopU (ι := {q : List (List Bar) × List (List Bar) // q.1 ++ q.2 = l ∧ ∀ x ∈ q.1, p x = false}) [] [0, 1, 7] (fun ⟨(pre, suf), _⟩ => [(8, .lit (.int .i64 ((pre.length : Int))))]) (fun ⟨(pre, suf), _⟩ => []) (fun ⟨(pre, suf), _⟩ => suf.length) ⟨([], l), rfl, fun x hx => by simp at hx⟩ (.c (.c (.c .n))) keep_n (slots_c (he := (by first | rfl | (simp; done) | (congr 2; omega))) (h := trivial)) ?_
  rintro ⟨⟨pre, suf⟩, hp, hinv⟩ R0 hR0
  dsimp only [List.cons_append, List.nil_append, List.length_cons, List.length_nil]
  simp only at hp hinv
  have hpl : pre.length + suf.length = (l).length := by rw [← hp, List.length_append]
  rcases suf with _ | ⟨s, suf⟩
  · rw [List.append_nil] at hp; subst pre; simp only [List.length_nil] at hpl
    refine Ev.sr fun K hK => S.o q.lss (S.end (hK _ ?_))
    clear hK K
    refine Ev.ud (fun c1 => ?_) (fun c1 => ?_)
    · first
    | (first | omega | contradiction)
    | refine Ev.seq ?_
      refine Ev.block ?_
      refine Ev.sr fun K hK => S.o q.mv (S.o q.as (S.end (hK _ ?_)))
      clear hK K
      refine Ev.sr fun K hK => S.o q.mv (S.o q.mv (S.o q.mv (S.o (q.ix am_el65 am_cl22 (hl := (by first | exact atig (by omega)))) (S.o (q.ls am_ag22) (S.c0 (hF := hg s (by rw [← hp]; simp)) (h := S.end (hK _ ?_)))))))
      clear hK K
      refine Ev.c (fun c2 => ?_) (fun c2 => ?_)
      · first
      | (first | omega | contradiction)
      | refine Ev.sr fun K hK => S.o q.mv (S.o q.as (S.end (hK _ ?_)))
        clear hK K
        refine Ev.ret ?_
        refine hR0 _ _ ?_
        refine Ev.ret1 ?_
        refine ⟨?_, rfl⟩
        first | (congr 2; rw [← hp, idxP_append p pre _ 0 hinv, idxP, if_pos ‹_›]; omega) | (congr 2; rw [idxP_none p l 0 hinv])
      · first
      | (first | omega | contradiction)
      | refine Ev.skip ?_
        show Ev _ _ _ _
        refine Ev.region_S fun K hK => S.o q.add (S.o q.mv (S.end (hK _ ?_)))
        clear hK K
        refine hR0 _ _ ?_
        refine roundU [] [0, 1, 7] ⟨(pre ++ [s], suf), by rw [← hp]; simp, ?_⟩ ?_ keep_n (slots_c (he := (by first | rfl | (simp; done) | (congr 2; omega))) (h := trivial)) (.c (.c (.c .n)))
        intro x hx; simp only [List.mem_append, List.mem_singleton] at hx; rcases hx with hx | rfl
        · exact hinv x hx
        · assumption
        all_goals (dsimp only; simp only [List.length_cons]; omega)
    · first
    | (first | omega | contradiction)
    | refine Ev.exit ?_
      refine hR0 _ _ ?_
      show Ev _ _ _ _
      refine Ev.sr fun K hK => S.o q.as (S.end (hK _ ?_))
      clear hK K
      refine Ev.ret ?_
      refine Ev.ret1 ?_
      refine ⟨?_, rfl⟩
      first | (congr 2; rw [← hp, idxP_append p pre _ 0 hinv, idxP, if_pos ‹_›]; omega) | (congr 2; rw [idxP_none p l 0 hinv])
  · simp only [List.length_cons] at hpl
    have hidx : (l)[pre.length]? = some s := by rw [← hp]; simp
    refine Ev.sr fun K hK => S.o q.lss (S.end (hK _ ?_))
    clear hK K
    refine Ev.ud (fun c3 => ?_) (fun c3 => ?_)
    · first
    | (first | omega | contradiction)
    | refine Ev.seq ?_
      refine Ev.block ?_
      refine Ev.sr fun K hK => S.o q.mv (S.o q.as (S.end (hK _ ?_)))
      clear hK K
      refine Ev.sr fun K hK => S.o q.mv (S.o q.mv (S.o q.mv (S.o (q.ix am_el65 am_cl22 (hl := (by first | exact ati hidx (by omega) | exact atig (by omega)))) (S.o (q.ls am_ag22) (S.c0 (hF := hg s (by rw [← hp]; simp)) (h := S.end (hK _ ?_)))))))
      clear hK K
      refine Ev.c (fun c4 => ?_) (fun c4 => ?_)
      · first
      | (first | omega | contradiction)
      | refine Ev.sr fun K hK => S.o q.mv (S.o q.as (S.end (hK _ ?_)))
        clear hK K
        refine Ev.ret ?_
        refine hR0 _ _ ?_
        refine Ev.ret1 ?_
        refine ⟨?_, rfl⟩
        first | (congr 2; rw [← hp, idxP_append p pre _ 0 hinv, idxP, if_pos ‹_›]; omega) | (congr 2; rw [idxP_none p l 0 hinv])
      · first
      | (first | omega | contradiction)
      | refine Ev.skip ?_
        show Ev _ _ _ _
        refine Ev.region_S fun K hK => S.o q.add (S.o q.mv (S.end (hK _ ?_)))
        clear hK K
        refine hR0 _ _ ?_
        refine roundU [] [0, 1, 7] ⟨(pre ++ [s], suf), by rw [← hp]; simp, ?_⟩ ?_ keep_n (slots_c (he := (by first | rfl | (simp; done) | (congr 2; omega))) (h := trivial)) (.c (.c (.c .n)))
        intro x hx; simp only [List.mem_append, List.mem_singleton] at hx; rcases hx with hx | rfl
        · exact hinv x hx
        · assumption
        all_goals (dsimp only; simp only [List.length_cons]; omega)
    · first
    | (first | omega | contradiction)
    | refine Ev.exit ?_
      refine hR0 _ _ ?_
      show Ev _ _ _ _
      refine Ev.sr fun K hK => S.o q.as (S.end (hK _ ?_))
      clear hK K
      refine Ev.ret ?_
      refine Ev.ret1 ?_
      refine ⟨?_, rfl⟩
      first | (congr 2; rw [← hp, idxP_append p pre _ 0 hinv, idxP, if_pos ‹_›]; omega) | (congr 2; rw [idxP_none p l 0 hinv])
theorem containsMemBars (g : FuncId) (p : List Bar → Bool) (l : List (List Bar)) (hg : ∀ s ∈ l, Fun Try.prog g [(barsC s).headD .top] (Ret (.lit (.bool (p s))) [])) (hlen : l.length ≤ 140737488355328) :
    Fun Try.prog 32 [.sh 1 (l.map barsC), .fn (.func g) [] []] (Ret (.lit (.bool (decide (∃ x ∈ l, p x = true)))) []) := by
  have hd : (decide (∃ x ∈ l, p x = true)) = decide (0 ≤ idxP p l 0) := by simp only [idxP_nonneg p l 0 (Int.le_refl _)]
  rw [hd]
  refine Fun.of (nt := 9) (rs := [.tmp 4]) Try.func32 rfl rfl rfl rfl rfl ?_
  refine Ev.sr fun K hK => S.o q.as (S.end (hK _ ?_))
  clear hK K
  refine Ev.sr fun K hK => S.o q.mv (S.o q.mv (S.c0 (hF := indexMemBars g p l hg hlen) (h := S.o q.geq (S.o q.as (S.end (hK _ ?_))))))
  clear hK K
  refine Ev.ret ?_
  refine Ev.ret1 ?_
  refine ⟨?_, rfl⟩
  rfl

theorem long1_fun (x : List Bar) (hlen : x.length ≤ 140737488355328) : Fun Try.prog 33 [.sh 5 (x.map Bar.c)] (Ret (.lit (.bool (!decide (smallL x 8)))) []) := by
  refine Fun.of (nt := 6) (rs := [.tmp 2]) Try.func33 rfl rfl rfl rfl rfl ?_
  refine Ev.sr fun K hK => S.o q.as (S.end (hK _ ?_))
  clear hK K
  refine Ev.sr fun K hK => S.o q.mv (S.c0 (hF := small_fun _ _ (by omega)) (h := S.o q.not (S.o q.as (S.end (hK _ ?_)))))
  clear hK K
  refine Ev.ret ?_
  refine Ev.ret1 ?_
  refine ⟨?_, rfl⟩
  rfl

def longL (l : List (List Bar)) : Bool := decide (∃ x ∈ l, (!decide (smallL x 8)) = true)
theorem long_fun (l : List (List Bar)) (hl : l.length ≤ 1000) (h : ∀ x ∈ l, x.length ≤ 140737488355328) : Fun Try.prog 9 [.sh 1 (l.map barsC)] (Ret (.lit (.bool (longL l))) []) := by
  refine Fun.of (nt := 5) (rs := [.tmp 2]) Try.func9 rfl rfl rfl rfl rfl ?_
  refine Ev.sr fun K hK => S.o q.as (S.end (hK _ ?_))
  clear hK K
  refine Ev.sr fun K hK => S.o q.mv (S.c0 (hF := containsMemBars _ (fun x => !decide (smallL x 8)) l (fun s hs => long1_fun s (h s hs)) (by omega)) (h := S.o q.as (S.end (hK _ ?_))))
  clear hK K
  refine Ev.ret ?_
  refine Ev.ret1 ?_
  refine ⟨?_, rfl⟩
  rfl

def rightP (x : List Bar) : Prop := x.length ≤ 8 ∧ okSched x
instance (x) : Decidable (rightP x) := by unfold rightP; infer_instance
theorem right1_fun (x : List Bar) (hlen : x.length ≤ 140737488355328) (hw : schedW x) : Fun Try.prog 42 [.sh 5 (x.map Bar.c)] (Ret (.lit (.bool (!decide (rightP x)))) []) := by
  refine Fun.of (nt := 11) (rs := [.tmp 2]) Try.func42 rfl rfl rfl rfl rfl ?_
  refine Ev.sr fun K hK => S.o q.as (S.end (hK _ ?_))
  clear hK K
  refine Ev.sr fun K hK => S.o q.mv (S.o (q.lens am_el22) (S.o q.gtr (S.bd q.mv (fun c1 => ?_) (fun c1 => ?_))))
  · first
  | (first | omega | contradiction)
  | refine S.sk (S.sk (S.sk (S.o q.pt (S.o q.as (S.end (hK _ ?_))))))
    clear hK K
    refine Ev.ret ?_
    refine Ev.ret1 ?_
    refine ⟨?_, rfl⟩
    first
     | (rw [decide_eq_false (fun h : rightP x => by have h1 := h.1; omega)]; done) | (rw [decide_eq_false (fun h : rightP x => by have h1 := h.1; omega)]; rfl)
     | (congr 3; rw [decide_eq_decide]; exact ⟨fun h => ⟨by omega, h⟩, fun h => h.2⟩)
  · first
  | (first | omega | contradiction)
  | refine S.o q.mv (S.c0 (hF := rschedValid_fun _ (by omega) (by assumption)) (h := S.o q.not (S.o q.pf (S.o q.as (S.end (hK _ ?_))))))
    clear hK K
    refine Ev.ret ?_
    refine Ev.ret1 ?_
    refine ⟨?_, rfl⟩
    first
     | (rw [decide_eq_false (fun h : rightP x => by have h1 := h.1; omega)]; done) | (rw [decide_eq_false (fun h : rightP x => by have h1 := h.1; omega)]; rfl)
     | (congr 3; rw [decide_eq_decide]; exact ⟨fun h => ⟨by omega, h⟩, fun h => h.2⟩)

def rightL (l : List (List Bar)) : Bool := !decide (∃ x ∈ l, (!decide (rightP x)) = true)
theorem right_fun (l : List (List Bar)) (hl : l.length ≤ 1000) (h : ∀ x ∈ l, x.length ≤ 140737488355328 ∧ schedW x) : Fun Try.prog 16 [.sh 1 (l.map barsC)] (Ret (.lit (.bool (rightL l))) []) := by
  refine Fun.of (nt := 6) (rs := [.tmp 2]) Try.func16 rfl rfl rfl rfl rfl ?_
  refine Ev.sr fun K hK => S.o q.as (S.end (hK _ ?_))
  clear hK K
  refine Ev.sr fun K hK => S.o q.mv (S.c0 (hF := containsMemBars _ (fun x => !decide (rightP x)) l (fun s hs => right1_fun s (h s hs).1 (h s hs).2) (by omega)) (h := S.o q.not (S.o q.as (S.end (hK _ ?_)))))
  clear hK K
  refine Ev.ret ?_
  refine Ev.ret1 ?_
  refine ⟨?_, rfl⟩
  rfl

theorem many1_fun (c : Chg) : Fun Try.prog 47 [.agg (findC c)] (Ret (.lit (.bool (decide (60 < (c.2.length : Int))))) []) := by
  refine Fun.of (nt := 7) (rs := [.tmp 2]) Try.func47 rfl rfl rfl rfl rfl ?_
  refine Ev.sr fun K hK => S.nn (q.bx [_, _] true) (S.o q.as (S.end (hK _ ?_)))
  clear hK K
  refine Ev.sr fun K hK => S.o (q.fa 1 am_fi36_1 am_cl9) (S.o (q.lv am_ag9) (S.o (q.slen am_el9 am_un9) (S.o q.gtr (S.o q.as (S.end (hK _ ?_))))))
  clear hK K
  refine Ev.ret ?_
  refine Ev.ret1 ?_
  refine ⟨?_, rfl⟩
  rfl

def manyP (l : List Chg) : Prop := (20 < (l.length : Int) ∧ (l.length : Int) ≤ 120) ∨ 125 < (l.length : Int) ∨ ∃ c ∈ l, decide (60 < (c.2.length : Int)) = true
instance (l) : Decidable (manyP l) := by unfold manyP; infer_instance
theorem many_fun (l : List Chg) (hlen : l.length ≤ 140737488355328) : Fun Try.prog 19 [.sh 2 (l.map findC)] (Ret (.lit (.bool (decide (manyP l)))) []) := by
  refine Fun.of (nt := 20) (rs := [.tmp 2]) Try.func19 rfl rfl rfl rfl rfl ?_
  refine Ev.sr fun K hK => S.o q.as (S.end (hK _ ?_))
  clear hK K
  refine Ev.sr fun K hK => S.o q.mv (S.o (q.lens am_el25) (S.o q.gtr (S.bd q.mv (fun c1 => ?_) (fun c1 => ?_))))
  · first
  | (first | omega | contradiction)
  | refine S.o q.mv (S.o (q.lens am_el25) (S.o q.leq (S.o q.pt (S.bd q.mv (fun c2 => ?_) (fun c2 => ?_)))))
    · first
    | (first | omega | contradiction)
    | refine S.sk (S.sk (S.sk (S.o q.pt (S.o q.mv (S.sk (S.sk (S.o q.pt (S.o q.as (S.end (hK _ ?_))))))))))
      clear hK K
      refine Ev.ret ?_
      refine Ev.ret1 ?_
      refine ⟨?_, rfl⟩
      first
       | exact bT (.inl ⟨by omega, by omega⟩)
       | exact bT (.inr (.inl (by omega)))
       | exact dI ⟨fun h => .inr (.inr h), fun h => h.elim (fun h => by omega) (fun h => h.elim (fun h => by omega) id)⟩
    · first
    | (first | omega | contradiction)
    | refine S.o q.mv (S.o (q.lens am_el25) (S.o q.gtr (S.o q.pf (S.bd q.mv (fun c3 => ?_) (fun c3 => ?_)))))
      · first
      | (first | omega | contradiction)
      | refine S.sk (S.sk (S.o q.pt (S.o q.as (S.end (hK _ ?_)))))
        clear hK K
        refine Ev.ret ?_
        refine Ev.ret1 ?_
        refine ⟨?_, rfl⟩
        first
         | exact bT (.inl ⟨by omega, by omega⟩)
         | exact bT (.inr (.inl (by omega)))
         | exact dI ⟨fun h => .inr (.inr h), fun h => h.elim (fun h => by omega) (fun h => h.elim (fun h => by omega) id)⟩
      · first
      | (first | omega | contradiction)
      | refine S.o q.mv (S.c0 (hF := containsFuncChg0 _ (fun c : Chg => decide (60 < (c.2.length : Int))) many1_fun l (by omega)) (h := S.o q.pf (S.o q.as (S.end (hK _ ?_)))))
        clear hK K
        refine Ev.ret ?_
        refine Ev.ret1 ?_
        refine ⟨?_, rfl⟩
        first
         | exact bT (.inl ⟨by omega, by omega⟩)
         | exact bT (.inr (.inl (by omega)))
         | exact dI ⟨fun h => .inr (.inr h), fun h => h.elim (fun h => by omega) (fun h => h.elim (fun h => by omega) id)⟩
  · first
  | (first | omega | contradiction)
  | refine S.sk (S.sk (S.sk (S.o q.pf (S.o q.mv (S.o q.mv (S.o (q.lens am_el25) (S.o q.gtr (S.o q.pf (S.bd q.mv (fun c4 => ?_) (fun c4 => ?_))))))))))
    · first
    | (first | omega | contradiction)
    | refine S.sk (S.sk (S.o q.pt (S.o q.as (S.end (hK _ ?_)))))
      clear hK K
      refine Ev.ret ?_
      refine Ev.ret1 ?_
      refine ⟨?_, rfl⟩
      first
       | exact bT (.inl ⟨by omega, by omega⟩)
       | exact bT (.inr (.inl (by omega)))
       | exact dI ⟨fun h => .inr (.inr h), fun h => h.elim (fun h => by omega) (fun h => h.elim (fun h => by omega) id)⟩
    · first
    | (first | omega | contradiction)
    | refine S.o q.mv (S.c0 (hF := containsFuncChg0 _ (fun c : Chg => decide (60 < (c.2.length : Int))) many1_fun l (by omega)) (h := S.o q.pf (S.o q.as (S.end (hK _ ?_)))))
      clear hK K
      refine Ev.ret ?_
      refine Ev.ret1 ?_
      refine ⟨?_, rfl⟩
      first
       | exact bT (.inl ⟨by omega, by omega⟩)
       | exact bT (.inr (.inl (by omega)))
       | exact dI ⟨fun h => .inr (.inr h), fun h => h.elim (fun h => by omega) (fun h => h.elim (fun h => by omega) id)⟩

theorem long_no {a b : List Bar} (h : longL [a, b] = false) : smallL a 8 ∧ smallL b 8 := by
  simp only [longL, decide_eq_false_iff_not, not_exists, not_and] at h
  exact ⟨by simpa using h a (by simp), by simpa using h b (by simp)⟩
theorem many_w {l : List Chg} (h : ¬ manyP l) : chgW l ∧ l.length ≤ 125 := by
  unfold manyP at h
  refine ⟨fun c hc => ?_, by omega⟩
  rcases Nat.lt_or_ge 60 c.2.length with h1 | h1
  · exact absurd (.inr (.inr ⟨c, hc, decide_eq_true (by omega)⟩)) h
  · omega

theorem line_fun (mk : List UInt8) (n : Int) : Fun Try.prog 31 [.lit (str mk), .lit (.int .i64 n)] (Ret (.agg (Bar.c ⟨mk, 12, n, 0, [1000]⟩)) []) := by
  refine Fun.of (nt := 9) (rs := [.cell 4 43]) Try.func31 rfl rfl rfl rfl rfl ?_
  refine Ev.sr fun K hK => S.nn (q.al am_ze43) (S.end (hK _ ?_))
  clear hK K
  refine Ev.sr fun K hK => S.o q.mv (S.o q.mv (S.nn (q.bs [[_]] true am_el41 am_ze3 am_cl3) (SeqL.weaken (Wk.frzl (f := intC) [_] 7 [_]) (S.o (q.bd [_, _, _, _, _] am_ze43 am_pl43) (S.sv [_, _, _, _, _] true [] am_in43 am_cl43 (h := S.end (hK _ ?_)))))))
  clear hK K
  refine Ev.ret ?_
  refine Ev.retv1 (res_c [_, _, _, _, _] am_ag43 am_cl43 res_n) ?_
  refine ⟨?_, rfl⟩
  rfl
end Go.Proofs.Ytccddakkegelkaa
