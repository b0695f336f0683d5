/-
  large, high, slices.Equal, ref28.Given.
  Conditions: none.
-/
import Derived.Test.YtigjoaejncfmdaaB1
namespace Go.Proofs.Ytigjoaejncfmdaa
open Go Go.AM
set_option linter.unusedSimpArgs false
set_option linter.unusedVariables false
set_option maxRecDepth 100000

theorem dI {p q : Prop} [Decidable p] [Decidable q] (h : p ↔ q) : AV.lit (.bool (decide p)) = .lit (.bool (decide q)) := by rw [decide_eq_decide.2 h]
def bigS (s : Int × Int) : Bool := decide (500000 < s.2) && decide (s.2 < 549755813888)
def highS (s : Int × Int) : Bool := decide (500000 < s.2)
def LargeL (l : List (Int × Int)) : Prop := (20 < l.length ∧ l.length ≤ 200) ∨ 203 < l.length ∨ ∃ x ∈ l, bigS x = true
instance (l) : Decidable (LargeL l) := by unfold LargeL; infer_instance
def HighL (l : List (Int × Int)) : Prop := ∃ x ∈ l, highS x = true
instance (l) : Decidable (HighL l) := by unfold HighL; infer_instance
theorem big1_fun (s : Int × Int) : Fun Try.prog 37 [.agg (stepC s)] (Ret (.lit (.bool (bigS s))) []) := by
  refine Fun.of (nt := 11) (rs := [.tmp 2]) Try.func37 rfl rfl rfl rfl rfl ?_
  refine Ev.sr fun K hK => S.nn (q.bx [_, _] true) (S.o q.as (S.end (hK _ ?_)))
  clear hK K
  refine Ev.sr fun K hK => S.o (q.fa 1 am_fi57_1 am_cl3) (S.o (q.lv am_ag3) (S.o q.gtr (S.bd q.mv (fun c1 => ?_) (fun c1 => ?_))))
  · first
  | (first | omega | contradiction)
  | refine S.o (q.fa 1 am_fi57_1 am_cl3) (S.o (q.lv am_ag3) (S.o q.lss (S.o q.pt (S.o q.as (S.end (hK _ ?_))))))
    clear hK K
    refine Ev.ret ?_
    refine Ev.ret1 ?_
    refine ⟨?_, rfl⟩
    congr 2; simp [bigS]; omega
  · first
  | (first | omega | contradiction)
  | refine S.sk (S.sk (S.sk (S.o q.pf (S.o q.as (S.end (hK _ ?_))))))
    clear hK K
    refine Ev.ret ?_
    refine Ev.ret1 ?_
    refine ⟨?_, rfl⟩
    congr 2; simp [bigS]; omega
theorem high1_fun (s : Int × Int) : Fun Try.prog 45 [.agg (stepC s)] (Ret (.lit (.bool (highS s))) []) := by
  refine Fun.of (nt := 6) (rs := [.tmp 2]) Try.func45 rfl rfl rfl rfl rfl ?_
  refine Ev.sr fun K hK => S.nn (q.bx [_, _] true) (S.o q.as (S.end (hK _ ?_)))
  clear hK K
  refine Ev.sr fun K hK => S.o (q.fa 1 am_fi57_1 am_cl3) (S.o (q.lv am_ag3) (S.o q.gtr (S.o q.as (S.end (hK _ ?_)))))
  clear hK K
  refine Ev.ret ?_
  refine Ev.ret1 ?_
  refine ⟨?_, rfl⟩
  rfl
theorem large_fun (l : List (Int × Int)) (hlen : l.length ≤ 140737488355328) : Fun Try.prog 11 [.sh 2 (l.map stepC)] (Ret (.lit (.bool (decide (LargeL l)))) []) := by
  refine Fun.of (nt := 20) (rs := [.tmp 2]) Try.func11 rfl rfl rfl rfl rfl ?_
  refine Ev.sr fun K hK => S.o q.as (S.end (hK _ ?_))
  clear hK K
  refine Ev.sr fun K hK => S.o q.mv (S.o (q.lens am_el22) (S.o q.gtr (S.bd q.mv (fun c1 => ?_) (fun c1 => ?_))))
  · first
  | (first | omega | contradiction)
  | refine S.o q.mv (S.o (q.lens am_el22) (S.o q.leq (S.o q.pt (S.bd q.mv (fun c2 => ?_) (fun c2 => ?_)))))
    · first
    | (first | omega | contradiction)
    | refine S.sk (S.sk (S.sk (S.o q.pt (S.o q.mv (S.sk (S.sk (S.o q.pt (S.o q.as (S.end (hK _ ?_))))))))))
      clear hK K
      refine Ev.ret ?_
      refine Ev.ret1 ?_
      refine ⟨?_, rfl⟩
      first | exact bT (by unfold LargeL; omega) | exact dI (by unfold LargeL; constructor <;> intro h <;> first | (right; right; exact h) | (rcases h with h | h | h <;> first | omega | exact h))
    · first
    | (first | omega | contradiction)
    | refine S.o q.mv (S.o (q.lens am_el22) (S.o q.gtr (S.o q.pf (S.bd q.mv (fun c3 => ?_) (fun c3 => ?_)))))
      · first
      | (first | omega | contradiction)
      | refine S.sk (S.sk (S.o q.pt (S.o q.as (S.end (hK _ ?_)))))
        clear hK K
        refine Ev.ret ?_
        refine Ev.ret1 ?_
        refine ⟨?_, rfl⟩
        first | exact bT (by unfold LargeL; omega) | exact dI (by unfold LargeL; constructor <;> intro h <;> first | (right; right; exact h) | (rcases h with h | h | h <;> first | omega | exact h))
      · first
      | (first | omega | contradiction)
      | refine S.o q.mv (S.c0 (hF := containsFuncStep0 _ _ big1_fun _ (by omega)) (h := S.o q.pf (S.o q.as (S.end (hK _ ?_)))))
        clear hK K
        refine Ev.ret ?_
        refine Ev.ret1 ?_
        refine ⟨?_, rfl⟩
        first | exact bT (by unfold LargeL; omega) | exact dI (by unfold LargeL; constructor <;> intro h <;> first | (right; right; exact h) | (rcases h with h | h | h <;> first | omega | exact h))
  · first
  | (first | omega | contradiction)
  | refine S.sk (S.sk (S.sk (S.o q.pf (S.o q.mv (S.o q.mv (S.o (q.lens am_el22) (S.o q.gtr (S.o q.pf (S.bd q.mv (fun c4 => ?_) (fun c4 => ?_))))))))))
    · first
    | (first | omega | contradiction)
    | refine S.sk (S.sk (S.o q.pt (S.o q.as (S.end (hK _ ?_)))))
      clear hK K
      refine Ev.ret ?_
      refine Ev.ret1 ?_
      refine ⟨?_, rfl⟩
      first | exact bT (by unfold LargeL; omega) | exact dI (by unfold LargeL; constructor <;> intro h <;> first | (right; right; exact h) | (rcases h with h | h | h <;> first | omega | exact h))
    · first
    | (first | omega | contradiction)
    | refine S.o q.mv (S.c0 (hF := containsFuncStep0 _ _ big1_fun _ (by omega)) (h := S.o q.pf (S.o q.as (S.end (hK _ ?_)))))
      clear hK K
      refine Ev.ret ?_
      refine Ev.ret1 ?_
      refine ⟨?_, rfl⟩
      first | exact bT (by unfold LargeL; omega) | exact dI (by unfold LargeL; constructor <;> intro h <;> first | (right; right; exact h) | (rcases h with h | h | h <;> first | omega | exact h))
theorem high_fun (l : List (Int × Int)) (hlen : l.length ≤ 140737488355328) : Fun Try.prog 22 [.sh 2 (l.map stepC)] (Ret (.lit (.bool (decide (HighL l)))) []) := by
  refine Fun.of (nt := 5) (rs := [.tmp 2]) Try.func22 rfl rfl rfl rfl rfl ?_
  refine Ev.sr fun K hK => S.o q.as (S.end (hK _ ?_))
  clear hK K
  refine Ev.sr fun K hK => S.o q.mv (S.c0 (hF := containsFuncStep0 _ _ high1_fun _ (by omega)) (h := S.o q.as (S.end (hK _ ?_))))
  clear hK K
  refine Ev.ret ?_
  refine Ev.ret1 ?_
  refine ⟨?_, rfl⟩
  rfl
theorem equal_fun (a b : List (Int × Int)) (ha : a.length ≤ 140737488355328) (hb : b.length ≤ 140737488355328) : Fun Try.prog 18 [.sh 2 (a.map stepC), .sh 2 (b.map stepC)] (Ret (.lit (.bool (decide (a = b)))) []) := by
  refine Fun.of (nt := 26) (rs := [.tmp 4]) Try.func18 rfl rfl rfl rfl rfl ?_
  refine Ev.sr fun K hK => S.o q.as (S.end (hK _ ?_))
  clear hK K
  refine Ev.seq ?_
  refine Ev.sr fun K hK => S.o q.mv (S.o (q.lens am_el25) (S.o q.mv (S.o (q.lens am_el25) (S.o q.neq (S.end (hK _ ?_))))))
  clear hK K
  refine Ev.cn (fun c1 => ?_) (fun c1 => ?_)
  · first
  | (first | omega | contradiction)
  | refine Ev.sr fun K hK => S.o q.as (S.end (hK _ ?_))
    clear hK K
    refine Ev.ret ?_
    refine Ev.ret1 ?_
    refine ⟨?_, rfl⟩
    first
     | exact bF (fun h => by subst h; omega)
     | exact bF (fun h => by subst h; rw [hidx] at hidx2; cases hidx2; simp at *)
     | exact bT (hinv.symm.trans (List.take_of_length_le (by omega)))
  · first
  | (first | omega | contradiction)
  | refine Ev.skip ?_
    show Ev _ _ _ _
    refine Ev.seq ?_
    refine Ev.sr fun K hK => S.o q.mv (S.o (q.lens am_el25) (S.o q.mv (S.end (hK _ ?_))))
    clear hK K
    refine Ev.block ?_
    refine Ev.loopU (ι := {q : List (Int × Int) × List (Int × Int) // q.1 ++ q.2 = a ∧ b.take q.1.length = q.1}) [] [0, 1, 12] (fun ⟨(pre, suf), _⟩ => [(13, .lit (.int .i64 ((pre.length : Int))))]) (fun ⟨(pre, suf), _⟩ => []) (fun ⟨(pre, suf), _⟩ => suf.length) ⟨([], a), rfl, rfl⟩ (.c (.c (.c .n))) keep_n (slots_c (he := (by first | rfl | (simp; done) | (congr 2; omega))) (h := trivial)) ?_
    rintro ⟨⟨pre, suf⟩, hp, hinv⟩ R0 hR0
    dsimp only [List.cons_append, List.nil_append, List.length_cons, List.length_nil]
    simp only at hp hinv
    rcases suf with _ | ⟨s, suf⟩
    · rw [List.append_nil] at hp; subst hp
      refine Ev.sr fun K hK => S.o q.lss (S.end (hK _ ?_))
      clear hK K
      refine Ev.ud (fun c2 => ?_) (fun c2 => ?_)
      · first
      | (first | omega | contradiction)
      | refine Ev.seq ?_
        refine Ev.block ?_
        refine Ev.sr fun K hK => S.o q.mv (S.o q.as (S.end (hK _ ?_)))
        clear hK K
        refine Ev.sm (tbs [(0, 0), (0, 0), (2, 3), (3, 7), (0, 0), (0, 0), (6, 48), (7, 112), (8, 255)]) 9 fun K hK => M.o q.mv (M.o q.mv (M.o (q.ix am_el25 am_cl36 (hl := (by first | exact atig (by omega)))) (M.o (q.lsA [_, _] am_ag36 am_cl36) (M.o q.mv (M.o q.mv (M.o (q.ix am_el25 am_cl36 (hl := (by first | exact atig (by omega)))) (M.o (q.lsA [_, _] am_ag36 am_cl36) (M.o (q.sneq am_eq36 (am_sq36 _ _ _ _)) (M.end [] (h := S.end (hK _ ?_)))))))))))
        clear hK K
        refine Ev.c (fun c3 => ?_) (fun c3 => ?_)
        · first
        | (first | omega | contradiction)
        | refine Ev.sr fun K hK => S.o q.as (S.end (hK _ ?_))
          clear hK K
          refine Ev.ret ?_
          refine hR0 _ _ ?_
          refine Ev.ret1 ?_
          refine ⟨?_, rfl⟩
          first
           | exact bF (fun h => by subst h; omega)
           | exact bF (fun h => by subst h; rw [hidx] at hidx2; cases hidx2; simp at *)
           | exact bT (hinv.symm.trans (List.take_of_length_le (by omega)))
        · first
        | (first | omega | contradiction)
        | refine Ev.skip ?_
          show Ev _ _ _ _
          refine Ev.region_S fun K hK => S.o q.add (S.o q.mv (S.end (hK _ ?_)))
          clear hK K
          refine hR0 _ _ ?_
          refine roundU [] [0, 1, 12] ⟨(pre ++ [s], suf), by rw [← hp]; simp, ?_⟩ ?_ keep_n (slots_c (he := (by first | rfl | (simp; done) | (congr 2; omega))) (h := trivial)) (.c (.c (.c .n)))
          simp only [List.length_append, List.length_cons, List.length_nil, Nat.zero_add]
          rw [List.take_add_one, hinv, hidx2]
          simp at *
          obtain ⟨x1, x2⟩ := s
          obtain ⟨y1, y2⟩ := s2
          simp_all
          all_goals (simp only [List.length_cons]; omega)
      · first
      | (first | omega | contradiction)
      | refine Ev.exit ?_
        refine hR0 _ _ ?_
        show Ev _ _ _ _
        refine Ev.sr fun K hK => S.o q.as (S.end (hK _ ?_))
        clear hK K
        refine Ev.ret ?_
        refine Ev.ret1 ?_
        refine ⟨?_, rfl⟩
        first
         | exact bF (fun h => by subst h; omega)
         | exact bF (fun h => by subst h; rw [hidx] at hidx2; cases hidx2; simp at *)
         | exact bT (hinv.symm.trans (List.take_of_length_le (by omega)))
    · have hlt : (pre.length : Int) < (a).length := by rw [← hp, List.length_append, List.length_cons]; omega
      have hidx : (a)[pre.length]? = some s := by rw [← hp]; simp
      obtain ⟨s2, hidx2⟩ : ∃ s2, b[pre.length]? = some s2 := ⟨_, List.getElem?_eq_getElem (by omega)⟩
      refine Ev.sr fun K hK => S.o q.lss (S.end (hK _ ?_))
      clear hK K
      refine Ev.ud (fun c4 => ?_) (fun c4 => ?_)
      · first
      | (first | omega | contradiction)
      | refine Ev.seq ?_
        refine Ev.block ?_
        refine Ev.sr fun K hK => S.o q.mv (S.o q.as (S.end (hK _ ?_)))
        clear hK K
        refine Ev.sm (tbs [(0, 0), (0, 0), (2, 3), (3, 7), (0, 0), (0, 0), (6, 48), (7, 112), (8, 255)]) 9 fun K hK => M.o q.mv (M.o q.mv (M.o (q.ix am_el25 am_cl36 (hl := (by first | exact ati hidx (by omega) | exact ati hidx2 (by omega) | exact atig (by omega)))) (M.o (q.lsA [_, _] am_ag36 am_cl36) (M.o q.mv (M.o q.mv (M.o (q.ix am_el25 am_cl36 (hl := (by first | exact ati hidx (by omega) | exact ati hidx2 (by omega) | exact atig (by omega)))) (M.o (q.lsA [_, _] am_ag36 am_cl36) (M.o (q.sneq am_eq36 (am_sq36 _ _ _ _)) (M.end [] (h := S.end (hK _ ?_)))))))))))
        clear hK K
        refine Ev.c (fun c5 => ?_) (fun c5 => ?_)
        · first
        | (first | omega | contradiction)
        | refine Ev.sr fun K hK => S.o q.as (S.end (hK _ ?_))
          clear hK K
          refine Ev.ret ?_
          refine hR0 _ _ ?_
          refine Ev.ret1 ?_
          refine ⟨?_, rfl⟩
          first
           | exact bF (fun h => by subst h; omega)
           | exact bF (fun h => by subst h; rw [hidx] at hidx2; cases hidx2; simp at *)
           | exact bT (hinv.symm.trans (List.take_of_length_le (by omega)))
        · first
        | (first | omega | contradiction)
        | refine Ev.skip ?_
          show Ev _ _ _ _
          refine Ev.region_S fun K hK => S.o q.add (S.o q.mv (S.end (hK _ ?_)))
          clear hK K
          refine hR0 _ _ ?_
          refine roundU [] [0, 1, 12] ⟨(pre ++ [s], suf), by rw [← hp]; simp, ?_⟩ ?_ keep_n (slots_c (he := (by first | rfl | (simp; done) | (congr 2; omega))) (h := trivial)) (.c (.c (.c .n)))
          simp only [List.length_append, List.length_cons, List.length_nil, Nat.zero_add]
          rw [List.take_add_one, hinv, hidx2]
          simp at *
          obtain ⟨x1, x2⟩ := s
          obtain ⟨y1, y2⟩ := s2
          simp_all
          all_goals (simp only [List.length_cons]; omega)
      · first
      | (first | omega | contradiction)
      | refine Ev.exit ?_
        refine hR0 _ _ ?_
        show Ev _ _ _ _
        refine Ev.sr fun K hK => S.o q.as (S.end (hK _ ?_))
        clear hK K
        refine Ev.ret ?_
        refine Ev.ret1 ?_
        refine ⟨?_, rfl⟩
        first
         | exact bF (fun h => by subst h; omega)
         | exact bF (fun h => by subst h; rw [hidx] at hidx2; cases hidx2; simp at *)
         | exact bT (hinv.symm.trans (List.take_of_length_le (by omega)))

theorem givenE3 {l : List (Int × Int)} {d a : Int} (h : OKSteps l) (h2 : d ∈ sizes ∧ 0 ≤ a ∧ a ≤ 1048576) (h3 : ¬ lastOK l) : givenE l d a = 21 := by rw [givenE, if_pos h, if_pos (show sizeOK d a from h2), if_neg h3]
theorem givenE4 {l : List (Int × Int)} {d a : Int} (h : OKSteps l) (h2 : d ∈ sizes ∧ 0 ≤ a ∧ a ≤ 1048576) (h3 : lastOK l) : givenE l d a = 0 := by rw [givenE, if_pos h, if_pos (show sizeOK d a from h2), if_pos h3]
end Go.Proofs.Ytigjoaejncfmdaa
