/-
  The law DemandEnvelopes, walked.
  Conditions: none.
-/
import Derived.Test.YtdegjlhcchimbaaDoorEn3
import Derived.Test.YtdegjlhcchimbaaDoorEn4
import Derived.Test.YtdegjlhcchimbaaDoorDm8
namespace Go.Proofs.YtdegjlhcchimbaaDoor
open Go Go.AM
set_option linter.unusedSimpArgs false
set_option linter.unusedVariables false
set_option maxRecDepth 100000
set_option maxHeartbeats 1000000
theorem equalStp_fun (a b : List (Int × Int)) (ha : a.length ≤ 140737488355328) (hb : b.length ≤ 140737488355328) : Fun Tryd.prog 10 [.sh 2 (a.map pairC), .sh 2 (b.map pairC)] (Ret (.lit (.bool (decide (a = b)))) []) := by
  refine Fun.of (nt := 26) (rs := [.tmp 4]) Tryd.func10 rfl rfl rfl rfl rfl ?_
  refine Ev.sr fun K hK => S.o q.as (S.end (hK _ ?_))
  clear hK K
  refine Ev.seq ?_
  refine Ev.sr fun K hK => S.o q.mv (S.o (q.lens am_el29) (S.o q.mv (S.o (q.lens am_el29) (S.o q.neq (S.end (hK _ ?_))))))
  clear hK K
  refine Ev.cn (fun c1 => ?_) (fun c1 => ?_)
  · first
  | (first | omega | contradiction)
  | refine Ev.sr fun K hK => S.o q.as (S.end (hK _ ?_))
    clear hK K
    refine Ev.ret ?_
    refine Ev.ret1 ?_
    refine ⟨?_, rfl⟩
    first
     | exact bF (fun h => by subst h; omega)
     | exact bF (fun h => by subst h; rw [hidx] at hidx2; cases hidx2; simp at *)
     | exact bT (hinv.symm.trans (List.take_of_length_le (by omega)))
  · first
  | (first | omega | contradiction)
  | refine Ev.skip ?_
    show Ev _ _ _ _
    refine Ev.seq ?_
    refine Ev.sr fun K hK => S.o q.mv (S.o (q.lens am_el29) (S.o q.mv (S.end (hK _ ?_))))
    clear hK K
    refine Ev.block ?_
    refine Ev.loopU (ι := {q : List (Int × Int) × List (Int × Int) // q.1 ++ q.2 = a ∧ b.take q.1.length = q.1}) [] [0, 1, 12] (fun ⟨(pre, suf), _⟩ => [(13, .lit (.int .i64 ((pre.length : Int))))]) (fun ⟨(pre, suf), _⟩ => []) (fun ⟨(pre, suf), _⟩ => suf.length) ⟨([], a), rfl, rfl⟩ (.c (.c (.c .n))) keep_n (slots_c (he := (by first | rfl | (simp; done) | (congr 2; omega))) (h := trivial)) ?_
    rintro ⟨⟨pre, suf⟩, hp, hinv⟩ R0 hR0
    dsimp only [List.cons_append, List.nil_append, List.length_cons, List.length_nil]
    simp only at hp hinv
    have hpl : pre.length + suf.length = (a).length := by rw [← hp, List.length_append]
    rcases suf with _ | ⟨s, suf⟩
    · rw [List.append_nil] at hp; subst hp; simp only [List.length_nil] at hpl
      refine Ev.sr fun K hK => S.o q.lss (S.end (hK _ ?_))
      clear hK K
      refine Ev.ud (fun c2 => ?_) (fun c2 => ?_)
      · first
      | (first | omega | contradiction)
      | refine Ev.seq ?_
        refine Ev.block ?_
        refine Ev.sr fun K hK => S.o q.mv (S.o q.as (S.end (hK _ ?_)))
        clear hK K
        refine Ev.sm (tbs [(0, 0), (0, 0), (2, 3), (3, 7), (0, 0), (0, 0), (6, 48), (7, 112), (8, 255)]) 9 fun K hK => M.o q.mv (M.o q.mv (M.o (q.ix am_el29 am_cl39 (hl := (by first | exact atig (by omega)))) (M.o (q.lsA [_, _] am_ag39 am_cl39) (M.o q.mv (M.o q.mv (M.o (q.ix am_el29 am_cl39 (hl := (by first | exact atig (by omega)))) (M.o (q.lsA [_, _] am_ag39 am_cl39) (M.o (q.sneq am_eq39 (am_sq39 _ _ _ _)) (M.end [] (h := S.end (hK _ ?_)))))))))))
        clear hK K
        refine Ev.c (fun c3 => ?_) (fun c3 => ?_)
        · first
        | (first | omega | contradiction)
        | refine Ev.sr fun K hK => S.o q.as (S.end (hK _ ?_))
          clear hK K
          refine Ev.ret ?_
          refine hR0 _ _ ?_
          refine Ev.ret1 ?_
          refine ⟨?_, rfl⟩
          first
           | exact bF (fun h => by subst h; omega)
           | exact bF (fun h => by subst h; rw [hidx] at hidx2; cases hidx2; simp at *)
           | exact bT (hinv.symm.trans (List.take_of_length_le (by omega)))
        · first
        | (first | omega | contradiction)
        | refine Ev.skip ?_
          show Ev _ _ _ _
          refine Ev.region_S fun K hK => S.o q.add (S.o q.mv (S.end (hK _ ?_)))
          clear hK K
          refine hR0 _ _ ?_
          refine roundU [] [0, 1, 12] ⟨(pre ++ [s], suf), by rw [← hp]; simp, ?_⟩ ?_ keep_n (slots_c (he := (by first | rfl | (simp; done) | (congr 2; omega))) (h := trivial)) (.c (.c (.c .n)))
          simp only [List.length_append, List.length_cons, List.length_nil, Nat.zero_add]
          rw [List.take_add_one, hinv, hidx2]
          simp at *
          obtain ⟨x1, x2⟩ := s
          obtain ⟨y1, y2⟩ := s2
          simp_all
          all_goals (dsimp only; simp only [List.length_cons]; omega)
      · first
      | (first | omega | contradiction)
      | refine Ev.exit ?_
        refine hR0 _ _ ?_
        show Ev _ _ _ _
        refine Ev.sr fun K hK => S.o q.as (S.end (hK _ ?_))
        clear hK K
        refine Ev.ret ?_
        refine Ev.ret1 ?_
        refine ⟨?_, rfl⟩
        first
         | exact bF (fun h => by subst h; omega)
         | exact bF (fun h => by subst h; rw [hidx] at hidx2; cases hidx2; simp at *)
         | exact bT (hinv.symm.trans (List.take_of_length_le (by omega)))
    · simp only [List.length_cons] at hpl
      have hidx : (a)[pre.length]? = some s := by rw [← hp]; simp
      obtain ⟨s2, hidx2⟩ : ∃ s2, b[pre.length]? = some s2 := ⟨_, List.getElem?_eq_getElem (by omega)⟩
      refine Ev.sr fun K hK => S.o q.lss (S.end (hK _ ?_))
      clear hK K
      refine Ev.ud (fun c4 => ?_) (fun c4 => ?_)
      · first
      | (first | omega | contradiction)
      | refine Ev.seq ?_
        refine Ev.block ?_
        refine Ev.sr fun K hK => S.o q.mv (S.o q.as (S.end (hK _ ?_)))
        clear hK K
        refine Ev.sm (tbs [(0, 0), (0, 0), (2, 3), (3, 7), (0, 0), (0, 0), (6, 48), (7, 112), (8, 255)]) 9 fun K hK => M.o q.mv (M.o q.mv (M.o (q.ix am_el29 am_cl39 (hl := (by first | exact ati hidx (by omega) | exact ati hidx2 (by omega) | exact atig (by omega)))) (M.o (q.lsA [_, _] am_ag39 am_cl39) (M.o q.mv (M.o q.mv (M.o (q.ix am_el29 am_cl39 (hl := (by first | exact ati hidx (by omega) | exact ati hidx2 (by omega) | exact atig (by omega)))) (M.o (q.lsA [_, _] am_ag39 am_cl39) (M.o (q.sneq am_eq39 (am_sq39 _ _ _ _)) (M.end [] (h := S.end (hK _ ?_)))))))))))
        clear hK K
        refine Ev.c (fun c5 => ?_) (fun c5 => ?_)
        · first
        | (first | omega | contradiction)
        | refine Ev.sr fun K hK => S.o q.as (S.end (hK _ ?_))
          clear hK K
          refine Ev.ret ?_
          refine hR0 _ _ ?_
          refine Ev.ret1 ?_
          refine ⟨?_, rfl⟩
          first
           | exact bF (fun h => by subst h; omega)
           | exact bF (fun h => by subst h; rw [hidx] at hidx2; cases hidx2; simp at *)
           | exact bT (hinv.symm.trans (List.take_of_length_le (by omega)))
        · first
        | (first | omega | contradiction)
        | refine Ev.skip ?_
          show Ev _ _ _ _
          refine Ev.region_S fun K hK => S.o q.add (S.o q.mv (S.end (hK _ ?_)))
          clear hK K
          refine hR0 _ _ ?_
          refine roundU [] [0, 1, 12] ⟨(pre ++ [s], suf), by rw [← hp]; simp, ?_⟩ ?_ keep_n (slots_c (he := (by first | rfl | (simp; done) | (congr 2; omega))) (h := trivial)) (.c (.c (.c .n)))
          simp only [List.length_append, List.length_cons, List.length_nil, Nat.zero_add]
          rw [List.take_add_one, hinv, hidx2]
          simp at *
          obtain ⟨x1, x2⟩ := s
          obtain ⟨y1, y2⟩ := s2
          simp_all
          all_goals (dsimp only; simp only [List.length_cons]; omega)
      · first
      | (first | omega | contradiction)
      | refine Ev.exit ?_
        refine hR0 _ _ ?_
        show Ev _ _ _ _
        refine Ev.sr fun K hK => S.o q.as (S.end (hK _ ?_))
        clear hK K
        refine Ev.ret ?_
        refine Ev.ret1 ?_
        refine ⟨?_, rfl⟩
        first
         | exact bF (fun h => by subst h; omega)
         | exact bF (fun h => by subst h; rw [hidx] at hidx2; cases hidx2; simp at *)
         | exact bT (hinv.symm.trans (List.take_of_length_le (by omega)))
theorem envV_len (l : List Dem) (z : Bx) : (envV l z).length ≤ 200 := by
  unfold envV
  split
  · rename_i h; exact h.2
  · simp
theorem envelopes_law (l : List Dem) (z : Bx) (hlen : l.length ≤ 140737488355328) (hw : demW l) : Fun Tryd.prog 3 [.sh 8 (l.map Dem.c), .agg z.c] (Ret (.lit (.bool true)) []) := by
  have hvl := envV_len l z
  refine Fun.of (nt := 59) (rs := [.tmp 4]) Tryd.func3 rfl rfl rfl rfl rfl ?_
  refine Ev.sr fun K hK => S.nn (q.bx [_, _, _, _, _, _] true) (S.o q.as (S.end (hK _ ?_)))
  clear hK K
  refine Ev.seq ?_
  refine Ev.sr fun K hK => S.c0 (hF := awake_fun) (h := S.o q.nott (S.end (hK _ ?_)))
  clear hK K
  refine Ev.cf ?_
  refine Ev.skip ?_
  show Ev _ _ _ _
  refine Ev.seq ?_
  refine Ev.sr fun K hK => S.o q.mv (S.c0 (hF := small_fun l hlen) (h := S.o q.not (S.end (hK _ ?_))))
  clear hK K
  refine Ev.cn (fun c1 => ?_) (fun c1 => ?_)
  · first
  | (first | omega | contradiction)
  | refine Ev.sr fun K hK => S.o q.as (S.end (hK _ ?_))
    clear hK K
    refine Ev.ret ?_
    refine Ev.ret1 ?_
    refine ⟨?_, rfl⟩
    first | rfl | exact lawT rfl | (exfalso; omega) | contradiction | (exfalso; simp at *; done)
  · first
  | (first | omega | contradiction)
  | refine Ev.skip ?_
    show Ev _ _ _ _
    refine Ev.sr fun K hK => S.o q.mv (S.o (q.lvA [_, _, _, _, _, _] am_ag26 am_cl26) (S.c0 (hF := demEnvelope_fun l z hlen hw) (h := S.o q.mv (S.o q.ex (S.o q.ex (S.o q.as (S.o q.as (S.end (hK _ ?_)))))))))
    clear hK K
    refine Ev.sr fun K hK => S.o q.mv (S.c0 (hF := demText_fun l hlen hw) (h := S.o q.mv (S.o q.ex (S.o q.ex (S.o q.as (S.o q.as (S.end (hK _ ?_))))))))
    clear hK K
    refine Ev.sr fun K hK => S.o q.mv (S.o (q.lvA [_, _, _, _, _, _] am_ag26 am_cl26) (S.c0 (hF := rEnvelope_fun l z hlen hw) (h := S.o q.mv (S.o q.ex (S.o q.ex (S.o q.as (S.o q.as (S.end (hK _ ?_)))))))))
    clear hK K
    refine Ev.seq ?_
    refine Ev.sr fun K hK => S.o q.mv (S.o q.mv (S.c0 (hF := equalStp_fun _ _ (by omega) (by omega)) (h := S.o q.not (S.bn q.mv (fun c2 => ?_) (fun c2 => ?_)))))
    · first
    | (first | omega | contradiction)
    | refine S.sk (S.sk (S.sk (S.o q.pt (S.end (hK _ ?_)))))
      clear hK K
      refine Ev.ct ?_
      refine Ev.sr fun K hK => S.o q.as (S.end (hK _ ?_))
      clear hK K
      refine Ev.ret ?_
      refine Ev.ret1 ?_
      refine ⟨?_, rfl⟩
      first | rfl | exact lawT rfl | (exfalso; omega) | contradiction | (exfalso; simp at *; done)
    · first
    | (first | omega | contradiction)
    | refine S.o q.mv (S.o q.mv (S.o q.neq (S.o q.pf (S.end (hK _ ?_)))))
      clear hK K
      refine Ev.cn (fun c3 => ?_) (fun c3 => ?_)
      · first
      | (first | omega | contradiction)
      | refine Ev.sr fun K hK => S.o q.as (S.end (hK _ ?_))
        clear hK K
        refine Ev.ret ?_
        refine Ev.ret1 ?_
        refine ⟨?_, rfl⟩
        first | rfl | exact lawT rfl | (exfalso; omega) | contradiction | (exfalso; simp at *; done)
      · first
      | (first | omega | contradiction)
      | refine Ev.skip ?_
        show Ev _ _ _ _
        refine Ev.seq ?_
        refine Ev.sr fun K hK => S.o q.mv (S.c0 (hF := rdemValid_fun _ (by omega) (by assumption)) (h := S.o q.not (S.end (hK _ ?_))))
        clear hK K
        refine Ev.cn (fun c4 => ?_) (fun c4 => ?_)
        · first
        | (first | omega | contradiction)
        | have f1 : txV l = [] := if_neg ‹¬ okDems l›
          have f2 : txE l = 1 := if_neg ‹¬ okDems l›
          rw [f1, f2]
          refine Ev.sr fun K hK => S.o q.mv (S.o q.seqs (S.bd q.mv (fun c5 => ?_) (fun c5 => ?_)))
          · first
          | (first | omega | contradiction)
          | refine S.o q.mv (S.o q.eql (S.o q.pt (S.o q.as (S.end (hK _ ?_)))))
            clear hK K
            refine Ev.ret ?_
            refine Ev.ret1 ?_
            refine ⟨?_, rfl⟩
            first | rfl | exact lawT rfl | (exfalso; omega) | contradiction | (exfalso; simp at *; done)
          · first
          | (first | omega | contradiction)
          | refine S.sk (S.sk (S.o q.pf (S.o q.as (S.end (hK _ ?_)))))
            clear hK K
            refine Ev.ret ?_
            refine Ev.ret1 ?_
            refine ⟨?_, rfl⟩
            first | rfl | exact lawT rfl | (exfalso; omega) | contradiction | (exfalso; simp at *; done)
        · first
        | (first | omega | contradiction)
        | refine Ev.skip ?_
          show Ev _ _ _ _
          have hok : okDems l := ‹okDems l›
          have f1 : txV l = textL l := if_pos hok
          have f2 : txE l = 0 := if_pos hok
          rw [f1, f2]
          refine Ev.sr fun K hK => S.o q.mv (S.o q.eql (S.bd q.mv (fun c6 => ?_) (fun c6 => ?_)))
          · first
          | (first | omega | contradiction)
          | refine S.o q.mv (S.o q.mv (S.c0 (hF := rText_fun _ (by assumption)) (h := S.o q.seqs (S.o q.pt (S.o q.as (S.end (hK _ ?_)))))))
            clear hK K
            refine Ev.ret ?_
            refine Ev.ret1 ?_
            refine ⟨?_, rfl⟩
            first | rfl | exact lawT rfl | (exfalso; omega) | contradiction | (exfalso; simp at *; done)
          · first
          | (first | omega | contradiction)
          | refine S.sk (S.sk (S.sk (S.sk (S.o q.pf (S.o q.as (S.end (hK _ ?_)))))))
            clear hK K
            refine Ev.ret ?_
            refine Ev.ret1 ?_
            refine ⟨?_, rfl⟩
            first | rfl | exact lawT rfl | (exfalso; omega) | contradiction | (exfalso; simp at *; done)
end Go.Proofs.YtdegjlhcchimbaaDoor
