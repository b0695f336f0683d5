/-
  The law StockShort, walked.
  Conditions: none.
-/
import Derived.Test.YtckahagagfmpbaaSo6
namespace Go.Proofs.Ytckahagagfmpbaa
open Go Go.AM
set_option linter.unusedSimpArgs false
set_option linter.unusedVariables false
set_option maxRecDepth 100000
set_option maxHeartbeats 1000000

def sV (a : List (Int × Int)) : List (Int × Int) := if okOrd a then shV a else []
def sE (a : List (Int × Int)) : Int := if okOrd a then shE a else 1
theorem sShort_fun (l : List (Int × Int)) (hlen : l.length ≤ 140737488355328) : Fun Try.prog 25 [.sh 2 (l.map pairC)] (Ret (.tup [.sh 2 ((sV l).map pairC), .lit (.int .i64 (sE l))]) []) := stShort_fun l hlen
theorem sV_len (a : List (Int × Int)) : (sV a).length ≤ a.length := by
  unfold sV
  split
  · rename_i h; exact shV_len h.2
  · simp
theorem mgV_len (a b : List (Int × Int)) : (mgV a b).length ≤ 400 := by
  unfold mgV
  split
  · rename_i h
    obtain ⟨h1, h2⟩ := ok2 h.1 h.2
    unfold mgV1
    split
    · split
      · omega
      · simp
    · simp
  · simp
theorem mgV1_len (c : List (Int × Int)) : (mgV1 c).length ≤ 200 := by
  unfold mgV1
  split
  · split
    · assumption
    · simp
  · simp
theorem sN {a : List (Int × Int)} (h : ¬ okOrd a) : (sV a).length = 0 ∧ sE a = 1 := ⟨by rw [show sV a = [] from if_neg h]; rfl, if_neg h⟩
theorem sY {a : List (Int × Int)} (h : okOrd a) : sV a = shV a ∧ sE a = shE a := ⟨if_pos h, if_pos h⟩
theorem mN {a b : List (Int × Int)} (h : ¬ (okOrd a ∧ okOrd b)) : (mgV a b).length = 0 ∧ mgE a b = 1 := ⟨by rw [show mgV a b = [] from if_neg h]; rfl, if_neg h⟩
theorem mY {a b : List (Int × Int)} (h : okOrd a) (h2 : okOrd b) : mgV a b = mgV1 (a ++ b) ∧ mgE a b = mgE1 (a ++ b) := ⟨if_pos ⟨h, h2⟩, if_pos ⟨h, h2⟩⟩
theorem short_law (a b : List (Int × Int)) (ha : a.length ≤ 140737488355328) (hb : b.length ≤ 140737488355328) : Fun Try.prog 5 [.sh 2 (a.map pairC), .sh 2 (b.map pairC)] (Ret (.lit (.bool true)) []) := by
  refine Fun.of (nt := 88) (rs := [.tmp 4]) Try.func5 rfl rfl rfl rfl rfl ?_
  refine Ev.sr fun K hK => S.o q.as (S.end (hK _ ?_))
  clear hK K
  refine Ev.seq ?_
  refine Ev.sr fun K hK => S.c0 (hF := awake_fun) (h := S.o q.nott (S.end (hK _ ?_)))
  clear hK K
  refine Ev.cf ?_
  refine Ev.skip ?_
  show Ev _ _ _ _
  refine Ev.seq ?_
  refine Ev.sr fun K hK => S.o q.mv (S.o q.mv (S.nn (q.bs [[_], [_]] true am_el59 am_ze23 am_cl23) (S.c0 (hF := few_fun [a, b] (by simp) (fun x hx => by simp only [List.mem_cons, List.not_mem_nil, or_false] at hx; first | (rcases hx with rfl | rfl <;> assumption) | (subst hx; assumption))) (h := S.o q.not (S.end (hK _ ?_))))))
  clear hK K
  refine Ev.cn (fun c1 => ?_) (fun c1 => ?_)
  · first
  | (first | omega | contradiction)
  | refine Ev.sr fun K hK => S.o q.as (S.end (hK _ ?_))
    clear hK K
    refine Ev.ret ?_
    refine Ev.ret1 ?_
    refine ⟨?_, rfl⟩
    first | rfl | exact lawT rfl | exact lawT (by omega) | exact lawT (by assumption) | (exfalso; omega) | contradiction | (exfalso; simp_all; done) | (exfalso; simp at *; done)
  · first
  | (first | omega | contradiction)
  | refine Ev.skip ?_
    show Ev _ _ _ _
    have hsm : ∀ x ∈ [a, b], x.length ≤ 220 := ‹_›
    have hfa := hsm a (by simp)
    have hfb := hsm b (by simp)
    have hsv := sV_len a
    have hmv := mgV_len a b
    refine Ev.sr fun K hK => S.o q.mv (S.c0 (hF := sShort_fun _ (by omega)) (h := S.o q.mv (S.o q.ex (S.o q.ex (S.o q.as (S.o q.as (S.end (hK _ ?_))))))))
    clear hK K
    refine Ev.sr fun K hK => S.o q.mv (S.o q.mv (S.c0 (hF := stMerge_fun _ _ (by omega) (by omega)) (h := S.o q.mv (S.o q.ex (S.o q.ex (S.o q.as (S.o q.as (S.end (hK _ ?_)))))))))
    clear hK K
    refine Ev.seq ?_
    refine Ev.sr fun K hK => S.o q.mv (S.c0 (hF := rorder_fun _ (by omega)) (h := S.o q.not (S.end (hK _ ?_))))
    clear hK K
    refine Ev.cn (fun c2 => ?_) (fun c2 => ?_)
    · first
    | (first | omega | contradiction)
    | have hna : ¬ okOrd a := ‹_›
      obtain ⟨e1, e2⟩ := sN hna
      obtain ⟨e3, e4⟩ := mN (a := a) (b := b) (fun h => hna h.1)
      refine Ev.sr fun K hK => S.o q.mv (S.o (q.lens am_el23) (S.o q.eql (S.bd q.mv (fun c3 => ?_) (fun c3 => ?_))))
      · first
      | (first | omega | contradiction)
      | refine S.o q.mv (S.o q.eql (S.o q.pt (S.bd q.mv (fun c4 => ?_) (fun c4 => ?_))))
        · first
        | (first | omega | contradiction)
        | refine S.o q.mv (S.o (q.lens am_el23) (S.o q.eql (S.o q.pt (S.bd q.mv (fun c5 => ?_) (fun c5 => ?_)))))
          · first
          | (first | omega | contradiction)
          | refine S.o q.mv (S.o q.eql (S.o q.pt (S.o q.as (S.end (hK _ ?_)))))
            clear hK K
            refine Ev.ret ?_
            refine Ev.ret1 ?_
            refine ⟨?_, rfl⟩
            first | rfl | exact lawT rfl | exact lawT (by omega) | exact lawT (by assumption) | (exfalso; omega) | contradiction | (exfalso; simp_all; done) | (exfalso; simp at *; done)
          · first
          | (first | omega | contradiction)
          | refine S.sk (S.sk (S.o q.pf (S.o q.as (S.end (hK _ ?_)))))
            clear hK K
            refine Ev.ret ?_
            refine Ev.ret1 ?_
            refine ⟨?_, rfl⟩
            first | rfl | exact lawT rfl | exact lawT (by omega) | exact lawT (by assumption) | (exfalso; omega) | contradiction | (exfalso; simp_all; done) | (exfalso; simp at *; done)
        · first
        | (first | omega | contradiction)
        | refine S.sk (S.sk (S.sk (S.o q.pf (S.o q.mv (S.sk (S.sk (S.o q.pf (S.o q.as (S.end (hK _ ?_))))))))))
          clear hK K
          refine Ev.ret ?_
          refine Ev.ret1 ?_
          refine ⟨?_, rfl⟩
          first | rfl | exact lawT rfl | exact lawT (by omega) | exact lawT (by assumption) | (exfalso; omega) | contradiction | (exfalso; simp_all; done) | (exfalso; simp at *; done)
      · first
      | (first | omega | contradiction)
      | refine S.sk (S.sk (S.o q.pf (S.o q.mv (S.sk (S.sk (S.sk (S.o q.pf (S.o q.mv (S.sk (S.sk (S.o q.pf (S.o q.as (S.end (hK _ ?_))))))))))))))
        clear hK K
        refine Ev.ret ?_
        refine Ev.ret1 ?_
        refine ⟨?_, rfl⟩
        first | rfl | exact lawT rfl | exact lawT (by omega) | exact lawT (by assumption) | (exfalso; omega) | contradiction | (exfalso; simp_all; done) | (exfalso; simp at *; done)
    · first
    | (first | omega | contradiction)
    | refine Ev.skip ?_
      show Ev _ _ _ _
      have hoa : okOrd a := ‹_›
      obtain ⟨e1, e2⟩ := sY hoa
      have hoc := hoa.2
      have hol := hoa.1
      have hsl := shV_len hoc
      refine Ev.sr fun K hK => S.o q.mv (S.c0 (hF := rShort_fun _ (by assumption) (by omega)) (h := S.o q.mv (S.o q.ex (S.o q.ex (S.o q.as (S.o q.as (S.end (hK _ ?_))))))))
      clear hK K
      refine Ev.seq ?_
      refine Ev.sr fun K hK => S.o q.mv (S.o q.mv (S.c0 (hF := rSame_fun _ _ (by omega) (by omega)) (h := S.o q.not (S.bn q.mv (fun c6 => ?_) (fun c6 => ?_)))))
      · first
      | (first | omega | contradiction)
      | refine S.sk (S.sk (S.sk (S.o q.pt (S.end (hK _ ?_)))))
        clear hK K
        refine Ev.ct ?_
        refine Ev.sr fun K hK => S.o q.as (S.end (hK _ ?_))
        clear hK K
        refine Ev.ret ?_
        refine Ev.ret1 ?_
        refine ⟨?_, rfl⟩
        first | rfl | exact lawT rfl | exact lawT (by omega) | exact lawT (by assumption) | (exfalso; omega) | contradiction | (exfalso; simp_all; done) | (exfalso; simp at *; done)
      · first
      | (first | omega | contradiction)
      | refine S.o q.mv (S.o q.mv (S.o q.neq (S.o q.pf (S.end (hK _ ?_)))))
        clear hK K
        refine Ev.cn (fun c7 => ?_) (fun c7 => ?_)
        · first
        | (first | omega | contradiction)
        | refine Ev.sr fun K hK => S.o q.as (S.end (hK _ ?_))
          clear hK K
          refine Ev.ret ?_
          refine Ev.ret1 ?_
          refine ⟨?_, rfl⟩
          first | rfl | exact lawT rfl | exact lawT (by omega) | exact lawT (by assumption) | (exfalso; omega) | contradiction | (exfalso; simp_all; done) | (exfalso; simp at *; done)
        · first
        | (first | omega | contradiction)
        | refine Ev.skip ?_
          show Ev _ _ _ _
          refine Ev.seq ?_
          refine Ev.sr fun K hK => S.o q.mv (S.c0 (hF := rorder_fun _ (by omega)) (h := S.o q.not (S.end (hK _ ?_))))
          clear hK K
          refine Ev.cn (fun c8 => ?_) (fun c8 => ?_)
          · first
          | (first | omega | contradiction)
          | have hnb : ¬ okOrd b := ‹_›
            obtain ⟨e3, e4⟩ := mN (a := a) (b := b) (fun h => hnb h.2)
            refine Ev.sr fun K hK => S.o q.mv (S.o (q.lens am_el23) (S.o q.eql (S.bd q.mv (fun c9 => ?_) (fun c9 => ?_))))
            · first
            | (first | omega | contradiction)
            | refine S.o q.mv (S.o q.eql (S.o q.pt (S.o q.as (S.end (hK _ ?_)))))
              clear hK K
              refine Ev.ret ?_
              refine Ev.ret1 ?_
              refine ⟨?_, rfl⟩
              first | rfl | exact lawT rfl | exact lawT (by omega) | exact lawT (by assumption) | (exfalso; omega) | contradiction | (exfalso; simp_all; done) | (exfalso; simp at *; done)
            · first
            | (first | omega | contradiction)
            | refine S.sk (S.sk (S.o q.pf (S.o q.as (S.end (hK _ ?_)))))
              clear hK K
              refine Ev.ret ?_
              refine Ev.ret1 ?_
              refine ⟨?_, rfl⟩
              first | rfl | exact lawT rfl | exact lawT (by omega) | exact lawT (by assumption) | (exfalso; omega) | contradiction | (exfalso; simp_all; done) | (exfalso; simp at *; done)
          · first
          | (first | omega | contradiction)
          | refine Ev.skip ?_
            show Ev _ _ _ _
            have hob : okOrd b := ‹_›
            obtain ⟨e3, e4⟩ := mY hoa hob
            have hm1 := mgV1_len (a ++ b)
            refine Ev.sr fun K hK => S.o q.mv (S.o q.mv (S.c0 (hF := rMerge_fun _ _ (by assumption) (by assumption)) (h := S.o q.mv (S.o q.ex (S.o q.ex (S.o q.as (S.o q.as (S.end (hK _ ?_)))))))))
            clear hK K
            refine Ev.sr fun K hK => S.o q.mv (S.o q.mv (S.c0 (hF := rSame_fun _ _ (by omega) (by omega)) (h := S.bd q.mv (fun c10 => ?_) (fun c10 => ?_))))
            · first
            | (first | omega | contradiction)
            | refine S.o q.mv (S.o q.mv (S.o q.eql (S.o q.pt (S.o q.as (S.end (hK _ ?_))))))
              clear hK K
              refine Ev.ret ?_
              refine Ev.ret1 ?_
              refine ⟨?_, rfl⟩
              first | rfl | exact lawT rfl | exact lawT (by omega) | exact lawT (by assumption) | (exfalso; omega) | contradiction | (exfalso; simp_all; done) | (exfalso; simp at *; done)
            · first
            | (first | omega | contradiction)
            | refine S.sk (S.sk (S.sk (S.o q.pf (S.o q.as (S.end (hK _ ?_))))))
              clear hK K
              refine Ev.ret ?_
              refine Ev.ret1 ?_
              refine ⟨?_, rfl⟩
              first | rfl | exact lawT rfl | exact lawT (by omega) | exact lawT (by assumption) | (exfalso; omega) | contradiction | (exfalso; simp_all; done) | (exfalso; simp at *; done)
end Go.Proofs.Ytckahagagfmpbaa
