/-
  slices.SortedFunc at the keys of a map.
  Conditions: none.
-/
import Derived.Test.YtaggnajjmopobaaBase
import Derived.Test.YtaggnajjmopobaaAmKeys
import Derived.Test.YtaggnajjmopobaaAmFactl
import Derived.Ground.SlsfProg
import Derived.Ground.GgzProg
namespace Go.Proofs.Ytaggnajjmopobaa
open Go Go.AM Go.Lib
set_option linter.unusedSimpArgs false
set_option linter.unusedVariables false
set_option maxRecDepth 100000
set_option maxHeartbeats 2000000

theorem hNaN (z : Int) : Fun Try.prog 59 [.lit (.int .i64 z)] (Ret (.lit (.bool false)) []) := by
  refine Fun.of (nt := 6) (rs := [.tmp 2]) Try.func59 rfl rfl rfl rfl rfl ?_
  refine Ev.sr fun K hK => S.o q.as (S.end (hK _ ?_))
  clear hK K
  refine Ev.sr fun K hK => S.o q.mv (S.o q.mv (S.o q.neq (S.o q.as (S.end (hK _ ?_)))))
  clear hK K
  refine Ev.ret ?_
  refine Ev.ret1 ?_
  refine ⟨?_, rfl⟩
  first | (rw [decide_eq_false (by omega)]; done) | (congr 2; simp; done)
def cmpI (x y : Int) : Int := if x < y then -1 else if y < x then 1 else 0
theorem cmpI_fun (x y : Int) : Fun Try.prog 42 [.lit (.int .i64 x), .lit (.int .i64 y)] (Ret (.lit (.int .i64 (cmpI x y))) []) := by
  refine Fun.of (nt := 20) (rs := [.tmp 4]) Try.func42 rfl rfl rfl rfl rfl ?_
  refine Ev.sr fun K hK => S.o q.as (S.end (hK _ ?_))
  clear hK K
  refine Ev.sr fun K hK => S.o q.mv (S.c0 (hF := hNaN _) (h := S.o q.as (S.end (hK _ ?_))))
  clear hK K
  refine Ev.sr fun K hK => S.o q.mv (S.c0 (hF := hNaN _) (h := S.o q.as (S.end (hK _ ?_))))
  clear hK K
  refine Ev.seq ?_
  refine Ev.sr fun K hK => S.o q.mv (S.end (hK _ ?_))
  clear hK K
  refine Ev.cf ?_
  refine Ev.skip ?_
  show Ev _ _ _ _
  refine Ev.seq ?_
  refine Ev.sr fun K hK => S.o q.mv (S.end (hK _ ?_))
  clear hK K
  refine Ev.cf ?_
  refine Ev.skip ?_
  show Ev _ _ _ _
  refine Ev.seq ?_
  refine Ev.sr fun K hK => S.o q.mv (S.o q.mv (S.o q.lss (S.end (hK _ ?_))))
  clear hK K
  refine Ev.cd (fun c1 => ?_) (fun c1 => ?_)
  · first
  | (first | omega | contradiction)
  | refine Ev.sr fun K hK => S.o q.as (S.end (hK _ ?_))
    clear hK K
    refine Ev.ret ?_
    refine Ev.ret1 ?_
    refine ⟨?_, rfl⟩
    (unfold cmpI; first | (rw [if_pos ‹_›]; done) | (rw [if_neg ‹_›, if_pos (by omega)]; done) | (rw [if_neg ‹_›, if_neg (by omega)]; done))
  · first
  | (first | omega | contradiction)
  | refine Ev.skip ?_
    show Ev _ _ _ _
    refine Ev.seq ?_
    refine Ev.sr fun K hK => S.o q.mv (S.o q.mv (S.o q.gtr (S.end (hK _ ?_))))
    clear hK K
    refine Ev.cd (fun c2 => ?_) (fun c2 => ?_)
    · first
    | (first | omega | contradiction)
    | refine Ev.sr fun K hK => S.o q.as (S.end (hK _ ?_))
      clear hK K
      refine Ev.ret ?_
      refine Ev.ret1 ?_
      refine ⟨?_, rfl⟩
      (unfold cmpI; first | (rw [if_pos ‹_›]; done) | (rw [if_neg ‹_›, if_pos (by omega)]; done) | (rw [if_neg ‹_›, if_neg (by omega)]; done))
    · first
    | (first | omega | contradiction)
    | refine Ev.skip ?_
      show Ev _ _ _ _
      refine Ev.sr fun K hK => S.o q.as (S.end (hK _ ?_))
      clear hK K
      refine Ev.ret ?_
      refine Ev.ret1 ?_
      refine ⟨?_, rfl⟩
      (unfold cmpI; first | (rw [if_pos ‹_›]; done) | (rw [if_neg ‹_›, if_pos (by omega)]; done) | (rw [if_neg ‹_›, if_neg (by omega)]; done))

def dCmp (x y : Int) : Int := cmpI y x
theorem dCmp_fun (x y : Int) : Fun Try.prog 60 [.lit (.int .i64 x), .lit (.int .i64 y)] (Ret (.lit (.int .i64 (dCmp x y))) []) := by
  refine Fun.of (nt := 8) (rs := [.tmp 4]) Try.func60 rfl rfl rfl rfl rfl ?_
  refine Ev.sr fun K hK => S.o q.as (S.end (hK _ ?_))
  clear hK K
  refine Ev.sr fun K hK => S.o q.mv (S.o q.mv (S.c0 (hF := cmpI_fun _ _) (h := S.o q.as (S.end (hK _ ?_)))))
  clear hK K
  refine Ev.ret ?_
  refine Ev.ret1 ?_
  refine ⟨?_, rfl⟩
  rfl

theorem dCmp_lt (x y : Int) : ltOf dCmp x y = decide (y < x) := by
  unfold ltOf dCmp cmpI
  by_cases h : y < x
  · rw [if_pos h, decide_eq_true h]; rfl
  · rw [if_neg h, decide_eq_false h]
    split <;> rfl
theorem dCmp_swo : Go.Sort.SWO (ltOf dCmp) := by
  refine ⟨fun x => ?_, fun x y z h1 h2 => ?_, fun x y z h1 h2 => ?_⟩
  · rw [dCmp_lt]; exact decide_eq_false (by omega)
  · rw [dCmp_lt, decide_eq_true_eq] at *; omega
  · rw [dCmp_lt, decide_eq_false_iff_not] at *; omega
open Go.Shelf in
shelf_lay_g SlLaysF.n6 Slsf 6 at Try 57 as sortIntLay
open Go.Shelf in
shelf_lay_g SlLaysZI.n8 Ggz 8 at Try 56 as collectLay
open Go.Shelf in
shelf_lay_g SlLaysZI.n10 Ggz 10 at Try 58 as keysLay
theorem sortInt_fun (l : List Int) (hl : l.length ≤ 1000000) : FunR Try.prog 57 [.als 0 0 l.length, .fn (.func 60) [] []] [(0, ⟨true, 3, 1, l.map intC, true⟩)] 1
    (fun v objs => ∃ l' : List Int, (l'.Perm l ∧ l'.Pairwise fun x y => y ≤ x) ∧ v = .tup [] ∧ objs = [(0, ⟨true, 3, 1, l'.map intC, true⟩)]) := by
  have h := sortFunc1_R sortIntLay (el := 3) (enc := Value.int .i64) (fun _ => rfl) ⟨_, Try.func57, rfl, rfl⟩ dCmp dCmp_swo (fun x y => dCmp_fun x y) l (by omega)
  simp only [dCmp_lt, decide_eq_false_iff_not, Int.not_lt] at h
  exact h
theorem collectK_fun (m : List (Int × Int)) (hn : m.length ≤ 1000000) (hk : ∀ a ∈ m.map Prod.fst, (Go.Lit.int .i64 a).wf = true) : FunR Try.prog 56 [.fn (.func 58) [] [.adr 0 0 0]] [(0, ⟨false, 45, 1, [[.shm 3 (m.map (rowK (Value.int .i64) (Value.int .i64)))]], true⟩)] 1
    (fun v l => ∃ ks : List Int, ks.Perm (m.map Prod.fst) ∧ v = .als 1 0 ks.length ∧ l = [(0, ⟨false, 45, 1, [[.shm 3 (m.map (rowK (Value.int .i64) (Value.int .i64)))]], true⟩), (1, ⟨true, 3, 1, ks.map intC, true⟩)]) :=
  collect_R collectLay keysLay ⟨_, Try.func56, rfl, rfl⟩ hn hk
theorem keysM_fun (m : List (Int × Int)) : Fun Try.prog 40 [.shm 3 (m.map (rowK (Value.int .i64) (Value.int .i64)))] (Ret (.fn (.func 58) [] [.adr 0 0 0]) [(0, ⟨false, 45, 1, [[.shm 3 (m.map (rowK (Value.int .i64) (Value.int .i64)))]], true⟩)]) := by
  refine Fun.of (nt := 4) (rs := [.tmp 2]) Try.func40 rfl rfl rfl rfl rfl ?_
  refine Ev.sr fun K hK => S.nn (q.bx [_] true) (S.o q.as (S.end (hK _ ?_)))
  clear hK K
  refine Ev.sr fun K hK => S.o q.mf (S.o q.as (S.end (hK _ ?_)))
  clear hK K
  refine Ev.ret ?_
  refine Ev.ownf ?_
  refine ⟨?_, ?_⟩
  all_goals rfl

/-- The keys of a map, descending. -/
def dkeys (m : List (Int × Int)) : List Int := (m.map Prod.fst).mergeSort fun x y => decide (y ≤ x)
theorem dkeys_perm (m : List (Int × Int)) : (dkeys m).Perm (m.map Prod.fst) := List.mergeSort_perm _ _
theorem dkeys_sorted (m : List (Int × Int)) : (dkeys m).Pairwise fun x y => y ≤ x := by
  have h := List.pairwise_mergeSort (le := fun x y : Int => decide (y ≤ x)) (fun a b c h1 h2 => by rw [decide_eq_true_eq] at *; omega) (fun a b => by rw [Bool.or_eq_true, decide_eq_true_eq, decide_eq_true_eq]; omega) (m.map Prod.fst)
  exact h.imp fun h => by simpa using h
theorem dkeys_eq {m : List (Int × Int)} {l : List Int} (hp : l.Perm (m.map Prod.fst)) (hs : l.Pairwise fun x y => y ≤ x) : l = dkeys m :=
  (hp.trans (dkeys_perm m).symm).eq_of_pairwise (fun a b _ _ h1 h2 => by omega) hs (dkeys_sorted m)
theorem sortedF_fun (m : List (Int × Int)) (hn : m.length ≤ 1000000) (hk : ∀ a ∈ m.map Prod.fst, (Go.Lit.int .i64 a).wf = true) : FunR Try.prog 39 [.fn (.func 58) [] [.adr 0 0 0], .fn (.func 60) [] []] [(0, ⟨false, 45, 1, [[.shm 3 (m.map (rowK (Value.int .i64) (Value.int .i64)))]], true⟩)] 1
    (Ret (.als 1 0 (dkeys m).length) [(0, ⟨false, 45, 1, [[.shm 3 (m.map (rowK (Value.int .i64) (Value.int .i64)))]], true⟩), (1, ⟨true, 3, 1, (dkeys m).map intC, true⟩)]) := by
  refine FunR.of (nt := 12) (rs := [.tmp 4]) Try.func39 rfl rfl rfl rfl rfl ?_
  refine Ev.sr fun K hK => S.o q.as (S.end (hK _ ?_))
  clear hK K
  refine Ev.sr fun K hK => S.o q.mv (S.cRdv (ι := List Int) (Φ := fun ks => ks.Perm (m.map Prod.fst)) (vf := fun ks => .als 1 0 ks.length) (lf := fun ks => [(0, ⟨false, 45, 1, [[.shm 3 (m.map (rowK (Value.int .i64) (Value.int .i64)))]], true⟩), (1, ⟨true, 3, 1, ks.map intC, true⟩)]) [0] 2 (hob := (keep_c (he := rfl) (h := keep_n))) (hF := collectK_fun m hn hk) (hn' := fun _ => belowL rfl rfl) (h := fun ks hks => (S.o q.as (S.end (hK _ ?_)))))
  clear hK K
  refine Ev.sr fun K hK => S.o q.mv (S.o q.mv (S.cRdx (ι := List Int) (Φ := fun l' => l'.Perm ks ∧ l'.Pairwise fun x y => y ≤ x) (lf := fun l' => [(0, ⟨true, 3, 1, l'.map intC, true⟩)]) [1] 2 (hob := (keep_c (he := rfl) (h := keep_n))) (hF := sortInt_fun ks (by rw [hks.length_eq, List.length_map]; exact hn)) (hn' := fun _ => below1 (by decide)) (h := fun l' hl' => ?_)))
  obtain ⟨hl1, hl2⟩ := hl'
  have hfin : l' = dkeys m := dkeys_eq (hl1.trans hks) hl2
  rw [show ks.length = (dkeys m).length by rw [← hfin]; exact hl1.length_eq.symm, hfin]
  refine S.end (hK _ ?_)
  clear hK K
  refine Ev.sr fun K hK => S.o q.mv (S.o q.as (S.end (hK _ ?_)))
  clear hK K
  refine Ev.ret ?_
  refine Ev.rr1 [0, 1] (keepR_c (h := (keepR_c (h := keepR_n)))) (leadsB rfl) ?_
  refine ⟨?_, ?_⟩
  all_goals first | rfl | (simp; done)
end Go.Proofs.Ytaggnajjmopobaa
