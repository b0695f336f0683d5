/-
  curtail.Least, Level; ref28.Least, Level.
  Conditions: none.
-/
import Derived.Test.YtigjoaejncfmdaaB2
namespace Go.Proofs.Ytigjoaejncfmdaa
open Go Go.AM
set_option linter.unusedSimpArgs false
set_option linter.unusedVariables false
set_option maxRecDepth 100000

theorem size_bd {d : Int} (h : d ∈ sizes) : 0 ≤ d ∧ d ≤ 1000 := by
  simp only [sizes, List.mem_cons, List.not_mem_nil, or_false] at h
  omega
theorem givenZ {l : List (Int × Int)} {d a : Int} (h : givenE l d a = 0) : l.length ≤ 200 ∧ okL none l ∧ lastOK l ∧ d ∈ sizes ∧ 0 ≤ a ∧ a ≤ 1048576 ∧ 28 ≤ areaOf d ∧ areaOf d ≤ 125664 := by
  obtain ⟨h1, h2, h3⟩ := givenE_zero h
  exact ⟨h1.1, h1.2, h3, h2.1, h2.2.1, h2.2.2, area_bd h2.1⟩
def leastV (l : List (Int × Int)) (d : Int) : Int := if givenE l d 0 = 0 then leastN l d else 0
theorem Least_fun (l : List (Int × Int)) (d : Int) : Fun Try.prog 19 [.sh 2 (l.map stepC), .lit (.int .i64 d)] (Ret (.tup [.lit (.int .i64 (leastV l d)), .lit (.int .i64 (givenE l d 0))]) []) := by
  refine Fun.of (nt := 20) (rs := [.tmp 4, .tmp 5]) Try.func19 rfl rfl rfl rfl rfl ?_
  refine Ev.sr fun K hK => S.o q.as (S.o q.as (S.end (hK _ ?_)))
  clear hK K
  refine Ev.sr fun K hK => S.o q.mv (S.o q.mv (S.c0 (hF := given_fun _ _ _) (h := S.o q.mv (S.o q.ex (S.o q.ex (S.o q.as (S.o q.as (S.end (hK _ ?_)))))))))
  clear hK K
  refine Ev.seq ?_
  refine Ev.sr fun K hK => S.o q.mv (S.o q.neq (S.end (hK _ ?_)))
  clear hK K
  refine Ev.cn (fun c1 => ?_) (fun c1 => ?_)
  · first
  | (first | omega | contradiction)
  | refine Ev.sr fun K hK => S.o q.mv (S.o q.as (S.o q.as (S.end (hK _ ?_))))
    clear hK K
    refine Ev.ret ?_
    refine Ev.ret2 ?_
    refine ⟨?_, rfl⟩
    first
     | (rw [leastV, if_neg ‹_›]; done)
     | (rw [leastV, if_pos ‹_›, leastN, ‹givenE l d 0 = 0›]; done)
  · first
  | (first | omega | contradiction)
  | refine Ev.skip ?_
    show Ev _ _ _ _
    obtain ⟨hs1, hs2, hlast, hz, hz1, hz2, hb1, hb2⟩ := givenZ ‹_›
    have hga : ∀ a, givenE l d a = 0 → givenA l d a = areaOf d := fun a h => if_pos h
    rw [hga _ ‹_›]
    refine Ev.sr fun K hK => S.o q.mv (S.o q.mv (S.c0 (hF := count_fun _ _ (by omega) (by omega) (fun s hs => (okL_mem hs2 s hs).2) (by omega)) (h := S.o q.as (S.o q.as (S.end (hK _ ?_))))))
    clear hK K
    refine Ev.ret ?_
    refine Ev.ret2 ?_
    refine ⟨?_, rfl⟩
    first
     | (rw [leastV, if_neg ‹_›]; done)
     | (rw [leastV, if_pos ‹_›, leastN, ‹givenE l d 0 = 0›]; done)

def levelV (l : List (Int × Int)) (d k : Int) : List (Int × Int) := if givenE l d 0 = 0 ∧ 1 ≤ k ∧ k ≤ 1000 then levGo ((k - 1) * areaOf d) l [] else []
def levelE (l : List (Int × Int)) (d k : Int) : Int := if givenE l d 0 = 0 then (if 1 ≤ k ∧ k ≤ 1000 then 0 else 2) else givenE l d 0
theorem mul_bd {k a K A : Int} (h1 : 0 ≤ k) (h2 : k ≤ K) (h3 : 0 ≤ a) (h4 : a ≤ A) : 0 ≤ k * a ∧ k * a ≤ K * A := ⟨Int.mul_nonneg h1 h3, Int.mul_le_mul h2 h4 h3 (by omega)⟩
theorem Level_fun (l : List (Int × Int)) (d k : Int) : Fun Try.prog 20 [.sh 2 (l.map stepC), .lit (.int .i64 d), .lit (.int .i64 k)] (Ret (.tup [.sh 2 ((levelV l d k).map stepC), .lit (.int .i64 (levelE l d k))]) []) := by
  refine Fun.of (nt := 31) (rs := [.tmp 6, .tmp 7]) Try.func20 rfl rfl rfl rfl rfl ?_
  refine Ev.sr fun K hK => S.o q.as (S.o q.as (S.end (hK _ ?_)))
  clear hK K
  refine Ev.sr fun K hK => S.o q.mv (S.o q.mv (S.c0 (hF := given_fun _ _ _) (h := S.o q.mv (S.o q.ex (S.o q.ex (S.o q.as (S.o q.as (S.end (hK _ ?_)))))))))
  clear hK K
  refine Ev.seq ?_
  refine Ev.sr fun K hK => S.o q.mv (S.o q.neq (S.end (hK _ ?_)))
  clear hK K
  refine Ev.cn (fun c1 => ?_) (fun c1 => ?_)
  · first
  | (first | omega | contradiction)
  | refine Ev.sr fun K hK => S.o q.mv (S.o q.as (S.o q.as (S.end (hK _ ?_))))
    clear hK K
    refine Ev.weaken (Wk.nsh stepC 6 2) ?_
    refine Ev.ret ?_
    refine Ev.ret2 ?_
    refine ⟨?_, rfl⟩
    first
     | (rw [levelV, levelE, if_neg (fun h => absurd h.1 ‹_›), if_neg ‹_›]; done)
     | (rw [levelV, levelE, if_neg (by omega), if_pos ‹_›, if_neg (by omega)]; done)
     | (rw [levelV, levelE, if_pos ⟨‹_›, by omega, by omega⟩, if_pos ‹_›, if_pos ⟨by omega, by omega⟩]; done)
  · first
  | (first | omega | contradiction)
  | refine Ev.skip ?_
    show Ev _ _ _ _
    refine Ev.seq ?_
    refine Ev.sr fun K hK => S.o q.mv (S.o q.lss (S.bd q.mv (fun c2 => ?_) (fun c2 => ?_)))
    · first
    | (first | omega | contradiction)
    | refine S.sk (S.sk (S.o q.pt (S.end (hK _ ?_))))
      clear hK K
      refine Ev.ct ?_
      refine Ev.sr fun K hK => S.o q.as (S.o q.as (S.end (hK _ ?_)))
      clear hK K
      refine Ev.weaken (Wk.nsh stepC 6 2) ?_
      refine Ev.ret ?_
      refine Ev.ret2 ?_
      refine ⟨?_, rfl⟩
      first
       | (rw [levelV, levelE, if_neg (fun h => absurd h.1 ‹_›), if_neg ‹_›]; done)
       | (rw [levelV, levelE, if_neg (by omega), if_pos ‹_›, if_neg (by omega)]; done)
       | (rw [levelV, levelE, if_pos ⟨‹_›, by omega, by omega⟩, if_pos ‹_›, if_pos ⟨by omega, by omega⟩]; done)
    · first
    | (first | omega | contradiction)
    | refine S.o q.mv (S.o q.gtr (S.o q.pf (S.end (hK _ ?_))))
      clear hK K
      refine Ev.cd (fun c3 => ?_) (fun c3 => ?_)
      · first
      | (first | omega | contradiction)
      | refine Ev.sr fun K hK => S.o q.as (S.o q.as (S.end (hK _ ?_)))
        clear hK K
        refine Ev.weaken (Wk.nsh stepC 6 2) ?_
        refine Ev.ret ?_
        refine Ev.ret2 ?_
        refine ⟨?_, rfl⟩
        first
         | (rw [levelV, levelE, if_neg (fun h => absurd h.1 ‹_›), if_neg ‹_›]; done)
         | (rw [levelV, levelE, if_neg (by omega), if_pos ‹_›, if_neg (by omega)]; done)
         | (rw [levelV, levelE, if_pos ⟨‹_›, by omega, by omega⟩, if_pos ‹_›, if_pos ⟨by omega, by omega⟩]; done)
      · first
      | (first | omega | contradiction)
      | refine Ev.skip ?_
        show Ev _ _ _ _
        obtain ⟨hs1, hs2, hlast, hz, hz1, hz2, hb1, hb2⟩ := givenZ ‹_›
        have hga : ∀ a, givenE l d a = 0 → givenA l d a = areaOf d := fun a h => if_pos h
        rw [hga _ ‹_›]
        have hm := mul_bd (K := 1000) (A := 125664) (show 0 ≤ k - 1 by omega) (by omega) (show 0 ≤ areaOf d by omega) hb2
        obtain ⟨hm1, hm2⟩ := hm
        refine Ev.sr fun K hK => S.o q.mv (S.o q.mv (S.o q.sub (S.o q.mv (S.o (q.mul (h1 := by omega) (h2 := by omega)) (S.c1 (hF := level_fun _ _ (by omega) hlast (by assumption)) (h := S.o q.as (S.o q.as (S.end (hK _ ?_)))))))))
        clear hK K
        refine Ev.weaken (Wk.frz 6 []) ?_
        refine Ev.ret ?_
        refine Ev.ret2 ?_
        refine ⟨?_, rfl⟩
        first
         | (rw [levelV, levelE, if_neg (fun h => absurd h.1 ‹_›), if_neg ‹_›]; done)
         | (rw [levelV, levelE, if_neg (by omega), if_pos ‹_›, if_neg (by omega)]; done)
         | (rw [levelV, levelE, if_pos ⟨‹_›, by omega, by omega⟩, if_pos ‹_›, if_pos ⟨by omega, by omega⟩]; done)

end Go.Proofs.Ytigjoaejncfmdaa
