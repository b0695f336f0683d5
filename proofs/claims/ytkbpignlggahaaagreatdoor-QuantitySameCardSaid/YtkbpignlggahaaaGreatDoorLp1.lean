/-
  Turns, paths, laid bars: their values.
  Conditions: none.
-/
import Derived.Test.YtkbpignlggahaaaGreatDoorBase
import Derived.Test.YtkbpignlggahaaaGreatDoorBend
import Derived.Test.YtkbpignlggahaaaGreatDoorAmRes
import Derived.Test.YtkbpignlggahaaaGreatDoorAmSet
import Derived.Test.YtkbpignlggahaaaGreatDoorAmTree
import Derived.Test.YtkbpignlggahaaaGreatDoorAmHeld
import Derived.Test.YtkbpignlggahaaaGreatDoorAmMin3
import Derived.Test.YtkbpignlggahaaaGreatDoorStp
namespace Go.Proofs.YtkbpignlggahaaaGreatDoor
open Go Go.AM
set_option linter.unusedSimpArgs false
set_option linter.unusedVariables false
set_option maxRecDepth 100000
set_option maxHeartbeats 1000000
abbrev P3 := Int × Int × Int
structure Rn where
  mark : List UInt8
  tx : Int
  ty : Int
  ax : Int
  ay : Int
  az : Int
  sx : Int
  sy : Int
  sz : Int
  n : Int
def Rn.c : Rn → List AV
  | ⟨m, a, b, c, d, e, f, g, h, n⟩ => [.lit (str m), .lit (.int .i64 a), .lit (.int .i64 b), .lit (.int .i64 c), .lit (.int .i64 d), .lit (.int .i64 e), .lit (.int .i64 f), .lit (.int .i64 g), .lit (.int .i64 h), .lit (.int .i64 n)]
def Rn.at (r : Rn) : P3 := (r.ax, r.ay, r.az)
def Rn.st (r : Rn) : P3 := (r.sx, r.sy, r.sz)
def axOK (n : Int) : Prop := n ≠ 0 ∧ -3 ≤ n ∧ n ≤ 3
instance (n) : Decidable (axOK n) := by unfold axOK; infer_instance
def turnOK (x y : Int) : Prop := axOK x ∧ axOK y ∧ x ≠ y ∧ x ≠ -y
instance (x y) : Decidable (turnOK x y) := by unfold turnOK; infer_instance
def uV (n i : Int) : Int := if n = i then 1 else if n = -i then -1 else 0
theorem uV_in (n i : Int) : -1 ≤ uV n i ∧ uV n i ≤ 1 := by
  unfold uV
  split
  · omega
  · split <;> omega
theorem mulB {a b A B : Int} (ha : -A ≤ a ∧ a ≤ A) (hb : -B ≤ b ∧ b ≤ B) : -(A * B) ≤ a * b ∧ a * b ≤ A * B := by
  have hA : 0 ≤ A := by omega
  have hB : 0 ≤ B := by omega
  rcases Int.le_total 0 a with h | h <;> rcases Int.le_total 0 b with h' | h'
  · have h1 := Int.mul_le_mul ha.2 hb.2 h' hA; have h2 := Int.mul_nonneg h h'; have h3 := Int.mul_nonneg hA hB; omega
  · have h1 := Int.mul_le_mul ha.2 (show -b ≤ B by omega) (by omega) hA; have h2 := Int.mul_nonneg h (show 0 ≤ -b by omega); have h3 := Int.mul_nonneg hA hB; rw [Int.mul_neg] at h1 h2; omega
  · have h1 := Int.mul_le_mul (show -a ≤ A by omega) hb.2 h' hA; have h2 := Int.mul_nonneg (show 0 ≤ -a by omega) h'; have h3 := Int.mul_nonneg hA hB; rw [Int.neg_mul] at h1 h2; omega
  · have h1 := Int.mul_le_mul (show -a ≤ A by omega) (show -b ≤ B by omega) (by omega) hA; have h2 := Int.mul_nonneg (show 0 ≤ -a by omega) (show 0 ≤ -b by omega); have h3 := Int.mul_nonneg hA hB; rw [Int.neg_mul_neg] at h1 h2; omega
def crX (x y : Int) : Int := uV x 2 * uV y 3 - uV x 3 * uV y 2
def crY (x y : Int) : Int := uV x 3 * uV y 1 - uV x 1 * uV y 3
def crZ (x y : Int) : Int := uV x 1 * uV y 2 - uV x 2 * uV y 1
theorem cr_in (x y : Int) : (-2 ≤ crX x y ∧ crX x y ≤ 2) ∧ (-2 ≤ crY x y ∧ crY x y ≤ 2) ∧ -2 ≤ crZ x y ∧ crZ x y ≤ 2 := by
  have h : ∀ i j : Int, -1 ≤ uV x i * uV y j ∧ uV x i * uV y j ≤ 1 := fun i j => by
    have := mulB (uV_in x i) (uV_in y j); omega
  have h1 := h 2 3; have h2 := h 3 2; have h3 := h 3 1; have h4 := h 1 3; have h5 := h 1 2; have h6 := h 2 1
  unfold crX crY crZ
  omega
def near1 (p : P3) : Prop := (-1048576 ≤ p.1 ∧ p.1 ≤ 1048576) ∧ (-1048576 ≤ p.2.1 ∧ p.2.1 ≤ 1048576) ∧ -1048576 ≤ p.2.2 ∧ p.2.2 ≤ 1048576
instance (p) : Decidable (near1 p) := by unfold near1; infer_instance
def nearL (l : List P3) : Prop := ∀ p ∈ l, near1 p
instance (l) : Decidable (nearL l) := by unfold nearL; infer_instance
def imP (x y : Int) (p : P3) : P3 := (uV x 1 * p.1 + uV y 1 * p.2.1 + crX x y * p.2.2, uV x 2 * p.1 + uV y 2 * p.2.1 + crY x y * p.2.2, uV x 3 * p.1 + uV y 3 * p.2.1 + crZ x y * p.2.2)
theorem im_bd {x y : Int} {p : P3} (h : near1 p) (i : Int) : (-1048576 ≤ uV x i * p.1 ∧ uV x i * p.1 ≤ 1048576) ∧ (-1048576 ≤ uV y i * p.2.1 ∧ uV y i * p.2.1 ≤ 1048576) := by
  have h1 := mulB (uV_in x i) h.1; have h2 := mulB (uV_in y i) h.2.1; omega
theorem im_bd3 {x y : Int} {p : P3} (h : near1 p) : (-2097152 ≤ crX x y * p.2.2 ∧ crX x y * p.2.2 ≤ 2097152) ∧ (-2097152 ≤ crY x y * p.2.2 ∧ crY x y * p.2.2 ≤ 2097152) ∧ -2097152 ≤ crZ x y * p.2.2 ∧ crZ x y * p.2.2 ≤ 2097152 := by
  obtain ⟨g1, g2, g3⟩ := cr_in x y; have h1 := mulB g1 h.2.2; have h2 := mulB g2 h.2.2; have h3 := mulB g3 h.2.2; omega
def addP (p q : P3) : P3 := (p.1 + q.1, p.2.1 + q.2.1, p.2.2 + q.2.2)
def frE (x y : Int) (at_ : P3) (l : List P3) : Int := if turnOK x y then (if l.length ≤ 1000 then (if near1 at_ ∧ nearL l then 0 else 2) else 4) else 1
def frV (x y : Int) (at_ : P3) (l : List P3) : List P3 := if frE x y at_ l = 0 then l.map (fun p => addP at_ (imP x y p)) else []
theorem frE1 {x y : Int} {at_ : P3} {l : List P3} (h : ¬ turnOK x y) : frE x y at_ l = 1 ∧ frV x y at_ l = [] := by
  have e : frE x y at_ l = 1 := if_neg h; exact ⟨e, if_neg (by omega)⟩
theorem frE4 {x y : Int} {at_ : P3} {l : List P3} (h : turnOK x y) (h2 : ¬ l.length ≤ 1000) : frE x y at_ l = 4 ∧ frV x y at_ l = [] := by
  have e : frE x y at_ l = 4 := (if_pos h).trans (if_neg h2); exact ⟨e, if_neg (by omega)⟩
theorem frE2 {x y : Int} {at_ : P3} {l : List P3} (h : turnOK x y) (h2 : l.length ≤ 1000) (h3 : ¬ (near1 at_ ∧ nearL l)) : frE x y at_ l = 2 ∧ frV x y at_ l = [] := by
  have e : frE x y at_ l = 2 := ((if_pos h).trans (if_pos h2)).trans (if_neg h3); exact ⟨e, if_neg (by omega)⟩
theorem frE0 {x y : Int} {at_ : P3} {l : List P3} (h : turnOK x y) (h2 : l.length ≤ 1000) (h3 : near1 at_ ∧ nearL l) : frE x y at_ l = 0 ∧ frV x y at_ l = l.map (fun p => addP at_ (imP x y p)) := by
  have e : frE x y at_ l = 0 := ((if_pos h).trans (if_pos h2)).trans (if_pos h3); exact ⟨e, if_pos e⟩
def movP (b : Bar) (p : P3) (s : Int × Int) : P3 :=
  if s.2 = 120 then (p.1 + dimAt b s.1.toNat, p.2) else if s.2 = 88 then (p.1 - dimAt b s.1.toNat, p.2) else if s.2 = 121 then (p.1, p.2.1 + dimAt b s.1.toNat, p.2.2)
  else if s.2 = 89 then (p.1, p.2.1 - dimAt b s.1.toNat, p.2.2) else if s.2 = 122 then (p.1, p.2.1, p.2.2 + dimAt b s.1.toNat) else p
def endG (b : Bar) (l : List (Int × Int)) : P3 := l.foldl (movP b) (0, 0, 0)
def pathG (b : Bar) : List (Int × Int) → P3 → List P3
  | [], p => [p]
  | s :: l, p => p :: pathG b l (movP b p s)
theorem endG_snoc (b : Bar) (l : List (Int × Int)) (s : Int × Int) : endG b (l ++ [s]) = movP b (endG b l) s := by simp [endG]
theorem pathG_snoc (b : Bar) (s : Int × Int) : ∀ (l : List (Int × Int)) (p : P3), pathG b (l ++ [s]) p = pathG b l p ++ [movP b (l.foldl (movP b) p) s]
  | [], p => rfl
  | t :: l, p => by rw [List.cons_append, pathG, pathG_snoc b s l, pathG]; rfl
theorem pathG_len (b : Bar) : ∀ (l : List (Int × Int)) (p : P3), (pathG b l p).length = l.length + 1
  | [], _ => rfl
  | t :: l, p => by rw [pathG, List.length_cons, pathG_len b l, List.length_cons]
def pathOf (b : Bar) : List P3 := pathG b (legsL b.code) (0, 0, 0)
def shpV (b : Bar) : List P3 := if okBar b then pathOf b else []
theorem legsL_len (k : Int) : (legsL k).length ≤ 6 := by
  unfold legsL
  repeat' split
  all_goals decide
theorem shpV_len (b : Bar) : (shpV b).length ≤ 7 := by
  unfold shpV
  split
  · have := legsL_len b.code; rw [pathOf, pathG_len]; omega
  · simp
def isPl (p : P3) (m : Int) : Prop := (-m ≤ p.1 ∧ p.1 ≤ m) ∧ (-m ≤ p.2.1 ∧ p.2.1 ≤ m) ∧ -m ≤ p.2.2 ∧ p.2.2 ≤ m
instance (p m) : Decidable (isPl p m) := by unfold isPl; infer_instance
def plusP (p s : P3) (k : Int) : P3 := (p.1 + k * s.1, p.2.1 + k * s.2.1, p.2.2 + k * s.2.2)
def lineOf (bars : List Bar) (mk : List UInt8) : Bar := (bars[(markI bars mk).toNat]?).getD ⟨[], 0, 0, 0, []⟩
def turnedV (bars : List Bar) (r : Rn) : List P3 := frV r.tx r.ty (0, 0, 0) (shpV (lineOf bars r.mark))
def ptP (r : Rn) (k : Int) (p : P3) : P3 := if k > 0 then plusP (plusP p r.at 1) r.st k else plusP p r.at 1
def rightP (bars : List Bar) (r : Rn) : Prop :=
  0 ≤ markI bars r.mark ∧ turnOK r.tx r.ty ∧ (1 ≤ r.n ∧ r.n ≤ 1000) ∧ isPl r.at 1048576 ∧ (r.n > 1 → ¬ (r.sx = 0 ∧ r.sy = 0 ∧ r.sz = 0) ∧ isPl r.st 2097152) ∧
    (∀ p ∈ turnedV bars r, isPl (ptP r 0 p) 1048576) ∧ ∀ p ∈ turnedV bars r, isPl (ptP r (r.n - 1) p) 1048576
instance (bars r) : Decidable (rightP bars r) := by unfold rightP; infer_instance
def cntS (runs : List Rn) : Int := (runs.map (·.n)).sum
def runW (l : List Rn) : Prop := ∀ r ∈ l, r.mark.length ≤ 140737488355328
def laidOK (bars : List Bar) (runs : List Rn) : Prop := okSched bars ∧ runs.length ≤ 60 ∧ (∀ r ∈ runs, rightP bars r) ∧ cntS runs ≤ 2000
instance (bars runs) : Decidable (laidOK bars runs) := by unfold laidOK; infer_instance
end Go.Proofs.YtkbpignlggahaaaGreatDoor
namespace Go.Proofs.YtkbpignlggahaaaGreatDoor
open Go Go.AM
set_option linter.unusedSimpArgs false
set_option linter.unusedVariables false
set_option maxRecDepth 100000
set_option maxHeartbeats 1000000
theorem dN {p r : Prop} [Decidable p] [Decidable r] (h : ¬ p ↔ r) : AV.lit (.bool (!decide p)) = .lit (.bool (decide r)) := by
  by_cases hp : p
  · rw [decide_eq_true hp, decide_eq_false (fun h2 => h.2 h2 hp)]; rfl
  · rw [decide_eq_false hp, decide_eq_true (h.1 hp)]; rfl
theorem axis_fun (n : Int) : Fun Tryz.prog 153 [.lit (.int .i64 n)] (Ret (.lit (.bool (decide (axOK n)))) []) := by
  refine Fun.of (nt := 13) (rs := [.tmp 2]) Tryz.func153 rfl rfl rfl rfl rfl ?_; refine Ev.sr fun K hK => S.o q.as (S.end (hK _ ?_)); clear hK K; refine Ev.sr fun K hK => S.o q.mv (S.o q.neq (S.bn q.mv (fun c1 => ?_) (fun c1 => ?_)))
  · first
  | omega | contradiction
  | refine S.o q.mv (S.o q.geq (S.o q.pt (S.bd q.mv (fun c2 => ?_) (fun c2 => ?_))))
    · first
    | omega | contradiction
    | refine S.o q.mv (S.o q.leq (S.o q.pt (S.o q.as (S.end (hK _ ?_))))); clear hK K; refine Ev.ret ?_; refine Ev.ret1 ?_; refine ⟨?_, rfl⟩
      first | exact bF (fun h => by unfold axOK at h; omega) | exact dI ⟨fun h => ⟨by omega, by omega, by omega⟩, fun h => by unfold axOK at h; omega⟩
    · first
    | omega | contradiction
    | refine S.sk (S.sk (S.o q.pf (S.o q.as (S.end (hK _ ?_))))); clear hK K; refine Ev.ret ?_; refine Ev.ret1 ?_; refine ⟨?_, rfl⟩
      first | exact bF (fun h => by unfold axOK at h; omega) | exact dI ⟨fun h => ⟨by omega, by omega, by omega⟩, fun h => by unfold axOK at h; omega⟩
  · first
  | omega | contradiction
  | refine S.sk (S.sk (S.o q.pf (S.o q.mv (S.sk (S.sk (S.o q.pf (S.o q.as (S.end (hK _ ?_))))))))); clear hK K; refine Ev.ret ?_; refine Ev.ret1 ?_; refine ⟨?_, rfl⟩
    first | exact bF (fun h => by unfold axOK at h; omega) | exact dI ⟨fun h => ⟨by omega, by omega, by omega⟩, fun h => by unfold axOK at h; omega⟩
theorem turnValid_fun (x y : Int) : Fun Tryz.prog 96 [.agg [.lit (.int .i64 x), .lit (.int .i64 y)]] (Ret (.lit (.bool (decide (turnOK x y)))) []) := by
  refine Fun.of (nt := 26) (rs := [.tmp 2]) Tryz.func96 rfl rfl rfl rfl rfl ?_; refine Ev.sr fun K hK => S.nn (q.bx [_, _] true) (S.o q.as (S.end (hK _ ?_))); clear hK K; refine Ev.sr fun K hK => S.o (q.fa 0 am_fi78_0 am_cl3) (S.o (q.lv am_ag3) (S.c0 (hF := axis_fun x) (h := S.bd q.mv (fun c1 => ?_) (fun c1 => ?_))))
  · first
  | omega | contradiction
  | refine S.o (q.fa 1 am_fi78_1 am_cl3) (S.o (q.lv am_ag3) (S.c0 (hF := axis_fun y) (h := S.o q.pt (S.bd q.mv (fun c2 => ?_) (fun c2 => ?_)))))
    · first
    | omega | contradiction
    | refine S.o (q.fa 0 am_fi78_0 am_cl3) (S.o (q.lv am_ag3) (S.o (q.fa 1 am_fi78_1 am_cl3) (S.o (q.lv am_ag3) (S.o q.neq (S.o q.pt (S.bn q.mv (fun c3 => ?_) (fun c3 => ?_)))))))
      · first
      | omega | contradiction
      | refine S.o (q.fa 0 am_fi78_0 am_cl3) (S.o (q.lv am_ag3) (S.o (q.fa 1 am_fi78_1 am_cl3) (S.o (q.lv am_ag3) ?_))); have hy3 := ‹axOK y›
        unfold axOK at hy3
        refine S.o q.neg (S.o q.neq (S.o q.pt (S.o q.as (S.end (hK _ ?_))))); clear hK K; refine Ev.ret ?_; refine Ev.ret1 ?_; refine ⟨?_, rfl⟩
        first
         | exact bF (fun h => absurd h.1 ‹_›)
         | exact bF (fun h => absurd h.2.1 ‹_›)
         | exact bF (fun h => absurd ‹x = y› h.2.2.1)
         | exact bF (fun h => absurd h.2.2.1 (by simp_all))
         | exact dN ⟨fun h => ⟨‹_›, ‹_›, ‹_›, fun e => h (by omega)⟩, fun h e => h.2.2.2 (by omega)⟩
      · first
      | omega | contradiction
      | refine S.sk (S.sk (S.sk (S.sk (S.sk (S.sk (S.o q.pf (S.o q.as (S.end (hK _ ?_))))))))); clear hK K; refine Ev.ret ?_; refine Ev.ret1 ?_; refine ⟨?_, rfl⟩
        first
         | exact bF (fun h => absurd h.1 ‹_›)
         | exact bF (fun h => absurd h.2.1 ‹_›)
         | exact bF (fun h => absurd ‹x = y› h.2.2.1)
         | exact bF (fun h => absurd h.2.2.1 (by simp_all))
         | exact dN ⟨fun h => ⟨‹_›, ‹_›, ‹_›, fun e => h (by omega)⟩, fun h e => h.2.2.2 (by omega)⟩
    · first
    | omega | contradiction
    | refine S.sk (S.sk (S.sk (S.sk (S.sk (S.o q.pf (S.o q.mv (S.sk (S.sk (S.sk (S.sk (S.sk (S.sk (S.o q.pf (S.o q.as (S.end (hK _ ?_)))))))))))))))); clear hK K; refine Ev.ret ?_; refine Ev.ret1 ?_; refine ⟨?_, rfl⟩
      first
       | exact bF (fun h => absurd h.1 ‹_›)
       | exact bF (fun h => absurd h.2.1 ‹_›)
       | exact bF (fun h => absurd ‹x = y› h.2.2.1)
       | exact bF (fun h => absurd h.2.2.1 (by simp_all))
       | exact dN ⟨fun h => ⟨‹_›, ‹_›, ‹_›, fun e => h (by omega)⟩, fun h e => h.2.2.2 (by omega)⟩
  · first
  | omega | contradiction
  | refine S.sk (S.sk (S.sk (S.o q.pf (S.o q.mv (S.sk (S.sk (S.sk (S.sk (S.sk (S.o q.pf (S.o q.mv (S.sk (S.sk (S.sk (S.sk (S.sk (S.sk (S.o q.pf (S.o q.as (S.end (hK _ ?_))))))))))))))))))))); clear hK K; refine Ev.ret ?_; refine Ev.ret1 ?_; refine ⟨?_, rfl⟩
    first
     | exact bF (fun h => absurd h.1 ‹_›)
     | exact bF (fun h => absurd h.2.1 ‹_›)
     | exact bF (fun h => absurd ‹x = y› h.2.2.1)
     | exact bF (fun h => absurd h.2.2.1 (by simp_all))
     | exact dN ⟨fun h => ⟨‹_›, ‹_›, ‹_›, fun e => h (by omega)⟩, fun h e => h.2.2.2 (by omega)⟩
theorem unit_p1 : Fun Tryz.prog 240 [.lit (.int .i64 (1))] (Ret (.agg [.lit (.int .i64 (1)), .lit (.int .i64 (0)), .lit (.int .i64 (0))]) []) := by
  refine Fun.of (nt := 14) (rs := [.cell 2 237]) Tryz.func240 rfl rfl rfl rfl rfl ?_; refine Ev.sr fun K hK => S.nn (q.al am_ze237) (S.end (hK _ ?_)); clear hK K; refine Ev.sr fun K hK => S.nn (q.al am_ze237) (S.end (hK _ ?_)); clear hK K; refine Ev.seq ?_; refine Ev.sr fun K hK => S.o q.mv (S.o q.gtr (S.end (hK _ ?_))); clear hK K; refine Ev.cd (fun c1 => ?_) (fun c1 => ?_)
  · first
  | omega | contradiction
  | refine Ev.region_S fun K hK => S.o q.mv (S.o q.sub (S.o (q.iaa am_el237 am_ar237 am_cl3) (S.sv [_, _, _] true [_] am_in3 am_cl3 (h := S.end (hK _ ?_))))); clear hK K; show Ev _ _ _ _; refine Ev.sr fun K hK => S.o (q.lvA [_, _, _] am_ag237 am_cl237) (S.sv [_, _, _] true [_] am_in237 am_cl237 (h := S.end (hK _ ?_))); clear hK K; refine Ev.ret ?_; refine Ev.retv1 (res_c [_, _, _] am_ag237 am_cl237 res_n) ?_; refine ⟨?_, rfl⟩; rfl
  · first
  | omega | contradiction
  | refine Ev.region_S fun K hK => S.o q.mv (S.o q.neg (S.o q.sub (S.o (q.iaa am_el237 am_ar237 am_cl3) (S.sv [_, _, _] true [_] am_in3 am_cl3 (h := S.end (hK _ ?_)))))); clear hK K; show Ev _ _ _ _; refine Ev.sr fun K hK => S.o (q.lvA [_, _, _] am_ag237 am_cl237) (S.sv [_, _, _] true [_] am_in237 am_cl237 (h := S.end (hK _ ?_))); clear hK K; refine Ev.ret ?_; refine Ev.retv1 (res_c [_, _, _] am_ag237 am_cl237 res_n) ?_; refine ⟨?_, rfl⟩; rfl
theorem unit_p2 : Fun Tryz.prog 240 [.lit (.int .i64 (2))] (Ret (.agg [.lit (.int .i64 (0)), .lit (.int .i64 (1)), .lit (.int .i64 (0))]) []) := by
  refine Fun.of (nt := 14) (rs := [.cell 2 237]) Tryz.func240 rfl rfl rfl rfl rfl ?_; refine Ev.sr fun K hK => S.nn (q.al am_ze237) (S.end (hK _ ?_)); clear hK K; refine Ev.sr fun K hK => S.nn (q.al am_ze237) (S.end (hK _ ?_)); clear hK K; refine Ev.seq ?_; refine Ev.sr fun K hK => S.o q.mv (S.o q.gtr (S.end (hK _ ?_))); clear hK K; refine Ev.cd (fun c1 => ?_) (fun c1 => ?_)
  · first
  | omega | contradiction
  | refine Ev.region_S fun K hK => S.o q.mv (S.o q.sub (S.o (q.iaa am_el237 am_ar237 am_cl3) (S.sv [_, _, _] true [_] am_in3 am_cl3 (h := S.end (hK _ ?_))))); clear hK K; show Ev _ _ _ _; refine Ev.sr fun K hK => S.o (q.lvA [_, _, _] am_ag237 am_cl237) (S.sv [_, _, _] true [_] am_in237 am_cl237 (h := S.end (hK _ ?_))); clear hK K; refine Ev.ret ?_; refine Ev.retv1 (res_c [_, _, _] am_ag237 am_cl237 res_n) ?_; refine ⟨?_, rfl⟩; rfl
  · first
  | omega | contradiction
  | refine Ev.region_S fun K hK => S.o q.mv (S.o q.neg (S.o q.sub (S.o (q.iaa am_el237 am_ar237 am_cl3) (S.sv [_, _, _] true [_] am_in3 am_cl3 (h := S.end (hK _ ?_)))))); clear hK K; show Ev _ _ _ _; refine Ev.sr fun K hK => S.o (q.lvA [_, _, _] am_ag237 am_cl237) (S.sv [_, _, _] true [_] am_in237 am_cl237 (h := S.end (hK _ ?_))); clear hK K; refine Ev.ret ?_; refine Ev.retv1 (res_c [_, _, _] am_ag237 am_cl237 res_n) ?_; refine ⟨?_, rfl⟩; rfl
theorem unit_p3 : Fun Tryz.prog 240 [.lit (.int .i64 (3))] (Ret (.agg [.lit (.int .i64 (0)), .lit (.int .i64 (0)), .lit (.int .i64 (1))]) []) := by
  refine Fun.of (nt := 14) (rs := [.cell 2 237]) Tryz.func240 rfl rfl rfl rfl rfl ?_; refine Ev.sr fun K hK => S.nn (q.al am_ze237) (S.end (hK _ ?_)); clear hK K; refine Ev.sr fun K hK => S.nn (q.al am_ze237) (S.end (hK _ ?_)); clear hK K; refine Ev.seq ?_; refine Ev.sr fun K hK => S.o q.mv (S.o q.gtr (S.end (hK _ ?_))); clear hK K; refine Ev.cd (fun c1 => ?_) (fun c1 => ?_)
  · first
  | omega | contradiction
  | refine Ev.region_S fun K hK => S.o q.mv (S.o q.sub (S.o (q.iaa am_el237 am_ar237 am_cl3) (S.sv [_, _, _] true [_] am_in3 am_cl3 (h := S.end (hK _ ?_))))); clear hK K; show Ev _ _ _ _; refine Ev.sr fun K hK => S.o (q.lvA [_, _, _] am_ag237 am_cl237) (S.sv [_, _, _] true [_] am_in237 am_cl237 (h := S.end (hK _ ?_))); clear hK K; refine Ev.ret ?_; refine Ev.retv1 (res_c [_, _, _] am_ag237 am_cl237 res_n) ?_; refine ⟨?_, rfl⟩; rfl
  · first
  | omega | contradiction
  | refine Ev.region_S fun K hK => S.o q.mv (S.o q.neg (S.o q.sub (S.o (q.iaa am_el237 am_ar237 am_cl3) (S.sv [_, _, _] true [_] am_in3 am_cl3 (h := S.end (hK _ ?_)))))); clear hK K; show Ev _ _ _ _; refine Ev.sr fun K hK => S.o (q.lvA [_, _, _] am_ag237 am_cl237) (S.sv [_, _, _] true [_] am_in237 am_cl237 (h := S.end (hK _ ?_))); clear hK K; refine Ev.ret ?_; refine Ev.retv1 (res_c [_, _, _] am_ag237 am_cl237 res_n) ?_; refine ⟨?_, rfl⟩; rfl
theorem unit_n1 : Fun Tryz.prog 240 [.lit (.int .i64 (-1))] (Ret (.agg [.lit (.int .i64 (-1)), .lit (.int .i64 (0)), .lit (.int .i64 (0))]) []) := by
  refine Fun.of (nt := 14) (rs := [.cell 2 237]) Tryz.func240 rfl rfl rfl rfl rfl ?_; refine Ev.sr fun K hK => S.nn (q.al am_ze237) (S.end (hK _ ?_)); clear hK K; refine Ev.sr fun K hK => S.nn (q.al am_ze237) (S.end (hK _ ?_)); clear hK K; refine Ev.seq ?_; refine Ev.sr fun K hK => S.o q.mv (S.o q.gtr (S.end (hK _ ?_))); clear hK K; refine Ev.cd (fun c1 => ?_) (fun c1 => ?_)
  · first
  | omega | contradiction
  | refine Ev.region_S fun K hK => S.o q.mv (S.o q.sub (S.o (q.iaa am_el237 am_ar237 am_cl3) (S.sv [_, _, _] true [_] am_in3 am_cl3 (h := S.end (hK _ ?_))))); clear hK K; show Ev _ _ _ _; refine Ev.sr fun K hK => S.o (q.lvA [_, _, _] am_ag237 am_cl237) (S.sv [_, _, _] true [_] am_in237 am_cl237 (h := S.end (hK _ ?_))); clear hK K; refine Ev.ret ?_; refine Ev.retv1 (res_c [_, _, _] am_ag237 am_cl237 res_n) ?_; refine ⟨?_, rfl⟩; rfl
  · first
  | omega | contradiction
  | refine Ev.region_S fun K hK => S.o q.mv (S.o q.neg (S.o q.sub (S.o (q.iaa am_el237 am_ar237 am_cl3) (S.sv [_, _, _] true [_] am_in3 am_cl3 (h := S.end (hK _ ?_)))))); clear hK K; show Ev _ _ _ _; refine Ev.sr fun K hK => S.o (q.lvA [_, _, _] am_ag237 am_cl237) (S.sv [_, _, _] true [_] am_in237 am_cl237 (h := S.end (hK _ ?_))); clear hK K; refine Ev.ret ?_; refine Ev.retv1 (res_c [_, _, _] am_ag237 am_cl237 res_n) ?_; refine ⟨?_, rfl⟩; rfl
theorem unit_n2 : Fun Tryz.prog 240 [.lit (.int .i64 (-2))] (Ret (.agg [.lit (.int .i64 (0)), .lit (.int .i64 (-1)), .lit (.int .i64 (0))]) []) := by
  refine Fun.of (nt := 14) (rs := [.cell 2 237]) Tryz.func240 rfl rfl rfl rfl rfl ?_; refine Ev.sr fun K hK => S.nn (q.al am_ze237) (S.end (hK _ ?_)); clear hK K; refine Ev.sr fun K hK => S.nn (q.al am_ze237) (S.end (hK _ ?_)); clear hK K; refine Ev.seq ?_; refine Ev.sr fun K hK => S.o q.mv (S.o q.gtr (S.end (hK _ ?_))); clear hK K; refine Ev.cd (fun c1 => ?_) (fun c1 => ?_)
  · first
  | omega | contradiction
  | refine Ev.region_S fun K hK => S.o q.mv (S.o q.sub (S.o (q.iaa am_el237 am_ar237 am_cl3) (S.sv [_, _, _] true [_] am_in3 am_cl3 (h := S.end (hK _ ?_))))); clear hK K; show Ev _ _ _ _; refine Ev.sr fun K hK => S.o (q.lvA [_, _, _] am_ag237 am_cl237) (S.sv [_, _, _] true [_] am_in237 am_cl237 (h := S.end (hK _ ?_))); clear hK K; refine Ev.ret ?_; refine Ev.retv1 (res_c [_, _, _] am_ag237 am_cl237 res_n) ?_; refine ⟨?_, rfl⟩; rfl
  · first
  | omega | contradiction
  | refine Ev.region_S fun K hK => S.o q.mv (S.o q.neg (S.o q.sub (S.o (q.iaa am_el237 am_ar237 am_cl3) (S.sv [_, _, _] true [_] am_in3 am_cl3 (h := S.end (hK _ ?_)))))); clear hK K; show Ev _ _ _ _; refine Ev.sr fun K hK => S.o (q.lvA [_, _, _] am_ag237 am_cl237) (S.sv [_, _, _] true [_] am_in237 am_cl237 (h := S.end (hK _ ?_))); clear hK K; refine Ev.ret ?_; refine Ev.retv1 (res_c [_, _, _] am_ag237 am_cl237 res_n) ?_; refine ⟨?_, rfl⟩; rfl
theorem unit_n3 : Fun Tryz.prog 240 [.lit (.int .i64 (-3))] (Ret (.agg [.lit (.int .i64 (0)), .lit (.int .i64 (0)), .lit (.int .i64 (-1))]) []) := by
  refine Fun.of (nt := 14) (rs := [.cell 2 237]) Tryz.func240 rfl rfl rfl rfl rfl ?_; refine Ev.sr fun K hK => S.nn (q.al am_ze237) (S.end (hK _ ?_)); clear hK K; refine Ev.sr fun K hK => S.nn (q.al am_ze237) (S.end (hK _ ?_)); clear hK K; refine Ev.seq ?_; refine Ev.sr fun K hK => S.o q.mv (S.o q.gtr (S.end (hK _ ?_))); clear hK K; refine Ev.cd (fun c1 => ?_) (fun c1 => ?_)
  · first
  | omega | contradiction
  | refine Ev.region_S fun K hK => S.o q.mv (S.o q.sub (S.o (q.iaa am_el237 am_ar237 am_cl3) (S.sv [_, _, _] true [_] am_in3 am_cl3 (h := S.end (hK _ ?_))))); clear hK K; show Ev _ _ _ _; refine Ev.sr fun K hK => S.o (q.lvA [_, _, _] am_ag237 am_cl237) (S.sv [_, _, _] true [_] am_in237 am_cl237 (h := S.end (hK _ ?_))); clear hK K; refine Ev.ret ?_; refine Ev.retv1 (res_c [_, _, _] am_ag237 am_cl237 res_n) ?_; refine ⟨?_, rfl⟩; rfl
  · first
  | omega | contradiction
  | refine Ev.region_S fun K hK => S.o q.mv (S.o q.neg (S.o q.sub (S.o (q.iaa am_el237 am_ar237 am_cl3) (S.sv [_, _, _] true [_] am_in3 am_cl3 (h := S.end (hK _ ?_)))))); clear hK K; show Ev _ _ _ _; refine Ev.sr fun K hK => S.o (q.lvA [_, _, _] am_ag237 am_cl237) (S.sv [_, _, _] true [_] am_in237 am_cl237 (h := S.end (hK _ ?_))); clear hK K; refine Ev.ret ?_; refine Ev.retv1 (res_c [_, _, _] am_ag237 am_cl237 res_n) ?_; refine ⟨?_, rfl⟩; rfl
theorem unit_fun (n : Int) (h : axOK n) : Fun Tryz.prog 240 [.lit (.int .i64 n)] (Ret (.agg [.lit (.int .i64 (uV n 1)), .lit (.int .i64 (uV n 2)), .lit (.int .i64 (uV n 3))]) []) := by
  have hn : n = 1 ∨ n = 2 ∨ n = 3 ∨ n = -1 ∨ n = -2 ∨ n = -3 := by unfold axOK at h; omega
  rcases hn with rfl | rfl | rfl | rfl | rfl | rfl
  · exact unit_p1
  · exact unit_p2
  · exact unit_p3
  · exact unit_n1
  · exact unit_n2
  · exact unit_n3
theorem cross_fun (x y : Int) : Fun Tryz.prog 241 [.agg [.lit (.int .i64 (uV x 1)), .lit (.int .i64 (uV x 2)), .lit (.int .i64 (uV x 3))], .agg [.lit (.int .i64 (uV y 1)), .lit (.int .i64 (uV y 2)), .lit (.int .i64 (uV y 3))]] (Ret (.agg [.lit (.int .i64 (crX x y)), .lit (.int .i64 (crY x y)), .lit (.int .i64 (crZ x y))]) []) := by
  have hb : ∀ i j : Int, -1 ≤ uV x i * uV y j ∧ uV x i * uV y j ≤ 1 := fun i j => by
    have := mulB (uV_in x i) (uV_in y j); omega
  have b1 := hb 2 3; have b2 := hb 3 2; have b3 := hb 3 1; have b4 := hb 1 3; have b5 := hb 1 2; have b6 := hb 2 1; refine Fun.of (nt := 39) (rs := [.cell 4 237]) Tryz.func241 rfl rfl rfl rfl rfl ?_; refine Ev.sr fun K hK => S.nn (q.bx [_, _, _] true) (S.nn (q.bx [_, _, _] true) (S.nn (q.al am_ze237) (S.end (hK _ ?_)))); clear hK K; refine Ev.sr fun K hK => S.o (q.iaa am_el237 am_ar237 am_cl3) (S.o (q.lv am_ag3) (S.o (q.iaa am_el237 am_ar237 am_cl3) (S.o (q.lv am_ag3) (S.o q.mul (S.o (q.iaa am_el237 am_ar237 am_cl3) (S.o (q.lv am_ag3) (S.o (q.iaa am_el237 am_ar237 am_cl3) (S.o (q.lv am_ag3) (S.o q.mul (S.o q.sub (S.o (q.iaa am_el237 am_ar237 am_cl3) (S.o (q.lv am_ag3) (S.o (q.iaa am_el237 am_ar237 am_cl3) (S.o (q.lv am_ag3) (S.o q.mul (S.o (q.iaa am_el237 am_ar237 am_cl3) (S.o (q.lv am_ag3) (S.o (q.iaa am_el237 am_ar237 am_cl3) (S.o (q.lv am_ag3) (S.o q.mul (S.o q.sub (S.o (q.iaa am_el237 am_ar237 am_cl3) (S.o (q.lv am_ag3) (S.o (q.iaa am_el237 am_ar237 am_cl3) (S.o (q.lv am_ag3) (S.o q.mul (S.o (q.iaa am_el237 am_ar237 am_cl3) (S.o (q.lv am_ag3) (S.o (q.iaa am_el237 am_ar237 am_cl3) (S.o (q.lv am_ag3) (S.o q.mul (S.o q.sub (S.o (q.bda [_, _, _] am_ze237 am_pn237 am_ar237 am_cl3) (S.sv [_, _, _] true [_, _] am_in237 am_cl237 (h := S.end (hK _ ?_)))))))))))))))))))))))))))))))))))); clear hK K; refine Ev.ret ?_; refine Ev.retv1 (res_c [_, _, _] am_ag237 am_cl237 res_n) ?_
  refine ⟨?_, rfl⟩; rfl
theorem columns_fun (x y : Int) (h : turnOK x y) : Fun Tryz.prog 233 [.agg [.lit (.int .i64 x), .lit (.int .i64 y)]] (Ret (.agg [.lit (.int .i64 (uV x 1)), .lit (.int .i64 (uV x 2)), .lit (.int .i64 (uV x 3)), .lit (.int .i64 (uV y 1)), .lit (.int .i64 (uV y 2)), .lit (.int .i64 (uV y 3)), .lit (.int .i64 (crX x y)), .lit (.int .i64 (crY x y)), .lit (.int .i64 (crZ x y))]) []) := by
  refine Fun.of (nt := 17) (rs := [.cell 2 249]) Tryz.func233 rfl rfl rfl rfl rfl ?_; refine Ev.sr fun K hK => S.nn (q.bx [_, _] true) (S.nn (q.al am_ze249) (S.end (hK _ ?_))); clear hK K; refine Ev.weaken (Wk.frzv 1 [_]) ?_; refine Ev.stp (m := 10) (L0 := #[false, false, false, false, false, false, false, false, false, false]) rfl (by kernel_rfl) (by exact rfl) fun K hK => ?_; refine HP.fa (i := 0) am_fi78_0 (by rw [am_cl3]; decide) rfl (h := ?_); refine HP.ls1 (i := 1) am_ag3 rfl (h := ?_); refine HP.fa (i := 3) am_fi78_1 (by rw [am_cl3]; decide) rfl (h := ?_); refine HP.ls1 (i := 4) am_ag3 rfl (h := ?_); refine .done ?_; refine HT.three (i := 2) (j := 6) (k := 7) trivial rfl rfl rfl (S.c0 (hF := unit_fun x h.1) (h := S.end ?_)) (S.nn (q.al am_ze237) (S.end ?_)) (S.nn (q.al am_ze237) (S.end ?_))
  · skip; refine HT.three (i := 5) (j := 6) (k := 7) trivial rfl rfl rfl (S.c0 (hF := unit_fun y h.2.1) (h := S.end ?_)) (S.nn (q.al am_ze237) (S.end ?_)) (S.nn (q.al am_ze237) (S.end ?_))
    · skip; refine HT.two (i := 6) (j := 7) trivial rfl rfl (S.nn (q.al am_ze237) (S.end ?_)) (S.nn (q.al am_ze237) (S.end ?_))
      · skip; refine HT.one (i := 7) trivial rfl (S.nn (q.al am_ze237) (S.end ?_)); refine HT.one (i := 8) trivial rfl (S.sv [_, _, _] true [_, _] am_in237 am_cl237 (h := S.end ?_)); refine HT.one (i := 9) trivial rfl (S.sv [_, _, _] true [_, _] am_in237 am_cl237 (h := S.end ?_)); refine HT.nil trivial (by kernel_rfl) (hK _ ?_); clear hK K; refine Ev.sm (tbs [(0, 0), (0, 0), (0, 0), (0, 0), (4, 12), (5, 31), (6, 63)]) 6 fun K hK => M.o (q.lvA [_, _, _] am_ag237 am_cl237) (M.o (q.lvA [_, _, _] am_ag237 am_cl237) (M.o (q.lvA [_, _, _] am_ag237 am_cl237) (M.o (q.lvA [_, _, _] am_ag237 am_cl237) (M.c0 (hF := cross_fun x y) (h := M.o (q.bda [_, _, _, _, _, _, _, _, _] am_ze249 am_pn249 am_ar249 am_cl237) (M.end [_, _, _] (h := S.sv [_, _, _, _, _, _, _, _, _] true [_, _] am_in249 am_cl249 (h := S.end (hK _ ?_))))))))); clear hK K; refine Ev.ret ?_; refine Ev.retv1 (res_c [_, _, _, _, _, _, _, _, _] am_ag249 am_cl249 res_n) ?_; refine ⟨?_, rfl⟩; rfl
      · skip; refine HT.one (i := 6) trivial rfl (S.nn (q.al am_ze237) (S.end ?_)); refine HT.one (i := 8) trivial rfl (S.sv [_, _, _] true [_, _] am_in237 am_cl237 (h := S.end ?_)); refine HT.one (i := 9) trivial rfl (S.sv [_, _, _] true [_, _] am_in237 am_cl237 (h := S.end ?_)); refine HT.nil trivial (by kernel_rfl) (hK _ ?_); clear hK K; refine Ev.sm (tbs [(0, 0), (0, 0), (0, 0), (0, 0), (4, 12), (5, 31), (6, 63)]) 6 fun K hK => M.o (q.lvA [_, _, _] am_ag237 am_cl237) (M.o (q.lvA [_, _, _] am_ag237 am_cl237) (M.o (q.lvA [_, _, _] am_ag237 am_cl237) (M.o (q.lvA [_, _, _] am_ag237 am_cl237) (M.c0 (hF := cross_fun x y) (h := M.o (q.bda [_, _, _, _, _, _, _, _, _] am_ze249 am_pn249 am_ar249 am_cl237) (M.end [_, _, _] (h := S.sv [_, _, _, _, _, _, _, _, _] true [_, _] am_in249 am_cl249 (h := S.end (hK _ ?_))))))))); clear hK K; refine Ev.ret ?_; refine Ev.retv1 (res_c [_, _, _, _, _, _, _, _, _] am_ag249 am_cl249 res_n) ?_; refine ⟨?_, rfl⟩; rfl
    · skip; refine HT.two (i := 5) (j := 7) trivial rfl rfl (S.c0 (hF := unit_fun y h.2.1) (h := S.end ?_)) (S.nn (q.al am_ze237) (S.end ?_))
      · skip; refine HT.one (i := 7) trivial rfl (S.nn (q.al am_ze237) (S.end ?_)); refine HT.one (i := 8) trivial rfl (S.sv [_, _, _] true [_, _] am_in237 am_cl237 (h := S.end ?_)); refine HT.one (i := 9) trivial rfl (S.sv [_, _, _] true [_, _] am_in237 am_cl237 (h := S.end ?_)); refine HT.nil trivial (by kernel_rfl) (hK _ ?_); clear hK K; refine Ev.sm (tbs [(0, 0), (0, 0), (0, 0), (0, 0), (4, 12), (5, 31), (6, 63)]) 6 fun K hK => M.o (q.lvA [_, _, _] am_ag237 am_cl237) (M.o (q.lvA [_, _, _] am_ag237 am_cl237) (M.o (q.lvA [_, _, _] am_ag237 am_cl237) (M.o (q.lvA [_, _, _] am_ag237 am_cl237) (M.c0 (hF := cross_fun x y) (h := M.o (q.bda [_, _, _, _, _, _, _, _, _] am_ze249 am_pn249 am_ar249 am_cl237) (M.end [_, _, _] (h := S.sv [_, _, _, _, _, _, _, _, _] true [_, _] am_in249 am_cl249 (h := S.end (hK _ ?_))))))))); clear hK K; refine Ev.ret ?_; refine Ev.retv1 (res_c [_, _, _, _, _, _, _, _, _] am_ag249 am_cl249 res_n) ?_; refine ⟨?_, rfl⟩; rfl
      · skip; refine HT.one (i := 5) trivial rfl (S.c0 (hF := unit_fun y h.2.1) (h := S.end ?_)); refine HT.one (i := 8) trivial rfl (S.sv [_, _, _] true [_, _] am_in237 am_cl237 (h := S.end ?_)); refine HT.one (i := 9) trivial rfl (S.sv [_, _, _] true [_, _] am_in237 am_cl237 (h := S.end ?_)); refine HT.nil trivial (by kernel_rfl) (hK _ ?_); clear hK K; refine Ev.sm (tbs [(0, 0), (0, 0), (0, 0), (0, 0), (4, 12), (5, 31), (6, 63)]) 6 fun K hK => M.o (q.lvA [_, _, _] am_ag237 am_cl237) (M.o (q.lvA [_, _, _] am_ag237 am_cl237) (M.o (q.lvA [_, _, _] am_ag237 am_cl237) (M.o (q.lvA [_, _, _] am_ag237 am_cl237) (M.c0 (hF := cross_fun x y) (h := M.o (q.bda [_, _, _, _, _, _, _, _, _] am_ze249 am_pn249 am_ar249 am_cl237) (M.end [_, _, _] (h := S.sv [_, _, _, _, _, _, _, _, _] true [_, _] am_in249 am_cl249 (h := S.end (hK _ ?_))))))))); clear hK K; refine Ev.ret ?_; refine Ev.retv1 (res_c [_, _, _, _, _, _, _, _, _] am_ag249 am_cl249 res_n) ?_; refine ⟨?_, rfl⟩; rfl
    · skip; refine HT.two (i := 5) (j := 6) trivial rfl rfl (S.c0 (hF := unit_fun y h.2.1) (h := S.end ?_)) (S.nn (q.al am_ze237) (S.end ?_))
      · skip; refine HT.one (i := 6) trivial rfl (S.nn (q.al am_ze237) (S.end ?_)); refine HT.one (i := 8) trivial rfl (S.sv [_, _, _] true [_, _] am_in237 am_cl237 (h := S.end ?_)); refine HT.one (i := 9) trivial rfl (S.sv [_, _, _] true [_, _] am_in237 am_cl237 (h := S.end ?_)); refine HT.nil trivial (by kernel_rfl) (hK _ ?_); clear hK K; refine Ev.sm (tbs [(0, 0), (0, 0), (0, 0), (0, 0), (4, 12), (5, 31), (6, 63)]) 6 fun K hK => M.o (q.lvA [_, _, _] am_ag237 am_cl237) (M.o (q.lvA [_, _, _] am_ag237 am_cl237) (M.o (q.lvA [_, _, _] am_ag237 am_cl237) (M.o (q.lvA [_, _, _] am_ag237 am_cl237) (M.c0 (hF := cross_fun x y) (h := M.o (q.bda [_, _, _, _, _, _, _, _, _] am_ze249 am_pn249 am_ar249 am_cl237) (M.end [_, _, _] (h := S.sv [_, _, _, _, _, _, _, _, _] true [_, _] am_in249 am_cl249 (h := S.end (hK _ ?_))))))))); clear hK K; refine Ev.ret ?_; refine Ev.retv1 (res_c [_, _, _, _, _, _, _, _, _] am_ag249 am_cl249 res_n) ?_; refine ⟨?_, rfl⟩; rfl
      · skip; refine HT.one (i := 5) trivial rfl (S.c0 (hF := unit_fun y h.2.1) (h := S.end ?_)); refine HT.one (i := 8) trivial rfl (S.sv [_, _, _] true [_, _] am_in237 am_cl237 (h := S.end ?_)); refine HT.one (i := 9) trivial rfl (S.sv [_, _, _] true [_, _] am_in237 am_cl237 (h := S.end ?_)); refine HT.nil trivial (by kernel_rfl) (hK _ ?_); clear hK K; refine Ev.sm (tbs [(0, 0), (0, 0), (0, 0), (0, 0), (4, 12), (5, 31), (6, 63)]) 6 fun K hK => M.o (q.lvA [_, _, _] am_ag237 am_cl237) (M.o (q.lvA [_, _, _] am_ag237 am_cl237) (M.o (q.lvA [_, _, _] am_ag237 am_cl237) (M.o (q.lvA [_, _, _] am_ag237 am_cl237) (M.c0 (hF := cross_fun x y) (h := M.o (q.bda [_, _, _, _, _, _, _, _, _] am_ze249 am_pn249 am_ar249 am_cl237) (M.end [_, _, _] (h := S.sv [_, _, _, _, _, _, _, _, _] true [_, _] am_in249 am_cl249 (h := S.end (hK _ ?_))))))))); clear hK K; refine Ev.ret ?_; refine Ev.retv1 (res_c [_, _, _, _, _, _, _, _, _] am_ag249 am_cl249 res_n) ?_; refine ⟨?_, rfl⟩; rfl
  · skip; refine HT.two (i := 2) (j := 7) trivial rfl rfl (S.c0 (hF := unit_fun x h.1) (h := S.end ?_)) (S.nn (q.al am_ze237) (S.end ?_))
    · skip; refine HT.two (i := 5) (j := 7) trivial rfl rfl (S.c0 (hF := unit_fun y h.2.1) (h := S.end ?_)) (S.nn (q.al am_ze237) (S.end ?_))
      · skip; refine HT.one (i := 7) trivial rfl (S.nn (q.al am_ze237) (S.end ?_)); refine HT.one (i := 8) trivial rfl (S.sv [_, _, _] true [_, _] am_in237 am_cl237 (h := S.end ?_)); refine HT.one (i := 9) trivial rfl (S.sv [_, _, _] true [_, _] am_in237 am_cl237 (h := S.end ?_)); refine HT.nil trivial (by kernel_rfl) (hK _ ?_); clear hK K; refine Ev.sm (tbs [(0, 0), (0, 0), (0, 0), (0, 0), (4, 12), (5, 31), (6, 63)]) 6 fun K hK => M.o (q.lvA [_, _, _] am_ag237 am_cl237) (M.o (q.lvA [_, _, _] am_ag237 am_cl237) (M.o (q.lvA [_, _, _] am_ag237 am_cl237) (M.o (q.lvA [_, _, _] am_ag237 am_cl237) (M.c0 (hF := cross_fun x y) (h := M.o (q.bda [_, _, _, _, _, _, _, _, _] am_ze249 am_pn249 am_ar249 am_cl237) (M.end [_, _, _] (h := S.sv [_, _, _, _, _, _, _, _, _] true [_, _] am_in249 am_cl249 (h := S.end (hK _ ?_))))))))); clear hK K; refine Ev.ret ?_; refine Ev.retv1 (res_c [_, _, _, _, _, _, _, _, _] am_ag249 am_cl249 res_n) ?_; refine ⟨?_, rfl⟩; rfl
      · skip; refine HT.one (i := 5) trivial rfl (S.c0 (hF := unit_fun y h.2.1) (h := S.end ?_)); refine HT.one (i := 8) trivial rfl (S.sv [_, _, _] true [_, _] am_in237 am_cl237 (h := S.end ?_)); refine HT.one (i := 9) trivial rfl (S.sv [_, _, _] true [_, _] am_in237 am_cl237 (h := S.end ?_)); refine HT.nil trivial (by kernel_rfl) (hK _ ?_); clear hK K; refine Ev.sm (tbs [(0, 0), (0, 0), (0, 0), (0, 0), (4, 12), (5, 31), (6, 63)]) 6 fun K hK => M.o (q.lvA [_, _, _] am_ag237 am_cl237) (M.o (q.lvA [_, _, _] am_ag237 am_cl237) (M.o (q.lvA [_, _, _] am_ag237 am_cl237) (M.o (q.lvA [_, _, _] am_ag237 am_cl237) (M.c0 (hF := cross_fun x y) (h := M.o (q.bda [_, _, _, _, _, _, _, _, _] am_ze249 am_pn249 am_ar249 am_cl237) (M.end [_, _, _] (h := S.sv [_, _, _, _, _, _, _, _, _] true [_, _] am_in249 am_cl249 (h := S.end (hK _ ?_))))))))); clear hK K; refine Ev.ret ?_; refine Ev.retv1 (res_c [_, _, _, _, _, _, _, _, _] am_ag249 am_cl249 res_n) ?_; refine ⟨?_, rfl⟩; rfl
    · skip; refine HT.one (i := 2) trivial rfl (S.c0 (hF := unit_fun x h.1) (h := S.end ?_)); refine HT.one (i := 5) trivial rfl (S.c0 (hF := unit_fun y h.2.1) (h := S.end ?_)); refine HT.one (i := 8) trivial rfl (S.sv [_, _, _] true [_, _] am_in237 am_cl237 (h := S.end ?_)); refine HT.one (i := 9) trivial rfl (S.sv [_, _, _] true [_, _] am_in237 am_cl237 (h := S.end ?_)); refine HT.nil trivial (by kernel_rfl) (hK _ ?_); clear hK K; refine Ev.sm (tbs [(0, 0), (0, 0), (0, 0), (0, 0), (4, 12), (5, 31), (6, 63)]) 6 fun K hK => M.o (q.lvA [_, _, _] am_ag237 am_cl237) (M.o (q.lvA [_, _, _] am_ag237 am_cl237) (M.o (q.lvA [_, _, _] am_ag237 am_cl237) (M.o (q.lvA [_, _, _] am_ag237 am_cl237) (M.c0 (hF := cross_fun x y) (h := M.o (q.bda [_, _, _, _, _, _, _, _, _] am_ze249 am_pn249 am_ar249 am_cl237) (M.end [_, _, _] (h := S.sv [_, _, _, _, _, _, _, _, _] true [_, _] am_in249 am_cl249 (h := S.end (hK _ ?_))))))))); clear hK K; refine Ev.ret ?_; refine Ev.retv1 (res_c [_, _, _, _, _, _, _, _, _] am_ag249 am_cl249 res_n) ?_; refine ⟨?_, rfl⟩; rfl
  · skip; refine HT.two (i := 2) (j := 6) trivial rfl rfl (S.c0 (hF := unit_fun x h.1) (h := S.end ?_)) (S.nn (q.al am_ze237) (S.end ?_))
    · skip; refine HT.two (i := 5) (j := 6) trivial rfl rfl (S.c0 (hF := unit_fun y h.2.1) (h := S.end ?_)) (S.nn (q.al am_ze237) (S.end ?_))
      · skip; refine HT.one (i := 6) trivial rfl (S.nn (q.al am_ze237) (S.end ?_)); refine HT.one (i := 8) trivial rfl (S.sv [_, _, _] true [_, _] am_in237 am_cl237 (h := S.end ?_)); refine HT.one (i := 9) trivial rfl (S.sv [_, _, _] true [_, _] am_in237 am_cl237 (h := S.end ?_)); refine HT.nil trivial (by kernel_rfl) (hK _ ?_); clear hK K; refine Ev.sm (tbs [(0, 0), (0, 0), (0, 0), (0, 0), (4, 12), (5, 31), (6, 63)]) 6 fun K hK => M.o (q.lvA [_, _, _] am_ag237 am_cl237) (M.o (q.lvA [_, _, _] am_ag237 am_cl237) (M.o (q.lvA [_, _, _] am_ag237 am_cl237) (M.o (q.lvA [_, _, _] am_ag237 am_cl237) (M.c0 (hF := cross_fun x y) (h := M.o (q.bda [_, _, _, _, _, _, _, _, _] am_ze249 am_pn249 am_ar249 am_cl237) (M.end [_, _, _] (h := S.sv [_, _, _, _, _, _, _, _, _] true [_, _] am_in249 am_cl249 (h := S.end (hK _ ?_))))))))); clear hK K; refine Ev.ret ?_; refine Ev.retv1 (res_c [_, _, _, _, _, _, _, _, _] am_ag249 am_cl249 res_n) ?_; refine ⟨?_, rfl⟩; rfl
      · skip; refine HT.one (i := 5) trivial rfl (S.c0 (hF := unit_fun y h.2.1) (h := S.end ?_)); refine HT.one (i := 8) trivial rfl (S.sv [_, _, _] true [_, _] am_in237 am_cl237 (h := S.end ?_)); refine HT.one (i := 9) trivial rfl (S.sv [_, _, _] true [_, _] am_in237 am_cl237 (h := S.end ?_)); refine HT.nil trivial (by kernel_rfl) (hK _ ?_); clear hK K; refine Ev.sm (tbs [(0, 0), (0, 0), (0, 0), (0, 0), (4, 12), (5, 31), (6, 63)]) 6 fun K hK => M.o (q.lvA [_, _, _] am_ag237 am_cl237) (M.o (q.lvA [_, _, _] am_ag237 am_cl237) (M.o (q.lvA [_, _, _] am_ag237 am_cl237) (M.o (q.lvA [_, _, _] am_ag237 am_cl237) (M.c0 (hF := cross_fun x y) (h := M.o (q.bda [_, _, _, _, _, _, _, _, _] am_ze249 am_pn249 am_ar249 am_cl237) (M.end [_, _, _] (h := S.sv [_, _, _, _, _, _, _, _, _] true [_, _] am_in249 am_cl249 (h := S.end (hK _ ?_))))))))); clear hK K; refine Ev.ret ?_; refine Ev.retv1 (res_c [_, _, _, _, _, _, _, _, _] am_ag249 am_cl249 res_n) ?_; refine ⟨?_, rfl⟩; rfl
    · skip; refine HT.one (i := 2) trivial rfl (S.c0 (hF := unit_fun x h.1) (h := S.end ?_)); refine HT.one (i := 5) trivial rfl (S.c0 (hF := unit_fun y h.2.1) (h := S.end ?_)); refine HT.one (i := 8) trivial rfl (S.sv [_, _, _] true [_, _] am_in237 am_cl237 (h := S.end ?_)); refine HT.one (i := 9) trivial rfl (S.sv [_, _, _] true [_, _] am_in237 am_cl237 (h := S.end ?_)); refine HT.nil trivial (by kernel_rfl) (hK _ ?_); clear hK K; refine Ev.sm (tbs [(0, 0), (0, 0), (0, 0), (0, 0), (4, 12), (5, 31), (6, 63)]) 6 fun K hK => M.o (q.lvA [_, _, _] am_ag237 am_cl237) (M.o (q.lvA [_, _, _] am_ag237 am_cl237) (M.o (q.lvA [_, _, _] am_ag237 am_cl237) (M.o (q.lvA [_, _, _] am_ag237 am_cl237) (M.c0 (hF := cross_fun x y) (h := M.o (q.bda [_, _, _, _, _, _, _, _, _] am_ze249 am_pn249 am_ar249 am_cl237) (M.end [_, _, _] (h := S.sv [_, _, _, _, _, _, _, _, _] true [_, _] am_in249 am_cl249 (h := S.end (hK _ ?_))))))))); clear hK K; refine Ev.ret ?_; refine Ev.retv1 (res_c [_, _, _, _, _, _, _, _, _] am_ag249 am_cl249 res_n) ?_; refine ⟨?_, rfl⟩; rfl
end Go.Proofs.YtkbpignlggahaaaGreatDoor
namespace Go.Proofs.YtkbpignlggahaaaGreatDoor
open Go Go.AM
set_option linter.unusedSimpArgs false
set_option linter.unusedVariables false
set_option maxRecDepth 100000
set_option maxHeartbeats 1000000
def imK (x y a b c : Int) (k i : Nat) : Int := if i < k then (if i = 0 then (imP x y (a, b, c)).1 else if i = 1 then (imP x y (a, b, c)).2.1 else (imP x y (a, b, c)).2.2) else 0
theorem image_fun (x y a b c : Int) (h : turnOK x y) (hn : near1 (a, b, c)) : Fun Tryz.prog 218 [.agg [.lit (.int .i64 x), .lit (.int .i64 y)], .agg [.lit (.int .i64 a), .lit (.int .i64 b), .lit (.int .i64 c)]] (Ret (.agg (pntC (imP x y (a, b, c)))) []) := by
  obtain ⟨e1, e2⟩ := im_bd (x := x) (y := y) hn 1; obtain ⟨e3, e4⟩ := im_bd (x := x) (y := y) hn 2; obtain ⟨e5, e6⟩ := im_bd (x := x) (y := y) hn 3; obtain ⟨e7, e8, e9⟩ := im_bd3 (x := x) (y := y) hn
  dsimp only at e1 e2 e3 e4 e5 e6 e7 e8 e9
  refine Fun.of (nt := 46) (rs := [.cell 4 80]) Tryz.func218 rfl rfl rfl rfl rfl ?_; refine Ev.sr fun K hK => S.nn (q.bx [_, _] true) (S.nn (q.bx [_, _, _] true) (S.nn (q.al am_ze80) (S.end (hK _ ?_)))); clear hK K; refine Ev.sr fun K hK => S.o (q.lvA [_, _] am_ag78 am_cl78) (S.c0 (hF := columns_fun x y h) (h := S.nn (q.al am_ze249) (S.sv [_, _, _, _, _, _, _, _, _] true [_, _, _] am_in249 am_cl249 (h := S.end (hK _ ?_))))); clear hK K; refine Ev.sr fun K hK => S.nn (q.al am_ze237) (S.end (hK _ ?_)); clear hK K; refine Ev.seq ?_; refine Ev.sr fun K hK => S.o q.mv (S.end (hK _ ?_)); clear hK K; refine Ev.block ?_
  refine Ev.loopU (ι := {k : Nat // k ≤ 3}) [4, 3, 1, 2] [3, 4, 5, 6] (fun ⟨k, _⟩ => [(10, .lit (.int .i64 ((k : Int))))]) (fun ⟨k, _⟩ => [(0, ⟨false, 237, 3, [[.lit (.int .i64 (imK x y a b c k 0)), .lit (.int .i64 (imK x y a b c k 1)), .lit (.int .i64 (imK x y a b c k 2))]], true⟩), (1, ⟨false, 249, 9, [[.lit (.int .i64 (uV x 1)), .lit (.int .i64 (uV x 2)), .lit (.int .i64 (uV x 3)), .lit (.int .i64 (uV y 1)), .lit (.int .i64 (uV y 2)), .lit (.int .i64 (uV y 3)), .lit (.int .i64 (crX x y)), .lit (.int .i64 (crY x y)), .lit (.int .i64 (crZ x y))]], true⟩), (2, ⟨false, 80, 3, [[.lit (.int .i64 (a)), .lit (.int .i64 (b)), .lit (.int .i64 (c))]], true⟩), (3, ⟨false, 80, 3, [[.lit (.int .i64 (0)), .lit (.int .i64 (0)), .lit (.int .i64 (0))]], true⟩)]) (fun ⟨k, _⟩ => 3 - k) ⟨0, by decide⟩ (.c (.c (.c (.c .n)))) (keep_c (he := (by first | rfl | (simp; done))) (h := (keep_c (he := (by first | rfl | (simp; done))) (h := (keep_c (he := (by first | rfl | (simp; done))) (h := (keep_c (he := (by first | rfl | (simp; done))) (h := keep_n)))))))) (slots_c (he := (by first | rfl | (simp; done) | (congr 2; omega))) (h := trivial)) ?_; rintro ⟨k, hk⟩ R0 hR0; dsimp only [List.cons_append, List.nil_append, List.length_cons, List.length_nil]
  have hk4 : k = 3 ∨ k = 0 ∨ k = 1 ∨ k = 2 := by omega
  rcases hk4 with hk4 | hk4 | hk4 | hk4
  · subst hk4; refine Ev.sr fun K hK => S.o q.lss (S.end (hK _ ?_)); clear hK K; refine Ev.ud (fun c1 => ?_) (fun c1 => ?_)
    · first | omega | contradiction | (exfalso; simp at *; done)
    · first
    | omega | contradiction
    | refine Ev.exit ?_; refine hR0 _ _ ?_; show Ev _ _ _ _; refine Ev.sr fun K hK => S.o (q.iaa am_el237 am_ar237 am_cl3) (S.o (q.lv am_ag3) (S.o (q.iaa am_el237 am_ar237 am_cl3) (S.o (q.lv am_ag3) (S.o (q.iaa am_el237 am_ar237 am_cl3) (S.o (q.lv am_ag3) (S.o (q.bd [_, _, _] am_ze80 am_pl80) (S.sv [_, _, _] true [_, _, _] am_in80 am_cl80 (h := S.end (hK _ ?_))))))))); clear hK K; refine Ev.ret ?_; refine Ev.retv1 (res_c [_, _, _] am_ag80 am_cl80 res_n) ?_; refine ⟨?_, rfl⟩; rfl
  · subst hk4; refine Ev.sr fun K hK => S.o q.lss (S.end (hK _ ?_)); clear hK K; refine Ev.ud (fun c2 => ?_) (fun c2 => ?_)
    · first
    | omega | contradiction
    | refine Ev.seq ?_; refine Ev.block ?_; refine Ev.sr fun K hK => S.o q.mv (S.o q.as (S.end (hK _ ?_))); clear hK K; refine Ev.region_M (tbs [(0, 0), (0, 0), (0, 0), (3, 6), (4, 14), (0, 0), (6, 32), (7, 126), (0, 0), (0, 0), (10, 768), (11, 1792), (0, 0), (13, 4096), (14, 16128), (15, 32766), (0, 0), (0, 0), (18, 196608), (19, 458752), (0, 0), (21, 1048576), (22, 4128768), (23, 8388606), (24, 16777215), (25, 33554431)]) 25 fun K hK => M.o q.mv (M.o q.mv (M.o (q.iaa am_el249 am_ar249 am_cl237) (M.o (q.iaa am_el237 am_ar237 am_cl3) (M.o (q.lv am_ag3) (M.o (q.fa 0 am_fi80_0 am_cl3) (M.o (q.lv am_ag3) (M.o q.mul (M.o q.mv (M.o (q.iaa am_el249 am_ar249 am_cl237) (M.o (q.iaa am_el237 am_ar237 am_cl3) (M.o (q.lv am_ag3) (M.o (q.fa 1 am_fi80_1 am_cl3) (M.o (q.lv am_ag3) (M.o q.mul (M.o q.add (M.o q.mv (M.o (q.iaa am_el249 am_ar249 am_cl237) (M.o (q.iaa am_el237 am_ar237 am_cl3) (M.o (q.lv am_ag3) (M.o (q.fa 2 am_fi80_2 am_cl3) (M.o (q.lv am_ag3) (M.o q.mul (M.o q.add (M.o (q.iaa am_el237 am_ar237 am_cl3) (M.end [_, _, _, _] (h := S.sv [_, _, _] true [_, _, _] am_in3 am_cl3 (h := S.end (hK _ ?_)))))))))))))))))))))))))))); clear hK K; show Ev _ _ _ _; refine Ev.region_S fun K hK => S.o q.add (S.o q.mv (S.end (hK _ ?_))); clear hK K; refine hR0 _ _ ?_
      refine roundU [0, 1, 2, 3] [3, 4, 5, 6] ⟨1, by decide⟩ ?_ (keep_c (he := (by first | rfl | (simp; done))) (h := (keep_c (he := (by first | rfl | (simp; done))) (h := (keep_c (he := (by first | rfl | (simp; done))) (h := (keep_c (he := (by first | rfl | (simp; done))) (h := keep_n)))))))) (slots_c (he := (by first | rfl | (simp; done) | (congr 2; omega))) (h := trivial)) (.c (.c (.c (.c .n)))); skip; all_goals (dsimp only; omega)
    · first | omega | contradiction | (exfalso; simp at *; done)
  · subst hk4; refine Ev.sr fun K hK => S.o q.lss (S.end (hK _ ?_)); clear hK K; refine Ev.ud (fun c3 => ?_) (fun c3 => ?_)
    · first
    | omega | contradiction
    | refine Ev.seq ?_; refine Ev.block ?_; refine Ev.sr fun K hK => S.o q.mv (S.o q.as (S.end (hK _ ?_))); clear hK K; refine Ev.region_M (tbs [(0, 0), (0, 0), (0, 0), (3, 6), (4, 14), (0, 0), (6, 32), (7, 126), (0, 0), (0, 0), (10, 768), (11, 1792), (0, 0), (13, 4096), (14, 16128), (15, 32766), (0, 0), (0, 0), (18, 196608), (19, 458752), (0, 0), (21, 1048576), (22, 4128768), (23, 8388606), (24, 16777215), (25, 33554431)]) 25 fun K hK => M.o q.mv (M.o q.mv (M.o (q.iaa am_el249 am_ar249 am_cl237) (M.o (q.iaa am_el237 am_ar237 am_cl3) (M.o (q.lv am_ag3) (M.o (q.fa 0 am_fi80_0 am_cl3) (M.o (q.lv am_ag3) (M.o q.mul (M.o q.mv (M.o (q.iaa am_el249 am_ar249 am_cl237) (M.o (q.iaa am_el237 am_ar237 am_cl3) (M.o (q.lv am_ag3) (M.o (q.fa 1 am_fi80_1 am_cl3) (M.o (q.lv am_ag3) (M.o q.mul (M.o q.add (M.o q.mv (M.o (q.iaa am_el249 am_ar249 am_cl237) (M.o (q.iaa am_el237 am_ar237 am_cl3) (M.o (q.lv am_ag3) (M.o (q.fa 2 am_fi80_2 am_cl3) (M.o (q.lv am_ag3) (M.o q.mul (M.o q.add (M.o (q.iaa am_el237 am_ar237 am_cl3) (M.end [_, _, _, _] (h := S.sv [_, _, _] true [_, _, _] am_in3 am_cl3 (h := S.end (hK _ ?_)))))))))))))))))))))))))))); clear hK K; show Ev _ _ _ _; refine Ev.region_S fun K hK => S.o q.add (S.o q.mv (S.end (hK _ ?_))); clear hK K; refine hR0 _ _ ?_
      refine roundU [0, 1, 2, 3] [3, 4, 5, 6] ⟨2, by decide⟩ ?_ (keep_c (he := (by first | rfl | (simp; done))) (h := (keep_c (he := (by first | rfl | (simp; done))) (h := (keep_c (he := (by first | rfl | (simp; done))) (h := (keep_c (he := (by first | rfl | (simp; done))) (h := keep_n)))))))) (slots_c (he := (by first | rfl | (simp; done) | (congr 2; omega))) (h := trivial)) (.c (.c (.c (.c .n)))); skip; all_goals (dsimp only; omega)
    · first | omega | contradiction | (exfalso; simp at *; done)
  · subst hk4; refine Ev.sr fun K hK => S.o q.lss (S.end (hK _ ?_)); clear hK K; refine Ev.ud (fun c4 => ?_) (fun c4 => ?_)
    · first
    | omega | contradiction
    | refine Ev.seq ?_; refine Ev.block ?_; refine Ev.sr fun K hK => S.o q.mv (S.o q.as (S.end (hK _ ?_))); clear hK K; refine Ev.region_M (tbs [(0, 0), (0, 0), (0, 0), (3, 6), (4, 14), (0, 0), (6, 32), (7, 126), (0, 0), (0, 0), (10, 768), (11, 1792), (0, 0), (13, 4096), (14, 16128), (15, 32766), (0, 0), (0, 0), (18, 196608), (19, 458752), (0, 0), (21, 1048576), (22, 4128768), (23, 8388606), (24, 16777215), (25, 33554431)]) 25 fun K hK => M.o q.mv (M.o q.mv (M.o (q.iaa am_el249 am_ar249 am_cl237) (M.o (q.iaa am_el237 am_ar237 am_cl3) (M.o (q.lv am_ag3) (M.o (q.fa 0 am_fi80_0 am_cl3) (M.o (q.lv am_ag3) (M.o q.mul (M.o q.mv (M.o (q.iaa am_el249 am_ar249 am_cl237) (M.o (q.iaa am_el237 am_ar237 am_cl3) (M.o (q.lv am_ag3) (M.o (q.fa 1 am_fi80_1 am_cl3) (M.o (q.lv am_ag3) (M.o q.mul (M.o q.add (M.o q.mv (M.o (q.iaa am_el249 am_ar249 am_cl237) (M.o (q.iaa am_el237 am_ar237 am_cl3) (M.o (q.lv am_ag3) (M.o (q.fa 2 am_fi80_2 am_cl3) (M.o (q.lv am_ag3) (M.o q.mul (M.o q.add (M.o (q.iaa am_el237 am_ar237 am_cl3) (M.end [_, _, _, _] (h := S.sv [_, _, _] true [_, _, _] am_in3 am_cl3 (h := S.end (hK _ ?_)))))))))))))))))))))))))))); clear hK K; show Ev _ _ _ _; refine Ev.region_S fun K hK => S.o q.add (S.o q.mv (S.end (hK _ ?_))); clear hK K; refine hR0 _ _ ?_
      refine roundU [0, 1, 2, 3] [3, 4, 5, 6] ⟨3, by decide⟩ ?_ (keep_c (he := (by first | rfl | (simp; done))) (h := (keep_c (he := (by first | rfl | (simp; done))) (h := (keep_c (he := (by first | rfl | (simp; done))) (h := (keep_c (he := (by first | rfl | (simp; done))) (h := keep_n)))))))) (slots_c (he := (by first | rfl | (simp; done) | (congr 2; omega))) (h := trivial)) (.c (.c (.c (.c .n)))); skip; all_goals (dsimp only; omega)
    · first | omega | contradiction | (exfalso; simp at *; done)
theorem placed_fun (x y : Int) (q p : P3) (h : turnOK x y) (hq : near1 q) (hn : near1 p) : Fun Tryz.prog 191 [.agg [.lit (.int .i64 x), .lit (.int .i64 y)], .agg (pntC q), .agg (pntC p)] (Ret (.agg (pntC (addP q (imP x y p)))) []) := by
  obtain ⟨a, b, c⟩ := p; obtain ⟨d, e, f⟩ := q; obtain ⟨e1, e2⟩ := im_bd (x := x) (y := y) hn 1; obtain ⟨e3, e4⟩ := im_bd (x := x) (y := y) hn 2; obtain ⟨e5, e6⟩ := im_bd (x := x) (y := y) hn 3; obtain ⟨e7, e8, e9⟩ := im_bd3 (x := x) (y := y) hn
  unfold near1 at hq
  dsimp only at hq
  refine Fun.of (nt := 27) (rs := [.cell 6 80]) Tryz.func191 rfl rfl rfl rfl rfl ?_; refine Ev.sr fun K hK => S.nn (q.bx [_, _] true) (S.nn (q.bx [_, _, _] true) (S.nn (q.bx [_, _, _] true) (S.nn (q.al am_ze80) (S.end (hK _ ?_))))); clear hK K; refine Ev.sr fun K hK => S.o (q.lvA [_, _] am_ag78 am_cl78) (S.o (q.lvA [_, _, _] am_ag80 am_cl80) (S.c0 (hF := image_fun x y a b c h hn) (h := S.nn (q.al am_ze80) (S.sv [_, _, _] true [_, _, _, _] am_in80 am_cl80 (h := S.end (hK _ ?_)))))); clear hK K; refine Ev.sr fun K hK => S.o (q.fa 0 am_fi80_0 am_cl3) (S.o (q.lv am_ag3) (S.o (q.fa 0 am_fi80_0 am_cl3) (S.o (q.lv am_ag3) (S.o q.add (S.o (q.fa 1 am_fi80_1 am_cl3) (S.o (q.lv am_ag3) (S.o (q.fa 1 am_fi80_1 am_cl3) (S.o (q.lv am_ag3) (S.o q.add (S.o (q.fa 2 am_fi80_2 am_cl3) (S.o (q.lv am_ag3) (S.o (q.fa 2 am_fi80_2 am_cl3) (S.o (q.lv am_ag3) (S.o q.add (S.o (q.bd [_, _, _] am_ze80 am_pl80) (S.sv [_, _, _] true [_, _, _, _] am_in80 am_cl80 (h := S.end (hK _ ?_)))))))))))))))))); clear hK K; refine Ev.ret ?_; refine Ev.retv1 (res_c [_, _, _] am_ag80 am_cl80 res_n) ?_; refine ⟨?_, rfl⟩; rfl
def nrk (a b c : Int) (k : Nat) : Prop := ∀ i, i < k → -1048576 ≤ co3 a b c i ∧ co3 a b c i ≤ 1048576
theorem nrk_s {a b c : Int} {k : Nat} (h : nrk a b c k) (h1 : -1048576 ≤ co3 a b c k ∧ co3 a b c k ≤ 1048576) : nrk a b c (k + 1) := fun i hi => by
  by_cases e : i = k
  · subst e; exact h1
  · exact h i (by omega)
theorem nrk_3 {a b c : Int} (h : nrk a b c 3) : near1 (a, b, c) := ⟨h 0 (by decide), h 1 (by decide), h 2 (by decide)⟩
theorem near_fun (l : List P3) (hlen : l.length ≤ 140737488355328) : Fun Tryz.prog 190 [.sh 3 (l.map pntC)] (Ret (.lit (.bool (decide (nearL l)))) []) := by
  refine Fun.of (nt := 31) (rs := [.tmp 2]) Tryz.func190 rfl rfl rfl rfl rfl ?_; refine Ev.sr fun K hK => S.o q.as (S.end (hK _ ?_)); clear hK K; refine Ev.seq ?_; refine Ev.sr fun K hK => S.o q.mv (S.o (q.lens am_el146) (S.o q.mv (S.end (hK _ ?_)))); clear hK K; refine Ev.block ?_; refine Ev.loopU (ι := {q : List (Int × Int × Int) × List (Int × Int × Int) // q.1 ++ q.2 = l ∧ nearL q.1}) [] [7, 8] (fun ⟨(pre, suf), _⟩ => [(9, .lit (.int .i64 ((pre.length : Int))))]) (fun ⟨(pre, suf), _⟩ => []) (fun ⟨(pre, suf), _⟩ => suf.length) ⟨([], l), rfl, fun x hx => by simp at hx⟩ (.c (.c .n)) keep_n (slots_c (he := (by first | rfl | (congr 2; simp; done))) (h := trivial)) ?_; rintro ⟨⟨pre, suf⟩, hp, hinv⟩ R0 hR0; dsimp only [List.cons_append, List.nil_append, List.length_cons, List.length_nil]
  simp only at hp hinv
  have hpl : pre.length + suf.length = (l).length := by rw [← hp, List.length_append]
  rcases suf with _ | ⟨s, suf⟩
  · rw [List.append_nil] at hp; simp only [List.length_nil] at hpl; refine Ev.sr fun K hK => S.o q.lss (S.end (hK _ ?_)); clear hK K; refine Ev.ud (fun c1 => ?_) (fun c1 => ?_)
    · first | omega | contradiction | (exfalso; simp at *; done)
    · first
    | omega | contradiction
    | refine Ev.exit ?_; refine hR0 _ _ ?_; show Ev _ _ _ _; refine Ev.sr fun K hK => S.o q.as (S.end (hK _ ?_)); clear hK K; refine Ev.ret ?_; refine Ev.ret1 ?_; refine ⟨?_, rfl⟩
      first
       | exact bT (by rw [← hp]; exact hinv)
       | exact bF (fun h => by have h1 := h (a, b, c) (by rw [← hp]; simp); unfold near1 at h1; dsimp only at h1; omega)
  · simp only [List.length_cons] at hpl
    have hidx : l[pre.length]? = some s := by rw [← hp]; simp
    obtain ⟨a, b, c⟩ := s; refine Ev.sr fun K hK => S.o q.lss (S.end (hK _ ?_)); clear hK K; refine Ev.ud (fun c2 => ?_) (fun c2 => ?_)
    · first
    | omega | contradiction
    | refine Ev.seq ?_; refine Ev.block ?_; refine Ev.sr fun K hK => S.o (q.ix am_el146 am_cl80 (hl := (by first | exact ati hidx (by omega) | exact atig (by omega)))) (S.o (q.lsA [_, _, _] am_ag80 am_cl80) (S.nn (q.al am_ze80) (S.sv [_, _, _] true [] am_in80 am_cl80 (h := S.end (hK _ ?_))))); clear hK K; refine Ev.sr fun K hK => S.o (q.fa 0 am_fi80_0 am_cl3) (S.o (q.lv am_ag3) (S.o (q.fa 1 am_fi80_1 am_cl3) (S.o (q.lv am_ag3) (S.o (q.fa 2 am_fi80_2 am_cl3) (S.o (q.lv am_ag3) (S.o (q.bda [_, _, _] am_ze237 am_pn237 am_ar237 am_cl3) (S.o q.mv (S.end (hK _ ?_))))))))); clear hK K; refine Ev.block ?_; refine Ev.loopU (ι := {k : Nat // k ≤ 3 ∧ nrk a b c k}) [] [7, 8, 9, 10, 19] (fun ⟨k, _⟩ => [(20, .lit (.int .i64 ((k : Int))))]) (fun ⟨k, _⟩ => []) (fun ⟨k, _⟩ => 3 - k) ⟨0, by decide, fun i hi => absurd hi (by omega)⟩ (.c (.c (.c (.c (.c .n))))) keep_n (slots_c (he := (by first | rfl | (simp; done) | (congr 2; omega))) (h := trivial)) ?_; rintro ⟨k, hk, hik⟩ R2 hR2; dsimp only [List.cons_append, List.nil_append, List.length_cons, List.length_nil]
      have hk4 : k = 3 ∨ k = 0 ∨ k = 1 ∨ k = 2 := by omega
      rcases hk4 with hk4 | hk4 | hk4 | hk4
      · subst hk4; refine Ev.sr fun K hK => S.o q.lss (S.end (hK _ ?_)); clear hK K; refine Ev.ud (fun c3 => ?_) (fun c3 => ?_)
        · first | omega | contradiction | (exfalso; simp at *; done)
        · first
        | omega | contradiction
        | refine Ev.exit ?_; refine hR2 _ _ ?_; show Ev _ _ _ _; refine Ev.region_S fun K hK => S.o q.add (S.o q.mv (S.end (hK _ ?_))); clear hK K; refine hR0 _ _ ?_; refine roundU [] [7, 8] ⟨(pre ++ [(a, b, c)], suf), by rw [← hp]; simp, ?_⟩ ?_ keep_n (slots_c (he := (by first | rfl | (congr 2; simp; done))) (h := trivial)) (.c (.c .n)); intro x hx
          rcases List.mem_append.1 hx with hx | hx
          · exact hinv x hx
          · rw [List.mem_singleton] at hx; subst hx; exact nrk_3 hik
          all_goals (dsimp only; simp only [List.length_cons]; omega)
      · subst hk4; refine Ev.sr fun K hK => S.o q.lss (S.end (hK _ ?_)); clear hK K; refine Ev.ud (fun c4 => ?_) (fun c4 => ?_)
        · first
        | omega | contradiction
        | refine Ev.seq ?_; refine Ev.block ?_; refine Ev.sr fun K hK => S.o (q.ixg am_ar237 am_ag3 am_cl3) (S.o q.as (S.end (hK _ ?_))); clear hK K; refine Ev.sr fun K hK => S.o q.mv (S.o q.lss (S.bd q.mv (fun c5 => ?_) (fun c5 => ?_)))
          · first
          | omega | contradiction
          | refine S.sk (S.sk (S.o q.pt (S.end (hK _ ?_)))); clear hK K; refine Ev.ct ?_; refine Ev.sr fun K hK => S.o q.as (S.end (hK _ ?_)); clear hK K; refine Ev.ret ?_; refine hR2 _ _ ?_; refine hR0 _ _ ?_; refine Ev.ret1 ?_; refine ⟨?_, rfl⟩
            first
             | exact bT (by rw [← hp]; exact hinv)
             | exact bF (fun h => by have h1 := h (a, b, c) (by rw [← hp]; simp); unfold near1 at h1; dsimp only at h1; omega)
          · first
          | omega | contradiction
          | refine S.o q.mv (S.o q.gtr (S.o q.pf (S.end (hK _ ?_)))); clear hK K; refine Ev.cd (fun c6 => ?_) (fun c6 => ?_)
            · first
            | omega | contradiction
            | refine Ev.sr fun K hK => S.o q.as (S.end (hK _ ?_)); clear hK K; refine Ev.ret ?_; refine hR2 _ _ ?_; refine hR0 _ _ ?_; refine Ev.ret1 ?_; refine ⟨?_, rfl⟩
              first
               | exact bT (by rw [← hp]; exact hinv)
               | exact bF (fun h => by have h1 := h (a, b, c) (by rw [← hp]; simp); unfold near1 at h1; dsimp only at h1; omega)
            · first
            | omega | contradiction
            | refine Ev.skip ?_; show Ev _ _ _ _; refine Ev.region_S fun K hK => S.o q.add (S.o q.mv (S.end (hK _ ?_))); clear hK K; refine hR2 _ _ ?_; refine roundU [] [7, 8, 9, 10, 19] ⟨_, by decide, nrk_s hik (show -1048576 ≤ _ ∧ _ ≤ (1048576 : Int) from ⟨by first | omega | (simp [co3]; omega), by first | omega | (simp [co3]; omega)⟩)⟩ ?_ keep_n (slots_c (he := (by first | rfl | (simp; done) | (congr 2; omega))) (h := trivial)) (.c (.c (.c (.c (.c .n))))); skip; all_goals (dsimp only; omega)
        · first | omega | contradiction | (exfalso; simp at *; done)
      · subst hk4; refine Ev.sr fun K hK => S.o q.lss (S.end (hK _ ?_)); clear hK K; refine Ev.ud (fun c7 => ?_) (fun c7 => ?_)
        · first
        | omega | contradiction
        | refine Ev.seq ?_; refine Ev.block ?_; refine Ev.sr fun K hK => S.o (q.ixg am_ar237 am_ag3 am_cl3) (S.o q.as (S.end (hK _ ?_))); clear hK K; refine Ev.sr fun K hK => S.o q.mv (S.o q.lss (S.bd q.mv (fun c8 => ?_) (fun c8 => ?_)))
          · first
          | omega | contradiction
          | refine S.sk (S.sk (S.o q.pt (S.end (hK _ ?_)))); clear hK K; refine Ev.ct ?_; refine Ev.sr fun K hK => S.o q.as (S.end (hK _ ?_)); clear hK K; refine Ev.ret ?_; refine hR2 _ _ ?_; refine hR0 _ _ ?_; refine Ev.ret1 ?_; refine ⟨?_, rfl⟩
            first
             | exact bT (by rw [← hp]; exact hinv)
             | exact bF (fun h => by have h1 := h (a, b, c) (by rw [← hp]; simp); unfold near1 at h1; dsimp only at h1; omega)
          · first
          | omega | contradiction
          | refine S.o q.mv (S.o q.gtr (S.o q.pf (S.end (hK _ ?_)))); clear hK K; refine Ev.cd (fun c9 => ?_) (fun c9 => ?_)
            · first
            | omega | contradiction
            | refine Ev.sr fun K hK => S.o q.as (S.end (hK _ ?_)); clear hK K; refine Ev.ret ?_; refine hR2 _ _ ?_; refine hR0 _ _ ?_; refine Ev.ret1 ?_; refine ⟨?_, rfl⟩
              first
               | exact bT (by rw [← hp]; exact hinv)
               | exact bF (fun h => by have h1 := h (a, b, c) (by rw [← hp]; simp); unfold near1 at h1; dsimp only at h1; omega)
            · first
            | omega | contradiction
            | refine Ev.skip ?_; show Ev _ _ _ _; refine Ev.region_S fun K hK => S.o q.add (S.o q.mv (S.end (hK _ ?_))); clear hK K; refine hR2 _ _ ?_; refine roundU [] [7, 8, 9, 10, 19] ⟨_, by decide, nrk_s hik (show -1048576 ≤ _ ∧ _ ≤ (1048576 : Int) from ⟨by first | omega | (simp [co3]; omega), by first | omega | (simp [co3]; omega)⟩)⟩ ?_ keep_n (slots_c (he := (by first | rfl | (simp; done) | (congr 2; omega))) (h := trivial)) (.c (.c (.c (.c (.c .n))))); skip; all_goals (dsimp only; omega)
        · first | omega | contradiction | (exfalso; simp at *; done)
      · subst hk4; refine Ev.sr fun K hK => S.o q.lss (S.end (hK _ ?_)); clear hK K; refine Ev.ud (fun c10 => ?_) (fun c10 => ?_)
        · first
        | omega | contradiction
        | refine Ev.seq ?_; refine Ev.block ?_; refine Ev.sr fun K hK => S.o (q.ixg am_ar237 am_ag3 am_cl3) (S.o q.as (S.end (hK _ ?_))); clear hK K; refine Ev.sr fun K hK => S.o q.mv (S.o q.lss (S.bd q.mv (fun c11 => ?_) (fun c11 => ?_)))
          · first
          | omega | contradiction
          | refine S.sk (S.sk (S.o q.pt (S.end (hK _ ?_)))); clear hK K; refine Ev.ct ?_; refine Ev.sr fun K hK => S.o q.as (S.end (hK _ ?_)); clear hK K; refine Ev.ret ?_; refine hR2 _ _ ?_; refine hR0 _ _ ?_; refine Ev.ret1 ?_; refine ⟨?_, rfl⟩
            first
             | exact bT (by rw [← hp]; exact hinv)
             | exact bF (fun h => by have h1 := h (a, b, c) (by rw [← hp]; simp); unfold near1 at h1; dsimp only at h1; omega)
          · first
          | omega | contradiction
          | refine S.o q.mv (S.o q.gtr (S.o q.pf (S.end (hK _ ?_)))); clear hK K; refine Ev.cd (fun c12 => ?_) (fun c12 => ?_)
            · first
            | omega | contradiction
            | refine Ev.sr fun K hK => S.o q.as (S.end (hK _ ?_)); clear hK K; refine Ev.ret ?_; refine hR2 _ _ ?_; refine hR0 _ _ ?_; refine Ev.ret1 ?_; refine ⟨?_, rfl⟩
              first
               | exact bT (by rw [← hp]; exact hinv)
               | exact bF (fun h => by have h1 := h (a, b, c) (by rw [← hp]; simp); unfold near1 at h1; dsimp only at h1; omega)
            · first
            | omega | contradiction
            | refine Ev.skip ?_; show Ev _ _ _ _; refine Ev.region_S fun K hK => S.o q.add (S.o q.mv (S.end (hK _ ?_))); clear hK K; refine hR2 _ _ ?_; refine roundU [] [7, 8, 9, 10, 19] ⟨_, by decide, nrk_s hik (show -1048576 ≤ _ ∧ _ ≤ (1048576 : Int) from ⟨by first | omega | (simp [co3]; omega), by first | omega | (simp [co3]; omega)⟩)⟩ ?_ keep_n (slots_c (he := (by first | rfl | (simp; done) | (congr 2; omega))) (h := trivial)) (.c (.c (.c (.c (.c .n))))); skip; all_goals (dsimp only; omega)
        · first | omega | contradiction | (exfalso; simp at *; done)
    · first | omega | contradiction | (exfalso; simp at *; done)
theorem nr1_l {p : P3} : nearL [p] ↔ near1 p := ⟨fun h => h p (by simp), fun h q hq => by rw [List.mem_singleton] at hq; subst hq; exact h⟩
theorem framePath_fun (x y : Int) (q : P3) (l : List P3) (hlen : l.length ≤ 140737488355328) : Fun Tryz.prog 144 [.agg [.lit (.int .i64 x), .lit (.int .i64 y)], .agg (pntC q), .sh 3 (l.map pntC)] (Ret (.tup [.sh 3 ((frV x y q l).map pntC), .lit (.int .i64 (frE x y q l))]) []) := by
  obtain ⟨qa, qb, qc⟩ := q; refine Fun.of (nt := 44) (rs := [.tmp 6, .tmp 7]) Tryz.func144 rfl rfl rfl rfl rfl ?_; refine Ev.sr fun K hK => S.nn (q.bx [_, _] true) (S.nn (q.bx [_, _, _] true) (S.o q.as (S.o q.as (S.end (hK _ ?_))))); clear hK K; refine Ev.seq ?_; refine Ev.block ?_; refine Ev.sr fun K hK => S.o (q.lvA [_, _] am_ag78 am_cl78) (S.c0 (hF := turnValid_fun x y) (h := S.o q.not (S.o q.as (S.end (hK _ ?_))))); clear hK K; refine Ev.cn (fun c1 => ?_) (fun c1 => ?_)
  · first
  | omega | contradiction
  | refine Ev.sr fun K hK => S.o q.as (S.o q.as (S.end (hK _ ?_))); clear hK K; refine Ev.weaken (Wk.nsh pntC 6 3) ?_; refine Ev.ret ?_; refine Ev.ret2 ?_; refine ⟨?_, rfl⟩
    first
     | (rw [(frE1 ‹_›).1, (frE1 ‹_›).2]; done)
     | (rw [(frE4 ‹turnOK x y› (by omega)).1, (frE4 ‹turnOK x y› (by omega)).2]; done)
     | (rw [(frE2 (at_ := (qa, qb, qc)) ‹turnOK x y› (by omega) (fun h => absurd (nr1_l.2 h.1) ‹_›)).1, (frE2 (at_ := (qa, qb, qc)) ‹turnOK x y› (by omega) (fun h => absurd (nr1_l.2 h.1) ‹_›)).2]; done)
     | (rw [(frE2 (at_ := (qa, qb, qc)) ‹turnOK x y› (by omega) (fun h => absurd h.2 ‹_›)).1, (frE2 (at_ := (qa, qb, qc)) ‹turnOK x y› (by omega) (fun h => absurd h.2 ‹_›)).2]; done)
     | (rw [(frE0 (at_ := (qa, qb, qc)) ‹turnOK x y› (by omega) ⟨nr1_l.1 ‹_›, ‹_›⟩).1, (frE0 (at_ := (qa, qb, qc)) ‹turnOK x y› (by omega) ⟨nr1_l.1 ‹_›, ‹_›⟩).2, ← hp]; done)
  · first
  | omega | contradiction
  | refine Ev.sr fun K hK => S.o q.mv (S.o (q.lens am_el146) (S.o q.gtr (S.o q.as (S.end (hK _ ?_))))); clear hK K; refine Ev.cd (fun c2 => ?_) (fun c2 => ?_)
    · first
    | omega | contradiction
    | refine Ev.sr fun K hK => S.o q.as (S.o q.as (S.end (hK _ ?_))); clear hK K; refine Ev.weaken (Wk.nsh pntC 6 3) ?_; refine Ev.ret ?_; refine Ev.ret2 ?_; refine ⟨?_, rfl⟩
      first
       | (rw [(frE1 ‹_›).1, (frE1 ‹_›).2]; done)
       | (rw [(frE4 ‹turnOK x y› (by omega)).1, (frE4 ‹turnOK x y› (by omega)).2]; done)
       | (rw [(frE2 (at_ := (qa, qb, qc)) ‹turnOK x y› (by omega) (fun h => absurd (nr1_l.2 h.1) ‹_›)).1, (frE2 (at_ := (qa, qb, qc)) ‹turnOK x y› (by omega) (fun h => absurd (nr1_l.2 h.1) ‹_›)).2]; done)
       | (rw [(frE2 (at_ := (qa, qb, qc)) ‹turnOK x y› (by omega) (fun h => absurd h.2 ‹_›)).1, (frE2 (at_ := (qa, qb, qc)) ‹turnOK x y› (by omega) (fun h => absurd h.2 ‹_›)).2]; done)
       | (rw [(frE0 (at_ := (qa, qb, qc)) ‹turnOK x y› (by omega) ⟨nr1_l.1 ‹_›, ‹_›⟩).1, (frE0 (at_ := (qa, qb, qc)) ‹turnOK x y› (by omega) ⟨nr1_l.1 ‹_›, ‹_›⟩).2, ← hp]; done)
    · first
    | omega | contradiction
    | refine Ev.sr fun K hK => S.o (q.lvA [_, _, _] am_ag80 am_cl80) (S.nn (q.bs [[_, _, _]] true am_el146 am_ze80 am_cl80) ?_); refine SeqL.weaken (Wk.frzl (f := pntC) [(qa, qb, qc)] 21 [_, _]) ?_; refine S.c0 (hF := near_fun [(qa, qb, qc)] (by simp)) (h := S.o q.not (S.bn q.mv (fun c3 => ?_) (fun c3 => ?_)))
      · first
      | omega | contradiction
      | refine S.sk (S.sk (S.sk (S.o q.pt (S.o q.as (S.end (hK _ ?_)))))); clear hK K; refine Ev.ct ?_; refine Ev.sr fun K hK => S.o q.as (S.o q.as (S.end (hK _ ?_))); clear hK K; refine Ev.weaken (Wk.nsh pntC 6 3) ?_; refine Ev.ret ?_; refine Ev.ret2 ?_; refine ⟨?_, rfl⟩
        first
         | (rw [(frE1 ‹_›).1, (frE1 ‹_›).2]; done)
         | (rw [(frE4 ‹turnOK x y› (by omega)).1, (frE4 ‹turnOK x y› (by omega)).2]; done)
         | (rw [(frE2 (at_ := (qa, qb, qc)) ‹turnOK x y› (by omega) (fun h => absurd (nr1_l.2 h.1) ‹_›)).1, (frE2 (at_ := (qa, qb, qc)) ‹turnOK x y› (by omega) (fun h => absurd (nr1_l.2 h.1) ‹_›)).2]; done)
         | (rw [(frE2 (at_ := (qa, qb, qc)) ‹turnOK x y› (by omega) (fun h => absurd h.2 ‹_›)).1, (frE2 (at_ := (qa, qb, qc)) ‹turnOK x y› (by omega) (fun h => absurd h.2 ‹_›)).2]; done)
         | (rw [(frE0 (at_ := (qa, qb, qc)) ‹turnOK x y› (by omega) ⟨nr1_l.1 ‹_›, ‹_›⟩).1, (frE0 (at_ := (qa, qb, qc)) ‹turnOK x y› (by omega) ⟨nr1_l.1 ‹_›, ‹_›⟩).2, ← hp]; done)
      · first
      | omega | contradiction
      | refine S.o q.mv (S.c0 (hF := near_fun l (by omega)) (h := S.o q.not (S.o q.pf (S.o q.as (S.end (hK _ ?_)))))); clear hK K; refine Ev.cn (fun c4 => ?_) (fun c4 => ?_)
        · first
        | omega | contradiction
        | refine Ev.sr fun K hK => S.o q.as (S.o q.as (S.end (hK _ ?_))); clear hK K; refine Ev.weaken (Wk.nsh pntC 6 3) ?_; refine Ev.ret ?_; refine Ev.ret2 ?_; refine ⟨?_, rfl⟩
          first
           | (rw [(frE1 ‹_›).1, (frE1 ‹_›).2]; done)
           | (rw [(frE4 ‹turnOK x y› (by omega)).1, (frE4 ‹turnOK x y› (by omega)).2]; done)
           | (rw [(frE2 (at_ := (qa, qb, qc)) ‹turnOK x y› (by omega) (fun h => absurd (nr1_l.2 h.1) ‹_›)).1, (frE2 (at_ := (qa, qb, qc)) ‹turnOK x y› (by omega) (fun h => absurd (nr1_l.2 h.1) ‹_›)).2]; done)
           | (rw [(frE2 (at_ := (qa, qb, qc)) ‹turnOK x y› (by omega) (fun h => absurd h.2 ‹_›)).1, (frE2 (at_ := (qa, qb, qc)) ‹turnOK x y› (by omega) (fun h => absurd h.2 ‹_›)).2]; done)
           | (rw [(frE0 (at_ := (qa, qb, qc)) ‹turnOK x y› (by omega) ⟨nr1_l.1 ‹_›, ‹_›⟩).1, (frE0 (at_ := (qa, qb, qc)) ‹turnOK x y› (by omega) ⟨nr1_l.1 ‹_›, ‹_›⟩).2, ← hp]; done)
        · first
        | omega | contradiction
        | refine Ev.skip ?_; show Ev _ _ _ _; refine Ev.sr fun K hK => S.o q.as (S.end (hK _ ?_)); clear hK K; refine Ev.seq ?_; refine Ev.sr fun K hK => S.o q.mv (S.o (q.lens am_el146) (S.o q.mv (S.end (hK _ ?_)))); clear hK K; refine Ev.block ?_; refine Ev.weaken (Wk.nown pntC 8 80 3) ?_; refine Ev.loopU (ι := {p : List ((Int × Int × Int)) × List ((Int × Int × Int)) // p.1 ++ p.2 = l ∧ True}) [3, 0, 1] [3, 4, 6, 7, 29, 30] (fun ⟨(pre, suf), _⟩ => [(31, .lit (.int .i64 ((pre.length : Int)))), (8, .als 0 0 (pre.map (fun p => addP (qa, qb, qc) (imP x y p))).length)]) (fun ⟨(pre, suf), _⟩ => [(0, ⟨true, 80, 3, (pre.map (fun p => addP (qa, qb, qc) (imP x y p))).map pntC, true⟩), (1, ⟨false, 78, 2, [[.lit (.int .i64 (x)), .lit (.int .i64 (y))]], true⟩), (2, ⟨false, 80, 3, [[.lit (.int .i64 (qa)), .lit (.int .i64 (qb)), .lit (.int .i64 (qc))]], true⟩)]) (fun ⟨(pre, suf), _⟩ => suf.length) ⟨([], l), rfl, trivial⟩ (.c (.c (.c (.c (.c (.c .n)))))) (keep_c (he := (by first | rfl | (simp; done))) (h := (keep_c (he := (by first | rfl | (simp; done))) (h := (keep_c (he := (by first | rfl | (simp; done))) (h := keep_n)))))) (slots_c (he := (by first | rfl | (congr 2; simp; done) | (simp; done))) (h := (slots_c (he := (by first | rfl | (congr 2; simp; done) | (simp; done))) (h := trivial)))) ?_; rintro ⟨⟨pre, suf⟩, hp, hinv⟩ R1 hR1
          dsimp only [List.cons_append, List.nil_append, List.length_cons, List.length_nil]
          simp only at hp hinv
          have hpl : pre.length + suf.length = (l).length := by rw [← hp, List.length_append]
          rcases suf with _ | ⟨s, suf⟩
          · rw [List.append_nil] at hp; simp only [List.length_nil] at hpl; refine Ev.sr fun K hK => S.o q.lss (S.end (hK _ ?_)); clear hK K; refine Ev.ud (fun c5 => ?_) (fun c5 => ?_)
            · first | omega | contradiction | (exfalso; simp at *; done)
            · first
            | omega | contradiction
            | refine Ev.exit ?_; refine hR1 _ _ ?_; show Ev _ _ _ _; refine Ev.sr fun K hK => S.o q.mv (S.o q.as (S.o q.as (S.end (hK _ ?_)))); clear hK K; refine Ev.weaken (Wk.frz 6 [_, _]) ?_; refine Ev.ret ?_; refine Ev.ret2 ?_; refine ⟨?_, rfl⟩
              first
               | (rw [(frE1 ‹_›).1, (frE1 ‹_›).2]; done)
               | (rw [(frE4 ‹turnOK x y› (by omega)).1, (frE4 ‹turnOK x y› (by omega)).2]; done)
               | (rw [(frE2 (at_ := (qa, qb, qc)) ‹turnOK x y› (by omega) (fun h => absurd (nr1_l.2 h.1) ‹_›)).1, (frE2 (at_ := (qa, qb, qc)) ‹turnOK x y› (by omega) (fun h => absurd (nr1_l.2 h.1) ‹_›)).2]; done)
               | (rw [(frE2 (at_ := (qa, qb, qc)) ‹turnOK x y› (by omega) (fun h => absurd h.2 ‹_›)).1, (frE2 (at_ := (qa, qb, qc)) ‹turnOK x y› (by omega) (fun h => absurd h.2 ‹_›)).2]; done)
               | (rw [(frE0 (at_ := (qa, qb, qc)) ‹turnOK x y› (by omega) ⟨nr1_l.1 ‹_›, ‹_›⟩).1, (frE0 (at_ := (qa, qb, qc)) ‹turnOK x y› (by omega) ⟨nr1_l.1 ‹_›, ‹_›⟩).2, ← hp]; done)
          · simp only [List.length_cons] at hpl
            have hidx : l[pre.length]? = some s := by rw [← hp]; simp
            obtain ⟨a, b, c⟩ := s; refine Ev.sr fun K hK => S.o q.lss (S.end (hK _ ?_)); clear hK K; refine Ev.ud (fun c6 => ?_) (fun c6 => ?_)
            · first
            | omega | contradiction
            | refine Ev.seq ?_; refine Ev.block ?_; refine Ev.sr fun K hK => S.o (q.ix am_el146 am_cl80 (hl := (by first | exact ati hidx (by omega) | exact atig (by omega)))) (S.o (q.lsA [_, _, _] am_ag80 am_cl80) (S.nn (q.al am_ze80) (S.sv [_, _, _] true [_, _, _] am_in80 am_cl80 (h := S.end (hK _ ?_))))); clear hK K; refine Ev.region_S fun K hK => S.o q.mv (S.o (q.lvA [_, _] am_ag78 am_cl78) (S.o (q.lvA [_, _, _] am_ag80 am_cl80) (S.o (q.lvA [_, _, _] am_ag80 am_cl80) (S.c0 (hF := placed_fun x y (qa, qb, qc) (a, b, c) ‹turnOK x y› (nr1_l.1 ‹nearL [(qa, qb, qc)]›) (‹nearL l› _ (by rw [← hp]; simp))) (h := S.nn (q.bs [[_, _, _]] true am_el146 am_ze80 am_cl80) (S.ap' [_, _, _, _] am_el146 am_ze80 am_cl80 am_by80 (hh := head_own') (hr := (rows_lit [addP (qa, qb, qc) (imP x y (a, b, c))])) (h := S.o q.as (S.end (hK _ ?_))))))))); clear hK K; show Ev _ _ _ _; refine Ev.region_S fun K hK => S.o q.add (S.o q.mv (S.end (hK _ ?_))); clear hK K; refine hR1 _ _ ?_
              refine roundU [5, 1, 2] [3, 4, 6, 7, 29, 30] ⟨(pre ++ [(a, b, c)], suf), by rw [← hp]; simp, trivial⟩ ?_ (keep_c (he := (by first | rfl | (simp; done))) (h := (keep_c (he := (by first | rfl | (simp; done))) (h := (keep_c (he := (by first | rfl | (simp; done))) (h := keep_n)))))) (slots_c (he := (by first | rfl | (congr 2; simp; done) | (simp; done))) (h := (slots_c (he := (by first | rfl | (congr 2; simp; done) | (simp; done))) (h := trivial)))) (.c (.c (.c (.c (.c (.c .n)))))); skip; all_goals (dsimp only; simp only [List.length_cons]; omega)
            · first | omega | contradiction | (exfalso; simp at *; done)
end Go.Proofs.YtkbpignlggahaaaGreatDoor
namespace Go.Proofs.YtkbpignlggahaaaGreatDoor
open Go Go.AM
set_option linter.unusedSimpArgs false
set_option linter.unusedVariables false
set_option maxRecDepth 100000
set_option maxHeartbeats 1000000
theorem mv_x {b : Bar} {p : P3} {s : Int × Int} (h : s.2 = 120) : movP b p s = (p.1 + dimAt b s.1.toNat, p.2.1, p.2.2) := if_pos h
theorem mv_X {b : Bar} {p : P3} {s : Int × Int} (h : s.2 = 88) : movP b p s = (p.1 - dimAt b s.1.toNat, p.2.1, p.2.2) := (if_neg (by omega)).trans (if_pos h)
theorem mv_y {b : Bar} {p : P3} {s : Int × Int} (h : s.2 = 121) : movP b p s = (p.1, p.2.1 + dimAt b s.1.toNat, p.2.2) := (if_neg (by omega)).trans ((if_neg (by omega)).trans (if_pos h))
theorem mv_Y {b : Bar} {p : P3} {s : Int × Int} (h : s.2 = 89) : movP b p s = (p.1, p.2.1 - dimAt b s.1.toNat, p.2.2) := (if_neg (by omega)).trans ((if_neg (by omega)).trans ((if_neg (by omega)).trans (if_pos h)))
theorem mv_z {b : Bar} {p : P3} {s : Int × Int} (h : s.2 = 122) : movP b p s = (p.1, p.2.1, p.2.2 + dimAt b s.1.toNat) := (if_neg (by omega)).trans ((if_neg (by omega)).trans ((if_neg (by omega)).trans ((if_neg (by omega)).trans (if_pos h))))
theorem way_of {k : Int} {s : Int × Int} (h : s ∈ legsL k) : s.2 = 120 ∨ s.2 = 88 ∨ s.2 = 121 ∨ s.2 = 89 ∨ s.2 = 122 := by
  rcases codes k with e | e | e | e | e | e | e | e | e
  iterate 8
    · rw [e] at h
      revert h s
      decide
  · rw [(legsL_none e).1] at h; cases h
theorem path_row {b : Bar} {pre : List (Int × Int)} {s : Int × Int} {x y z : Int} (e : movP b (endG b pre) s = (x, y, z)) : (pathG b pre (0, 0, 0) ++ [(x, y, z)]).map pntC = (pathG b (pre ++ [s]) (0, 0, 0)).map pntC := by
  rw [pathG_snoc, show pre.foldl (movP b) (0, 0, 0) = endG b pre from rfl, e]
theorem path_alen {b : Bar} {pre : List (Int × Int)} {s : Int × Int} {q p : P3} : (pathG b pre p ++ [q]).length = (pathG b (pre ++ [s]) p).length := by
  rw [pathG_len, List.length_append, pathG_len]
  simp
theorem end_row {b : Bar} {pre : List (Int × Int)} {s : Int × Int} {x y z : Int} (e : movP b (endG b pre) s = (x, y, z)) : [[AV.lit (.int .i64 x), .lit (.int .i64 y), .lit (.int .i64 z)]] = [[.lit (.int .i64 (endG b (pre ++ [s])).1), .lit (.int .i64 (endG b (pre ++ [s])).2.1), .lit (.int .i64 (endG b (pre ++ [s])).2.2)]] := by
  rw [endG_snoc, e]
theorem end_bd {b : Bar} (h : okBar b) : ∀ pre : List (Int × Int), (∀ s ∈ pre, s ∈ legsL b.code) → (-262144 * (pre.length : Int) ≤ (endG b pre).1 ∧ (endG b pre).1 ≤ 262144 * pre.length) ∧ (-262144 * (pre.length : Int) ≤ (endG b pre).2.1 ∧ (endG b pre).2.1 ≤ 262144 * pre.length) ∧ -262144 * (pre.length : Int) ≤ (endG b pre).2.2 ∧ (endG b pre).2.2 ≤ 262144 * pre.length := by
  refine snoc_ind (fun _ => by simp [endG]) ?_; intro pre s ih hs; have h1 := ih fun t ht => hs t (by simp [ht]); have h2 := hs s (by simp); have hlb := leg_bd b.code s h2; obtain ⟨_, d1, d2⟩ := dim_in h (i := s.1.toNat) (by omega); rw [endG_snoc, List.length_append, List.length_singleton]
  rcases way_of h2 with e | e | e | e | e
  · rw [mv_x e]; dsimp only; omega
  · rw [mv_X e]; dsimp only; omega
  · rw [mv_y e]; dsimp only; omega
  · rw [mv_Y e]; dsimp only; omega
  · rw [mv_z e]; dsimp only; omega
theorem shapePath_fun (b : Bar) (hw : b.w) : Fun Tryz.prog 143 [.agg b.c] (Ret (.tup [.sh 3 ((shpV b).map pntC), .lit (.int .i64 (okE b))]) []) := by
  obtain ⟨hw1, hw2⟩ := id hw; obtain ⟨d1, d2, d3, d4⟩ := dims_eq b.code; refine Fun.of (nt := 71) (rs := [.tmp 2, .tmp 3]) Tryz.func143 rfl rfl rfl rfl rfl ?_; refine Ev.sr fun K hK => S.nn (q.bx [_, _, _, _, _] true) (S.o q.as (S.o q.as (S.end (hK _ ?_)))); clear hK K; refine Ev.seq ?_; refine Ev.sr fun K hK => S.o (q.lvA [_, _, _, _, _] am_ag72 am_cl72) (S.c0 (hF := valid_fun _ (by assumption)) (h := S.o q.not (S.end (hK _ ?_)))); clear hK K; refine Ev.cn (fun c1 => ?_) (fun c1 => ?_)
  · first
  | omega | contradiction
  | refine Ev.sr fun K hK => S.o q.as (S.o q.as (S.end (hK _ ?_))); clear hK K; refine Ev.weaken (Wk.nsh pntC 2 3) ?_; refine Ev.ret ?_; refine Ev.ret2 ?_; refine ⟨?_, rfl⟩
    first
     | (rw [shpV, okE, if_neg ‹_›, if_neg ‹_›]; done)
     | (rw [shpV, okE, if_pos ‹_›, if_pos ‹_›, pathOf, ← hp]; done)
  · first
  | omega | contradiction
  | refine Ev.skip ?_; show Ev _ _ _ _; refine Ev.sr fun K hK => S.nn (q.al am_ze80) (S.end (hK _ ?_)); clear hK K; refine Ev.sr fun K hK => S.o (q.lvA [_, _, _] am_ag80 am_cl80) (S.nn (q.bs [[_, _, _]] true am_el146 am_ze80 am_cl80) (S.o q.as (S.end (hK _ ?_)))); clear hK K; refine Ev.seq ?_; refine Ev.sr fun K hK => S.o (q.fa 3 am_fi72_3 am_cl3) (S.o (q.lv am_ag3) (S.c0 (hF := legs_fun _) (h := S.o (q.lens am_el193) (S.o q.mv (S.end (hK _ ?_)))))); clear hK K; refine Ev.block ?_
    refine Ev.loopU (ι := {p : List (Int × Int) × List (Int × Int) // p.1 ++ p.2 = (legsL b.code) ∧ True}) [0, 2, 1] [1, 2, 3, 4, 16, 17] (fun ⟨(pre, suf), _⟩ => [(18, .lit (.int .i64 ((pre.length : Int)))), (5, .als 1 0 (pathG b pre (0, 0, 0)).length)]) (fun ⟨(pre, suf), _⟩ => [(0, ⟨false, 72, 5, [[.lit (str (b.mark)), .lit (.int .i64 (b.size)), .lit (.int .i64 (b.count)), .lit (.int .i64 (b.code)), .sh 1 ((b.dims).map intC)]], true⟩), (1, ⟨true, 80, 3, (pathG b pre (0, 0, 0)).map pntC, true⟩), (2, ⟨false, 80, 3, [[.lit (.int .i64 ((endG b pre).1)), .lit (.int .i64 ((endG b pre).2.1)), .lit (.int .i64 ((endG b pre).2.2))]], true⟩)]) (fun ⟨(pre, suf), _⟩ => suf.length) ⟨([], (legsL b.code)), rfl, trivial⟩ (.c (.c (.c (.c (.c (.c .n)))))) (keep_c (he := rfl) (h := (keep_c (he := (by first | exact path_row (mv_x ‹_›) | exact path_row (mv_X ‹_›) | exact path_row (mv_y ‹_›) | exact path_row (mv_Y ‹_›) | exact path_row (mv_z ‹_›) | rfl)) (h := (keep_c (he := (by first | exact end_row (mv_x ‹_›) | exact end_row (mv_X ‹_›) | exact end_row (mv_y ‹_›) | exact end_row (mv_Y ‹_›) | exact end_row (mv_z ‹_›) | rfl)) (h := keep_n)))))) (slots_c (he := (by first | rfl | (congr 2; simp; done))) (h := (slots_c (he := (by first | rfl | exact congrArg (fun k => AV.als 1 0 k) path_alen)) (h := trivial)))) ?_; rintro ⟨⟨pre, suf⟩, hp, hinv⟩ R0 hR0
    dsimp only [List.cons_append, List.nil_append, List.length_cons, List.length_nil]
    simp only at hp hinv
    have hpl : pre.length + suf.length = ((legsL b.code)).length := by rw [← hp, List.length_append]
    rcases suf with _ | ⟨s, suf⟩
    · rw [List.append_nil] at hp; simp only [List.length_nil] at hpl; refine Ev.sr fun K hK => S.o q.lss (S.end (hK _ ?_)); clear hK K; refine Ev.ud (fun c2 => ?_) (fun c2 => ?_)
      · first | omega | contradiction | (exfalso; simp at *; done)
      · first
      | omega | contradiction
      | refine Ev.exit ?_; refine hR0 _ _ ?_; show Ev _ _ _ _; refine Ev.sr fun K hK => S.o q.mv (S.o q.as (S.o q.as (S.end (hK _ ?_)))); clear hK K; refine Ev.weaken (Wk.frz 2 [_, _]) ?_; refine Ev.ret ?_; refine Ev.ret2 ?_; refine ⟨?_, rfl⟩
        first
         | (rw [shpV, okE, if_neg ‹_›, if_neg ‹_›]; done)
         | (rw [shpV, okE, if_pos ‹_›, if_pos ‹_›, pathOf, ← hp]; done)
    · simp only [List.length_cons] at hpl
      have hidx : (legsL b.code)[pre.length]? = some s := by rw [← hp]; simp
      have hsm : s ∈ legsL b.code := by rw [← hp]; simp
      have hlb := leg_bd b.code s hsm; have hwy := way_of hsm; obtain ⟨hdi, hd1, hd2⟩ := dim_in ‹okBar b› (i := s.1.toNat) (by omega); have heb := end_bd ‹okBar b› pre (fun t ht => by rw [← hp]; simp [ht]); have hpl6 := pathG_len b pre (0, 0, 0); refine Ev.sr fun K hK => S.o q.lss (S.end (hK _ ?_)); clear hK K; refine Ev.ud (fun c3 => ?_) (fun c3 => ?_)
      · first
      | omega | contradiction
      | refine Ev.seq ?_; refine Ev.block ?_; refine Ev.sr fun K hK => S.o (q.ix am_el193 am_cl196 (hl := (by first | exact ati hidx (by omega) | exact ati hdi (by omega) | exact atig (by omega)))) (S.o (q.lsA [_, _] am_ag196 am_cl196) (S.nn (q.al am_ze196) (S.sv [_, _] true [_, _, _] am_in196 am_cl196 (h := S.end (hK _ ?_))))); clear hK K; refine Ev.sr fun K hK => S.o (q.fa 4 am_fi72_4 am_cl66) (S.o (q.lv am_ag66) (S.o (q.fa 0 am_fi196_0 am_cl3) (S.o (q.lv am_ag3) (S.o (q.ix am_el66 am_cl3 (hl := (by first | exact ati hidx (by omega) | exact ati hdi (by omega) | exact atig (by omega)))) (S.o (q.ls am_ag3) (S.o q.as (S.end (hK _ ?_)))))))); clear hK K; refine Ev.seq ?_; refine Ev.sr fun K hK => S.o (q.fa 1 am_fi196_1 am_cl5) (S.o (q.lv am_ag5) (S.end (hK _ ?_))); clear hK K; refine Ev.block ?_; refine Ev.sr fun K hK => S.o q.eql (S.o q.as (S.end (hK _ ?_))); clear hK K; refine Ev.cd (fun c4 => ?_) (fun c4 => ?_)
        · first
        | omega | contradiction
        | refine Ev.region_S fun K hK => S.o (q.fa 0 am_fi80_0 am_cl3) (S.o (q.lv am_ag3) (S.o q.mv (S.o q.add (S.o (q.fa 0 am_fi80_0 am_cl3) (S.sv [_, _, _] true [_, _, _] am_in3 am_cl3 (h := S.end (hK _ ?_))))))); clear hK K; show Ev _ _ _ _; refine Ev.region_S fun K hK => S.o q.mv (S.o (q.lvA [_, _, _] am_ag80 am_cl80) (S.nn (q.bs [[_, _, _]] true am_el146 am_ze80 am_cl80) (S.ap' [_, _, _, _] am_el146 am_ze80 am_cl80 am_by80 (hh := head_own') (hr := (rows_lit [(⟨_, _, _⟩ : Int × Int × Int)])) (h := S.o q.as (S.end (hK _ ?_)))))); clear hK K; show Ev _ _ _ _; refine Ev.region_S fun K hK => S.o q.add (S.o q.mv (S.end (hK _ ?_))); clear hK K; refine hR0 _ _ ?_; refine roundU [0, 5, 2] [1, 2, 3, 4, 16, 17] ⟨(pre ++ [s], suf), by rw [← hp]; simp, trivial⟩ ?_ (keep_c (he := rfl) (h := (keep_c (he := (by first | exact path_row (mv_x ‹_›) | exact path_row (mv_X ‹_›) | exact path_row (mv_y ‹_›) | exact path_row (mv_Y ‹_›) | exact path_row (mv_z ‹_›) | rfl)) (h := (keep_c (he := (by first | exact end_row (mv_x ‹_›) | exact end_row (mv_X ‹_›) | exact end_row (mv_y ‹_›) | exact end_row (mv_Y ‹_›) | exact end_row (mv_z ‹_›) | rfl)) (h := keep_n)))))) (slots_c (he := (by first | rfl | (congr 2; simp; done))) (h := (slots_c (he := (by first | rfl | exact congrArg (fun k => AV.als 1 0 k) path_alen)) (h := trivial)))) (.c (.c (.c (.c (.c (.c .n)))))); skip
          all_goals (dsimp only; simp only [List.length_cons]; omega)
        · first
        | omega | contradiction
        | refine Ev.sr fun K hK => S.o q.eql (S.o q.as (S.end (hK _ ?_))); clear hK K; refine Ev.cd (fun c5 => ?_) (fun c5 => ?_)
          · first
          | omega | contradiction
          | refine Ev.region_S fun K hK => S.o (q.fa 0 am_fi80_0 am_cl3) (S.o (q.lv am_ag3) (S.o q.mv (S.o q.sub (S.o (q.fa 0 am_fi80_0 am_cl3) (S.sv [_, _, _] true [_, _, _] am_in3 am_cl3 (h := S.end (hK _ ?_))))))); clear hK K; show Ev _ _ _ _; refine Ev.region_S fun K hK => S.o q.mv (S.o (q.lvA [_, _, _] am_ag80 am_cl80) (S.nn (q.bs [[_, _, _]] true am_el146 am_ze80 am_cl80) (S.ap' [_, _, _, _] am_el146 am_ze80 am_cl80 am_by80 (hh := head_own') (hr := (rows_lit [(⟨_, _, _⟩ : Int × Int × Int)])) (h := S.o q.as (S.end (hK _ ?_)))))); clear hK K; show Ev _ _ _ _; refine Ev.region_S fun K hK => S.o q.add (S.o q.mv (S.end (hK _ ?_))); clear hK K; refine hR0 _ _ ?_; refine roundU [0, 5, 2] [1, 2, 3, 4, 16, 17] ⟨(pre ++ [s], suf), by rw [← hp]; simp, trivial⟩ ?_ (keep_c (he := rfl) (h := (keep_c (he := (by first | exact path_row (mv_x ‹_›) | exact path_row (mv_X ‹_›) | exact path_row (mv_y ‹_›) | exact path_row (mv_Y ‹_›) | exact path_row (mv_z ‹_›) | rfl)) (h := (keep_c (he := (by first | exact end_row (mv_x ‹_›) | exact end_row (mv_X ‹_›) | exact end_row (mv_y ‹_›) | exact end_row (mv_Y ‹_›) | exact end_row (mv_z ‹_›) | rfl)) (h := keep_n)))))) (slots_c (he := (by first | rfl | (congr 2; simp; done))) (h := (slots_c (he := (by first | rfl | exact congrArg (fun k => AV.als 1 0 k) path_alen)) (h := trivial)))) (.c (.c (.c (.c (.c (.c .n)))))); skip
            all_goals (dsimp only; simp only [List.length_cons]; omega)
          · first
          | omega | contradiction
          | refine Ev.sr fun K hK => S.o q.eql (S.o q.as (S.end (hK _ ?_))); clear hK K; refine Ev.cd (fun c6 => ?_) (fun c6 => ?_)
            · first
            | omega | contradiction
            | refine Ev.region_S fun K hK => S.o (q.fa 1 am_fi80_1 am_cl3) (S.o (q.lv am_ag3) (S.o q.mv (S.o q.add (S.o (q.fa 1 am_fi80_1 am_cl3) (S.sv [_, _, _] true [_, _, _] am_in3 am_cl3 (h := S.end (hK _ ?_))))))); clear hK K; show Ev _ _ _ _; refine Ev.region_S fun K hK => S.o q.mv (S.o (q.lvA [_, _, _] am_ag80 am_cl80) (S.nn (q.bs [[_, _, _]] true am_el146 am_ze80 am_cl80) (S.ap' [_, _, _, _] am_el146 am_ze80 am_cl80 am_by80 (hh := head_own') (hr := (rows_lit [(⟨_, _, _⟩ : Int × Int × Int)])) (h := S.o q.as (S.end (hK _ ?_)))))); clear hK K; show Ev _ _ _ _; refine Ev.region_S fun K hK => S.o q.add (S.o q.mv (S.end (hK _ ?_))); clear hK K; refine hR0 _ _ ?_; refine roundU [0, 5, 2] [1, 2, 3, 4, 16, 17] ⟨(pre ++ [s], suf), by rw [← hp]; simp, trivial⟩ ?_ (keep_c (he := rfl) (h := (keep_c (he := (by first | exact path_row (mv_x ‹_›) | exact path_row (mv_X ‹_›) | exact path_row (mv_y ‹_›) | exact path_row (mv_Y ‹_›) | exact path_row (mv_z ‹_›) | rfl)) (h := (keep_c (he := (by first | exact end_row (mv_x ‹_›) | exact end_row (mv_X ‹_›) | exact end_row (mv_y ‹_›) | exact end_row (mv_Y ‹_›) | exact end_row (mv_z ‹_›) | rfl)) (h := keep_n)))))) (slots_c (he := (by first | rfl | (congr 2; simp; done))) (h := (slots_c (he := (by first | rfl | exact congrArg (fun k => AV.als 1 0 k) path_alen)) (h := trivial)))) (.c (.c (.c (.c (.c (.c .n)))))); skip
              all_goals (dsimp only; simp only [List.length_cons]; omega)
            · first
            | omega | contradiction
            | refine Ev.sr fun K hK => S.o q.eql (S.o q.as (S.end (hK _ ?_))); clear hK K; refine Ev.cd (fun c7 => ?_) (fun c7 => ?_)
              · first
              | omega | contradiction
              | refine Ev.region_S fun K hK => S.o (q.fa 1 am_fi80_1 am_cl3) (S.o (q.lv am_ag3) (S.o q.mv (S.o q.sub (S.o (q.fa 1 am_fi80_1 am_cl3) (S.sv [_, _, _] true [_, _, _] am_in3 am_cl3 (h := S.end (hK _ ?_))))))); clear hK K; show Ev _ _ _ _; refine Ev.region_S fun K hK => S.o q.mv (S.o (q.lvA [_, _, _] am_ag80 am_cl80) (S.nn (q.bs [[_, _, _]] true am_el146 am_ze80 am_cl80) (S.ap' [_, _, _, _] am_el146 am_ze80 am_cl80 am_by80 (hh := head_own') (hr := (rows_lit [(⟨_, _, _⟩ : Int × Int × Int)])) (h := S.o q.as (S.end (hK _ ?_)))))); clear hK K; show Ev _ _ _ _; refine Ev.region_S fun K hK => S.o q.add (S.o q.mv (S.end (hK _ ?_))); clear hK K; refine hR0 _ _ ?_; refine roundU [0, 5, 2] [1, 2, 3, 4, 16, 17] ⟨(pre ++ [s], suf), by rw [← hp]; simp, trivial⟩ ?_ (keep_c (he := rfl) (h := (keep_c (he := (by first | exact path_row (mv_x ‹_›) | exact path_row (mv_X ‹_›) | exact path_row (mv_y ‹_›) | exact path_row (mv_Y ‹_›) | exact path_row (mv_z ‹_›) | rfl)) (h := (keep_c (he := (by first | exact end_row (mv_x ‹_›) | exact end_row (mv_X ‹_›) | exact end_row (mv_y ‹_›) | exact end_row (mv_Y ‹_›) | exact end_row (mv_z ‹_›) | rfl)) (h := keep_n)))))) (slots_c (he := (by first | rfl | (congr 2; simp; done))) (h := (slots_c (he := (by first | rfl | exact congrArg (fun k => AV.als 1 0 k) path_alen)) (h := trivial)))) (.c (.c (.c (.c (.c (.c .n)))))); skip
                all_goals (dsimp only; simp only [List.length_cons]; omega)
              · first
              | omega | contradiction
              | refine Ev.sr fun K hK => S.o q.eql (S.o q.as (S.end (hK _ ?_))); clear hK K; refine Ev.cd (fun c8 => ?_) (fun c8 => ?_)
                · first
                | omega | contradiction
                | refine Ev.region_S fun K hK => S.o (q.fa 2 am_fi80_2 am_cl3) (S.o (q.lv am_ag3) (S.o q.mv (S.o q.add (S.o (q.fa 2 am_fi80_2 am_cl3) (S.sv [_, _, _] true [_, _, _] am_in3 am_cl3 (h := S.end (hK _ ?_))))))); clear hK K; show Ev _ _ _ _; refine Ev.region_S fun K hK => S.o q.mv (S.o (q.lvA [_, _, _] am_ag80 am_cl80) (S.nn (q.bs [[_, _, _]] true am_el146 am_ze80 am_cl80) (S.ap' [_, _, _, _] am_el146 am_ze80 am_cl80 am_by80 (hh := head_own') (hr := (rows_lit [(⟨_, _, _⟩ : Int × Int × Int)])) (h := S.o q.as (S.end (hK _ ?_)))))); clear hK K; show Ev _ _ _ _; refine Ev.region_S fun K hK => S.o q.add (S.o q.mv (S.end (hK _ ?_))); clear hK K; refine hR0 _ _ ?_; refine roundU [0, 5, 2] [1, 2, 3, 4, 16, 17] ⟨(pre ++ [s], suf), by rw [← hp]; simp, trivial⟩ ?_ (keep_c (he := rfl) (h := (keep_c (he := (by first | exact path_row (mv_x ‹_›) | exact path_row (mv_X ‹_›) | exact path_row (mv_y ‹_›) | exact path_row (mv_Y ‹_›) | exact path_row (mv_z ‹_›) | rfl)) (h := (keep_c (he := (by first | exact end_row (mv_x ‹_›) | exact end_row (mv_X ‹_›) | exact end_row (mv_y ‹_›) | exact end_row (mv_Y ‹_›) | exact end_row (mv_z ‹_›) | rfl)) (h := keep_n)))))) (slots_c (he := (by first | rfl | (congr 2; simp; done))) (h := (slots_c (he := (by first | rfl | exact congrArg (fun k => AV.als 1 0 k) path_alen)) (h := trivial)))) (.c (.c (.c (.c (.c (.c .n)))))); skip
                  all_goals (dsimp only; simp only [List.length_cons]; omega)
                · first
                | omega | contradiction
                | refine Ev.skip ?_; show Ev _ _ _ _; refine Ev.region_S fun K hK => S.o q.mv (S.o (q.lvA [_, _, _] am_ag80 am_cl80) (S.nn (q.bs [[_, _, _]] true am_el146 am_ze80 am_cl80) (S.ap' [_, _, _, _] am_el146 am_ze80 am_cl80 am_by80 (hh := head_own') (hr := (rows_lit [(⟨_, _, _⟩ : Int × Int × Int)])) (h := S.o q.as (S.end (hK _ ?_)))))); clear hK K; show Ev _ _ _ _; refine Ev.region_S fun K hK => S.o q.add (S.o q.mv (S.end (hK _ ?_))); clear hK K; refine hR0 _ _ ?_; refine roundU [0, 5, 2] [1, 2, 3, 4, 16, 17] ⟨(pre ++ [s], suf), by rw [← hp]; simp, trivial⟩ ?_ (keep_c (he := rfl) (h := (keep_c (he := (by first | exact path_row (mv_x ‹_›) | exact path_row (mv_X ‹_›) | exact path_row (mv_y ‹_›) | exact path_row (mv_Y ‹_›) | exact path_row (mv_z ‹_›) | rfl)) (h := (keep_c (he := (by first | exact end_row (mv_x ‹_›) | exact end_row (mv_X ‹_›) | exact end_row (mv_y ‹_›) | exact end_row (mv_Y ‹_›) | exact end_row (mv_z ‹_›) | rfl)) (h := keep_n)))))) (slots_c (he := (by first | rfl | (congr 2; simp; done))) (h := (slots_c (he := (by first | rfl | exact congrArg (fun k => AV.als 1 0 k) path_alen)) (h := trivial)))) (.c (.c (.c (.c (.c (.c .n)))))); skip; all_goals (dsimp only; simp only [List.length_cons]; omega)
      · first | omega | contradiction | (exfalso; simp at *; done)
end Go.Proofs.YtkbpignlggahaaaGreatDoor
namespace Go.Proofs.YtkbpignlggahaaaGreatDoor
open Go Go.AM
set_option linter.unusedSimpArgs false
set_option linter.unusedVariables false
set_option maxRecDepth 100000
set_option maxHeartbeats 1000000
theorem isPlace_fun (p : P3) (m : Int) (hm : 0 ≤ m ∧ m ≤ 1000000000) : Fun Tryz.prog 97 [.agg (pntC p), .lit (.int .i64 m)] (Ret (.lit (.bool (decide (isPl p m)))) []) := by
  obtain ⟨a, b, c⟩ := p; refine Fun.of (nt := 26) (rs := [.tmp 4]) Tryz.func97 rfl rfl rfl rfl rfl ?_; refine Ev.sr fun K hK => S.nn (q.bx [_, _, _] true) (S.o q.as (S.end (hK _ ?_))); clear hK K; refine Ev.sr fun K hK => S.o (q.fa 0 am_fi80_0 am_cl3) (S.o (q.lv am_ag3) (S.o (q.fa 1 am_fi80_1 am_cl3) (S.o (q.lv am_ag3) (S.o (q.fa 2 am_fi80_2 am_cl3) (S.o (q.lv am_ag3) (S.o q.min3 (S.o q.mv (S.o q.neg (S.o q.geq (S.bd q.mv (fun c1 => ?_) (fun c1 => ?_)))))))))))
  · first
  | omega | contradiction
  | refine S.o (q.fa 0 am_fi80_0 am_cl3) (S.o (q.lv am_ag3) (S.o (q.fa 1 am_fi80_1 am_cl3) (S.o (q.lv am_ag3) (S.o (q.fa 2 am_fi80_2 am_cl3) (S.o (q.lv am_ag3) (S.o q.max3 (S.o q.mv (S.o q.leq (S.o q.pt (S.o q.as (S.end (hK _ ?_)))))))))))); clear hK K; refine Ev.ret ?_; refine Ev.ret1 ?_; refine ⟨?_, rfl⟩
    first | exact bF (fun h => by unfold isPl at h; dsimp only at h; omega) | exact dI ⟨fun h => by unfold isPl; dsimp only; omega, fun h => by unfold isPl at h; dsimp only at h; omega⟩
  · first
  | omega | contradiction
  | refine S.sk (S.sk (S.sk (S.sk (S.sk (S.sk (S.sk (S.sk (S.sk (S.o q.pf (S.o q.as (S.end (hK _ ?_)))))))))))); clear hK K; refine Ev.ret ?_; refine Ev.ret1 ?_; refine ⟨?_, rfl⟩
    first | exact bF (fun h => by unfold isPl at h; dsimp only at h; omega) | exact dI ⟨fun h => by unfold isPl; dsimp only; omega, fun h => by unfold isPl at h; dsimp only at h; omega⟩
theorem plus_fun (p q : P3) (k : Int) (hp : isPl p 100000000) (hq : isPl q 2097152) (hk : 0 ≤ k ∧ k ≤ 1000) : Fun Tryz.prog 99 [.agg (pntC p), .agg (pntC q), .lit (.int .i64 k)] (Ret (.agg (pntC (plusP p q k))) []) := by
  obtain ⟨a, b, c⟩ := p; obtain ⟨d, e, f⟩ := q
  unfold isPl at hp hq
  dsimp only at hp hq
  have m1 := mulB (a := k) (b := d) (A := 1000) (B := 2097152) (by omega) hq.1; have m2 := mulB (a := k) (b := e) (A := 1000) (B := 2097152) (by omega) hq.2.1; have m3 := mulB (a := k) (b := f) (A := 1000) (B := 2097152) (by omega) hq.2.2; refine Fun.of (nt := 29) (rs := [.cell 6 80]) Tryz.func99 rfl rfl rfl rfl rfl ?_; refine Ev.sr fun K hK => S.nn (q.bx [_, _, _] true) (S.nn (q.bx [_, _, _] true) (S.nn (q.al am_ze80) (S.end (hK _ ?_)))); clear hK K; refine Ev.sr fun K hK => S.o (q.fa 0 am_fi80_0 am_cl3) (S.o (q.lv am_ag3) (S.o q.mv (S.o (q.fa 0 am_fi80_0 am_cl3) (S.o (q.lv am_ag3) (S.o q.mul (S.o q.add (S.o (q.fa 1 am_fi80_1 am_cl3) (S.o (q.lv am_ag3) (S.o q.mv (S.o (q.fa 1 am_fi80_1 am_cl3) (S.o (q.lv am_ag3) (S.o q.mul (S.o q.add (S.o (q.fa 2 am_fi80_2 am_cl3) (S.o (q.lv am_ag3) (S.o q.mv (S.o (q.fa 2 am_fi80_2 am_cl3) (S.o (q.lv am_ag3) (S.o q.mul (S.o q.add (S.o (q.bd [_, _, _] am_ze80 am_pl80) (S.sv [_, _, _] true [_, _] am_in80 am_cl80 (h := S.end (hK _ ?_)))))))))))))))))))))))); clear hK K; refine Ev.ret ?_; refine Ev.retv1 (res_c [_, _, _] am_ag80 am_cl80 res_n) ?_; refine ⟨?_, rfl⟩; rfl
theorem find1_fun (mk : List UInt8) (b : Bar) : Fun Tryz.prog 152 [.agg b.c, .sadr [.lit (str mk)] 0] (Ret (.lit (.bool (decide (b.mark = mk)))) []) := by
  refine Fun.of (nt := 8) (rs := [.tmp 3]) Tryz.func152 rfl rfl rfl rfl rfl ?_; refine Ev.sr fun K hK => S.nn (q.bx [_, _, _, _, _] true) (S.o q.as (S.end (hK _ ?_))); clear hK K; refine Ev.sr fun K hK => S.o (q.fa 0 am_fi72_0 am_cl9) (S.o (q.lv am_ag9) (S.o (q.ls am_ag9) (S.o q.seqs (S.o q.as (S.end (hK _ ?_)))))); clear hK K; refine Ev.ret ?_; refine Ev.ret1 ?_; refine ⟨?_, rfl⟩; rfl
theorem laidFind_fun (l : List Bar) (mk : List UInt8) (hlen : l.length ≤ 140737488355328) : Fun Tryz.prog 95 [.sh 5 (l.map Bar.c), .lit (str mk)] (Ret (.lit (.int .i64 (markI l mk))) []) := by
  refine Fun.of (nt := 8) (rs := [.tmp 4]) Tryz.func95 rfl rfl rfl rfl rfl ?_; refine Ev.sr fun K hK => S.nn (q.bx [_] true) (S.o q.as (S.end (hK _ ?_))); clear hK K; refine Ev.sr fun K hK => S.o q.mv (S.o q.mf (S.c0 (hF := indexFuncBar1 _ _ _ (find1_fun mk) l (by omega)) (h := S.o q.as (S.end (hK _ ?_))))); clear hK K; refine Ev.ret ?_; refine Ev.ret1 ?_; refine ⟨?_, rfl⟩; rfl
theorem markI_bd (l : List Bar) (mk : List UInt8) : -1 ≤ markI l mk ∧ markI l mk < (l.length : Int) := by
  have : ∀ (l : List Bar) (k : Int), 0 ≤ k → -1 ≤ idxP (fun b : Bar => decide (b.mark = mk)) l k ∧ idxP (fun b : Bar => decide (b.mark = mk)) l k < k + (l.length : Int) ∨ idxP (fun b : Bar => decide (b.mark = mk)) l k = -1 := by
    intro l
    induction l with
    | nil => intro k hk; exact .inr rfl
    | cons x l ih =>
      intro k hk; rw [idxP]
      split
      · left; simp only [List.length_cons]; omega
      · rcases ih (k + 1) (by omega) with h | h
        · left; simp only [List.length_cons]; omega
        · exact .inr h
  rcases this l 0 (by omega) with h | h
  · unfold markI; omega
  · unfold markI; omega
theorem line_get {l : List Bar} {mk : List UInt8} (h : 0 ≤ markI l mk) : l[(markI l mk).toNat]? = some (lineOf l mk) := by
  have h1 := markI_bd l mk; have e : l[(markI l mk).toNat]? = some (l[(markI l mk).toNat]'(by omega)) := List.getElem?_eq_getElem _; rw [lineOf, e]; rfl
theorem line_mem {l : List Bar} {mk : List UInt8} (h : 0 ≤ markI l mk) : lineOf l mk ∈ l := List.mem_of_getElem? (line_get h)
theorem turned_fun (bars : List Bar) (r : Rn) (hlen : bars.length ≤ 140737488355328) (hw : schedW bars) (h : 0 ≤ markI bars r.mark) : Fun Tryz.prog 98 [.sh 5 (bars.map Bar.c), .agg r.c] (Ret (.sh 3 ((turnedV bars r).map pntC)) []) := by
  have hmb := markI_bd bars r.mark; have hlg := line_get h; have hwl := hw _ (line_mem h); have hsl := shpV_len (lineOf bars r.mark); refine Fun.of (nt := 29) (rs := [.tmp 4]) Tryz.func98 rfl rfl rfl rfl rfl ?_; refine Ev.sr fun K hK => S.nn (q.bx [_, _, _, _, _, _, _, _, _, _] true) (S.o q.as (S.end (hK _ ?_))); clear hK K; refine Ev.sr fun K hK => S.o q.mv (S.o q.mv (S.o (q.fa 0 am_fi82_0 am_cl9) (S.o (q.lv am_ag9) (S.c0 (hF := laidFind_fun bars r.mark hlen) (h := S.o (q.ix am_el27 am_cl72 (hl := (by first | exact ati hlg (by omega) | exact atig (by omega)))) (S.o (q.lsA [_, _, _, _, _] am_ag72 am_cl72) (S.c0 (hF := shapePath_fun (lineOf bars r.mark) hwl) (h := S.o q.mv (S.o q.ex (S.o q.ex (S.o q.as (S.o q.as (S.end (hK _ ?_)))))))))))))); clear hK K; refine Ev.sr fun K hK => S.o (q.fa 1 am_fi82_1 am_cl78) (S.o (q.lvA [_, _] am_ag78 am_cl78) (S.o (q.bd [_, _, _] am_ze80 am_pl80) (S.o q.mv (S.c0 (hF := framePath_fun r.tx r.ty (0, 0, 0) (shpV (lineOf bars r.mark)) (by omega)) (h := S.o q.mv (S.o q.ex (S.o q.ex (S.o q.as (S.o q.as (S.end (hK _ ?_))))))))))); clear hK K; refine Ev.sr fun K hK => S.o q.mv (S.o q.as (S.end (hK _ ?_))); clear hK K; refine Ev.ret ?_; refine Ev.ret1 ?_; refine ⟨?_, rfl⟩; rfl
end Go.Proofs.YtkbpignlggahaaaGreatDoor
