/-
  Main legs, walked.
  Conditions: none.
-/
import Derived.Test.YtkbpignlggahaaaGreatDoorLp6
namespace Go.Proofs.YtkbpignlggahaaaGreatDoor
open Go Go.AM
set_option linter.unusedSimpArgs false
set_option linter.unusedVariables false
set_option maxRecDepth 100000
set_option maxHeartbeats 1000000
def findV (l : List Bar) (mk : List UInt8) : Int := if okSched l then (if 0 ≤ markI l mk then markI l mk else 0) else 0
def findE (l : List Bar) (mk : List UInt8) : Int := if okSched l then (if 0 ≤ markI l mk then 0 else 9) else 1
theorem find_t {l : List Bar} {mk : List UInt8} (h : okSched l) (h2 : 0 ≤ markI l mk) : findV l mk = markI l mk ∧ findE l mk = 0 := ⟨(if_pos h).trans (if_pos h2), (if_pos h).trans (if_pos h2)⟩
theorem find_f {l : List Bar} {mk : List UInt8} (h : okSched l) (h2 : ¬ 0 ≤ markI l mk) : findV l mk = 0 ∧ findE l mk = 9 := ⟨(if_pos h).trans (if_neg h2), (if_pos h).trans (if_neg h2)⟩
theorem find_n {l : List Bar} {mk : List UInt8} (h : ¬ okSched l) : findV l mk = 0 ∧ findE l mk = 1 := ⟨if_neg h, if_neg h⟩
theorem find_fun (l : List Bar) (mk : List UInt8) (hlen : l.length ≤ 140737488355328) (hw : schedW l) : Fun Tryz.prog 142 [.sh 5 (l.map Bar.c), .lit (str mk)] (Ret (.tup [.lit (.int .i64 (findV l mk)), .lit (.int .i64 (findE l mk))]) []) := by
  have hmb := markI_bd l mk; refine Fun.of (nt := 16) (rs := [.tmp 4, .tmp 5]) Tryz.func142 rfl rfl rfl rfl rfl ?_; refine Ev.sr fun K hK => S.o q.as (S.o q.as (S.end (hK _ ?_))); clear hK K; refine Ev.seq ?_; refine Ev.sr fun K hK => S.o q.mv (S.c0 (hF := schedValid_fun _ (by omega) (by assumption)) (h := S.o q.not (S.end (hK _ ?_)))); clear hK K; refine Ev.cn (fun c1 => ?_) (fun c1 => ?_)
  · first
  | omega | contradiction
  | refine Ev.sr fun K hK => S.o q.as (S.o q.as (S.end (hK _ ?_))); clear hK K; refine Ev.ret ?_; refine Ev.ret2 ?_; refine ⟨?_, rfl⟩
    first | (rw [(find_n ‹¬ okSched l›).1, (find_n ‹¬ okSched l›).2]; done) | (rw [(find_f ‹okSched l› (by omega)).1, (find_f ‹okSched l› (by omega)).2]; done) | (rw [(find_t ‹okSched l› (by omega)).1, (find_t ‹okSched l› (by omega)).2]; done)
  · first
  | omega | contradiction
  | refine Ev.skip ?_; show Ev _ _ _ _; refine Ev.sr fun K hK => S.o q.mv (S.o q.mv (S.c0 (hF := schedIndex_fun _ _ (by omega)) (h := S.o q.as (S.end (hK _ ?_))))); clear hK K; refine Ev.seq ?_; refine Ev.sr fun K hK => S.o q.mv (S.o q.lss (S.end (hK _ ?_))); clear hK K; refine Ev.cd (fun c2 => ?_) (fun c2 => ?_)
    · first
    | omega | contradiction
    | refine Ev.sr fun K hK => S.o q.as (S.o q.as (S.end (hK _ ?_))); clear hK K; refine Ev.ret ?_; refine Ev.ret2 ?_; refine ⟨?_, rfl⟩
      first | (rw [(find_n ‹¬ okSched l›).1, (find_n ‹¬ okSched l›).2]; done) | (rw [(find_f ‹okSched l› (by omega)).1, (find_f ‹okSched l› (by omega)).2]; done) | (rw [(find_t ‹okSched l› (by omega)).1, (find_t ‹okSched l› (by omega)).2]; done)
    · first
    | omega | contradiction
    | refine Ev.skip ?_; show Ev _ _ _ _; refine Ev.sr fun K hK => S.o q.mv (S.o q.as (S.o q.as (S.end (hK _ ?_)))); clear hK K; refine Ev.ret ?_; refine Ev.ret2 ?_; refine ⟨?_, rfl⟩
      first | (rw [(find_n ‹¬ okSched l›).1, (find_n ‹¬ okSched l›).2]; done) | (rw [(find_f ‹okSched l› (by omega)).1, (find_f ‹okSched l› (by omega)).2]; done) | (rw [(find_t ‹okSched l› (by omega)).1, (find_t ‹okSched l› (by omega)).2]; done)
theorem find_ok {l : List Bar} {mk : List UInt8} (hlen : l.length ≤ 140737488355328) (hw : schedW l) (h : okSched l) (h2 : 0 ≤ markI l mk) : Fun Tryz.prog 142 [.sh 5 (l.map Bar.c), .lit (str mk)] (Ret (.tup [.lit (.int .i64 (markI l mk)), .lit (.int .i64 0)]) []) := by
  have h1 := find_fun l mk hlen hw
  rwa [(find_t h h2).1, (find_t h h2).2] at h1
theorem path_ok {b : Bar} (hw : b.w) (h : okBar b) : Fun Tryz.prog 143 [.agg b.c] (Ret (.tup [.sh 3 ((shpV b).map pntC), .lit (.int .i64 0)]) []) := by
  have h1 := shapePath_fun b hw
  rwa [okE_in h] at h1
theorem legF_1 (l : List P3) : legF (l.take 1) = (false, ⟨0, 0, 0, 0, 0, 0⟩) := by
  rcases l with _ | ⟨a, l⟩ <;> rfl
theorem legF_s : ∀ (l : List P3) (i : Nat) (p q : P3), 1 ≤ i → (legF (l.take i)).1 = false → l[i - 1]? = some p → l[i]? = some q →
    legF (l.take (i + 1)) = (if isLeg p q then (true, legB p q) else (false, ⟨0, 0, 0, 0, 0, 0⟩)) ∧ legF (l.take i) = (false, ⟨0, 0, 0, 0, 0, 0⟩)
  | [], i, p, q, h1, h2, h3, h4 => by simp at h4
  | a :: t, 0, p, q, h1, h2, h3, h4 => absurd h1 (by omega)
  | a :: t, 1, p, q, h1, h2, h3, h4 => by
    simp only [Nat.sub_self, List.getElem?_cons_zero, Option.some.injEq] at h3; subst h3
    rcases t with _ | ⟨b, t⟩
    · simp at h4
    · simp only [List.getElem?_cons_succ, List.getElem?_cons_zero, Option.some.injEq] at h4; subst h4; exact ⟨rfl, rfl⟩
  | a :: t, j + 2, p, q, h1, h2, h3, h4 => by
    rcases t with _ | ⟨b, t⟩
    · simp at h4
    · have e : ∀ n, legF ((a :: b :: t).take (n + 2)) = if isLeg a b then (true, legB a b) else legF ((b :: t).take (n + 1)) := fun n => rfl; rw [e] at h2; rw [e, e]
      have hn : ¬ isLeg a b := fun h => by rw [if_pos h] at h2; cases h2
      rw [if_neg hn] at h2 ⊢; rw [if_neg hn]; exact legF_s (b :: t) (j + 1) p q (by omega) h2 (by simpa using h3) (by simpa using h4)
theorem legF_end : ∀ (l : List P3) (i : Nat), (legF (l.take i)).1 = true → legF l = legF (l.take i)
  | [], i, h => by simp [legF] at h
  | a :: t, 0, h => by cases h
  | a :: t, 1, h => by cases h
  | a :: [], j + 2, h => by simp [legF] at h
  | a :: b :: t, j + 2, h => by
    have e : ∀ n, legF ((a :: b :: t).take (n + 2)) = if isLeg a b then (true, legB a b) else legF ((b :: t).take (n + 1)) := fun n => rfl; have e2 : legF (a :: b :: t) = if isLeg a b then (true, legB a b) else legF (b :: t) := rfl; rw [e] at h ⊢; rw [e2]
    split
    · rfl
    · rename_i hn
      rw [if_neg hn] at h; exact legF_end (b :: t) (j + 1) h
theorem legF_full {l : List P3} {i : Nat} (h : l.length ≤ i) : legF l = legF (l.take i) := by rw [List.take_of_length_le h]
theorem leg_t {l : List P3} {i : Nat} {p q : P3} (h1 : 1 ≤ i) (h2 : (legF (l.take i)).1 = false) (h3 : l[i - 1]? = some p) (h4 : l[i]? = some q) (h : isLeg p q) : legF (l.take (i + 1)) = (true, ⟨min p.1 q.1, p.2.1, p.2.2, max p.1 q.1, p.2.1, p.2.2⟩) := by
  rw [(legF_s l i p q h1 h2 h3 h4).1, if_pos h]; rfl
theorem leg_n {l : List P3} {i : Nat} {p q : P3} (h1 : 1 ≤ i) (h2 : (legF (l.take i)).1 = false) (h3 : l[i - 1]? = some p) (h4 : l[i]? = some q) (h : ¬ isLeg p q) : legF (l.take (i + 1)) = legF (l.take i) := by
  rw [(legF_s l i p q h1 h2 h3 h4).1, (legF_s l i p q h1 h2 h3 h4).2, if_neg h]
def legRow (v : Bool × Bx) (s : Int) (mk : List UInt8) : List AV := [.lit (.int .i64 v.2.lx), .lit (.int .i64 v.2.ly), .lit (.int .i64 v.2.lz), .lit (.int .i64 v.2.hx), .lit (.int .i64 v.2.hy), .lit (.int .i64 v.2.hz), .lit (.bool v.1), .lit (.int .i64 s), .lit (str mk)]
theorem leg_row {v w : Bool × Bx} {s : Int} {mk : List UInt8} (e : v = w) : [legRow w s mk] = [legRow v s mk] := by rw [e]
theorem runMains_succ (bars : List Bar) (r : Rn) (k : Nat) : runMains bars r (k + 1) = runMains bars r k ++ [mainOf (lineOf bars r.mark) (frV r.tx r.ty (atR r k) (shpV (lineOf bars r.mark)))] := by
  rw [runMains, List.range_succ, List.map_append]; rfl
theorem runMains_len (bars : List Bar) (r : Rn) (k : Nat) : (runMains bars r k).length = k := by simp [runMains]
theorem runGood_succ {bars : List Bar} {r : Rn} {k : Nat} (h : runGood bars r k) (h1 : frE r.tx r.ty (atR r k) (shpV (lineOf bars r.mark)) = 0) : runGood bars r (k + 1) := fun j hj => by
  by_cases e : j = k
  · subst e; exact h1
  · exact h j (by omega)
theorem mainsG_snoc (bars : List Bar) (pre : List Rn) (s : Rn) : mainsG bars (pre ++ [s]) = mainsG bars pre ++ runMains bars s s.n.toNat := by simp [mainsG]
theorem mainsG_len (bars : List Bar) : ∀ l : List Rn, (∀ r ∈ l, 1 ≤ r.n) → ((mainsG bars l).length : Int) = cntS l := by
  refine snoc_ind (fun _ => rfl) ?_; intro l s ih h; have h1 := ih fun r hr => h r (by simp [hr]); have h2 := h s (by simp); rw [mainsG_snoc, List.length_append, runMains_len, cnt_snoc]; omega
theorem mains_row {bars : List Bar} {r : Rn} {k : Nat} {l : List P3} {i : Nat} (X : List Mn) (e : legF l = legF (l.take i)) (hl : l = frV r.tx r.ty (atR r k) (shpV (lineOf bars r.mark))) :
    (X ++ runMains bars r k ++ [(⟨⟨(legF (l.take i)).2.lx, (legF (l.take i)).2.ly, (legF (l.take i)).2.lz, (legF (l.take i)).2.hx, (legF (l.take i)).2.hy, (legF (l.take i)).2.hz⟩, (legF (l.take i)).1, (lineOf bars r.mark).size, (lineOf bars r.mark).mark⟩ : Mn)]).map Mn.c = (X ++ runMains bars r (k + 1)).map Mn.c := by
  rw [runMains_succ, ← List.append_assoc, ← hl, mainOf, e]
theorem mains_row_t {bars : List Bar} {r : Rn} {k : Nat} {l : List P3} {i : Nat} (X : List Mn) (e : legF l = legF (l.take i)) (hl : l = frV r.tx r.ty (atR r k) (shpV (lineOf bars r.mark))) (hb : (legF (l.take i)).1 = true) :
    (X ++ runMains bars r k ++ [(⟨⟨(legF (l.take i)).2.lx, (legF (l.take i)).2.ly, (legF (l.take i)).2.lz, (legF (l.take i)).2.hx, (legF (l.take i)).2.hy, (legF (l.take i)).2.hz⟩, true, (lineOf bars r.mark).size, (lineOf bars r.mark).mark⟩ : Mn)]).map Mn.c = (X ++ runMains bars r (k + 1)).map Mn.c := by
  rw [← hb]; exact mains_row X e hl
theorem leg_row_n {v w : Bool × Bx} {s : Int} {mk : List UInt8} (e : v = w) (hb : w.1 = false) : [[AV.lit (.int .i64 w.2.lx), .lit (.int .i64 w.2.ly), .lit (.int .i64 w.2.lz), .lit (.int .i64 w.2.hx), .lit (.int .i64 w.2.hy), .lit (.int .i64 w.2.hz), .lit (.bool false), .lit (.int .i64 s), .lit (str mk)]] = [legRow v s mk] := by
  subst e; rw [legRow, hb]
theorem run_bd {bars : List Bar} {r : Rn} {k : Nat} (h : rightP bars r) (hk : (k : Int) < r.n) : (-2097152000 ≤ (k : Int) * r.sx ∧ (k : Int) * r.sx ≤ 2097152000) ∧ (-2097152000 ≤ (k : Int) * r.sy ∧ (k : Int) * r.sy ≤ 2097152000) ∧ (-2097152000 ≤ (k : Int) * r.sz ∧ (k : Int) * r.sz ≤ 2097152000) ∧ (-1048576 ≤ r.ax ∧ r.ax ≤ 1048576) ∧ (-1048576 ≤ r.ay ∧ r.ay ≤ 1048576) ∧ -1048576 ≤ r.az ∧ r.az ≤ 1048576 := by
  obtain ⟨g1, g2, g3, g4, g5, g6, g7⟩ := h; have ha : (-1048576 ≤ r.ax ∧ r.ax ≤ 1048576) ∧ (-1048576 ≤ r.ay ∧ r.ay ≤ 1048576) ∧ -1048576 ≤ r.az ∧ r.az ≤ 1048576 := g4
  by_cases h1 : r.n > 1
  · have hs : (-2097152 ≤ r.sx ∧ r.sx ≤ 2097152) ∧ (-2097152 ≤ r.sy ∧ r.sy ≤ 2097152) ∧ -2097152 ≤ r.sz ∧ r.sz ≤ 2097152 := (g5 h1).2; have m1 := mulB (a := (k : Int)) (b := r.sx) (A := 1000) (B := 2097152) (by omega) hs.1; have m2 := mulB (a := (k : Int)) (b := r.sy) (A := 1000) (B := 2097152) (by omega) hs.2.1; have m3 := mulB (a := (k : Int)) (b := r.sz) (A := 1000) (B := 2097152) (by omega) hs.2.2; refine ⟨by omega, by omega, by omega, ha⟩
  · obtain rfl : k = 0 := by omega
    refine ⟨?_, ?_, ?_, ha⟩ <;> simp
theorem frV_len (x y : Int) (q : P3) (b : Bar) : (frV x y q (shpV b)).length ≤ 7 := by
  have := shpV_len b
  unfold frV
  split
  · rw [List.length_map]; omega
  · simp
theorem mains_len {bars : List Bar} {runs : List Rn} (h : laidOK bars runs) : (mainsV bars runs).length ≤ 2000 := by
  have h1 := mainsG_len bars runs fun r hr => (h.2.2.1 r hr).2.2.1.1; have h2 := h.2.2.2
  unfold mainsV
  split
  · omega
  · simp
theorem mains_bad {bars : List Bar} {runs pre suf : List Rn} {s : Rn} {k : Nat} (hp : pre ++ s :: suf = runs) (hk : (k : Int) < s.n) (h : ¬ frE s.tx s.ty (atR s k) (shpV (lineOf bars s.mark)) = 0) : mainsV bars runs = [] :=
  if_neg fun h2 => h (h2 s (by rw [← hp]; simp) k (by omega))
theorem mains_fun (x : Det) (hw : x.w) (hlo : laidOK x.bars x.runs) : Fun Tryz.prog 87 [.agg x.c] (Ret (.sh 9 ((mainsV x.bars x.runs).map Mn.c)) []) := by
  obtain ⟨hw1, ⟨hw2, hw2b⟩, ⟨hw3, hw3b⟩, hw4, hw5, hw6⟩ := hw; obtain ⟨hl1, hl2, hl3, hl4⟩ := id hlo; refine Fun.of (nt := 164) (rs := [.tmp 2]) Tryz.func87 rfl rfl rfl rfl rfl ?_; refine Ev.sr fun K hK => S.nn (q.bx [_, _, _, _, _, _, _, _, _, _, _, _, _, _, _, _, _, _, _] true) (S.o q.as (S.end (hK _ ?_))); clear hK K; refine Ev.sr fun K hK => S.o q.as (S.end (hK _ ?_)); clear hK K; refine Ev.seq ?_; refine Ev.sr fun K hK => S.o (q.fa 7 am_fi34_2 am_cl28) (S.o (q.lv am_ag28) (S.o (q.lens am_el28) (S.o q.mv (S.end (hK _ ?_))))); clear hK K; refine Ev.block ?_; refine Ev.weaken (Wk.nown Mn.c 3 183 9) ?_
  refine Ev.loopU (ι := {q : List Rn × List Rn // q.1 ++ q.2 = x.runs ∧ ∀ r ∈ q.1, runGood x.bars r r.n.toNat}) [0, 1] [1, 19, 20] (fun ⟨(pre, suf), _⟩ => [(21, .lit (.int .i64 ((pre.length : Int)))), (3, .als 1 0 (mainsG x.bars pre).length)]) (fun ⟨(pre, suf), _⟩ => [(0, ⟨false, 34, 19, [[.lit (str (x.mem.name)), .sh 6 ((x.mem.bs).map Bx.c), .sh 6 ((x.mem.hs).map Bx.c), .lit (.int .i64 (x.mem.cov)), .lit (.int .i64 (x.mem.agg)), .lit (.int .i64 (x.mem.pok)), .sh 5 ((x.bars).map Bar.c), .sh 10 ((x.runs).map Rn.c), .sh 2 ((x.laps).map pairC), .sh 8 ((x.dems).map Dem.c), .lit (.int .i64 (x.rule.r1)), .lit (.int .i64 (x.rule.r2)), .lit (.int .i64 (x.rule.r3)), .lit (.int .i64 (x.rule.r4)), .lit (.int .i64 (x.rule.r5)), .lit (.int .i64 (x.rule.r6)), .lit (.int .i64 (x.rule.r7)), .lit (.int .i64 (x.rule.r8)), .lit (.int .i64 (x.rule.r9))]], true⟩), (1, ⟨true, 183, 9, (mainsG x.bars pre).map Mn.c, true⟩)]) (fun ⟨(pre, suf), _⟩ => suf.length) ⟨([], x.runs), rfl, fun x hx => by simp at hx⟩ (.c (.c (.c .n))) (keep_c (he := rfl) (h := (keep_c (he := (by first | rfl | (rw [mainsG_snoc, hke]; done))) (h := keep_n)))) (slots_c (he := (by first | rfl | (congr 2; simp; done))) (h := (slots_c (he := (by first | rfl | exact congrArg (fun q => AV.als 1 0 q) (by rw [mainsG_snoc, hke]))) (h := trivial)))) ?_; rintro ⟨⟨pre, suf⟩, hp, hinv⟩ R0 hR0
  dsimp only [List.cons_append, List.nil_append, List.length_cons, List.length_nil]
  simp only at hp hinv
  have hpl : pre.length + suf.length = (x.runs).length := by rw [← hp, List.length_append]
  rcases suf with _ | ⟨s, suf⟩
  · rw [List.append_nil] at hp; simp only [List.length_nil] at hpl; refine Ev.sr fun K hK => S.o q.lss (S.end (hK _ ?_)); clear hK K; refine Ev.ud (fun c1 => ?_) (fun c1 => ?_)
    · first | omega | contradiction | (exfalso; simp at *; done)
    · first
    | omega | contradiction
    | refine Ev.exit ?_; refine hR0 _ _ ?_; show Ev _ _ _ _; refine Ev.sr fun K hK => S.o q.mv (S.o q.as (S.end (hK _ ?_))); clear hK K; refine Ev.weaken (Wk.frz 2 [_]) ?_; refine Ev.ret ?_; refine Ev.ret1 ?_; refine ⟨?_, rfl⟩
      first
       | (rw [mains_bad (k := k) hp hkn ‹_›]; done)
       | (rw [mainsV, if_pos (by rw [← hp]; exact hinv), ← hp]; done)
  · simp only [List.length_cons] at hpl
    have hidx : x.runs[pre.length]? = some s := by rw [← hp]; simp
    have hms : s ∈ x.runs := by rw [← hp]; simp
    have hrp := hl3 s hms; have hmk := hrp.1; have hsn := hrp.2.2.1; have hlg := line_get hmk; have hwl := hw2b _ (line_mem hmk); have hob := hl1.2.1 _ (line_mem hmk); have hsl := shpV_len (lineOf x.bars s.mark); have hct := cnt_cut hp (fun z hz => (hl3 z hz).2.2.1.1); have hgl := mainsG_len x.bars pre (fun z hz => (hl3 z (by rw [← hp]; simp [hz])).2.2.1.1); have hmb := markI_bd x.bars s.mark; refine Ev.sr fun K hK => S.o q.lss (S.end (hK _ ?_)); clear hK K; refine Ev.ud (fun c2 => ?_) (fun c2 => ?_)
    · first
    | omega | contradiction
    | refine Ev.seq ?_; refine Ev.block ?_; refine Ev.sr fun K hK => S.o (q.ix am_el28 am_cl82 (hl := (by first | exact ati hidx (by omega) | exact ati hlg (by omega) | exact atig (by omega)))) (S.o (q.lsA [_, _, _, _, _, _, _, _, _, _] am_ag82 am_cl82) (S.nn (q.al am_ze82) (S.sv [_, _, _, _, _, _, _, _, _, _] true [_, _] am_in82 am_cl82 (h := S.end (hK _ ?_))))); clear hK K; refine Ev.sr fun K hK => S.o (q.fa 6 am_fi34_1 am_cl27) (S.o (q.lv am_ag27) (S.o (q.fa 0 am_fi82_0 am_cl9) (S.o (q.lv am_ag9) (S.c0 (hF := find_ok hw2 hw2b hl1 hmk) (h := S.o q.mv (S.o q.ex (S.o q.ex (S.o q.as (S.o q.as (S.end (hK _ ?_))))))))))); clear hK K; refine Ev.seq ?_; refine Ev.sr fun K hK => S.o q.mv (S.o q.neq (S.end (hK _ ?_))); clear hK K; refine Ev.cn (fun c3 => ?_) (fun c3 => ?_)
      · first
      | omega | contradiction
      | refine Ev.sr fun K hK => S.o q.as (S.end (hK _ ?_)); clear hK K; refine Ev.weaken (Wk.nsh Mn.c 2 9) ?_; refine Ev.ret ?_; refine hR0 _ _ ?_; refine Ev.ret1 ?_; refine ⟨?_, rfl⟩
        first
         | (rw [mains_bad (k := k) hp hkn ‹_›]; done)
         | (rw [mainsV, if_pos (by rw [← hp]; exact hinv), ← hp]; done)
      · first
      | omega | contradiction
      | refine Ev.skip ?_; show Ev _ _ _ _; refine Ev.sr fun K hK => S.o (q.fa 6 am_fi34_1 am_cl27) (S.o (q.lv am_ag27) (S.o q.mv (S.o (q.ix am_el27 am_cl72 (hl := (by first | exact ati hidx (by omega) | exact ati hlg (by omega) | exact atig (by omega)))) (S.o (q.lsA [_, _, _, _, _] am_ag72 am_cl72) (S.nn (q.al am_ze72) (S.sv [_, _, _, _, _] true [_, _, _] am_in72 am_cl72 (h := S.end (hK _ ?_)))))))); clear hK K; refine Ev.sr fun K hK => S.o (q.lvA [_, _, _, _, _] am_ag72 am_cl72) (S.c0 (hF := path_ok hwl hob) (h := S.o q.mv (S.o q.ex (S.o q.ex (S.o q.as (S.o q.as (S.end (hK _ ?_)))))))); clear hK K; refine Ev.seq ?_; refine Ev.sr fun K hK => S.o q.mv (S.o q.neq (S.end (hK _ ?_))); clear hK K; refine Ev.cn (fun c4 => ?_) (fun c4 => ?_)
        · first
        | omega | contradiction
        | refine Ev.sr fun K hK => S.o q.as (S.end (hK _ ?_)); clear hK K; refine Ev.weaken (Wk.nsh Mn.c 2 9) ?_; refine Ev.ret ?_; refine hR0 _ _ ?_; refine Ev.ret1 ?_; refine ⟨?_, rfl⟩
          first
           | (rw [mains_bad (k := k) hp hkn ‹_›]; done)
           | (rw [mainsV, if_pos (by rw [← hp]; exact hinv), ← hp]; done)
        · first
        | omega | contradiction
        | refine Ev.skip ?_; show Ev _ _ _ _; refine Ev.sr fun K hK => S.o (q.fa 9 am_fi82_4 am_cl3) (S.o (q.lv am_ag3) (S.o q.mv (S.end (hK _ ?_)))); clear hK K; refine Ev.block ?_
          refine Ev.loopU (ι := {k : Nat // (k : Int) ≤ s.n ∧ runGood x.bars s k}) [0, 1, 2, 3] [1, 5, 6, 7, 8, 9, 19, 20, 21, 22, 23, 24, 25, 26, 27, 28, 29, 30, 31, 32, 33, 34, 35, 36, 37, 38, 39, 40, 41, 42, 43, 44, 45, 46, 47, 48] (fun ⟨k, _⟩ => [(49, .lit (.int .i64 ((k : Int)))), (3, .als 1 0 (mainsG x.bars pre ++ runMains x.bars s k).length)]) (fun ⟨k, _⟩ => [(0, ⟨false, 34, 19, [[.lit (str (x.mem.name)), .sh 6 ((x.mem.bs).map Bx.c), .sh 6 ((x.mem.hs).map Bx.c), .lit (.int .i64 (x.mem.cov)), .lit (.int .i64 (x.mem.agg)), .lit (.int .i64 (x.mem.pok)), .sh 5 ((x.bars).map Bar.c), .sh 10 ((x.runs).map Rn.c), .sh 2 ((x.laps).map pairC), .sh 8 ((x.dems).map Dem.c), .lit (.int .i64 (x.rule.r1)), .lit (.int .i64 (x.rule.r2)), .lit (.int .i64 (x.rule.r3)), .lit (.int .i64 (x.rule.r4)), .lit (.int .i64 (x.rule.r5)), .lit (.int .i64 (x.rule.r6)), .lit (.int .i64 (x.rule.r7)), .lit (.int .i64 (x.rule.r8)), .lit (.int .i64 (x.rule.r9))]], true⟩), (1, ⟨true, 183, 9, (mainsG x.bars pre ++ runMains x.bars s k).map Mn.c, true⟩), (2, ⟨false, 82, 10, [[.lit (str (s.mark)), .lit (.int .i64 (s.tx)), .lit (.int .i64 (s.ty)), .lit (.int .i64 (s.ax)), .lit (.int .i64 (s.ay)), .lit (.int .i64 (s.az)), .lit (.int .i64 (s.sx)), .lit (.int .i64 (s.sy)), .lit (.int .i64 (s.sz)), .lit (.int .i64 (s.n))]], true⟩), (3, ⟨false, 72, 5, [[.lit (str ((lineOf x.bars s.mark).mark)), .lit (.int .i64 ((lineOf x.bars s.mark).size)), .lit (.int .i64 ((lineOf x.bars s.mark).count)), .lit (.int .i64 ((lineOf x.bars s.mark).code)), .sh 1 (((lineOf x.bars s.mark).dims).map intC)]], true⟩)]) (fun ⟨k, _⟩ => s.n.toNat - k) ⟨0, by omega, fun j hj => absurd hj (by omega)⟩ (.c (.c (.c (.c (.c (.c (.c (.c (.c (.c (.c (.c (.c (.c (.c (.c (.c (.c (.c (.c (.c (.c (.c (.c (.c (.c (.c (.c (.c (.c (.c (.c (.c (.c (.c (.c .n)))))))))))))))))))))))))))))))))))) (keep_c (he := rfl) (h := (keep_c (he := (by first | rfl | exact mains_row _ hle hl | exact mains_row_t _ hle hl hbl | (simp [runMains]; done))) (h := (keep_c (he := rfl) (h := (keep_c (he := rfl) (h := keep_n)))))))) (slots_c (he := (by first | rfl | (congr 2; omega))) (h := (slots_c (he := (by first | rfl | exact congrArg (fun q => AV.als 1 0 q) (by simp only [List.length_append, runMains_len, List.length_cons, List.length_nil]; omega))) (h := trivial)))) ?_
          rintro ⟨k, hk, hgk⟩ R2 hR2; dsimp only [List.cons_append, List.nil_append, List.length_cons, List.length_nil]
          by_cases hkn : (k : Int) < s.n
          rotate_left
          · have hke : k = s.n.toNat := by omega
            refine Ev.sr fun K hK => S.o q.lss (S.end (hK _ ?_)); clear hK K; refine Ev.ud (fun c5 => ?_) (fun c5 => ?_)
            · first | omega | contradiction | (exfalso; simp at *; done)
            · first
            | omega | contradiction
            | refine Ev.exit ?_; refine hR2 _ _ ?_; show Ev _ _ _ _; refine Ev.region_S fun K hK => S.o q.add (S.o q.mv (S.end (hK _ ?_))); clear hK K; refine hR0 _ _ ?_; refine roundU [0, 1] [1, 19, 20] ⟨(pre ++ [s], suf), by rw [← hp]; simp, ?_⟩ ?_ (keep_c (he := rfl) (h := (keep_c (he := (by first | rfl | (rw [mainsG_snoc, hke]; done))) (h := keep_n)))) (slots_c (he := (by first | rfl | (congr 2; simp; done))) (h := (slots_c (he := (by first | rfl | exact congrArg (fun q => AV.als 1 0 q) (by rw [mainsG_snoc, hke]))) (h := trivial)))) (.c (.c (.c .n))); intro z hz
              rcases List.mem_append.1 hz with hz | hz
              · exact hinv z hz
              · rw [List.mem_singleton] at hz; subst hz; rw [← hke]; exact hgk
              all_goals (dsimp only; simp only [List.length_cons]; omega)
          · obtain ⟨b1, b2, b3, b4, b5, b6⟩ := run_bd hrp hkn; have hrl := runMains_len x.bars s k; refine Ev.sr fun K hK => S.o q.lss (S.end (hK _ ?_)); clear hK K; refine Ev.ud (fun c6 => ?_) (fun c6 => ?_)
            · first
            | omega | contradiction
            | refine Ev.seq ?_; refine Ev.block ?_; refine Ev.sr fun K hK => S.o q.mv (S.o q.as (S.end (hK _ ?_))); clear hK K; refine Ev.sr fun K hK => S.o (q.fa 3 am_fi82_2 am_cl80) (S.o (q.fa 3 am_fi80_0 am_cl3) (S.o (q.lv am_ag3) (S.o q.mv (S.o (q.fa 6 am_fi82_3 am_cl80) (S.o (q.fa 6 am_fi80_0 am_cl3) (S.o (q.lv am_ag3) (S.o q.mul (S.o q.add (S.o (q.fa 3 am_fi82_2 am_cl80) (S.o (q.fa 4 am_fi80_1 am_cl3) (S.o (q.lv am_ag3) (S.o q.mv (S.o (q.fa 6 am_fi82_3 am_cl80) (S.o (q.fa 7 am_fi80_1 am_cl3) (S.o (q.lv am_ag3) (S.o q.mul (S.o q.add (S.o (q.fa 3 am_fi82_2 am_cl80) (S.o (q.fa 5 am_fi80_2 am_cl3) (S.o (q.lv am_ag3) (S.o q.mv (S.o (q.fa 6 am_fi82_3 am_cl80) (S.o (q.fa 8 am_fi80_2 am_cl3) (S.o (q.lv am_ag3) (S.o q.mul (S.o q.add (S.o (q.bd [_, _, _] am_ze80 am_pl80) (S.nn (q.al am_ze80) (S.sv [_, _, _] true [_, _, _, _] am_in80 am_cl80 (h := S.end (hK _ ?_))))))))))))))))))))))))))))))); clear hK K; refine Ev.sr fun K hK => S.o (q.fa 1 am_fi82_1 am_cl78) (S.o (q.lvA [_, _] am_ag78 am_cl78) (S.o (q.lvA [_, _, _] am_ag80 am_cl80) (S.o q.mv (S.c0 (hF := framePath_fun s.tx s.ty (atR s k) (shpV (lineOf x.bars s.mark)) (by omega)) (h := S.o q.mv (S.o q.ex (S.o q.ex (S.o q.as (S.o q.as (S.end (hK _ ?_))))))))))); clear hK K; refine Ev.seq ?_; refine Ev.sr fun K hK => S.o q.mv (S.o q.neq (S.end (hK _ ?_))); clear hK K; refine Ev.cn (fun c7 => ?_) (fun c7 => ?_)
              · first
              | omega | contradiction
              | refine Ev.sr fun K hK => S.o q.as (S.end (hK _ ?_)); clear hK K; refine Ev.weaken (Wk.nsh Mn.c 2 9) ?_; refine Ev.ret ?_; refine hR2 _ _ ?_; refine hR0 _ _ ?_; refine Ev.ret1 ?_; refine ⟨?_, rfl⟩
                first
                 | (rw [mains_bad (k := k) hp hkn ‹_›]; done)
                 | (rw [mainsV, if_pos (by rw [← hp]; exact hinv), ← hp]; done)
              · first
              | omega | contradiction
              | refine Ev.skip ?_; show Ev _ _ _ _; refine Ev.sr fun K hK => S.o (q.fa 1 am_fi72_1 am_cl3) (S.o (q.lv am_ag3) (S.o (q.fa 0 am_fi72_0 am_cl9) (S.o (q.lv am_ag9) (S.o (q.bd [_, _, _, _, _, _, _, _, _] am_ze183 am_pl183) (S.nn (q.al am_ze183) (S.sv [_, _, _, _, _, _, _, _, _] true [_, _, _, _, _] am_in183 am_cl183 (h := S.end (hK _ ?_)))))))); clear hK K; refine Ev.seq ?_
                have hgd : frE s.tx s.ty (atR s k) (shpV (lineOf x.bars s.mark)) = 0 := by omega
                obtain ⟨l, hl⟩ : ∃ l, l = frV s.tx s.ty (atR s k) (shpV (lineOf x.bars s.mark)) := ⟨_, rfl⟩; have hll := frV_len s.tx s.ty (atR s k) (lineOf x.bars s.mark); rw [← hl] at hll; rw [← hl]; refine Ev.sr fun K hK => S.o q.as (S.end (hK _ ?_)); clear hK K; refine Ev.block ?_
                refine Ev.loopU (ι := {i : Nat // 1 ≤ i ∧ i ≤ 8}) [0, 1, 2, 3, 4, 5] [1, 5, 6, 7, 8, 9, 10, 11, 12, 13, 14, 19, 20, 21, 22, 23, 24, 25, 26, 27, 28, 29, 30, 31, 32, 33, 34, 35, 36, 37, 38, 39, 40, 41, 42, 43, 44, 45, 46, 47, 48, 49, 50, 51, 52, 53, 54, 55, 56, 57, 58, 59, 60, 61, 62, 63, 64, 65, 66, 67, 68, 69, 70, 71, 72, 73, 74, 75, 76, 77, 78, 79, 80, 81, 82, 83, 84, 85, 86, 87, 88, 89, 90, 91, 92, 93, 94] (fun ⟨i, _⟩ => [(15, .lit (.int .i64 ((i : Int)))), (3, .als 1 0 (mainsG x.bars pre ++ runMains x.bars s k).length)]) (fun ⟨i, _⟩ => [(0, ⟨false, 34, 19, [[.lit (str (x.mem.name)), .sh 6 ((x.mem.bs).map Bx.c), .sh 6 ((x.mem.hs).map Bx.c), .lit (.int .i64 (x.mem.cov)), .lit (.int .i64 (x.mem.agg)), .lit (.int .i64 (x.mem.pok)), .sh 5 ((x.bars).map Bar.c), .sh 10 ((x.runs).map Rn.c), .sh 2 ((x.laps).map pairC), .sh 8 ((x.dems).map Dem.c), .lit (.int .i64 (x.rule.r1)), .lit (.int .i64 (x.rule.r2)), .lit (.int .i64 (x.rule.r3)), .lit (.int .i64 (x.rule.r4)), .lit (.int .i64 (x.rule.r5)), .lit (.int .i64 (x.rule.r6)), .lit (.int .i64 (x.rule.r7)), .lit (.int .i64 (x.rule.r8)), .lit (.int .i64 (x.rule.r9))]], true⟩), (1, ⟨true, 183, 9, (mainsG x.bars pre ++ runMains x.bars s k).map Mn.c, true⟩), (2, ⟨false, 82, 10, [[.lit (str (s.mark)), .lit (.int .i64 (s.tx)), .lit (.int .i64 (s.ty)), .lit (.int .i64 (s.ax)), .lit (.int .i64 (s.ay)), .lit (.int .i64 (s.az)), .lit (.int .i64 (s.sx)), .lit (.int .i64 (s.sy)), .lit (.int .i64 (s.sz)), .lit (.int .i64 (s.n))]], true⟩), (3, ⟨false, 72, 5, [[.lit (str ((lineOf x.bars s.mark).mark)), .lit (.int .i64 ((lineOf x.bars s.mark).size)), .lit (.int .i64 ((lineOf x.bars s.mark).count)), .lit (.int .i64 ((lineOf x.bars s.mark).code)), .sh 1 (((lineOf x.bars s.mark).dims).map intC)]], true⟩), (4, ⟨false, 80, 3, [[.lit (.int .i64 ((atR s k).1)), .lit (.int .i64 ((atR s k).2.1)), .lit (.int .i64 ((atR s k).2.2))]], true⟩), (5, ⟨false, 183, 9, [[.lit (.int .i64 ((legF (l.take i)).2.lx)), .lit (.int .i64 ((legF (l.take i)).2.ly)), .lit (.int .i64 ((legF (l.take i)).2.lz)), .lit (.int .i64 ((legF (l.take i)).2.hx)), .lit (.int .i64 ((legF (l.take i)).2.hy)), .lit (.int .i64 ((legF (l.take i)).2.hz)), .lit (.bool ((legF (l.take i)).1)), .lit (.int .i64 ((lineOf x.bars s.mark).size)), .lit (str ((lineOf x.bars s.mark).mark))]], true⟩)]) (fun ⟨i, _⟩ => 8 - i) ⟨1, by decide, by decide⟩ (.c (.c (.c (.c (.c (.c (.c (.c (.c (.c (.c (.c (.c (.c (.c (.c (.c (.c (.c (.c (.c (.c (.c (.c (.c (.c (.c (.c (.c (.c (.c (.c (.c (.c (.c (.c (.c (.c (.c (.c (.c (.c (.c (.c (.c (.c (.c (.c (.c (.c (.c (.c (.c (.c (.c (.c (.c (.c (.c (.c (.c (.c (.c (.c (.c (.c (.c (.c (.c (.c (.c (.c (.c (.c (.c (.c (.c (.c (.c (.c (.c (.c (.c (.c (.c (.c (.c .n))))))))))))))))))))))))))))))))))))))))))))))))))))))))))))))))))))))))))))))))))))))) (keep_c (he := (by first | rfl | (simp; done))) (h := (keep_c (he := rfl) (h := (keep_c (he := (by first | rfl | (simp; done))) (h := (keep_c (he := (by first | rfl | (simp; done))) (h := (keep_c (he := (by first | rfl | (simp; done))) (h := (keep_c (he := (by first | exact leg_row (legF_1 _) | exact leg_row (leg_t hi1 hbl hp1 hq1 ⟨by assumption, by assumption, by assumption⟩) | exact leg_row_n (leg_n hi1 hbl hp1 hq1 (fun hh => by have h1 := hh.1; have h2 := hh.2.1; have h3 := hh.2.2; first | contradiction | omega)) hbl)) (h := keep_n)))))))))))) (slots_c (he := (by first | rfl | (congr 2; omega))) (h := (slots_c (he := (by first | rfl | (simp; done) | (congr 2; omega))) (h := trivial)))) ?_
                rintro ⟨i, hi1, hi2⟩ R4 hR4; dsimp only [List.cons_append, List.nil_append, List.length_cons, List.length_nil]
                by_cases hil : i < l.length
                rotate_left
                rotate_left
                rcases hbl : (legF (l.take i)).1
                rotate_left
                · have hle := legF_end l i hbl; refine Ev.seq ?_; refine Ev.sr fun K hK => S.o q.mv (S.o q.mv (S.o (q.lens am_el146) (S.o q.lss (S.bd q.mv (fun c8 => ?_) (fun c8 => ?_)))))
                  · first
                  | omega | contradiction
                  | refine S.o (q.fa 6 am_fi183_1 am_cl4) (S.o (q.lv am_ag4) (S.o q.not (S.o q.pt (S.end (hK _ ?_))))); clear hK K; refine Ev.c (fun c9 => ?_) (fun c9 => ?_)
                    · first
                    | omega | contradiction
                    | refine Ev.skip ?_; show Ev _ _ _ _; refine Ev.seq ?_; refine Ev.block ?_; refine Ev.sl (tbs [(0, 0), (0, 0), (2, 2), (3, 7), (4, 15), (0, 0), (0, 0), (7, 96), (8, 224), (0, 0), (0, 0), (11, 1567), (12, 4095)]) 11 fun K hK => M.o q.mv (M.o q.mv (M.o q.sub (M.o (q.ix am_el146 am_cl80 (hl := (by first | exact ati hidx (by omega) | exact ati hlg (by omega) | exact ati hidx (by omega) | exact ati hlg (by omega) | exact atig (by omega)))) (M.o (q.lsA [_, _, _] am_ag80 am_cl80) (M.o q.mv (M.o q.mv (M.o (q.ix am_el146 am_cl80 (hl := (by first | exact ati hidx (by omega) | exact ati hlg (by omega) | exact ati hidx (by omega) | exact ati hlg (by omega) | exact atig (by omega)))) (M.o (q.lsA [_, _, _] am_ag80 am_cl80) (M.nn [_] (q.al am_ze80) (h := M.nn [_, _] (q.al am_ze80) (h := M.late [_, _, _] true [_, _, _, _, _, _, _, _] am_in80 am_cl80 (h := S.sv [_, _, _] true [_, _, _, _, _, _, _] am_in80 am_cl80 (h := S.end (hK _ ?_)))))))))))))); clear hK K; refine Ev.sr fun K hK => S.o (q.fa 0 am_fi80_0 am_cl3) (S.o (q.lv am_ag3) (S.o (q.fa 0 am_fi80_0 am_cl3) (S.o (q.lv am_ag3) (S.o q.neq (S.bn q.mv (fun c10 => ?_) (fun c10 => ?_))))))
                      · first
                      | omega | contradiction
                      | refine S.o (q.fa 1 am_fi80_1 am_cl3) (S.o (q.lv am_ag3) (S.o (q.fa 1 am_fi80_1 am_cl3) (S.o (q.lv am_ag3) (S.o q.eql (S.o q.pt (S.bd q.mv (fun c11 => ?_) (fun c11 => ?_)))))))
                        · first
                        | omega | contradiction
                        | refine S.o (q.fa 2 am_fi80_2 am_cl3) (S.o (q.lv am_ag3) (S.o (q.fa 2 am_fi80_2 am_cl3) (S.o (q.lv am_ag3) (S.o q.eql (S.o q.pt (S.end (hK _ ?_))))))); clear hK K; refine Ev.cd (fun c12 => ?_) (fun c12 => ?_)
                          · first
                          | omega | contradiction
                          | refine Ev.region_S fun K hK => S.o (q.fa 0 am_fi80_0 am_cl3) (S.o (q.lv am_ag3) (S.o (q.fa 0 am_fi80_0 am_cl3) (S.o (q.lv am_ag3) (S.o q.min (S.o (q.fa 1 am_fi80_1 am_cl3) (S.o (q.lv am_ag3) (S.o (q.fa 2 am_fi80_2 am_cl3) (S.o (q.lv am_ag3) (S.o (q.bd [_, _, _] am_ze80 am_pl80) (S.o (q.fa 0 am_fi80_0 am_cl3) (S.o (q.lv am_ag3) (S.o (q.fa 0 am_fi80_0 am_cl3) (S.o (q.lv am_ag3) (S.o q.max (S.o (q.fa 1 am_fi80_1 am_cl3) (S.o (q.lv am_ag3) (S.o (q.fa 2 am_fi80_2 am_cl3) (S.o (q.lv am_ag3) (S.o (q.bd [_, _, _] am_ze80 am_pl80) (S.o (q.bd [_, _, _, _, _, _] am_ze100 am_pl100) (S.o (q.fa 0 am_fi183_0 am_cl100) (S.sv [_, _, _, _, _, _, _, _, _] true [_, _, _, _, _, _, _] am_in100 am_cl100 (h := S.o (q.fa 6 am_fi183_1 am_cl4) (S.sv [_, _, _, _, _, _, _, _, _] true [_, _, _, _, _, _, _] am_in4 am_cl4 (h := S.end (hK _ ?_)))))))))))))))))))))))))); clear hK K; show Ev _ _ _ _; refine Ev.region_S fun K hK => S.o q.mv (S.o q.add (S.o q.as (S.end (hK _ ?_)))); clear hK K; refine hR4 _ _ ?_
                            refine roundU [0, 1, 2, 3, 4, 5] [1, 5, 6, 7, 8, 9, 10, 11, 12, 13, 14, 19, 20, 21, 22, 23, 24, 25, 26, 27, 28, 29, 30, 31, 32, 33, 34, 35, 36, 37, 38, 39, 40, 41, 42, 43, 44, 45, 46, 47, 48, 49, 50, 51, 52, 53, 54, 55, 56, 57, 58, 59, 60, 61, 62, 63, 64, 65, 66, 67, 68, 69, 70, 71, 72, 73, 74, 75, 76, 77, 78, 79, 80, 81, 82, 83, 84, 85, 86, 87, 88, 89, 90, 91, 92, 93, 94] ⟨i + 1, by omega, by omega⟩ ?_ (keep_c (he := (by first | rfl | (simp; done))) (h := (keep_c (he := rfl) (h := (keep_c (he := (by first | rfl | (simp; done))) (h := (keep_c (he := (by first | rfl | (simp; done))) (h := (keep_c (he := (by first | rfl | (simp; done))) (h := (keep_c (he := (by first | exact leg_row (legF_1 _) | exact leg_row (leg_t hi1 hbl hp1 hq1 ⟨by assumption, by assumption, by assumption⟩) | exact leg_row_n (leg_n hi1 hbl hp1 hq1 (fun hh => by have h1 := hh.1; have h2 := hh.2.1; have h3 := hh.2.2; first | contradiction | omega)) hbl)) (h := keep_n)))))))))))) (slots_c (he := (by first | rfl | (congr 2; omega))) (h := (slots_c (he := (by first | rfl | (simp; done) | (congr 2; omega))) (h := trivial)))) (.c (.c (.c (.c (.c (.c (.c (.c (.c (.c (.c (.c (.c (.c (.c (.c (.c (.c (.c (.c (.c (.c (.c (.c (.c (.c (.c (.c (.c (.c (.c (.c (.c (.c (.c (.c (.c (.c (.c (.c (.c (.c (.c (.c (.c (.c (.c (.c (.c (.c (.c (.c (.c (.c (.c (.c (.c (.c (.c (.c (.c (.c (.c (.c (.c (.c (.c (.c (.c (.c (.c (.c (.c (.c (.c (.c (.c (.c (.c (.c (.c (.c (.c (.c (.c (.c (.c .n)))))))))))))))))))))))))))))))))))))))))))))))))))))))))))))))))))))))))))))))))))))))
                            skip; all_goals (dsimp only; omega)
                          · first
                          | omega | contradiction
                          | refine Ev.skip ?_; show Ev _ _ _ _; refine Ev.region_S fun K hK => S.o q.mv (S.o q.add (S.o q.as (S.end (hK _ ?_)))); clear hK K; refine hR4 _ _ ?_
                            refine roundU [0, 1, 2, 3, 4, 5] [1, 5, 6, 7, 8, 9, 10, 11, 12, 13, 14, 19, 20, 21, 22, 23, 24, 25, 26, 27, 28, 29, 30, 31, 32, 33, 34, 35, 36, 37, 38, 39, 40, 41, 42, 43, 44, 45, 46, 47, 48, 49, 50, 51, 52, 53, 54, 55, 56, 57, 58, 59, 60, 61, 62, 63, 64, 65, 66, 67, 68, 69, 70, 71, 72, 73, 74, 75, 76, 77, 78, 79, 80, 81, 82, 83, 84, 85, 86, 87, 88, 89, 90, 91, 92, 93, 94] ⟨i + 1, by omega, by omega⟩ ?_ (keep_c (he := (by first | rfl | (simp; done))) (h := (keep_c (he := rfl) (h := (keep_c (he := (by first | rfl | (simp; done))) (h := (keep_c (he := (by first | rfl | (simp; done))) (h := (keep_c (he := (by first | rfl | (simp; done))) (h := (keep_c (he := (by first | exact leg_row (legF_1 _) | exact leg_row (leg_t hi1 hbl hp1 hq1 ⟨by assumption, by assumption, by assumption⟩) | exact leg_row_n (leg_n hi1 hbl hp1 hq1 (fun hh => by have h1 := hh.1; have h2 := hh.2.1; have h3 := hh.2.2; first | contradiction | omega)) hbl)) (h := keep_n)))))))))))) (slots_c (he := (by first | rfl | (congr 2; omega))) (h := (slots_c (he := (by first | rfl | (simp; done) | (congr 2; omega))) (h := trivial)))) (.c (.c (.c (.c (.c (.c (.c (.c (.c (.c (.c (.c (.c (.c (.c (.c (.c (.c (.c (.c (.c (.c (.c (.c (.c (.c (.c (.c (.c (.c (.c (.c (.c (.c (.c (.c (.c (.c (.c (.c (.c (.c (.c (.c (.c (.c (.c (.c (.c (.c (.c (.c (.c (.c (.c (.c (.c (.c (.c (.c (.c (.c (.c (.c (.c (.c (.c (.c (.c (.c (.c (.c (.c (.c (.c (.c (.c (.c (.c (.c (.c (.c (.c (.c (.c (.c (.c .n)))))))))))))))))))))))))))))))))))))))))))))))))))))))))))))))))))))))))))))))))))))))
                            skip; all_goals (dsimp only; omega)
                        · first
                        | omega | contradiction
                        | refine S.sk (S.sk (S.sk (S.sk (S.sk (S.o q.pf (S.end (hK _ ?_))))))); clear hK K; refine Ev.cf ?_; refine Ev.skip ?_; show Ev _ _ _ _; refine Ev.region_S fun K hK => S.o q.mv (S.o q.add (S.o q.as (S.end (hK _ ?_)))); clear hK K; refine hR4 _ _ ?_
                          refine roundU [0, 1, 2, 3, 4, 5] [1, 5, 6, 7, 8, 9, 10, 11, 12, 13, 14, 19, 20, 21, 22, 23, 24, 25, 26, 27, 28, 29, 30, 31, 32, 33, 34, 35, 36, 37, 38, 39, 40, 41, 42, 43, 44, 45, 46, 47, 48, 49, 50, 51, 52, 53, 54, 55, 56, 57, 58, 59, 60, 61, 62, 63, 64, 65, 66, 67, 68, 69, 70, 71, 72, 73, 74, 75, 76, 77, 78, 79, 80, 81, 82, 83, 84, 85, 86, 87, 88, 89, 90, 91, 92, 93, 94] ⟨i + 1, by omega, by omega⟩ ?_ (keep_c (he := (by first | rfl | (simp; done))) (h := (keep_c (he := rfl) (h := (keep_c (he := (by first | rfl | (simp; done))) (h := (keep_c (he := (by first | rfl | (simp; done))) (h := (keep_c (he := (by first | rfl | (simp; done))) (h := (keep_c (he := (by first | exact leg_row (legF_1 _) | exact leg_row (leg_t hi1 hbl hp1 hq1 ⟨by assumption, by assumption, by assumption⟩) | exact leg_row_n (leg_n hi1 hbl hp1 hq1 (fun hh => by have h1 := hh.1; have h2 := hh.2.1; have h3 := hh.2.2; first | contradiction | omega)) hbl)) (h := keep_n)))))))))))) (slots_c (he := (by first | rfl | (congr 2; omega))) (h := (slots_c (he := (by first | rfl | (simp; done) | (congr 2; omega))) (h := trivial)))) (.c (.c (.c (.c (.c (.c (.c (.c (.c (.c (.c (.c (.c (.c (.c (.c (.c (.c (.c (.c (.c (.c (.c (.c (.c (.c (.c (.c (.c (.c (.c (.c (.c (.c (.c (.c (.c (.c (.c (.c (.c (.c (.c (.c (.c (.c (.c (.c (.c (.c (.c (.c (.c (.c (.c (.c (.c (.c (.c (.c (.c (.c (.c (.c (.c (.c (.c (.c (.c (.c (.c (.c (.c (.c (.c (.c (.c (.c (.c (.c (.c (.c (.c (.c (.c (.c (.c .n)))))))))))))))))))))))))))))))))))))))))))))))))))))))))))))))))))))))))))))))))))))))
                          skip; all_goals (dsimp only; omega)
                      · first
                      | omega | contradiction
                      | refine S.sk (S.sk (S.sk (S.sk (S.sk (S.o q.pf (S.o q.mv (S.sk (S.sk (S.sk (S.sk (S.sk (S.o q.pf (S.end (hK _ ?_)))))))))))))); clear hK K; refine Ev.cf ?_; refine Ev.skip ?_; show Ev _ _ _ _; refine Ev.region_S fun K hK => S.o q.mv (S.o q.add (S.o q.as (S.end (hK _ ?_)))); clear hK K; refine hR4 _ _ ?_
                        refine roundU [0, 1, 2, 3, 4, 5] [1, 5, 6, 7, 8, 9, 10, 11, 12, 13, 14, 19, 20, 21, 22, 23, 24, 25, 26, 27, 28, 29, 30, 31, 32, 33, 34, 35, 36, 37, 38, 39, 40, 41, 42, 43, 44, 45, 46, 47, 48, 49, 50, 51, 52, 53, 54, 55, 56, 57, 58, 59, 60, 61, 62, 63, 64, 65, 66, 67, 68, 69, 70, 71, 72, 73, 74, 75, 76, 77, 78, 79, 80, 81, 82, 83, 84, 85, 86, 87, 88, 89, 90, 91, 92, 93, 94] ⟨i + 1, by omega, by omega⟩ ?_ (keep_c (he := (by first | rfl | (simp; done))) (h := (keep_c (he := rfl) (h := (keep_c (he := (by first | rfl | (simp; done))) (h := (keep_c (he := (by first | rfl | (simp; done))) (h := (keep_c (he := (by first | rfl | (simp; done))) (h := (keep_c (he := (by first | exact leg_row (legF_1 _) | exact leg_row (leg_t hi1 hbl hp1 hq1 ⟨by assumption, by assumption, by assumption⟩) | exact leg_row_n (leg_n hi1 hbl hp1 hq1 (fun hh => by have h1 := hh.1; have h2 := hh.2.1; have h3 := hh.2.2; first | contradiction | omega)) hbl)) (h := keep_n)))))))))))) (slots_c (he := (by first | rfl | (congr 2; omega))) (h := (slots_c (he := (by first | rfl | (simp; done) | (congr 2; omega))) (h := trivial)))) (.c (.c (.c (.c (.c (.c (.c (.c (.c (.c (.c (.c (.c (.c (.c (.c (.c (.c (.c (.c (.c (.c (.c (.c (.c (.c (.c (.c (.c (.c (.c (.c (.c (.c (.c (.c (.c (.c (.c (.c (.c (.c (.c (.c (.c (.c (.c (.c (.c (.c (.c (.c (.c (.c (.c (.c (.c (.c (.c (.c (.c (.c (.c (.c (.c (.c (.c (.c (.c (.c (.c (.c (.c (.c (.c (.c (.c (.c (.c (.c (.c (.c (.c (.c (.c (.c (.c .n)))))))))))))))))))))))))))))))))))))))))))))))))))))))))))))))))))))))))))))))))))))))
                        skip; all_goals (dsimp only; omega)
                    · first
                    | omega | contradiction
                    | refine Ev.exit ?_; refine hR4 _ _ ?_; show Ev _ _ _ _; refine Ev.region_S fun K hK => S.o q.mv (S.o (q.lvA [_, _, _, _, _, _, _, _, _] am_ag183 am_cl183) (S.nn (q.bs [[_, _, _, _, _, _, _, _, _]] true am_el103 am_ze183 am_cl183) (S.ap' [_, _, _, _, _, _] am_el103 am_ze183 am_cl183 am_by183 (hh := head_own') (hr := (rows_lit [(⟨⟨_, _, _, _, _, _⟩, _, _, _⟩ : Mn)])) (h := S.o q.as (S.end (hK _ ?_)))))); clear hK K; show Ev _ _ _ _; refine Ev.region_S fun K hK => S.o q.add (S.o q.mv (S.end (hK _ ?_))); clear hK K; refine hR2 _ _ ?_
                      refine roundU [0, 7, 2, 3] [1, 5, 6, 7, 8, 9, 19, 20, 21, 22, 23, 24, 25, 26, 27, 28, 29, 30, 31, 32, 33, 34, 35, 36, 37, 38, 39, 40, 41, 42, 43, 44, 45, 46, 47, 48] ⟨k + 1, by omega, runGood_succ hgk hgd⟩ ?_ (keep_c (he := rfl) (h := (keep_c (he := (by first | rfl | exact mains_row _ hle hl | exact mains_row_t _ hle hl hbl | (simp [runMains]; done))) (h := (keep_c (he := rfl) (h := (keep_c (he := rfl) (h := keep_n)))))))) (slots_c (he := (by first | rfl | (congr 2; omega))) (h := (slots_c (he := (by first | rfl | exact congrArg (fun q => AV.als 1 0 q) (by simp only [List.length_append, runMains_len, List.length_cons, List.length_nil]; omega))) (h := trivial)))) (.c (.c (.c (.c (.c (.c (.c (.c (.c (.c (.c (.c (.c (.c (.c (.c (.c (.c (.c (.c (.c (.c (.c (.c (.c (.c (.c (.c (.c (.c (.c (.c (.c (.c (.c (.c .n)))))))))))))))))))))))))))))))))))); skip; all_goals (dsimp only; omega)
                  · first
                  | omega | contradiction
                  | refine S.sk (S.sk (S.sk (S.o q.pf (S.end (hK _ ?_))))); clear hK K; refine Ev.cf ?_; refine Ev.exit ?_; refine hR4 _ _ ?_; show Ev _ _ _ _; refine Ev.region_S fun K hK => S.o q.mv (S.o (q.lvA [_, _, _, _, _, _, _, _, _] am_ag183 am_cl183) (S.nn (q.bs [[_, _, _, _, _, _, _, _, _]] true am_el103 am_ze183 am_cl183) (S.ap' [_, _, _, _, _, _] am_el103 am_ze183 am_cl183 am_by183 (hh := head_own') (hr := (rows_lit [(⟨⟨_, _, _, _, _, _⟩, _, _, _⟩ : Mn)])) (h := S.o q.as (S.end (hK _ ?_)))))); clear hK K; show Ev _ _ _ _; refine Ev.region_S fun K hK => S.o q.add (S.o q.mv (S.end (hK _ ?_))); clear hK K; refine hR2 _ _ ?_
                    refine roundU [0, 7, 2, 3] [1, 5, 6, 7, 8, 9, 19, 20, 21, 22, 23, 24, 25, 26, 27, 28, 29, 30, 31, 32, 33, 34, 35, 36, 37, 38, 39, 40, 41, 42, 43, 44, 45, 46, 47, 48] ⟨k + 1, by omega, runGood_succ hgk hgd⟩ ?_ (keep_c (he := rfl) (h := (keep_c (he := (by first | rfl | exact mains_row _ hle hl | exact mains_row_t _ hle hl hbl | (simp [runMains]; done))) (h := (keep_c (he := rfl) (h := (keep_c (he := rfl) (h := keep_n)))))))) (slots_c (he := (by first | rfl | (congr 2; omega))) (h := (slots_c (he := (by first | rfl | exact congrArg (fun q => AV.als 1 0 q) (by simp only [List.length_append, runMains_len, List.length_cons, List.length_nil]; omega))) (h := trivial)))) (.c (.c (.c (.c (.c (.c (.c (.c (.c (.c (.c (.c (.c (.c (.c (.c (.c (.c (.c (.c (.c (.c (.c (.c (.c (.c (.c (.c (.c (.c (.c (.c (.c (.c (.c (.c .n)))))))))))))))))))))))))))))))))))); skip; all_goals (dsimp only; omega)
                · have hle := legF_full (l := l) (i := i) (by omega); refine Ev.seq ?_; refine Ev.sr fun K hK => S.o q.mv (S.o q.mv (S.o (q.lens am_el146) (S.o q.lss (S.bd q.mv (fun c13 => ?_) (fun c13 => ?_)))))
                  · first
                  | omega | contradiction
                  | refine S.o (q.fa 6 am_fi183_1 am_cl4) (S.o (q.lv am_ag4) (S.o q.not (S.o q.pt (S.end (hK _ ?_))))); clear hK K; refine Ev.c (fun c14 => ?_) (fun c14 => ?_)
                    · first
                    | omega | contradiction
                    | refine Ev.skip ?_; show Ev _ _ _ _; refine Ev.seq ?_; refine Ev.block ?_; refine Ev.sl (tbs [(0, 0), (0, 0), (2, 2), (3, 7), (4, 15), (0, 0), (0, 0), (7, 96), (8, 224), (0, 0), (0, 0), (11, 1567), (12, 4095)]) 11 fun K hK => M.o q.mv (M.o q.mv (M.o q.sub (M.o (q.ix am_el146 am_cl80 (hl := (by first | exact ati hidx (by omega) | exact ati hlg (by omega) | exact ati hidx (by omega) | exact ati hlg (by omega) | exact atig (by omega)))) (M.o (q.lsA [_, _, _] am_ag80 am_cl80) (M.o q.mv (M.o q.mv (M.o (q.ix am_el146 am_cl80 (hl := (by first | exact ati hidx (by omega) | exact ati hlg (by omega) | exact ati hidx (by omega) | exact ati hlg (by omega) | exact atig (by omega)))) (M.o (q.lsA [_, _, _] am_ag80 am_cl80) (M.nn [_] (q.al am_ze80) (h := M.nn [_, _] (q.al am_ze80) (h := M.late [_, _, _] true [_, _, _, _, _, _, _, _] am_in80 am_cl80 (h := S.sv [_, _, _] true [_, _, _, _, _, _, _] am_in80 am_cl80 (h := S.end (hK _ ?_)))))))))))))); clear hK K; refine Ev.sr fun K hK => S.o (q.fa 0 am_fi80_0 am_cl3) (S.o (q.lv am_ag3) (S.o (q.fa 0 am_fi80_0 am_cl3) (S.o (q.lv am_ag3) (S.o q.neq (S.bn q.mv (fun c15 => ?_) (fun c15 => ?_))))))
                      · first
                      | omega | contradiction
                      | refine S.o (q.fa 1 am_fi80_1 am_cl3) (S.o (q.lv am_ag3) (S.o (q.fa 1 am_fi80_1 am_cl3) (S.o (q.lv am_ag3) (S.o q.eql (S.o q.pt (S.bd q.mv (fun c16 => ?_) (fun c16 => ?_)))))))
                        · first
                        | omega | contradiction
                        | refine S.o (q.fa 2 am_fi80_2 am_cl3) (S.o (q.lv am_ag3) (S.o (q.fa 2 am_fi80_2 am_cl3) (S.o (q.lv am_ag3) (S.o q.eql (S.o q.pt (S.end (hK _ ?_))))))); clear hK K; refine Ev.cd (fun c17 => ?_) (fun c17 => ?_)
                          · first
                          | omega | contradiction
                          | refine Ev.region_S fun K hK => S.o (q.fa 0 am_fi80_0 am_cl3) (S.o (q.lv am_ag3) (S.o (q.fa 0 am_fi80_0 am_cl3) (S.o (q.lv am_ag3) (S.o q.min (S.o (q.fa 1 am_fi80_1 am_cl3) (S.o (q.lv am_ag3) (S.o (q.fa 2 am_fi80_2 am_cl3) (S.o (q.lv am_ag3) (S.o (q.bd [_, _, _] am_ze80 am_pl80) (S.o (q.fa 0 am_fi80_0 am_cl3) (S.o (q.lv am_ag3) (S.o (q.fa 0 am_fi80_0 am_cl3) (S.o (q.lv am_ag3) (S.o q.max (S.o (q.fa 1 am_fi80_1 am_cl3) (S.o (q.lv am_ag3) (S.o (q.fa 2 am_fi80_2 am_cl3) (S.o (q.lv am_ag3) (S.o (q.bd [_, _, _] am_ze80 am_pl80) (S.o (q.bd [_, _, _, _, _, _] am_ze100 am_pl100) (S.o (q.fa 0 am_fi183_0 am_cl100) (S.sv [_, _, _, _, _, _, _, _, _] true [_, _, _, _, _, _, _] am_in100 am_cl100 (h := S.o (q.fa 6 am_fi183_1 am_cl4) (S.sv [_, _, _, _, _, _, _, _, _] true [_, _, _, _, _, _, _] am_in4 am_cl4 (h := S.end (hK _ ?_)))))))))))))))))))))))))); clear hK K; show Ev _ _ _ _; refine Ev.region_S fun K hK => S.o q.mv (S.o q.add (S.o q.as (S.end (hK _ ?_)))); clear hK K; refine hR4 _ _ ?_
                            refine roundU [0, 1, 2, 3, 4, 5] [1, 5, 6, 7, 8, 9, 10, 11, 12, 13, 14, 19, 20, 21, 22, 23, 24, 25, 26, 27, 28, 29, 30, 31, 32, 33, 34, 35, 36, 37, 38, 39, 40, 41, 42, 43, 44, 45, 46, 47, 48, 49, 50, 51, 52, 53, 54, 55, 56, 57, 58, 59, 60, 61, 62, 63, 64, 65, 66, 67, 68, 69, 70, 71, 72, 73, 74, 75, 76, 77, 78, 79, 80, 81, 82, 83, 84, 85, 86, 87, 88, 89, 90, 91, 92, 93, 94] ⟨i + 1, by omega, by omega⟩ ?_ (keep_c (he := (by first | rfl | (simp; done))) (h := (keep_c (he := rfl) (h := (keep_c (he := (by first | rfl | (simp; done))) (h := (keep_c (he := (by first | rfl | (simp; done))) (h := (keep_c (he := (by first | rfl | (simp; done))) (h := (keep_c (he := (by first | exact leg_row (legF_1 _) | exact leg_row (leg_t hi1 hbl hp1 hq1 ⟨by assumption, by assumption, by assumption⟩) | exact leg_row_n (leg_n hi1 hbl hp1 hq1 (fun hh => by have h1 := hh.1; have h2 := hh.2.1; have h3 := hh.2.2; first | contradiction | omega)) hbl)) (h := keep_n)))))))))))) (slots_c (he := (by first | rfl | (congr 2; omega))) (h := (slots_c (he := (by first | rfl | (simp; done) | (congr 2; omega))) (h := trivial)))) (.c (.c (.c (.c (.c (.c (.c (.c (.c (.c (.c (.c (.c (.c (.c (.c (.c (.c (.c (.c (.c (.c (.c (.c (.c (.c (.c (.c (.c (.c (.c (.c (.c (.c (.c (.c (.c (.c (.c (.c (.c (.c (.c (.c (.c (.c (.c (.c (.c (.c (.c (.c (.c (.c (.c (.c (.c (.c (.c (.c (.c (.c (.c (.c (.c (.c (.c (.c (.c (.c (.c (.c (.c (.c (.c (.c (.c (.c (.c (.c (.c (.c (.c (.c (.c (.c (.c .n)))))))))))))))))))))))))))))))))))))))))))))))))))))))))))))))))))))))))))))))))))))))
                            skip; all_goals (dsimp only; omega)
                          · first
                          | omega | contradiction
                          | refine Ev.skip ?_; show Ev _ _ _ _; refine Ev.region_S fun K hK => S.o q.mv (S.o q.add (S.o q.as (S.end (hK _ ?_)))); clear hK K; refine hR4 _ _ ?_
                            refine roundU [0, 1, 2, 3, 4, 5] [1, 5, 6, 7, 8, 9, 10, 11, 12, 13, 14, 19, 20, 21, 22, 23, 24, 25, 26, 27, 28, 29, 30, 31, 32, 33, 34, 35, 36, 37, 38, 39, 40, 41, 42, 43, 44, 45, 46, 47, 48, 49, 50, 51, 52, 53, 54, 55, 56, 57, 58, 59, 60, 61, 62, 63, 64, 65, 66, 67, 68, 69, 70, 71, 72, 73, 74, 75, 76, 77, 78, 79, 80, 81, 82, 83, 84, 85, 86, 87, 88, 89, 90, 91, 92, 93, 94] ⟨i + 1, by omega, by omega⟩ ?_ (keep_c (he := (by first | rfl | (simp; done))) (h := (keep_c (he := rfl) (h := (keep_c (he := (by first | rfl | (simp; done))) (h := (keep_c (he := (by first | rfl | (simp; done))) (h := (keep_c (he := (by first | rfl | (simp; done))) (h := (keep_c (he := (by first | exact leg_row (legF_1 _) | exact leg_row (leg_t hi1 hbl hp1 hq1 ⟨by assumption, by assumption, by assumption⟩) | exact leg_row_n (leg_n hi1 hbl hp1 hq1 (fun hh => by have h1 := hh.1; have h2 := hh.2.1; have h3 := hh.2.2; first | contradiction | omega)) hbl)) (h := keep_n)))))))))))) (slots_c (he := (by first | rfl | (congr 2; omega))) (h := (slots_c (he := (by first | rfl | (simp; done) | (congr 2; omega))) (h := trivial)))) (.c (.c (.c (.c (.c (.c (.c (.c (.c (.c (.c (.c (.c (.c (.c (.c (.c (.c (.c (.c (.c (.c (.c (.c (.c (.c (.c (.c (.c (.c (.c (.c (.c (.c (.c (.c (.c (.c (.c (.c (.c (.c (.c (.c (.c (.c (.c (.c (.c (.c (.c (.c (.c (.c (.c (.c (.c (.c (.c (.c (.c (.c (.c (.c (.c (.c (.c (.c (.c (.c (.c (.c (.c (.c (.c (.c (.c (.c (.c (.c (.c (.c (.c (.c (.c (.c (.c .n)))))))))))))))))))))))))))))))))))))))))))))))))))))))))))))))))))))))))))))))))))))))
                            skip; all_goals (dsimp only; omega)
                        · first
                        | omega | contradiction
                        | refine S.sk (S.sk (S.sk (S.sk (S.sk (S.o q.pf (S.end (hK _ ?_))))))); clear hK K; refine Ev.cf ?_; refine Ev.skip ?_; show Ev _ _ _ _; refine Ev.region_S fun K hK => S.o q.mv (S.o q.add (S.o q.as (S.end (hK _ ?_)))); clear hK K; refine hR4 _ _ ?_
                          refine roundU [0, 1, 2, 3, 4, 5] [1, 5, 6, 7, 8, 9, 10, 11, 12, 13, 14, 19, 20, 21, 22, 23, 24, 25, 26, 27, 28, 29, 30, 31, 32, 33, 34, 35, 36, 37, 38, 39, 40, 41, 42, 43, 44, 45, 46, 47, 48, 49, 50, 51, 52, 53, 54, 55, 56, 57, 58, 59, 60, 61, 62, 63, 64, 65, 66, 67, 68, 69, 70, 71, 72, 73, 74, 75, 76, 77, 78, 79, 80, 81, 82, 83, 84, 85, 86, 87, 88, 89, 90, 91, 92, 93, 94] ⟨i + 1, by omega, by omega⟩ ?_ (keep_c (he := (by first | rfl | (simp; done))) (h := (keep_c (he := rfl) (h := (keep_c (he := (by first | rfl | (simp; done))) (h := (keep_c (he := (by first | rfl | (simp; done))) (h := (keep_c (he := (by first | rfl | (simp; done))) (h := (keep_c (he := (by first | exact leg_row (legF_1 _) | exact leg_row (leg_t hi1 hbl hp1 hq1 ⟨by assumption, by assumption, by assumption⟩) | exact leg_row_n (leg_n hi1 hbl hp1 hq1 (fun hh => by have h1 := hh.1; have h2 := hh.2.1; have h3 := hh.2.2; first | contradiction | omega)) hbl)) (h := keep_n)))))))))))) (slots_c (he := (by first | rfl | (congr 2; omega))) (h := (slots_c (he := (by first | rfl | (simp; done) | (congr 2; omega))) (h := trivial)))) (.c (.c (.c (.c (.c (.c (.c (.c (.c (.c (.c (.c (.c (.c (.c (.c (.c (.c (.c (.c (.c (.c (.c (.c (.c (.c (.c (.c (.c (.c (.c (.c (.c (.c (.c (.c (.c (.c (.c (.c (.c (.c (.c (.c (.c (.c (.c (.c (.c (.c (.c (.c (.c (.c (.c (.c (.c (.c (.c (.c (.c (.c (.c (.c (.c (.c (.c (.c (.c (.c (.c (.c (.c (.c (.c (.c (.c (.c (.c (.c (.c (.c (.c (.c (.c (.c (.c .n)))))))))))))))))))))))))))))))))))))))))))))))))))))))))))))))))))))))))))))))))))))))
                          skip; all_goals (dsimp only; omega)
                      · first
                      | omega | contradiction
                      | refine S.sk (S.sk (S.sk (S.sk (S.sk (S.o q.pf (S.o q.mv (S.sk (S.sk (S.sk (S.sk (S.sk (S.o q.pf (S.end (hK _ ?_)))))))))))))); clear hK K; refine Ev.cf ?_; refine Ev.skip ?_; show Ev _ _ _ _; refine Ev.region_S fun K hK => S.o q.mv (S.o q.add (S.o q.as (S.end (hK _ ?_)))); clear hK K; refine hR4 _ _ ?_
                        refine roundU [0, 1, 2, 3, 4, 5] [1, 5, 6, 7, 8, 9, 10, 11, 12, 13, 14, 19, 20, 21, 22, 23, 24, 25, 26, 27, 28, 29, 30, 31, 32, 33, 34, 35, 36, 37, 38, 39, 40, 41, 42, 43, 44, 45, 46, 47, 48, 49, 50, 51, 52, 53, 54, 55, 56, 57, 58, 59, 60, 61, 62, 63, 64, 65, 66, 67, 68, 69, 70, 71, 72, 73, 74, 75, 76, 77, 78, 79, 80, 81, 82, 83, 84, 85, 86, 87, 88, 89, 90, 91, 92, 93, 94] ⟨i + 1, by omega, by omega⟩ ?_ (keep_c (he := (by first | rfl | (simp; done))) (h := (keep_c (he := rfl) (h := (keep_c (he := (by first | rfl | (simp; done))) (h := (keep_c (he := (by first | rfl | (simp; done))) (h := (keep_c (he := (by first | rfl | (simp; done))) (h := (keep_c (he := (by first | exact leg_row (legF_1 _) | exact leg_row (leg_t hi1 hbl hp1 hq1 ⟨by assumption, by assumption, by assumption⟩) | exact leg_row_n (leg_n hi1 hbl hp1 hq1 (fun hh => by have h1 := hh.1; have h2 := hh.2.1; have h3 := hh.2.2; first | contradiction | omega)) hbl)) (h := keep_n)))))))))))) (slots_c (he := (by first | rfl | (congr 2; omega))) (h := (slots_c (he := (by first | rfl | (simp; done) | (congr 2; omega))) (h := trivial)))) (.c (.c (.c (.c (.c (.c (.c (.c (.c (.c (.c (.c (.c (.c (.c (.c (.c (.c (.c (.c (.c (.c (.c (.c (.c (.c (.c (.c (.c (.c (.c (.c (.c (.c (.c (.c (.c (.c (.c (.c (.c (.c (.c (.c (.c (.c (.c (.c (.c (.c (.c (.c (.c (.c (.c (.c (.c (.c (.c (.c (.c (.c (.c (.c (.c (.c (.c (.c (.c (.c (.c (.c (.c (.c (.c (.c (.c (.c (.c (.c (.c (.c (.c (.c (.c (.c (.c .n)))))))))))))))))))))))))))))))))))))))))))))))))))))))))))))))))))))))))))))))))))))))
                        skip; all_goals (dsimp only; omega)
                    · first
                    | omega | contradiction
                    | refine Ev.exit ?_; refine hR4 _ _ ?_; show Ev _ _ _ _; refine Ev.region_S fun K hK => S.o q.mv (S.o (q.lvA [_, _, _, _, _, _, _, _, _] am_ag183 am_cl183) (S.nn (q.bs [[_, _, _, _, _, _, _, _, _]] true am_el103 am_ze183 am_cl183) (S.ap' [_, _, _, _, _, _] am_el103 am_ze183 am_cl183 am_by183 (hh := head_own') (hr := (rows_lit [(⟨⟨_, _, _, _, _, _⟩, _, _, _⟩ : Mn)])) (h := S.o q.as (S.end (hK _ ?_)))))); clear hK K; show Ev _ _ _ _; refine Ev.region_S fun K hK => S.o q.add (S.o q.mv (S.end (hK _ ?_))); clear hK K; refine hR2 _ _ ?_
                      refine roundU [0, 7, 2, 3] [1, 5, 6, 7, 8, 9, 19, 20, 21, 22, 23, 24, 25, 26, 27, 28, 29, 30, 31, 32, 33, 34, 35, 36, 37, 38, 39, 40, 41, 42, 43, 44, 45, 46, 47, 48] ⟨k + 1, by omega, runGood_succ hgk hgd⟩ ?_ (keep_c (he := rfl) (h := (keep_c (he := (by first | rfl | exact mains_row _ hle hl | exact mains_row_t _ hle hl hbl | (simp [runMains]; done))) (h := (keep_c (he := rfl) (h := (keep_c (he := rfl) (h := keep_n)))))))) (slots_c (he := (by first | rfl | (congr 2; omega))) (h := (slots_c (he := (by first | rfl | exact congrArg (fun q => AV.als 1 0 q) (by simp only [List.length_append, runMains_len, List.length_cons, List.length_nil]; omega))) (h := trivial)))) (.c (.c (.c (.c (.c (.c (.c (.c (.c (.c (.c (.c (.c (.c (.c (.c (.c (.c (.c (.c (.c (.c (.c (.c (.c (.c (.c (.c (.c (.c (.c (.c (.c (.c (.c (.c .n)))))))))))))))))))))))))))))))))))); skip; all_goals (dsimp only; omega)
                  · first
                  | omega | contradiction
                  | refine S.sk (S.sk (S.sk (S.o q.pf (S.end (hK _ ?_))))); clear hK K; refine Ev.cf ?_; refine Ev.exit ?_; refine hR4 _ _ ?_; show Ev _ _ _ _; refine Ev.region_S fun K hK => S.o q.mv (S.o (q.lvA [_, _, _, _, _, _, _, _, _] am_ag183 am_cl183) (S.nn (q.bs [[_, _, _, _, _, _, _, _, _]] true am_el103 am_ze183 am_cl183) (S.ap' [_, _, _, _, _, _] am_el103 am_ze183 am_cl183 am_by183 (hh := head_own') (hr := (rows_lit [(⟨⟨_, _, _, _, _, _⟩, _, _, _⟩ : Mn)])) (h := S.o q.as (S.end (hK _ ?_)))))); clear hK K; show Ev _ _ _ _; refine Ev.region_S fun K hK => S.o q.add (S.o q.mv (S.end (hK _ ?_))); clear hK K; refine hR2 _ _ ?_
                    refine roundU [0, 7, 2, 3] [1, 5, 6, 7, 8, 9, 19, 20, 21, 22, 23, 24, 25, 26, 27, 28, 29, 30, 31, 32, 33, 34, 35, 36, 37, 38, 39, 40, 41, 42, 43, 44, 45, 46, 47, 48] ⟨k + 1, by omega, runGood_succ hgk hgd⟩ ?_ (keep_c (he := rfl) (h := (keep_c (he := (by first | rfl | exact mains_row _ hle hl | exact mains_row_t _ hle hl hbl | (simp [runMains]; done))) (h := (keep_c (he := rfl) (h := (keep_c (he := rfl) (h := keep_n)))))))) (slots_c (he := (by first | rfl | (congr 2; omega))) (h := (slots_c (he := (by first | rfl | exact congrArg (fun q => AV.als 1 0 q) (by simp only [List.length_append, runMains_len, List.length_cons, List.length_nil]; omega))) (h := trivial)))) (.c (.c (.c (.c (.c (.c (.c (.c (.c (.c (.c (.c (.c (.c (.c (.c (.c (.c (.c (.c (.c (.c (.c (.c (.c (.c (.c (.c (.c (.c (.c (.c (.c (.c (.c (.c .n)))))))))))))))))))))))))))))))))))); skip; all_goals (dsimp only; omega)
                · obtain ⟨⟨p1, p2, p3⟩, hp1⟩ : ∃ p, l[i - 1]? = some p := ⟨_, List.getElem?_eq_getElem (by omega)⟩; obtain ⟨⟨q1, q2, q3⟩, hq1⟩ : ∃ q, l[i]? = some q := ⟨_, List.getElem?_eq_getElem (by omega)⟩
                  have hp2 : l[((i : Int) - 1).toNat]? = some (p1, p2, p3) := by rw [← hp1]; congr 1; omega
                  refine Ev.seq ?_; refine Ev.sr fun K hK => S.o q.mv (S.o q.mv (S.o (q.lens am_el146) (S.o q.lss (S.bd q.mv (fun c18 => ?_) (fun c18 => ?_)))))
                  · first
                  | omega | contradiction
                  | refine S.o (q.fa 6 am_fi183_1 am_cl4) (S.o (q.lv am_ag4) (S.o q.not (S.o q.pt (S.end (hK _ ?_))))); clear hK K; refine Ev.c (fun c19 => ?_) (fun c19 => ?_)
                    · first
                    | omega | contradiction
                    | refine Ev.skip ?_; show Ev _ _ _ _; refine Ev.seq ?_; refine Ev.block ?_; refine Ev.sl (tbs [(0, 0), (0, 0), (2, 2), (3, 7), (4, 15), (0, 0), (0, 0), (7, 96), (8, 224), (0, 0), (0, 0), (11, 1567), (12, 4095)]) 11 fun K hK => M.o q.mv (M.o q.mv (M.o q.sub (M.o (q.ix am_el146 am_cl80 (hl := (by first | exact ati hidx (by omega) | exact ati hlg (by omega) | exact ati hidx (by omega) | exact ati hlg (by omega) | exact ati hp2 (by omega) | exact ati hq1 (by omega) | exact atig (by omega)))) (M.o (q.lsA [_, _, _] am_ag80 am_cl80) (M.o q.mv (M.o q.mv (M.o (q.ix am_el146 am_cl80 (hl := (by first | exact ati hidx (by omega) | exact ati hlg (by omega) | exact ati hidx (by omega) | exact ati hlg (by omega) | exact ati hp2 (by omega) | exact ati hq1 (by omega) | exact atig (by omega)))) (M.o (q.lsA [_, _, _] am_ag80 am_cl80) (M.nn [_] (q.al am_ze80) (h := M.nn [_, _] (q.al am_ze80) (h := M.late [_, _, _] true [_, _, _, _, _, _, _, _] am_in80 am_cl80 (h := S.sv [_, _, _] true [_, _, _, _, _, _, _] am_in80 am_cl80 (h := S.end (hK _ ?_)))))))))))))); clear hK K; refine Ev.sr fun K hK => S.o (q.fa 0 am_fi80_0 am_cl3) (S.o (q.lv am_ag3) (S.o (q.fa 0 am_fi80_0 am_cl3) (S.o (q.lv am_ag3) (S.o q.neq (S.bn q.mv (fun c20 => ?_) (fun c20 => ?_))))))
                      · first
                      | omega | contradiction
                      | refine S.o (q.fa 1 am_fi80_1 am_cl3) (S.o (q.lv am_ag3) (S.o (q.fa 1 am_fi80_1 am_cl3) (S.o (q.lv am_ag3) (S.o q.eql (S.o q.pt (S.bd q.mv (fun c21 => ?_) (fun c21 => ?_)))))))
                        · first
                        | omega | contradiction
                        | refine S.o (q.fa 2 am_fi80_2 am_cl3) (S.o (q.lv am_ag3) (S.o (q.fa 2 am_fi80_2 am_cl3) (S.o (q.lv am_ag3) (S.o q.eql (S.o q.pt (S.end (hK _ ?_))))))); clear hK K; refine Ev.cd (fun c22 => ?_) (fun c22 => ?_)
                          · first
                          | omega | contradiction
                          | refine Ev.region_S fun K hK => S.o (q.fa 0 am_fi80_0 am_cl3) (S.o (q.lv am_ag3) (S.o (q.fa 0 am_fi80_0 am_cl3) (S.o (q.lv am_ag3) (S.o q.min (S.o (q.fa 1 am_fi80_1 am_cl3) (S.o (q.lv am_ag3) (S.o (q.fa 2 am_fi80_2 am_cl3) (S.o (q.lv am_ag3) (S.o (q.bd [_, _, _] am_ze80 am_pl80) (S.o (q.fa 0 am_fi80_0 am_cl3) (S.o (q.lv am_ag3) (S.o (q.fa 0 am_fi80_0 am_cl3) (S.o (q.lv am_ag3) (S.o q.max (S.o (q.fa 1 am_fi80_1 am_cl3) (S.o (q.lv am_ag3) (S.o (q.fa 2 am_fi80_2 am_cl3) (S.o (q.lv am_ag3) (S.o (q.bd [_, _, _] am_ze80 am_pl80) (S.o (q.bd [_, _, _, _, _, _] am_ze100 am_pl100) (S.o (q.fa 0 am_fi183_0 am_cl100) (S.sv [_, _, _, _, _, _, _, _, _] true [_, _, _, _, _, _, _] am_in100 am_cl100 (h := S.o (q.fa 6 am_fi183_1 am_cl4) (S.sv [_, _, _, _, _, _, _, _, _] true [_, _, _, _, _, _, _] am_in4 am_cl4 (h := S.end (hK _ ?_)))))))))))))))))))))))))); clear hK K; show Ev _ _ _ _; refine Ev.region_S fun K hK => S.o q.mv (S.o q.add (S.o q.as (S.end (hK _ ?_)))); clear hK K; refine hR4 _ _ ?_
                            refine roundU [0, 1, 2, 3, 4, 5] [1, 5, 6, 7, 8, 9, 10, 11, 12, 13, 14, 19, 20, 21, 22, 23, 24, 25, 26, 27, 28, 29, 30, 31, 32, 33, 34, 35, 36, 37, 38, 39, 40, 41, 42, 43, 44, 45, 46, 47, 48, 49, 50, 51, 52, 53, 54, 55, 56, 57, 58, 59, 60, 61, 62, 63, 64, 65, 66, 67, 68, 69, 70, 71, 72, 73, 74, 75, 76, 77, 78, 79, 80, 81, 82, 83, 84, 85, 86, 87, 88, 89, 90, 91, 92, 93, 94] ⟨i + 1, by omega, by omega⟩ ?_ (keep_c (he := (by first | rfl | (simp; done))) (h := (keep_c (he := rfl) (h := (keep_c (he := (by first | rfl | (simp; done))) (h := (keep_c (he := (by first | rfl | (simp; done))) (h := (keep_c (he := (by first | rfl | (simp; done))) (h := (keep_c (he := (by first | exact leg_row (legF_1 _) | exact leg_row (leg_t hi1 hbl hp1 hq1 ⟨by assumption, by assumption, by assumption⟩) | exact leg_row_n (leg_n hi1 hbl hp1 hq1 (fun hh => by have h1 := hh.1; have h2 := hh.2.1; have h3 := hh.2.2; first | contradiction | omega)) hbl)) (h := keep_n)))))))))))) (slots_c (he := (by first | rfl | (congr 2; omega))) (h := (slots_c (he := (by first | rfl | (simp; done) | (congr 2; omega))) (h := trivial)))) (.c (.c (.c (.c (.c (.c (.c (.c (.c (.c (.c (.c (.c (.c (.c (.c (.c (.c (.c (.c (.c (.c (.c (.c (.c (.c (.c (.c (.c (.c (.c (.c (.c (.c (.c (.c (.c (.c (.c (.c (.c (.c (.c (.c (.c (.c (.c (.c (.c (.c (.c (.c (.c (.c (.c (.c (.c (.c (.c (.c (.c (.c (.c (.c (.c (.c (.c (.c (.c (.c (.c (.c (.c (.c (.c (.c (.c (.c (.c (.c (.c (.c (.c (.c (.c (.c (.c .n)))))))))))))))))))))))))))))))))))))))))))))))))))))))))))))))))))))))))))))))))))))))
                            skip; all_goals (dsimp only; omega)
                          · first
                          | omega | contradiction
                          | refine Ev.skip ?_; show Ev _ _ _ _; refine Ev.region_S fun K hK => S.o q.mv (S.o q.add (S.o q.as (S.end (hK _ ?_)))); clear hK K; refine hR4 _ _ ?_
                            refine roundU [0, 1, 2, 3, 4, 5] [1, 5, 6, 7, 8, 9, 10, 11, 12, 13, 14, 19, 20, 21, 22, 23, 24, 25, 26, 27, 28, 29, 30, 31, 32, 33, 34, 35, 36, 37, 38, 39, 40, 41, 42, 43, 44, 45, 46, 47, 48, 49, 50, 51, 52, 53, 54, 55, 56, 57, 58, 59, 60, 61, 62, 63, 64, 65, 66, 67, 68, 69, 70, 71, 72, 73, 74, 75, 76, 77, 78, 79, 80, 81, 82, 83, 84, 85, 86, 87, 88, 89, 90, 91, 92, 93, 94] ⟨i + 1, by omega, by omega⟩ ?_ (keep_c (he := (by first | rfl | (simp; done))) (h := (keep_c (he := rfl) (h := (keep_c (he := (by first | rfl | (simp; done))) (h := (keep_c (he := (by first | rfl | (simp; done))) (h := (keep_c (he := (by first | rfl | (simp; done))) (h := (keep_c (he := (by first | exact leg_row (legF_1 _) | exact leg_row (leg_t hi1 hbl hp1 hq1 ⟨by assumption, by assumption, by assumption⟩) | exact leg_row_n (leg_n hi1 hbl hp1 hq1 (fun hh => by have h1 := hh.1; have h2 := hh.2.1; have h3 := hh.2.2; first | contradiction | omega)) hbl)) (h := keep_n)))))))))))) (slots_c (he := (by first | rfl | (congr 2; omega))) (h := (slots_c (he := (by first | rfl | (simp; done) | (congr 2; omega))) (h := trivial)))) (.c (.c (.c (.c (.c (.c (.c (.c (.c (.c (.c (.c (.c (.c (.c (.c (.c (.c (.c (.c (.c (.c (.c (.c (.c (.c (.c (.c (.c (.c (.c (.c (.c (.c (.c (.c (.c (.c (.c (.c (.c (.c (.c (.c (.c (.c (.c (.c (.c (.c (.c (.c (.c (.c (.c (.c (.c (.c (.c (.c (.c (.c (.c (.c (.c (.c (.c (.c (.c (.c (.c (.c (.c (.c (.c (.c (.c (.c (.c (.c (.c (.c (.c (.c (.c (.c (.c .n)))))))))))))))))))))))))))))))))))))))))))))))))))))))))))))))))))))))))))))))))))))))
                            skip; all_goals (dsimp only; omega)
                        · first
                        | omega | contradiction
                        | refine S.sk (S.sk (S.sk (S.sk (S.sk (S.o q.pf (S.end (hK _ ?_))))))); clear hK K; refine Ev.cf ?_; refine Ev.skip ?_; show Ev _ _ _ _; refine Ev.region_S fun K hK => S.o q.mv (S.o q.add (S.o q.as (S.end (hK _ ?_)))); clear hK K; refine hR4 _ _ ?_
                          refine roundU [0, 1, 2, 3, 4, 5] [1, 5, 6, 7, 8, 9, 10, 11, 12, 13, 14, 19, 20, 21, 22, 23, 24, 25, 26, 27, 28, 29, 30, 31, 32, 33, 34, 35, 36, 37, 38, 39, 40, 41, 42, 43, 44, 45, 46, 47, 48, 49, 50, 51, 52, 53, 54, 55, 56, 57, 58, 59, 60, 61, 62, 63, 64, 65, 66, 67, 68, 69, 70, 71, 72, 73, 74, 75, 76, 77, 78, 79, 80, 81, 82, 83, 84, 85, 86, 87, 88, 89, 90, 91, 92, 93, 94] ⟨i + 1, by omega, by omega⟩ ?_ (keep_c (he := (by first | rfl | (simp; done))) (h := (keep_c (he := rfl) (h := (keep_c (he := (by first | rfl | (simp; done))) (h := (keep_c (he := (by first | rfl | (simp; done))) (h := (keep_c (he := (by first | rfl | (simp; done))) (h := (keep_c (he := (by first | exact leg_row (legF_1 _) | exact leg_row (leg_t hi1 hbl hp1 hq1 ⟨by assumption, by assumption, by assumption⟩) | exact leg_row_n (leg_n hi1 hbl hp1 hq1 (fun hh => by have h1 := hh.1; have h2 := hh.2.1; have h3 := hh.2.2; first | contradiction | omega)) hbl)) (h := keep_n)))))))))))) (slots_c (he := (by first | rfl | (congr 2; omega))) (h := (slots_c (he := (by first | rfl | (simp; done) | (congr 2; omega))) (h := trivial)))) (.c (.c (.c (.c (.c (.c (.c (.c (.c (.c (.c (.c (.c (.c (.c (.c (.c (.c (.c (.c (.c (.c (.c (.c (.c (.c (.c (.c (.c (.c (.c (.c (.c (.c (.c (.c (.c (.c (.c (.c (.c (.c (.c (.c (.c (.c (.c (.c (.c (.c (.c (.c (.c (.c (.c (.c (.c (.c (.c (.c (.c (.c (.c (.c (.c (.c (.c (.c (.c (.c (.c (.c (.c (.c (.c (.c (.c (.c (.c (.c (.c (.c (.c (.c (.c (.c (.c .n)))))))))))))))))))))))))))))))))))))))))))))))))))))))))))))))))))))))))))))))))))))))
                          skip; all_goals (dsimp only; omega)
                      · first
                      | omega | contradiction
                      | refine S.sk (S.sk (S.sk (S.sk (S.sk (S.o q.pf (S.o q.mv (S.sk (S.sk (S.sk (S.sk (S.sk (S.o q.pf (S.end (hK _ ?_)))))))))))))); clear hK K; refine Ev.cf ?_; refine Ev.skip ?_; show Ev _ _ _ _; refine Ev.region_S fun K hK => S.o q.mv (S.o q.add (S.o q.as (S.end (hK _ ?_)))); clear hK K; refine hR4 _ _ ?_
                        refine roundU [0, 1, 2, 3, 4, 5] [1, 5, 6, 7, 8, 9, 10, 11, 12, 13, 14, 19, 20, 21, 22, 23, 24, 25, 26, 27, 28, 29, 30, 31, 32, 33, 34, 35, 36, 37, 38, 39, 40, 41, 42, 43, 44, 45, 46, 47, 48, 49, 50, 51, 52, 53, 54, 55, 56, 57, 58, 59, 60, 61, 62, 63, 64, 65, 66, 67, 68, 69, 70, 71, 72, 73, 74, 75, 76, 77, 78, 79, 80, 81, 82, 83, 84, 85, 86, 87, 88, 89, 90, 91, 92, 93, 94] ⟨i + 1, by omega, by omega⟩ ?_ (keep_c (he := (by first | rfl | (simp; done))) (h := (keep_c (he := rfl) (h := (keep_c (he := (by first | rfl | (simp; done))) (h := (keep_c (he := (by first | rfl | (simp; done))) (h := (keep_c (he := (by first | rfl | (simp; done))) (h := (keep_c (he := (by first | exact leg_row (legF_1 _) | exact leg_row (leg_t hi1 hbl hp1 hq1 ⟨by assumption, by assumption, by assumption⟩) | exact leg_row_n (leg_n hi1 hbl hp1 hq1 (fun hh => by have h1 := hh.1; have h2 := hh.2.1; have h3 := hh.2.2; first | contradiction | omega)) hbl)) (h := keep_n)))))))))))) (slots_c (he := (by first | rfl | (congr 2; omega))) (h := (slots_c (he := (by first | rfl | (simp; done) | (congr 2; omega))) (h := trivial)))) (.c (.c (.c (.c (.c (.c (.c (.c (.c (.c (.c (.c (.c (.c (.c (.c (.c (.c (.c (.c (.c (.c (.c (.c (.c (.c (.c (.c (.c (.c (.c (.c (.c (.c (.c (.c (.c (.c (.c (.c (.c (.c (.c (.c (.c (.c (.c (.c (.c (.c (.c (.c (.c (.c (.c (.c (.c (.c (.c (.c (.c (.c (.c (.c (.c (.c (.c (.c (.c (.c (.c (.c (.c (.c (.c (.c (.c (.c (.c (.c (.c (.c (.c (.c (.c (.c (.c .n)))))))))))))))))))))))))))))))))))))))))))))))))))))))))))))))))))))))))))))))))))))))
                        skip; all_goals (dsimp only; omega)
                    · first
                    | omega | contradiction
                    | refine Ev.exit ?_; refine hR4 _ _ ?_; show Ev _ _ _ _; refine Ev.region_S fun K hK => S.o q.mv (S.o (q.lvA [_, _, _, _, _, _, _, _, _] am_ag183 am_cl183) (S.nn (q.bs [[_, _, _, _, _, _, _, _, _]] true am_el103 am_ze183 am_cl183) (S.ap' [_, _, _, _, _, _] am_el103 am_ze183 am_cl183 am_by183 (hh := head_own') (hr := (rows_lit [(⟨⟨_, _, _, _, _, _⟩, _, _, _⟩ : Mn)])) (h := S.o q.as (S.end (hK _ ?_)))))); clear hK K; show Ev _ _ _ _; refine Ev.region_S fun K hK => S.o q.add (S.o q.mv (S.end (hK _ ?_))); clear hK K; refine hR2 _ _ ?_
                      refine roundU [0, 7, 2, 3] [1, 5, 6, 7, 8, 9, 19, 20, 21, 22, 23, 24, 25, 26, 27, 28, 29, 30, 31, 32, 33, 34, 35, 36, 37, 38, 39, 40, 41, 42, 43, 44, 45, 46, 47, 48] ⟨k + 1, by omega, runGood_succ hgk hgd⟩ ?_ (keep_c (he := rfl) (h := (keep_c (he := (by first | rfl | exact mains_row _ hle hl | exact mains_row_t _ hle hl hbl | (simp [runMains]; done))) (h := (keep_c (he := rfl) (h := (keep_c (he := rfl) (h := keep_n)))))))) (slots_c (he := (by first | rfl | (congr 2; omega))) (h := (slots_c (he := (by first | rfl | exact congrArg (fun q => AV.als 1 0 q) (by simp only [List.length_append, runMains_len, List.length_cons, List.length_nil]; omega))) (h := trivial)))) (.c (.c (.c (.c (.c (.c (.c (.c (.c (.c (.c (.c (.c (.c (.c (.c (.c (.c (.c (.c (.c (.c (.c (.c (.c (.c (.c (.c (.c (.c (.c (.c (.c (.c (.c (.c .n)))))))))))))))))))))))))))))))))))); skip; all_goals (dsimp only; omega)
                  · first
                  | omega | contradiction
                  | refine S.sk (S.sk (S.sk (S.o q.pf (S.end (hK _ ?_))))); clear hK K; refine Ev.cf ?_; refine Ev.exit ?_; refine hR4 _ _ ?_; show Ev _ _ _ _; refine Ev.region_S fun K hK => S.o q.mv (S.o (q.lvA [_, _, _, _, _, _, _, _, _] am_ag183 am_cl183) (S.nn (q.bs [[_, _, _, _, _, _, _, _, _]] true am_el103 am_ze183 am_cl183) (S.ap' [_, _, _, _, _, _] am_el103 am_ze183 am_cl183 am_by183 (hh := head_own') (hr := (rows_lit [(⟨⟨_, _, _, _, _, _⟩, _, _, _⟩ : Mn)])) (h := S.o q.as (S.end (hK _ ?_)))))); clear hK K; show Ev _ _ _ _; refine Ev.region_S fun K hK => S.o q.add (S.o q.mv (S.end (hK _ ?_))); clear hK K; refine hR2 _ _ ?_
                    refine roundU [0, 7, 2, 3] [1, 5, 6, 7, 8, 9, 19, 20, 21, 22, 23, 24, 25, 26, 27, 28, 29, 30, 31, 32, 33, 34, 35, 36, 37, 38, 39, 40, 41, 42, 43, 44, 45, 46, 47, 48] ⟨k + 1, by omega, runGood_succ hgk hgd⟩ ?_ (keep_c (he := rfl) (h := (keep_c (he := (by first | rfl | exact mains_row _ hle hl | exact mains_row_t _ hle hl hbl | (simp [runMains]; done))) (h := (keep_c (he := rfl) (h := (keep_c (he := rfl) (h := keep_n)))))))) (slots_c (he := (by first | rfl | (congr 2; omega))) (h := (slots_c (he := (by first | rfl | exact congrArg (fun q => AV.als 1 0 q) (by simp only [List.length_append, runMains_len, List.length_cons, List.length_nil]; omega))) (h := trivial)))) (.c (.c (.c (.c (.c (.c (.c (.c (.c (.c (.c (.c (.c (.c (.c (.c (.c (.c (.c (.c (.c (.c (.c (.c (.c (.c (.c (.c (.c (.c (.c (.c (.c (.c (.c (.c .n)))))))))))))))))))))))))))))))))))); skip; all_goals (dsimp only; omega)
            · first | omega | contradiction | (exfalso; simp at *; done)
    · first | omega | contradiction | (exfalso; simp at *; done)
end Go.Proofs.YtkbpignlggahaaaGreatDoor
namespace Go.Proofs.YtkbpignlggahaaaGreatDoor
open Go Go.AM
set_option linter.unusedSimpArgs false
set_option linter.unusedVariables false
set_option maxRecDepth 100000
set_option maxHeartbeats 1000000
def f1M (l : List (Int × Int)) : List (Int × Bool) := l.foldl (fun m s => mput m s.1 true) []
def f2M (l : List (Int × Int)) : List (Int × Bool) := l.foldl (fun m s => mput m s.2 true) []
theorem f1M_snoc (l : List (Int × Int)) (s : Int × Int) : f1M (l ++ [s]) = mput (f1M l) s.1 true := by simp [f1M, List.foldl_append]
theorem f2M_snoc (l : List (Int × Int)) (s : Int × Int) : f2M (l ++ [s]) = mput (f2M l) s.2 true := by simp [f2M, List.foldl_append]
theorem f1M_get : ∀ (l : List (Int × Int)) (n : Int), (mget (f1M l) n).getD false = decide (∃ b ∈ l, b.1 = n) := by
  refine snoc_ind (fun n => by rw [decide_eq_false (by rintro ⟨b, hb, _⟩; cases hb)]; rfl) ?_; intro l s ih n; rw [f1M_snoc, mget_mput]
  by_cases h : n = s.1
  · rw [if_pos h, decide_eq_true ⟨s, by simp, h.symm⟩]; rfl
  · rw [if_neg h, ih, decide_eq_decide]
    constructor
    · rintro ⟨b, hb, e⟩; exact ⟨b, by simp [hb], e⟩
    · rintro ⟨b, hb, e⟩
      rcases List.mem_append.1 hb with hb | hb
      · exact ⟨b, hb, e⟩
      · rw [List.mem_singleton] at hb; subst hb; exact absurd e.symm h
theorem f2M_get : ∀ (l : List (Int × Int)) (n : Int), (mget (f2M l) n).getD false = decide (∃ b ∈ l, b.2 = n) := by
  refine snoc_ind (fun n => by rw [decide_eq_false (by rintro ⟨b, hb, _⟩; cases hb)]; rfl) ?_; intro l s ih n; rw [f2M_snoc, mget_mput]
  by_cases h : n = s.2
  · rw [if_pos h, decide_eq_true ⟨s, by simp, h.symm⟩]; rfl
  · rw [if_neg h, ih, decide_eq_decide]
    constructor
    · rintro ⟨b, hb, e⟩; exact ⟨b, by simp [hb], e⟩
    · rintro ⟨b, hb, e⟩
      rcases List.mem_append.1 hb with hb | hb
      · exact ⟨b, hb, e⟩
      · rw [List.mem_singleton] at hb; subst hb; exact absurd e.symm h
theorem f1_yes {l : List (Int × Int)} {n : Int} (h : (mget (f1M l) n).getD false = true) : ∃ b ∈ l, b.1 = n := by rw [f1M_get] at h; exact of_decide_eq_true h
theorem f1_no {l : List (Int × Int)} {n : Int} (h : (mget (f1M l) n).getD false = false) : ¬ ∃ b ∈ l, b.1 = n := by rw [f1M_get] at h; exact of_decide_eq_false h
theorem f2_yes {l : List (Int × Int)} {n : Int} (h : (mget (f2M l) n).getD false = true) : ∃ b ∈ l, b.2 = n := by rw [f2M_get] at h; exact of_decide_eq_true h
theorem f2_no {l : List (Int × Int)} {n : Int} (h : (mget (f2M l) n).getD false = false) : ¬ ∃ b ∈ l, b.2 = n := by rw [f2M_get] at h; exact of_decide_eq_false h
theorem laps_cut {l : List Mn} {pre suf laps : List (Int × Int)} {s : Int × Int} (hp : pre ++ s :: suf = laps) (h : lapsOK l laps) : jointP l s ∧ (¬ ∃ b ∈ pre, b.1 = s.1) ∧ ¬ ∃ b ∈ pre, b.2 = s.2 := by
  obtain ⟨h1, h2⟩ := h; rw [← hp, List.pairwise_append] at h2; refine ⟨h1 s (by rw [← hp]; simp), ?_, ?_⟩
  · rintro ⟨b, hb, e⟩; exact (h2.2.2 b hb s (by simp)).1 e
  · rintro ⟨b, hb, e⟩; exact (h2.2.2 b hb s (by simp)).2 e
theorem laps_snoc {l : List Mn} {pre : List (Int × Int)} {s : Int × Int} (h : lapsOK l pre) (h1 : jointP l s) (h2 : ¬ ∃ b ∈ pre, b.1 = s.1) (h3 : ¬ ∃ b ∈ pre, b.2 = s.2) : lapsOK l (pre ++ [s]) := by
  refine ⟨fun j hj => ?_, List.pairwise_append.2 ⟨h.2, by simp, fun a ha b hb => ?_⟩⟩
  · rcases List.mem_append.1 hj with hj | hj
    · exact h.1 j hj
    · rw [List.mem_singleton] at hj; subst hj; exact h1
  · rw [List.mem_singleton] at hb; subst hb; exact ⟨fun e => h2 ⟨a, ha, e⟩, fun e => h3 ⟨a, ha, e⟩⟩
def lookV (x : Det) : List Mn := if detOK x then mainsV x.bars x.runs else []
theorem look_t {x : Det} (h : detOK x) : lookV x = mainsV x.bars x.runs ∧ decide (detOK x) = true := ⟨if_pos h, decide_eq_true h⟩
theorem look_f {x : Det} (h : ¬ detOK x) : lookV x = [] ∧ decide (detOK x) = false := ⟨if_neg h, decide_eq_false h⟩
theorem mn_get {l : List Mn} {i : Int} (h1 : 0 ≤ i) (h2 : i < l.length) : l[i.toNat]? = some (mnAt l i) := by
  have e : l[i.toNat]? = some (l[i.toNat]'(by omega)) := List.getElem?_eq_getElem _; rw [mnAt, e]; rfl
theorem joint_fun (l : List Mn) (j : Int × Int) (hlen : l.length ≤ 140737488355328) : Fun Tryz.prog 88 [.sh 9 (l.map Mn.c), .agg (pairC j)] (Ret (.lit (.bool (decide (jointP l j)))) []) := by
  obtain ⟨j1, j2⟩ := j; have hjp : jointP l (j1, j2) ↔ (0 ≤ j1 ∧ j1 < l.length ∧ 0 ≤ j2 ∧ j2 < l.length) ∧ (mnAt l j1).has = true ∧ (mnAt l j2).has = true ∧ (mnAt l j1).leg.lx < (mnAt l j2).leg.lx ∧ (mnAt l j1).leg.hx < (mnAt l j2).leg.hx ∧ (mnAt l j2).leg.lx ≤ (mnAt l j1).leg.hx := Iff.rfl; refine Fun.of (nt := 79) (rs := [.tmp 4]) Tryz.func88 rfl rfl rfl rfl rfl ?_; refine Ev.sr fun K hK => S.nn (q.bx [_, _] true) (S.o q.as (S.end (hK _ ?_))); clear hK K; refine Ev.sr fun K hK => S.o q.mv (S.o (q.lens am_el103) (S.o q.as (S.end (hK _ ?_)))); clear hK K; refine Ev.seq ?_; refine Ev.sr fun K hK => S.o (q.fa 0 am_fi94_0 am_cl3) (S.o (q.lv am_ag3) (S.o q.lss (S.bd q.mv (fun c1 => ?_) (fun c1 => ?_))))
  · first
  | omega | contradiction
  | refine S.sk (S.sk (S.sk (S.sk (S.o q.pt (S.o q.mv (S.sk (S.sk (S.sk (S.o q.pt (S.o q.mv (S.sk (S.sk (S.sk (S.sk (S.o q.pt (S.end (hK _ ?_))))))))))))))))); clear hK K; refine Ev.ct ?_; refine Ev.sr fun K hK => S.o q.as (S.end (hK _ ?_)); clear hK K; refine Ev.ret ?_; refine Ev.ret1 ?_; refine ⟨?_, rfl⟩
    first
     | exact bF (fun h => by have h1 := (hjp.1 h).1; omega)
     | exact dI ⟨fun h => hjp.2 ⟨by omega, ‹_›, ‹_›, by omega, by omega, by omega⟩, fun h => by have h1 := (hjp.1 h).2.2.2; omega⟩
     | exact bF (fun h => by have h1 := (hjp.1 h).2.1; simp_all)
     | exact bF (fun h => by have h1 := (hjp.1 h).2.2.1; simp_all)
     | exact bF (fun h => by have h1 := (hjp.1 h).2.2.2; omega)
  · first
  | omega | contradiction
  | refine S.o (q.fa 0 am_fi94_0 am_cl3) (S.o (q.lv am_ag3) (S.o q.mv (S.o q.geq (S.o q.pf (S.bd q.mv (fun c2 => ?_) (fun c2 => ?_))))))
    · first
    | omega | contradiction
    | refine S.sk (S.sk (S.sk (S.o q.pt (S.o q.mv (S.sk (S.sk (S.sk (S.sk (S.o q.pt (S.end (hK _ ?_))))))))))); clear hK K; refine Ev.ct ?_; refine Ev.sr fun K hK => S.o q.as (S.end (hK _ ?_)); clear hK K; refine Ev.ret ?_; refine Ev.ret1 ?_; refine ⟨?_, rfl⟩
      first
       | exact bF (fun h => by have h1 := (hjp.1 h).1; omega)
       | exact dI ⟨fun h => hjp.2 ⟨by omega, ‹_›, ‹_›, by omega, by omega, by omega⟩, fun h => by have h1 := (hjp.1 h).2.2.2; omega⟩
       | exact bF (fun h => by have h1 := (hjp.1 h).2.1; simp_all)
       | exact bF (fun h => by have h1 := (hjp.1 h).2.2.1; simp_all)
       | exact bF (fun h => by have h1 := (hjp.1 h).2.2.2; omega)
    · first
    | omega | contradiction
    | refine S.o (q.fa 1 am_fi94_1 am_cl3) (S.o (q.lv am_ag3) (S.o q.lss (S.o q.pf (S.bd q.mv (fun c3 => ?_) (fun c3 => ?_)))))
      · first
      | omega | contradiction
      | refine S.sk (S.sk (S.sk (S.sk (S.o q.pt (S.end (hK _ ?_)))))); clear hK K; refine Ev.ct ?_; refine Ev.sr fun K hK => S.o q.as (S.end (hK _ ?_)); clear hK K; refine Ev.ret ?_; refine Ev.ret1 ?_; refine ⟨?_, rfl⟩
        first
         | exact bF (fun h => by have h1 := (hjp.1 h).1; omega)
         | exact dI ⟨fun h => hjp.2 ⟨by omega, ‹_›, ‹_›, by omega, by omega, by omega⟩, fun h => by have h1 := (hjp.1 h).2.2.2; omega⟩
         | exact bF (fun h => by have h1 := (hjp.1 h).2.1; simp_all)
         | exact bF (fun h => by have h1 := (hjp.1 h).2.2.1; simp_all)
         | exact bF (fun h => by have h1 := (hjp.1 h).2.2.2; omega)
      · first
      | omega | contradiction
      | refine S.o (q.fa 1 am_fi94_1 am_cl3) (S.o (q.lv am_ag3) (S.o q.mv (S.o q.geq (S.o q.pf (S.end (hK _ ?_)))))); clear hK K; refine Ev.cd (fun c4 => ?_) (fun c4 => ?_)
        · first
        | omega | contradiction
        | refine Ev.sr fun K hK => S.o q.as (S.end (hK _ ?_)); clear hK K; refine Ev.ret ?_; refine Ev.ret1 ?_; refine ⟨?_, rfl⟩
          first
           | exact bF (fun h => by have h1 := (hjp.1 h).1; omega)
           | exact dI ⟨fun h => hjp.2 ⟨by omega, ‹_›, ‹_›, by omega, by omega, by omega⟩, fun h => by have h1 := (hjp.1 h).2.2.2; omega⟩
           | exact bF (fun h => by have h1 := (hjp.1 h).2.1; simp_all)
           | exact bF (fun h => by have h1 := (hjp.1 h).2.2.1; simp_all)
           | exact bF (fun h => by have h1 := (hjp.1 h).2.2.2; omega)
        · first
        | omega | contradiction
        | refine Ev.skip ?_; show Ev _ _ _ _; have hg1 := mn_get (l := l) (i := j1) (by omega) (by omega); have hg2 := mn_get (l := l) (i := j2) (by omega) (by omega); obtain ⟨A1, hA1⟩ : ∃ A, A = mnAt l j1 := ⟨_, rfl⟩; obtain ⟨A2, hA2⟩ : ∃ A, A = mnAt l j2 := ⟨_, rfl⟩; rw [← hA1] at hg1 hjp; rw [← hA2] at hg2 hjp; clear hA1 hA2; obtain ⟨⟨a1, a2, a3, a4, a5, a6⟩, a7, a8, a9⟩ := A1; obtain ⟨⟨b1, b2, b3, b4, b5, b6⟩, b7, b8, b9⟩ := A2
          dsimp only at hjp
          refine Ev.sl (tbs [(0, 0), (0, 0), (2, 2), (3, 7), (4, 15), (0, 0), (0, 0), (7, 64), (8, 224), (9, 480), (0, 0), (0, 0), (12, 3103), (13, 8191)]) 12 fun K hK => M.o q.mv (M.o (q.fa 0 am_fi94_0 am_cl3) (M.o (q.lv am_ag3) (M.o (q.ix am_el103 am_cl183 (hl := (by first | exact ati hg1 (by omega) | exact ati hg2 (by omega) | exact atig (by omega)))) (M.o (q.lsA [_, _, _, _, _, _, _, _, _] am_ag183 am_cl183) (M.o q.mv (M.o (q.fa 1 am_fi94_1 am_cl3) (M.o (q.lv am_ag3) (M.o (q.ix am_el103 am_cl183 (hl := (by first | exact ati hg1 (by omega) | exact ati hg2 (by omega) | exact atig (by omega)))) (M.o (q.lsA [_, _, _, _, _, _, _, _, _] am_ag183 am_cl183) (M.nn [_] (q.al am_ze183) (h := M.nn [_, _] (q.al am_ze183) (h := M.late [_, _, _, _, _, _, _, _, _] true [_, _, _] am_in183 am_cl183 (h := S.sv [_, _, _, _, _, _, _, _, _] true [_, _] am_in183 am_cl183 (h := S.end (hK _ ?_))))))))))))))); clear hK K; refine Ev.sr fun K hK => S.o (q.fa 6 am_fi183_1 am_cl4) (S.o (q.lv am_ag4) (S.bb q.mv (fun c5 => ?_) (fun c5 => ?_)))
          · first
          | omega | contradiction
          | refine S.o (q.fa 6 am_fi183_1 am_cl4) (S.o (q.lv am_ag4) (S.o q.pt (S.bb q.mv (fun c6 => ?_) (fun c6 => ?_))))
            · first
            | omega | contradiction
            | refine S.o (q.fa 0 am_fi183_0 am_cl100) (S.o (q.fa 0 am_fi100_0 am_cl80) (S.o (q.fa 0 am_fi80_0 am_cl3) (S.o (q.lv am_ag3) (S.o (q.fa 0 am_fi183_0 am_cl100) (S.o (q.fa 0 am_fi100_0 am_cl80) (S.o (q.fa 0 am_fi80_0 am_cl3) (S.o (q.lv am_ag3) (S.o q.lss (S.o q.pt (S.bd q.mv (fun c7 => ?_) (fun c7 => ?_)))))))))))
              · first
              | omega | contradiction
              | refine S.o (q.fa 0 am_fi183_0 am_cl100) (S.o (q.fa 3 am_fi100_1 am_cl80) (S.o (q.fa 3 am_fi80_0 am_cl3) (S.o (q.lv am_ag3) (S.o (q.fa 0 am_fi183_0 am_cl100) (S.o (q.fa 3 am_fi100_1 am_cl80) (S.o (q.fa 3 am_fi80_0 am_cl3) (S.o (q.lv am_ag3) (S.o q.lss (S.o q.pt (S.bd q.mv (fun c8 => ?_) (fun c8 => ?_)))))))))))
                · first
                | omega | contradiction
                | refine S.o (q.fa 0 am_fi183_0 am_cl100) (S.o (q.fa 3 am_fi100_1 am_cl80) (S.o (q.fa 3 am_fi80_0 am_cl3) (S.o (q.lv am_ag3) (S.o (q.fa 0 am_fi183_0 am_cl100) (S.o (q.fa 0 am_fi100_0 am_cl80) (S.o (q.fa 0 am_fi80_0 am_cl3) (S.o (q.lv am_ag3) (S.o q.geq (S.o q.pt (S.o q.as (S.end (hK _ ?_)))))))))))); clear hK K; refine Ev.ret ?_; refine Ev.ret1 ?_; refine ⟨?_, rfl⟩
                  first
                   | exact bF (fun h => by have h1 := (hjp.1 h).1; omega)
                   | exact dI ⟨fun h => hjp.2 ⟨by omega, ‹_›, ‹_›, by omega, by omega, by omega⟩, fun h => by have h1 := (hjp.1 h).2.2.2; omega⟩
                   | exact bF (fun h => by have h1 := (hjp.1 h).2.1; simp_all)
                   | exact bF (fun h => by have h1 := (hjp.1 h).2.2.1; simp_all)
                   | exact bF (fun h => by have h1 := (hjp.1 h).2.2.2; omega)
                · first
                | omega | contradiction
                | refine S.sk (S.sk (S.sk (S.sk (S.sk (S.sk (S.sk (S.sk (S.sk (S.o q.pf (S.o q.as (S.end (hK _ ?_)))))))))))); clear hK K; refine Ev.ret ?_; refine Ev.ret1 ?_; refine ⟨?_, rfl⟩
                  first
                   | exact bF (fun h => by have h1 := (hjp.1 h).1; omega)
                   | exact dI ⟨fun h => hjp.2 ⟨by omega, ‹_›, ‹_›, by omega, by omega, by omega⟩, fun h => by have h1 := (hjp.1 h).2.2.2; omega⟩
                   | exact bF (fun h => by have h1 := (hjp.1 h).2.1; simp_all)
                   | exact bF (fun h => by have h1 := (hjp.1 h).2.2.1; simp_all)
                   | exact bF (fun h => by have h1 := (hjp.1 h).2.2.2; omega)
              · first
              | omega | contradiction
              | refine S.sk (S.sk (S.sk (S.sk (S.sk (S.sk (S.sk (S.sk (S.sk (S.o q.pf (S.o q.mv (S.sk (S.sk (S.sk (S.sk (S.sk (S.sk (S.sk (S.sk (S.sk (S.o q.pf (S.o q.as (S.end (hK _ ?_))))))))))))))))))))))); clear hK K; refine Ev.ret ?_; refine Ev.ret1 ?_; refine ⟨?_, rfl⟩
                first
                 | exact bF (fun h => by have h1 := (hjp.1 h).1; omega)
                 | exact dI ⟨fun h => hjp.2 ⟨by omega, ‹_›, ‹_›, by omega, by omega, by omega⟩, fun h => by have h1 := (hjp.1 h).2.2.2; omega⟩
                 | exact bF (fun h => by have h1 := (hjp.1 h).2.1; simp_all)
                 | exact bF (fun h => by have h1 := (hjp.1 h).2.2.1; simp_all)
                 | exact bF (fun h => by have h1 := (hjp.1 h).2.2.2; omega)
            · first
            | omega | contradiction
            | refine S.sk (S.sk (S.sk (S.sk (S.sk (S.sk (S.sk (S.sk (S.sk (S.o q.pf (S.o q.mv (S.sk (S.sk (S.sk (S.sk (S.sk (S.sk (S.sk (S.sk (S.sk (S.o q.pf (S.o q.mv (S.sk (S.sk (S.sk (S.sk (S.sk (S.sk (S.sk (S.sk (S.sk (S.o q.pf (S.o q.as (S.end (hK _ ?_)))))))))))))))))))))))))))))))))); clear hK K; refine Ev.ret ?_; refine Ev.ret1 ?_; refine ⟨?_, rfl⟩
              first
               | exact bF (fun h => by have h1 := (hjp.1 h).1; omega)
               | exact dI ⟨fun h => hjp.2 ⟨by omega, ‹_›, ‹_›, by omega, by omega, by omega⟩, fun h => by have h1 := (hjp.1 h).2.2.2; omega⟩
               | exact bF (fun h => by have h1 := (hjp.1 h).2.1; simp_all)
               | exact bF (fun h => by have h1 := (hjp.1 h).2.2.1; simp_all)
               | exact bF (fun h => by have h1 := (hjp.1 h).2.2.2; omega)
          · first
          | omega | contradiction
          | refine S.sk (S.sk (S.o q.pf (S.o q.mv (S.sk (S.sk (S.sk (S.sk (S.sk (S.sk (S.sk (S.sk (S.sk (S.o q.pf (S.o q.mv (S.sk (S.sk (S.sk (S.sk (S.sk (S.sk (S.sk (S.sk (S.sk (S.o q.pf (S.o q.mv (S.sk (S.sk (S.sk (S.sk (S.sk (S.sk (S.sk (S.sk (S.sk (S.o q.pf (S.o q.as (S.end (hK _ ?_)))))))))))))))))))))))))))))))))))))); clear hK K; refine Ev.ret ?_; refine Ev.ret1 ?_; refine ⟨?_, rfl⟩
            first
             | exact bF (fun h => by have h1 := (hjp.1 h).1; omega)
             | exact dI ⟨fun h => hjp.2 ⟨by omega, ‹_›, ‹_›, by omega, by omega, by omega⟩, fun h => by have h1 := (hjp.1 h).2.2.2; omega⟩
             | exact bF (fun h => by have h1 := (hjp.1 h).2.1; simp_all)
             | exact bF (fun h => by have h1 := (hjp.1 h).2.2.1; simp_all)
             | exact bF (fun h => by have h1 := (hjp.1 h).2.2.2; omega)
theorem look_fun (x : Det) (hw : x.w) : Fun Tryz.prog 47 [.agg x.c] (Ret (.tup [.sh 9 ((lookV x).map Mn.c), .lit (.bool (decide (detOK x)))]) []) := by
  obtain ⟨hw1, ⟨hw2, hw2b⟩, ⟨hw3, hw3b⟩, hw4, hw5, hw6⟩ := id hw; have hdo : detOK x ↔ (memOK x.mem ∧ laidOK x.bars x.runs ∧ okDems x.dems ∧ ruleOK x.rule ∧ x.laps.length ≤ 1000) ∧ lapsOK (mainsV x.bars x.runs) x.laps := Iff.rfl; have hf : ¬ ((memOK x.mem ∧ laidOK x.bars x.runs ∧ okDems x.dems ∧ ruleOK x.rule ∧ x.laps.length ≤ 1000) ∧ lapsOK (mainsV x.bars x.runs) x.laps) → lookV x = [] ∧ decide (detOK x) = false := fun h => look_f (fun h2 => h (hdo.1 h2)); refine Fun.of (nt := 74) (rs := [.tmp 2, .tmp 3]) Tryz.func47 rfl rfl rfl rfl rfl ?_; refine Ev.sr fun K hK => S.nn (q.bx [_, _, _, _, _, _, _, _, _, _, _, _, _, _, _, _, _, _, _] true) (S.o q.as (S.o q.as (S.end (hK _ ?_)))); clear hK K; refine Ev.seq ?_; refine Ev.sr fun K hK => S.o (q.fa 0 am_fi34_0 am_cl26) (S.o (q.lvA [_, _, _, _, _, _] am_ag26 am_cl26) (S.c0 (hF := member_fun x.mem hw1) (h := S.o q.not (S.bn q.mv (fun c1 => ?_) (fun c1 => ?_)))))
  · first
  | omega | contradiction
  | refine S.sk (S.sk (S.sk (S.sk (S.sk (S.sk (S.o q.pt (S.o q.mv (S.sk (S.sk (S.sk (S.sk (S.o q.pt (S.o q.mv (S.sk (S.sk (S.sk (S.sk (S.o q.pt (S.o q.mv (S.sk (S.sk (S.sk (S.sk (S.o q.pt (S.end (hK _ ?_)))))))))))))))))))))))))); clear hK K; refine Ev.ct ?_; refine Ev.sr fun K hK => S.o q.as (S.o q.as (S.end (hK _ ?_))); clear hK K; refine Ev.weaken (Wk.nsh Mn.c 2 9) ?_; refine Ev.ret ?_; refine Ev.ret2 ?_; refine ⟨?_, rfl⟩
    first
     | (rw [(hf (fun h => absurd h.1.1 ‹_›)).1, (hf (fun h => absurd h.1.1 ‹_›)).2]; done)
     | (rw [(hf (fun h => absurd h.1.2.1 ‹_›)).1, (hf (fun h => absurd h.1.2.1 ‹_›)).2]; done)
     | (rw [(hf (fun h => absurd h.1.2.2.1 ‹_›)).1, (hf (fun h => absurd h.1.2.2.1 ‹_›)).2]; done)
     | (rw [(hf (fun h => absurd h.1.2.2.2.1 ‹_›)).1, (hf (fun h => absurd h.1.2.2.2.1 ‹_›)).2]; done)
     | (have hg := hf (fun h => by have h1 := h.1.2.2.2.2; omega); rw [hg.1, hg.2]; done)
     | (have hg := hf (fun h => absurd (laps_cut hp h.2).1 ‹_›); rw [hg.1, hg.2]; done)
     | (have hg := hf (fun h => (laps_cut hp h.2).2.1 (f1_yes ‹_›)); rw [hg.1, hg.2]; done)
     | (have hg := hf (fun h => (laps_cut hp h.2).2.2 (f2_yes ‹_›)); rw [hg.1, hg.2]; done)
     | (have hg := look_t (hdo.2 ⟨hba, by rw [← hp]; exact hinv⟩); rw [hg.1, hg.2]; done)
  · first
  | omega | contradiction
  | refine S.o (q.fa 6 am_fi34_1 am_cl27) (S.o (q.lv am_ag27) (S.o (q.fa 7 am_fi34_2 am_cl28) (S.o (q.lv am_ag28) (S.c0 (hF := laidValid_fun x.bars x.runs hw2 hw2b hw3 hw3b) (h := S.o q.not (S.o q.pf (S.bn q.mv (fun c2 => ?_) (fun c2 => ?_))))))))
    · first
    | omega | contradiction
    | refine S.sk (S.sk (S.sk (S.sk (S.o q.pt (S.o q.mv (S.sk (S.sk (S.sk (S.sk (S.o q.pt (S.o q.mv (S.sk (S.sk (S.sk (S.sk (S.o q.pt (S.end (hK _ ?_)))))))))))))))))); clear hK K; refine Ev.ct ?_; refine Ev.sr fun K hK => S.o q.as (S.o q.as (S.end (hK _ ?_))); clear hK K; refine Ev.weaken (Wk.nsh Mn.c 2 9) ?_; refine Ev.ret ?_; refine Ev.ret2 ?_; refine ⟨?_, rfl⟩
      first
       | (rw [(hf (fun h => absurd h.1.1 ‹_›)).1, (hf (fun h => absurd h.1.1 ‹_›)).2]; done)
       | (rw [(hf (fun h => absurd h.1.2.1 ‹_›)).1, (hf (fun h => absurd h.1.2.1 ‹_›)).2]; done)
       | (rw [(hf (fun h => absurd h.1.2.2.1 ‹_›)).1, (hf (fun h => absurd h.1.2.2.1 ‹_›)).2]; done)
       | (rw [(hf (fun h => absurd h.1.2.2.2.1 ‹_›)).1, (hf (fun h => absurd h.1.2.2.2.1 ‹_›)).2]; done)
       | (have hg := hf (fun h => by have h1 := h.1.2.2.2.2; omega); rw [hg.1, hg.2]; done)
       | (have hg := hf (fun h => absurd (laps_cut hp h.2).1 ‹_›); rw [hg.1, hg.2]; done)
       | (have hg := hf (fun h => (laps_cut hp h.2).2.1 (f1_yes ‹_›)); rw [hg.1, hg.2]; done)
       | (have hg := hf (fun h => (laps_cut hp h.2).2.2 (f2_yes ‹_›)); rw [hg.1, hg.2]; done)
       | (have hg := look_t (hdo.2 ⟨hba, by rw [← hp]; exact hinv⟩); rw [hg.1, hg.2]; done)
    · first
    | omega | contradiction
    | refine S.o (q.fa 9 am_fi34_4 am_cl30) (S.o (q.lv am_ag30) (S.c0 (hF := demValid_fun x.dems hw5 hw6) (h := S.o q.not (S.o q.pf (S.bn q.mv (fun c3 => ?_) (fun c3 => ?_))))))
      · first
      | omega | contradiction
      | refine S.sk (S.sk (S.sk (S.sk (S.o q.pt (S.o q.mv (S.sk (S.sk (S.sk (S.sk (S.o q.pt (S.end (hK _ ?_)))))))))))); clear hK K; refine Ev.ct ?_; refine Ev.sr fun K hK => S.o q.as (S.o q.as (S.end (hK _ ?_))); clear hK K; refine Ev.weaken (Wk.nsh Mn.c 2 9) ?_; refine Ev.ret ?_; refine Ev.ret2 ?_; refine ⟨?_, rfl⟩
        first
         | (rw [(hf (fun h => absurd h.1.1 ‹_›)).1, (hf (fun h => absurd h.1.1 ‹_›)).2]; done)
         | (rw [(hf (fun h => absurd h.1.2.1 ‹_›)).1, (hf (fun h => absurd h.1.2.1 ‹_›)).2]; done)
         | (rw [(hf (fun h => absurd h.1.2.2.1 ‹_›)).1, (hf (fun h => absurd h.1.2.2.1 ‹_›)).2]; done)
         | (rw [(hf (fun h => absurd h.1.2.2.2.1 ‹_›)).1, (hf (fun h => absurd h.1.2.2.2.1 ‹_›)).2]; done)
         | (have hg := hf (fun h => by have h1 := h.1.2.2.2.2; omega); rw [hg.1, hg.2]; done)
         | (have hg := hf (fun h => absurd (laps_cut hp h.2).1 ‹_›); rw [hg.1, hg.2]; done)
         | (have hg := hf (fun h => (laps_cut hp h.2).2.1 (f1_yes ‹_›)); rw [hg.1, hg.2]; done)
         | (have hg := hf (fun h => (laps_cut hp h.2).2.2 (f2_yes ‹_›)); rw [hg.1, hg.2]; done)
         | (have hg := look_t (hdo.2 ⟨hba, by rw [← hp]; exact hinv⟩); rw [hg.1, hg.2]; done)
      · first
      | omega | contradiction
      | refine S.o (q.fa 10 am_fi34_5 am_cl32) (S.o (q.lvA [_, _, _, _, _, _, _, _, _] am_ag32 am_cl32) (S.c0 (hF := ruleValid_fun x.rule) (h := S.o q.not (S.o q.pf (S.bn q.mv (fun c4 => ?_) (fun c4 => ?_))))))
        · first
        | omega | contradiction
        | refine S.sk (S.sk (S.sk (S.sk (S.o q.pt (S.end (hK _ ?_)))))); clear hK K; refine Ev.ct ?_; refine Ev.sr fun K hK => S.o q.as (S.o q.as (S.end (hK _ ?_))); clear hK K; refine Ev.weaken (Wk.nsh Mn.c 2 9) ?_; refine Ev.ret ?_; refine Ev.ret2 ?_; refine ⟨?_, rfl⟩
          first
           | (rw [(hf (fun h => absurd h.1.1 ‹_›)).1, (hf (fun h => absurd h.1.1 ‹_›)).2]; done)
           | (rw [(hf (fun h => absurd h.1.2.1 ‹_›)).1, (hf (fun h => absurd h.1.2.1 ‹_›)).2]; done)
           | (rw [(hf (fun h => absurd h.1.2.2.1 ‹_›)).1, (hf (fun h => absurd h.1.2.2.1 ‹_›)).2]; done)
           | (rw [(hf (fun h => absurd h.1.2.2.2.1 ‹_›)).1, (hf (fun h => absurd h.1.2.2.2.1 ‹_›)).2]; done)
           | (have hg := hf (fun h => by have h1 := h.1.2.2.2.2; omega); rw [hg.1, hg.2]; done)
           | (have hg := hf (fun h => absurd (laps_cut hp h.2).1 ‹_›); rw [hg.1, hg.2]; done)
           | (have hg := hf (fun h => (laps_cut hp h.2).2.1 (f1_yes ‹_›)); rw [hg.1, hg.2]; done)
           | (have hg := hf (fun h => (laps_cut hp h.2).2.2 (f2_yes ‹_›)); rw [hg.1, hg.2]; done)
           | (have hg := look_t (hdo.2 ⟨hba, by rw [← hp]; exact hinv⟩); rw [hg.1, hg.2]; done)
        · first
        | omega | contradiction
        | refine S.o (q.fa 8 am_fi34_3 am_cl29) (S.o (q.lv am_ag29) (S.o (q.lens am_el29) (S.o q.gtr (S.o q.pf (S.end (hK _ ?_)))))); clear hK K; refine Ev.cd (fun c5 => ?_) (fun c5 => ?_)
          · first
          | omega | contradiction
          | refine Ev.sr fun K hK => S.o q.as (S.o q.as (S.end (hK _ ?_))); clear hK K; refine Ev.weaken (Wk.nsh Mn.c 2 9) ?_; refine Ev.ret ?_; refine Ev.ret2 ?_; refine ⟨?_, rfl⟩
            first
             | (rw [(hf (fun h => absurd h.1.1 ‹_›)).1, (hf (fun h => absurd h.1.1 ‹_›)).2]; done)
             | (rw [(hf (fun h => absurd h.1.2.1 ‹_›)).1, (hf (fun h => absurd h.1.2.1 ‹_›)).2]; done)
             | (rw [(hf (fun h => absurd h.1.2.2.1 ‹_›)).1, (hf (fun h => absurd h.1.2.2.1 ‹_›)).2]; done)
             | (rw [(hf (fun h => absurd h.1.2.2.2.1 ‹_›)).1, (hf (fun h => absurd h.1.2.2.2.1 ‹_›)).2]; done)
             | (have hg := hf (fun h => by have h1 := h.1.2.2.2.2; omega); rw [hg.1, hg.2]; done)
             | (have hg := hf (fun h => absurd (laps_cut hp h.2).1 ‹_›); rw [hg.1, hg.2]; done)
             | (have hg := hf (fun h => (laps_cut hp h.2).2.1 (f1_yes ‹_›)); rw [hg.1, hg.2]; done)
             | (have hg := hf (fun h => (laps_cut hp h.2).2.2 (f2_yes ‹_›)); rw [hg.1, hg.2]; done)
             | (have hg := look_t (hdo.2 ⟨hba, by rw [← hp]; exact hinv⟩); rw [hg.1, hg.2]; done)
          · first
          | omega | contradiction
          | refine Ev.skip ?_; show Ev _ _ _ _; have hba : memOK x.mem ∧ laidOK x.bars x.runs ∧ okDems x.dems ∧ ruleOK x.rule ∧ x.laps.length ≤ 1000 := ⟨‹_›, ‹_›, ‹_›, ‹_›, by omega⟩; have hml := mains_len hba.2.1; refine Ev.sr fun K hK => S.o (q.lvA [_, _, _, _, _, _, _, _, _, _, _, _, _, _, _, _, _, _, _] am_ag34 am_cl34) (S.c0 (hF := mains_fun x hw ‹laidOK x.bars x.runs›) (h := S.o q.as (S.end (hK _ ?_)))); clear hK K; refine Ev.sr fun K hK => S.nn (v := .hd 1) (o := ⟨true, 135, 3, ([] : List (Int × Bool)).map (rowK (Value.int .i64) (Value.bool)), true⟩) (q.mm am_mt135) (S.nn (v := .hd 2) (o := ⟨true, 135, 3, ([] : List (Int × Bool)).map (rowK (Value.int .i64) (Value.bool)), true⟩) (q.mm am_mt135) (S.o q.as (S.o q.as (S.end (hK _ ?_))))); clear hK K; refine Ev.seq ?_; refine Ev.sr fun K hK => S.o (q.fa 8 am_fi34_3 am_cl29) (S.o (q.lv am_ag29) (S.o (q.lens am_el29) (S.o q.mv (S.end (hK _ ?_))))); clear hK K; refine Ev.block ?_
            refine Ev.loopU (ι := {q : List (Int × Int) × List (Int × Int) // q.1 ++ q.2 = x.laps ∧ lapsOK (mainsV x.bars x.runs) q.1}) [0, 1, 2] [4, 5, 6, 44, 45] (fun ⟨(pre, suf), _⟩ => [(46, .lit (.int .i64 ((pre.length : Int))))]) (fun ⟨(pre, suf), _⟩ => [(0, ⟨false, 34, 19, [[.lit (str (x.mem.name)), .sh 6 ((x.mem.bs).map Bx.c), .sh 6 ((x.mem.hs).map Bx.c), .lit (.int .i64 (x.mem.cov)), .lit (.int .i64 (x.mem.agg)), .lit (.int .i64 (x.mem.pok)), .sh 5 ((x.bars).map Bar.c), .sh 10 ((x.runs).map Rn.c), .sh 2 ((x.laps).map pairC), .sh 8 ((x.dems).map Dem.c), .lit (.int .i64 (x.rule.r1)), .lit (.int .i64 (x.rule.r2)), .lit (.int .i64 (x.rule.r3)), .lit (.int .i64 (x.rule.r4)), .lit (.int .i64 (x.rule.r5)), .lit (.int .i64 (x.rule.r6)), .lit (.int .i64 (x.rule.r7)), .lit (.int .i64 (x.rule.r8)), .lit (.int .i64 (x.rule.r9))]], true⟩), (1, ⟨true, 135, 3, (f1M pre).map (rowK (Value.int .i64) (Value.bool)), true⟩), (2, ⟨true, 135, 3, (f2M pre).map (rowK (Value.int .i64) (Value.bool)), true⟩)]) (fun ⟨(pre, suf), _⟩ => suf.length) ⟨([], x.laps), rfl, ⟨fun j hj => by simp at hj, by simp⟩⟩ (.c (.c (.c (.c (.c .n))))) (keep_c (he := rfl) (h := (keep_c (he := (by first | rfl | (rw [f1M_snoc]; done))) (h := (keep_c (he := (by first | rfl | (rw [f2M_snoc]; done))) (h := keep_n)))))) (slots_c (he := (by first | rfl | (congr 2; simp; done))) (h := trivial)) ?_
            rintro ⟨⟨pre, suf⟩, hp, hinv⟩ R0 hR0; dsimp only [List.cons_append, List.nil_append, List.length_cons, List.length_nil]
            simp only at hp hinv
            have hpl : pre.length + suf.length = (x.laps).length := by rw [← hp, List.length_append]
            rcases suf with _ | ⟨s, suf⟩
            · rw [List.append_nil] at hp; simp only [List.length_nil] at hpl; refine Ev.sr fun K hK => S.o q.lss (S.end (hK _ ?_)); clear hK K; refine Ev.ud (fun c6 => ?_) (fun c6 => ?_)
              · first | omega | contradiction | (exfalso; simp at *; done)
              · first
              | omega | contradiction
              | refine Ev.exit ?_; refine hR0 _ _ ?_; show Ev _ _ _ _; refine Ev.sr fun K hK => S.o q.mv (S.o q.as (S.o q.as (S.end (hK _ ?_)))); clear hK K; refine Ev.ret ?_; refine Ev.ret2 ?_; refine ⟨?_, rfl⟩
                first
                 | (rw [(hf (fun h => absurd h.1.1 ‹_›)).1, (hf (fun h => absurd h.1.1 ‹_›)).2]; done)
                 | (rw [(hf (fun h => absurd h.1.2.1 ‹_›)).1, (hf (fun h => absurd h.1.2.1 ‹_›)).2]; done)
                 | (rw [(hf (fun h => absurd h.1.2.2.1 ‹_›)).1, (hf (fun h => absurd h.1.2.2.1 ‹_›)).2]; done)
                 | (rw [(hf (fun h => absurd h.1.2.2.2.1 ‹_›)).1, (hf (fun h => absurd h.1.2.2.2.1 ‹_›)).2]; done)
                 | (have hg := hf (fun h => by have h1 := h.1.2.2.2.2; omega); rw [hg.1, hg.2]; done)
                 | (have hg := hf (fun h => absurd (laps_cut hp h.2).1 ‹_›); rw [hg.1, hg.2]; done)
                 | (have hg := hf (fun h => (laps_cut hp h.2).2.1 (f1_yes ‹_›)); rw [hg.1, hg.2]; done)
                 | (have hg := hf (fun h => (laps_cut hp h.2).2.2 (f2_yes ‹_›)); rw [hg.1, hg.2]; done)
                 | (have hg := look_t (hdo.2 ⟨hba, by rw [← hp]; exact hinv⟩); rw [hg.1, hg.2]; done)
            · simp only [List.length_cons] at hpl
              have hidx : x.laps[pre.length]? = some s := by rw [← hp]; simp
              obtain ⟨s1, s2⟩ := s; refine Ev.sr fun K hK => S.o q.lss (S.end (hK _ ?_)); clear hK K; refine Ev.ud (fun c7 => ?_) (fun c7 => ?_)
              · first
              | omega | contradiction
              | refine Ev.seq ?_; refine Ev.block ?_; refine Ev.sr fun K hK => S.o (q.ix am_el29 am_cl94 (hl := (by first | exact ati hidx (by omega) | exact atig (by omega)))) (S.o (q.lsA [_, _] am_ag94 am_cl94) (S.nn (q.al am_ze94) (S.sv [_, _] true [_, _, _] am_in94 am_cl94 (h := S.end (hK _ ?_))))); clear hK K; refine Ev.seq ?_; refine Ev.sr fun K hK => S.o q.mv (S.o (q.lvA [_, _] am_ag94 am_cl94) (S.c0 (hF := joint_fun (mainsV x.bars x.runs) (s1, s2) (by omega)) (h := S.o q.not (S.bn q.mv (fun c8 => ?_) (fun c8 => ?_)))))
                · first
                | omega | contradiction
                | refine S.sk (S.sk (S.sk (S.sk (S.o q.pt (S.o q.mv (S.sk (S.sk (S.sk (S.sk (S.o q.pt (S.end (hK _ ?_)))))))))))); clear hK K; refine Ev.ct ?_; refine Ev.sr fun K hK => S.o q.as (S.o q.as (S.end (hK _ ?_))); clear hK K; refine Ev.weaken (Wk.nsh Mn.c 2 9) ?_; refine Ev.ret ?_; refine hR0 _ _ ?_; refine Ev.ret2 ?_; refine ⟨?_, rfl⟩
                  first
                   | (rw [(hf (fun h => absurd h.1.1 ‹_›)).1, (hf (fun h => absurd h.1.1 ‹_›)).2]; done)
                   | (rw [(hf (fun h => absurd h.1.2.1 ‹_›)).1, (hf (fun h => absurd h.1.2.1 ‹_›)).2]; done)
                   | (rw [(hf (fun h => absurd h.1.2.2.1 ‹_›)).1, (hf (fun h => absurd h.1.2.2.1 ‹_›)).2]; done)
                   | (rw [(hf (fun h => absurd h.1.2.2.2.1 ‹_›)).1, (hf (fun h => absurd h.1.2.2.2.1 ‹_›)).2]; done)
                   | (have hg := hf (fun h => by have h1 := h.1.2.2.2.2; omega); rw [hg.1, hg.2]; done)
                   | (have hg := hf (fun h => absurd (laps_cut hp h.2).1 ‹_›); rw [hg.1, hg.2]; done)
                   | (have hg := hf (fun h => (laps_cut hp h.2).2.1 (f1_yes ‹_›)); rw [hg.1, hg.2]; done)
                   | (have hg := hf (fun h => (laps_cut hp h.2).2.2 (f2_yes ‹_›)); rw [hg.1, hg.2]; done)
                   | (have hg := look_t (hdo.2 ⟨hba, by rw [← hp]; exact hinv⟩); rw [hg.1, hg.2]; done)
                · first
                | omega | contradiction
                | refine S.o q.mv (S.o (q.fa 0 am_fi94_0 am_cl3) (S.o (q.lv am_ag3) (S.o (q.lk (vv := (Value.bool)) klI am_mt135) (S.o q.pf (S.bb q.mv (fun c9 => ?_) (fun c9 => ?_))))))
                  · first
                  | omega | contradiction
                  | refine S.sk (S.sk (S.sk (S.sk (S.o q.pt (S.end (hK _ ?_)))))); clear hK K; refine Ev.ct ?_; refine Ev.sr fun K hK => S.o q.as (S.o q.as (S.end (hK _ ?_))); clear hK K; refine Ev.weaken (Wk.nsh Mn.c 2 9) ?_; refine Ev.ret ?_; refine hR0 _ _ ?_; refine Ev.ret2 ?_; refine ⟨?_, rfl⟩
                    first
                     | (rw [(hf (fun h => absurd h.1.1 ‹_›)).1, (hf (fun h => absurd h.1.1 ‹_›)).2]; done)
                     | (rw [(hf (fun h => absurd h.1.2.1 ‹_›)).1, (hf (fun h => absurd h.1.2.1 ‹_›)).2]; done)
                     | (rw [(hf (fun h => absurd h.1.2.2.1 ‹_›)).1, (hf (fun h => absurd h.1.2.2.1 ‹_›)).2]; done)
                     | (rw [(hf (fun h => absurd h.1.2.2.2.1 ‹_›)).1, (hf (fun h => absurd h.1.2.2.2.1 ‹_›)).2]; done)
                     | (have hg := hf (fun h => by have h1 := h.1.2.2.2.2; omega); rw [hg.1, hg.2]; done)
                     | (have hg := hf (fun h => absurd (laps_cut hp h.2).1 ‹_›); rw [hg.1, hg.2]; done)
                     | (have hg := hf (fun h => (laps_cut hp h.2).2.1 (f1_yes ‹_›)); rw [hg.1, hg.2]; done)
                     | (have hg := hf (fun h => (laps_cut hp h.2).2.2 (f2_yes ‹_›)); rw [hg.1, hg.2]; done)
                     | (have hg := look_t (hdo.2 ⟨hba, by rw [← hp]; exact hinv⟩); rw [hg.1, hg.2]; done)
                  · first
                  | omega | contradiction
                  | refine S.o q.mv (S.o (q.fa 1 am_fi94_1 am_cl3) (S.o (q.lv am_ag3) (S.o (q.lk (vv := (Value.bool)) klI am_mt135) (S.o q.pf (S.end (hK _ ?_)))))); clear hK K; refine Ev.c (fun c10 => ?_) (fun c10 => ?_)
                    · first
                    | omega | contradiction
                    | refine Ev.sr fun K hK => S.o q.as (S.o q.as (S.end (hK _ ?_))); clear hK K; refine Ev.weaken (Wk.nsh Mn.c 2 9) ?_; refine Ev.ret ?_; refine hR0 _ _ ?_; refine Ev.ret2 ?_; refine ⟨?_, rfl⟩
                      first
                       | (rw [(hf (fun h => absurd h.1.1 ‹_›)).1, (hf (fun h => absurd h.1.1 ‹_›)).2]; done)
                       | (rw [(hf (fun h => absurd h.1.2.1 ‹_›)).1, (hf (fun h => absurd h.1.2.1 ‹_›)).2]; done)
                       | (rw [(hf (fun h => absurd h.1.2.2.1 ‹_›)).1, (hf (fun h => absurd h.1.2.2.1 ‹_›)).2]; done)
                       | (rw [(hf (fun h => absurd h.1.2.2.2.1 ‹_›)).1, (hf (fun h => absurd h.1.2.2.2.1 ‹_›)).2]; done)
                       | (have hg := hf (fun h => by have h1 := h.1.2.2.2.2; omega); rw [hg.1, hg.2]; done)
                       | (have hg := hf (fun h => absurd (laps_cut hp h.2).1 ‹_›); rw [hg.1, hg.2]; done)
                       | (have hg := hf (fun h => (laps_cut hp h.2).2.1 (f1_yes ‹_›)); rw [hg.1, hg.2]; done)
                       | (have hg := hf (fun h => (laps_cut hp h.2).2.2 (f2_yes ‹_›)); rw [hg.1, hg.2]; done)
                       | (have hg := look_t (hdo.2 ⟨hba, by rw [← hp]; exact hinv⟩); rw [hg.1, hg.2]; done)
                    · first
                    | omega | contradiction
                    | refine Ev.skip ?_; show Ev _ _ _ _; refine Ev.rtp (m := 8) (L0 := #[false, false, false, false, false, false, false, false]) rfl (by kernel_rfl) (by exact rfl) fun K hK => ?_; refine HP.mv (i := 0) rfl (h := ?_); refine HP.fa (i := 1) am_fi94_0 (by rw [am_cl3]; decide) rfl (h := ?_); refine HP.mv (i := 3) rfl (h := ?_); refine HP.fa (i := 4) am_fi94_1 (by rw [am_cl3]; decide) rfl (h := ?_); refine .done ?_; refine HT.two (i := 2) (j := 5) trivial rfl rfl (S.o (q.lv am_ag3) (S.end ?_)) (S.o (q.lv am_ag3) (S.end ?_))
                      · skip; refine HT.two (i := 5) (j := 6) trivial rfl rfl (S.o (q.lv am_ag3) (S.end ?_)) (S.mu (vv := (Value.bool)) [_, _, _] klI am_mt135 (fun _ => rfl) (hn := S.end ?_))
                        · skip; refine HT.one (i := 6) trivial rfl (S.mu (vv := (Value.bool)) [_, _, _] klI am_mt135 (fun _ => rfl) (hn := S.end ?_)); refine HT.one (i := 7) trivial rfl (S.mu (vv := (Value.bool)) [_, _, _] klI am_mt135 (fun _ => rfl) (hn := S.end ?_)); refine HT.nil trivial (by kernel_rfl) (hK _ ?_); clear hK K; show Ev _ _ _ _; refine Ev.region_S fun K hK => S.o q.add (S.o q.mv (S.end (hK _ ?_))); clear hK K; refine hR0 _ _ ?_; refine roundU [0, 1, 2] [4, 5, 6, 44, 45] ⟨(pre ++ [(s1, s2)], suf), by rw [← hp]; simp, ?_⟩ ?_ (keep_c (he := rfl) (h := (keep_c (he := (by first | rfl | (rw [f1M_snoc]; done))) (h := (keep_c (he := (by first | rfl | (rw [f2M_snoc]; done))) (h := keep_n)))))) (slots_c (he := (by first | rfl | (congr 2; simp; done))) (h := trivial)) (.c (.c (.c (.c (.c .n))))); exact laps_snoc hinv ‹_› (f1_no ‹_›) (f2_no ‹_›); all_goals (dsimp only; simp only [List.length_cons]; omega)
                        · skip; refine HT.one (i := 5) trivial rfl (S.o (q.lv am_ag3) (S.end ?_)); refine HT.one (i := 7) trivial rfl (S.mu (vv := (Value.bool)) [_, _, _] klI am_mt135 (fun _ => rfl) (hn := S.end ?_)); refine HT.nil trivial (by kernel_rfl) (hK _ ?_); clear hK K; show Ev _ _ _ _; refine Ev.region_S fun K hK => S.o q.add (S.o q.mv (S.end (hK _ ?_))); clear hK K; refine hR0 _ _ ?_; refine roundU [0, 1, 2] [4, 5, 6, 44, 45] ⟨(pre ++ [(s1, s2)], suf), by rw [← hp]; simp, ?_⟩ ?_ (keep_c (he := rfl) (h := (keep_c (he := (by first | rfl | (rw [f1M_snoc]; done))) (h := (keep_c (he := (by first | rfl | (rw [f2M_snoc]; done))) (h := keep_n)))))) (slots_c (he := (by first | rfl | (congr 2; simp; done))) (h := trivial)) (.c (.c (.c (.c (.c .n))))); exact laps_snoc hinv ‹_› (f1_no ‹_›) (f2_no ‹_›); all_goals (dsimp only; simp only [List.length_cons]; omega)
                      · skip; refine HT.one (i := 2) trivial rfl (S.o (q.lv am_ag3) (S.end ?_)); refine HT.one (i := 6) trivial rfl (S.mu (vv := (Value.bool)) [_, _, _] klI am_mt135 (fun _ => rfl) (hn := S.end ?_)); refine HT.one (i := 7) trivial rfl (S.mu (vv := (Value.bool)) [_, _, _] klI am_mt135 (fun _ => rfl) (hn := S.end ?_)); refine HT.nil trivial (by kernel_rfl) (hK _ ?_); clear hK K; show Ev _ _ _ _; refine Ev.region_S fun K hK => S.o q.add (S.o q.mv (S.end (hK _ ?_))); clear hK K; refine hR0 _ _ ?_; refine roundU [0, 1, 2] [4, 5, 6, 44, 45] ⟨(pre ++ [(s1, s2)], suf), by rw [← hp]; simp, ?_⟩ ?_ (keep_c (he := rfl) (h := (keep_c (he := (by first | rfl | (rw [f1M_snoc]; done))) (h := (keep_c (he := (by first | rfl | (rw [f2M_snoc]; done))) (h := keep_n)))))) (slots_c (he := (by first | rfl | (congr 2; simp; done))) (h := trivial)) (.c (.c (.c (.c (.c .n))))); exact laps_snoc hinv ‹_› (f1_no ‹_›) (f2_no ‹_›); all_goals (dsimp only; simp only [List.length_cons]; omega)
              · first | omega | contradiction | (exfalso; simp at *; done)
theorem detValid_fun (x : Det) (hw : x.w) : Fun Tryz.prog 23 [.agg x.c] (Ret (.lit (.bool (decide (detOK x)))) []) := by
  refine Fun.of (nt := 11) (rs := [.tmp 2]) Tryz.func23 rfl rfl rfl rfl rfl ?_; refine Ev.sr fun K hK => S.nn (q.bx [_, _, _, _, _, _, _, _, _, _, _, _, _, _, _, _, _, _, _] true) (S.o q.as (S.end (hK _ ?_))); clear hK K; refine Ev.sr fun K hK => S.o (q.lvA [_, _, _, _, _, _, _, _, _, _, _, _, _, _, _, _, _, _, _] am_ag34 am_cl34) (S.c0 (hF := look_fun x hw) (h := S.o q.mv (S.o q.ex (S.o q.ex (S.o q.as (S.o q.as (S.end (hK _ ?_)))))))); clear hK K; refine Ev.sr fun K hK => S.o q.mv (S.o q.as (S.end (hK _ ?_))); clear hK K; refine Ev.ret ?_; refine Ev.ret1 ?_; refine ⟨?_, rfl⟩; rfl
end Go.Proofs.YtkbpignlggahaaaGreatDoor
