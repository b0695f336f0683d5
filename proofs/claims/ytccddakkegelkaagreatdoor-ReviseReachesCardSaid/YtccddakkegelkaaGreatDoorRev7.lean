/-
  Layer 41: the text of changes, their number.
  Conditions: none.
-/
import Derived.Test.YtccddakkegelkaaGreatDoorRev1
import Derived.Test.YtccddakkegelkaaGreatDoorBld
import Derived.Test.YtccddakkegelkaaGreatDoorSteel
import Derived.Test.YtccddakkegelkaaGreatDoorRev2
namespace Go.Proofs.YtccddakkegelkaaGreatDoor
open Go Go.AM
set_option linter.unusedSimpArgs false
set_option linter.unusedVariables false
set_option maxRecDepth 100000

def kname (k : Int) : List UInt8 := if k = 1 then [107, 101, 112, 116] else if k = 2 then [99, 104, 97, 110, 103, 101, 100] else if k = 3 then [97, 100, 100, 101, 100] else [99, 97, 110, 99, 101, 108, 108, 101, 100]
theorem kname_len (k : Int) : (kname k).length ≤ 9 := by unfold kname; (repeat' split) <;> decide
theorem kname_row {k : Int} (h : 1 ≤ k ∧ k ≤ 4) : [[AV.lit (str [107, 101, 112, 116])], [AV.lit (str [99, 104, 97, 110, 103, 101, 100])], [AV.lit (str [97, 100, 100, 101, 100])], [AV.lit (str [99, 97, 110, 99, 101, 108, 108, 101, 100])]][(k - 1).toNat]? = some [.lit (str (kname k))] := by
  have : k = 1 ∨ k = 2 ∨ k = 3 ∨ k = 4 := by omega
  rcases this with rfl | rfl | rfl | rfl <;> rfl
def lineT (c : Chg) : List UInt8 := kname c.1 ++ [32] ++ c.2 ++ [10]
def textP (l : List Chg) : List UInt8 := l.flatMap lineT
def textV (l : List Chg) : List UInt8 := if okChgs l then textP l else []
def textE (l : List Chg) : Int := if okChgs l then 0 else 1
theorem textP_len : ∀ l : List Chg, (∀ c ∈ l, okChg c) → (textP l).length ≤ l.length * 200
  | [], _ => by simp [textP]
  | c :: l, h => by
    have h1 := textP_len l (fun x hx => h x (by simp [hx]))
    have h2 := isName_len (h c (by simp)).2.2
    have h3 := kname_len c.1
    simp only [textP, List.flatMap_cons, List.length_append, List.length_cons, List.length_nil, lineT] at h1 ⊢
    omega
theorem textP_snoc (l : List Chg) (s : Chg) : textP (l ++ [s]) = textP l ++ lineT s := by simp [textP]
theorem Text_nil : Fun Tryz.prog 18 [.sh 2 (([] : List Chg).map findC)] (Ret (.tup [.lit (str []), .lit (.int .i64 0)]) []) := by
  have hw : chgW [] := fun c hc => by simp at hc
  have hl0 : ([] : List Chg).length ≤ 140737488355328 := by decide
  have hok : okChgs [] := by decide
  refine Fun.of (nt := 30) (rs := [.tmp 2, .tmp 3]) Tryz.func18 rfl rfl rfl rfl rfl ?_
  refine Ev.sr fun K hK => S.o q.as (S.o q.as (S.end (hK _ ?_)))
  clear hK K
  refine Ev.seq ?_
  refine Ev.sr fun K hK => S.o q.mv (S.c0 (hF := rvalid_chg _ (by omega) (by assumption)) (h := S.o q.not (S.end (hK _ ?_))))
  clear hK K
  refine Ev.cn (fun c1 => ?_) (fun c1 => ?_)
  · first
  | (first | omega | contradiction)
  | contradiction
  · first
  | (first | omega | contradiction)
  | refine Ev.skip ?_
    show Ev _ _ _ _
    refine Ev.sr fun K hK => S.nn (q.al am_ze70) (S.end (hK _ ?_))
    clear hK K
    refine Ev.seq ?_
    refine Ev.sr fun K hK => S.o q.mv (S.o (q.lens am_el25) (S.o q.mv (S.end (hK _ ?_))))
    clear hK K
    refine Ev.block ?_
    refine Ev.loopU (ι := Unit) [0] [2, 3, 4, 10, 11] (fun _ => [(12, .lit (.int .i64 (0)))]) (fun _ => [(0, ⟨false, 70, 2, [[.lit (.pointer none), .lit (.slice none 0 0)]], true⟩)]) (fun _ => 0) () (.c (.c (.c (.c (.c .n))))) (keep_c (he := (by first | rfl | (simp; done))) (h := keep_n)) (slots_c (he := (by first | rfl | (simp; done) | (congr 2; omega))) (h := trivial)) ?_
    rintro ⟨⟩ R0 hR0
    dsimp only [List.cons_append, List.nil_append, List.length_cons, List.length_nil]
    refine Ev.sr fun K hK => S.o q.lss (S.end (hK _ ?_))
    clear hK K
    refine Ev.ud (fun c2 => ?_) (fun c2 => ?_)
    · first
    | (first | omega | contradiction)
    | refine Ev.seq ?_
      refine Ev.block ?_
      omega
    · first
    | (first | omega | contradiction)
    | refine Ev.exit ?_
      refine hR0 _ _ ?_
      show Ev _ _ _ _
      refine Ev.sr fun K hK => S.cR [0] 1 [_] (hob := (keep_c (he := rfl) (h := keep_n))) (hF := string0_fun) (hn' := belowL rfl rfl) (h := S.o q.as (S.o q.as (S.end (hK _ ?_))))
      clear hK K
      refine Ev.ret ?_
      refine Ev.ret2 ?_
      refine ⟨?_, rfl⟩
      rfl
theorem Text_cons (l : List Chg) (hne : l.isEmpty = false) (hl : l.length ≤ 140737488355328) (hw : chgW l) : Fun Tryz.prog 18 [.sh 2 (l.map findC)] (Ret (.tup [.lit (str (textV l)), .lit (.int .i64 (textE l))]) []) := by
  refine Fun.of (nt := 30) (rs := [.tmp 2, .tmp 3]) Tryz.func18 rfl rfl rfl rfl rfl ?_
  refine Ev.sr fun K hK => S.o q.as (S.o q.as (S.end (hK _ ?_)))
  clear hK K
  refine Ev.seq ?_
  refine Ev.sr fun K hK => S.o q.mv (S.c0 (hF := rvalid_chg _ (by omega) (by assumption)) (h := S.o q.not (S.end (hK _ ?_))))
  clear hK K
  refine Ev.cn (fun c1 => ?_) (fun c1 => ?_)
  · first
  | (first | omega | contradiction)
  | refine Ev.sr fun K hK => S.o q.as (S.o q.as (S.end (hK _ ?_)))
    clear hK K
    refine Ev.ret ?_
    refine Ev.ret2 ?_
    refine ⟨?_, rfl⟩
    first
     | (rw [show textV l = [] from if_neg ‹_›, show textE l = 1 from if_neg ‹_›]; done)
     | (rw [show textV l = textP l from if_pos hyes, show textE l = 0 from if_pos hyes]; done)
  · first
  | (first | omega | contradiction)
  | refine Ev.skip ?_
    show Ev _ _ _ _
    have hyes : okChgs l := ‹_›
    have hll := hyes.1
    have h0 : 0 < l.length := by cases l with | nil => simp at hne | cons => simp
    refine Ev.sr fun K hK => S.nn (q.al am_ze70) (S.end (hK _ ?_))
    clear hK K
    refine Ev.seq ?_
    refine Ev.weaken (Wk.nilv (f := byteC) 0 1 5 1 []) ?_
    refine Ev.sr fun K hK => S.o q.mv (S.o (q.lens am_el25) (S.o q.mv (S.end (hK _ ?_))))
    clear hK K
    refine Ev.block ?_
    refine Ev.loopU (ι := {p : List (Chg) × List (Chg) // p.1 ++ p.2 = l ∧ True}) [0, 1] [2, 3, 4, 10, 11] (fun ⟨(pre, suf), _⟩ => [(12, .lit (.int .i64 ((pre.length : Int))))]) (fun ⟨(pre, suf), _⟩ => [(0, ⟨false, 70, 2, [[bp (!pre.isEmpty) 0, .als 1 0 (textP pre).length]], false⟩), (1, ⟨true, 5, 1, (textP pre).map byteC, true⟩)]) (fun ⟨(pre, suf), _⟩ => suf.length) ⟨([], l), rfl, trivial⟩ (.c (.c (.c (.c (.c .n))))) (keep_d (hr := (by first | exact rfl | exact bp_ren rfl rfl)) (he := (by first | rfl | (simp only [textP_snoc, lineT, List.append_assoc]; done) | (simp only [textP_snoc, lineT, List.append_assoc, bp_snoc]; done))) (h := (keep_c (he := (by first | rfl | (simp only [textP_snoc, lineT, List.append_assoc]; done) | (simp only [textP_snoc, lineT, List.append_assoc, bp_snoc]; done))) (h := keep_n)))) (slots_c (he := (by first | rfl | (congr 2; simp; done))) (h := trivial)) ?_
    rintro ⟨⟨pre, suf⟩, hp, hinv⟩ R0 hR0
    dsimp only [List.cons_append, List.nil_append, List.length_cons, List.length_nil]
    simp only at hp hinv
    have hpl : pre.length + suf.length = (l).length := by rw [← hp, List.length_append]
    rcases suf with _ | ⟨s, suf⟩
    · rw [List.append_nil] at hp; subst pre; simp only [List.length_nil] at hpl
      have htl : 0 < (textP l).length := by
        cases l with
        | nil => simp at hne
        | cons c l => simp [textP, lineT]; omega
      refine Ev.sr fun K hK => S.o q.lss (S.end (hK _ ?_))
      clear hK K
      refine Ev.ud (fun c2 => ?_) (fun c2 => ?_)
      · first
      | (first | omega | contradiction)
      | refine Ev.seq ?_
        refine Ev.block ?_
        refine Ev.sr fun K hK => S.o (q.ix am_el25 am_cl34 (hl := (by first | exact atig (by omega)))) (S.o (q.lsA [_, _] am_ag34 am_cl34) (S.nn (q.al am_ze34) (S.sv [_, _] true [_, _] am_in34 am_cl34 (h := S.end (hK _ ?_)))))
        clear hK K
        refine Ev.region_M (tbs [(0, 0), (0, 0), (2, 2), (3, 6), (4, 15), (5, 31), (6, 63), (0, 0), (8, 128), (9, 511), (10, 1023), (11, 2047)]) 11 fun K hK => M.nn [_] (q.bs [[_], [_], [_], [_]] true am_el61 am_ze9 am_cl9) (h := M.o (q.fa 0 am_fi34_0 am_cl3) (M.o (q.lv am_ag3) (M.o q.sub (M.oN (q.ia am_el61 am_cl9) (M.oN (q.lv am_ag9 (hr := (by exact kname_row ⟨hsk.1, hsk.2.1⟩))) (M.o q.sadd (M.o (q.fa 1 am_fi34_1 am_cl9) (M.o (q.lv am_ag9) (M.o q.sadd (M.o q.sadd (M.end [_, _, _, _] (h := ?_))))))))))))
        rcases hfl : pre.isEmpty with _ | _
        · skip
          refine S.cR [0, 1] 48 [_, _, _, _] (hob := (keep_d (he := rfl) (h := (keep_c (he := rfl) (h := keep_n))))) (hF := writeUsed_fun (textP pre) _ (by simp only [List.length_append, List.length_cons, List.length_nil]; omega)) (hn' := belowL rfl rfl) (h := S.end (hK _ ?_))
          clear hK K
          show Ev _ _ _ _
          refine Ev.region_S fun K hK => S.o q.add (S.o q.mv (S.end (hK _ ?_)))
          clear hK K
          refine hR0 _ _ ?_
          refine roundU [0, 47] [2, 3, 4, 10, 11] ⟨(pre ++ [s], suf), by rw [← hp]; simp, ?_⟩ ?_ (keep_d (hr := (by first | exact rfl | exact bp_ren rfl rfl)) (he := (by first | rfl | (simp only [textP_snoc, lineT, List.append_assoc]; done) | (simp only [textP_snoc, lineT, List.append_assoc, bp_snoc]; done))) (h := (keep_c (he := (by first | rfl | (simp only [textP_snoc, lineT, List.append_assoc]; done) | (simp only [textP_snoc, lineT, List.append_assoc, bp_snoc]; done))) (h := keep_n)))) (slots_c (he := (by first | rfl | (congr 2; simp; done))) (h := trivial)) (.c (.c (.c (.c (.c .n)))))
          trivial
          all_goals (dsimp only; simp only [List.length_cons]; omega)
        · skip
          refine S.cR [0, 1] 48 [_, _, _, _] (hob := (keep_d (he := rfl) (h := (keep_c (he := rfl) (h := keep_n))))) (hF := writeFresh_fun (textP pre) _ (by simp only [List.length_append, List.length_cons, List.length_nil]; omega)) (hn' := belowL rfl rfl) (h := S.end (hK _ ?_))
          clear hK K
          show Ev _ _ _ _
          refine Ev.region_S fun K hK => S.o q.add (S.o q.mv (S.end (hK _ ?_)))
          clear hK K
          refine hR0 _ _ ?_
          refine roundU [0, 47] [2, 3, 4, 10, 11] ⟨(pre ++ [s], suf), by rw [← hp]; simp, ?_⟩ ?_ (keep_d (hr := (by first | exact rfl | exact bp_ren rfl rfl)) (he := (by first | rfl | (simp only [textP_snoc, lineT, List.append_assoc]; done) | (simp only [textP_snoc, lineT, List.append_assoc, bp_snoc]; done))) (h := (keep_c (he := (by first | rfl | (simp only [textP_snoc, lineT, List.append_assoc]; done) | (simp only [textP_snoc, lineT, List.append_assoc, bp_snoc]; done))) (h := keep_n)))) (slots_c (he := (by first | rfl | (congr 2; simp; done))) (h := trivial)) (.c (.c (.c (.c (.c .n)))))
          trivial
          all_goals (dsimp only; simp only [List.length_cons]; omega)
      · first
      | (first | omega | contradiction)
      | refine Ev.exit ?_
        refine hR0 _ _ ?_
        show Ev _ _ _ _
        rw [hne]
        refine Ev.sr fun K hK => S.cR [0, 1] 2 [_] (hob := (keep_d (he := rfl) (h := (keep_c (he := rfl) (h := keep_n))))) (hF := string_fun _ htl) (hn' := belowL rfl rfl) (h := S.o q.as (S.o q.as (S.end (hK _ ?_))))
        clear hK K
        refine Ev.ret ?_
        refine Ev.ret2 ?_
        refine ⟨?_, rfl⟩
        first
         | (rw [show textV l = [] from if_neg ‹_›, show textE l = 1 from if_neg ‹_›]; done)
         | (rw [show textV l = textP l from if_pos hyes, show textE l = 0 from if_pos hyes]; done)
    · simp only [List.length_cons] at hpl
      have hidx : (l)[pre.length]? = some s := by rw [← hp]; simp
      have hsk : okChg s := hyes.2.1 s (by rw [← hp]; simp)
      have hk1 := hsk.1
      have hk2 := hsk.2.1
      have hsn := isName_len hsk.2.2
      have hkn := kname_len s.1
      have hpt := textP_len pre (fun c hc => hyes.2.1 c (by rw [← hp]; simp [hc]))
      refine Ev.sr fun K hK => S.o q.lss (S.end (hK _ ?_))
      clear hK K
      refine Ev.ud (fun c3 => ?_) (fun c3 => ?_)
      · first
      | (first | omega | contradiction)
      | refine Ev.seq ?_
        refine Ev.block ?_
        refine Ev.sr fun K hK => S.o (q.ix am_el25 am_cl34 (hl := (by first | exact ati hidx (by omega) | exact atig (by omega)))) (S.o (q.lsA [_, _] am_ag34 am_cl34) (S.nn (q.al am_ze34) (S.sv [_, _] true [_, _] am_in34 am_cl34 (h := S.end (hK _ ?_)))))
        clear hK K
        refine Ev.region_M (tbs [(0, 0), (0, 0), (2, 2), (3, 6), (4, 15), (5, 31), (6, 63), (0, 0), (8, 128), (9, 511), (10, 1023), (11, 2047)]) 11 fun K hK => M.nn [_] (q.bs [[_], [_], [_], [_]] true am_el61 am_ze9 am_cl9) (h := M.o (q.fa 0 am_fi34_0 am_cl3) (M.o (q.lv am_ag3) (M.o q.sub (M.oN (q.ia am_el61 am_cl9) (M.oN (q.lv am_ag9 (hr := (by exact kname_row ⟨hsk.1, hsk.2.1⟩))) (M.o q.sadd (M.o (q.fa 1 am_fi34_1 am_cl9) (M.o (q.lv am_ag9) (M.o q.sadd (M.o q.sadd (M.end [_, _, _, _] (h := ?_))))))))))))
        rcases hfl : pre.isEmpty with _ | _
        · skip
          refine S.cR [0, 1] 48 [_, _, _, _] (hob := (keep_d (he := rfl) (h := (keep_c (he := rfl) (h := keep_n))))) (hF := writeUsed_fun (textP pre) _ (by simp only [List.length_append, List.length_cons, List.length_nil]; omega)) (hn' := belowL rfl rfl) (h := S.end (hK _ ?_))
          clear hK K
          show Ev _ _ _ _
          refine Ev.region_S fun K hK => S.o q.add (S.o q.mv (S.end (hK _ ?_)))
          clear hK K
          refine hR0 _ _ ?_
          refine roundU [0, 47] [2, 3, 4, 10, 11] ⟨(pre ++ [s], suf), by rw [← hp]; simp, ?_⟩ ?_ (keep_d (hr := (by first | exact rfl | exact bp_ren rfl rfl)) (he := (by first | rfl | (simp only [textP_snoc, lineT, List.append_assoc]; done) | (simp only [textP_snoc, lineT, List.append_assoc, bp_snoc]; done))) (h := (keep_c (he := (by first | rfl | (simp only [textP_snoc, lineT, List.append_assoc]; done) | (simp only [textP_snoc, lineT, List.append_assoc, bp_snoc]; done))) (h := keep_n)))) (slots_c (he := (by first | rfl | (congr 2; simp; done))) (h := trivial)) (.c (.c (.c (.c (.c .n)))))
          trivial
          all_goals (dsimp only; simp only [List.length_cons]; omega)
        · skip
          refine S.cR [0, 1] 48 [_, _, _, _] (hob := (keep_d (he := rfl) (h := (keep_c (he := rfl) (h := keep_n))))) (hF := writeFresh_fun (textP pre) _ (by simp only [List.length_append, List.length_cons, List.length_nil]; omega)) (hn' := belowL rfl rfl) (h := S.end (hK _ ?_))
          clear hK K
          show Ev _ _ _ _
          refine Ev.region_S fun K hK => S.o q.add (S.o q.mv (S.end (hK _ ?_)))
          clear hK K
          refine hR0 _ _ ?_
          refine roundU [0, 47] [2, 3, 4, 10, 11] ⟨(pre ++ [s], suf), by rw [← hp]; simp, ?_⟩ ?_ (keep_d (hr := (by first | exact rfl | exact bp_ren rfl rfl)) (he := (by first | rfl | (simp only [textP_snoc, lineT, List.append_assoc]; done) | (simp only [textP_snoc, lineT, List.append_assoc, bp_snoc]; done))) (h := (keep_c (he := (by first | rfl | (simp only [textP_snoc, lineT, List.append_assoc]; done) | (simp only [textP_snoc, lineT, List.append_assoc, bp_snoc]; done))) (h := keep_n)))) (slots_c (he := (by first | rfl | (congr 2; simp; done))) (h := trivial)) (.c (.c (.c (.c (.c .n)))))
          trivial
          all_goals (dsimp only; simp only [List.length_cons]; omega)
      · first
      | (first | omega | contradiction)
      | refine Ev.exit ?_
        refine hR0 _ _ ?_
        show Ev _ _ _ _
        rw [hne]
        refine Ev.sr fun K hK => S.cR [0, 1] 2 [_] (hob := (keep_d (he := rfl) (h := (keep_c (he := rfl) (h := keep_n))))) (hF := string_fun _ htl) (hn' := belowL rfl rfl) (h := S.o q.as (S.o q.as (S.end (hK _ ?_))))
        clear hK K
        refine Ev.ret ?_
        refine Ev.ret2 ?_
        refine ⟨?_, rfl⟩
        first
         | (rw [show textV l = [] from if_neg ‹_›, show textE l = 1 from if_neg ‹_›]; done)
         | (rw [show textV l = textP l from if_pos hyes, show textE l = 0 from if_pos hyes]; done)
theorem Text_fun (l : List Chg) (hl : l.length ≤ 140737488355328) (hw : chgW l) : Fun Tryz.prog 18 [.sh 2 (l.map findC)] (Ret (.tup [.lit (str (textV l)), .lit (.int .i64 (textE l))]) []) := by
  cases l with
  | nil => exact Text_nil
  | cons c l => exact Text_cons (c :: l) rfl hl hw
def cnt (l : List Chg) (k : Int) : Int := (l.countP fun c => decide (c.1 = k) : Nat)
def cntL (l : List Chg) : List Int := [cnt l 1, cnt l 2, cnt l 3, cnt l 4]
def cntV (l : List Chg) : List Int := if okChgs l then cntL l else []
end Go.Proofs.YtccddakkegelkaaGreatDoor
namespace Go.Proofs.YtccddakkegelkaaGreatDoor
open Go Go.AM
set_option linter.unusedSimpArgs false
set_option linter.unusedVariables false
set_option maxRecDepth 100000
set_option maxHeartbeats 1000000

instance : DecidableEq Bar := fun x y => decidable_of_iff (x.mark = y.mark ∧ x.size = y.size ∧ x.count = y.count ∧ x.code = y.code ∧ x.dims = y.dims) (by cases x; cases y; simp)
theorem bars_take {a b : List Bar} (h : b.take a.length = a) (hl : a.length = b.length) : a = b := h.symm.trans (List.take_of_length_le (by omega))
theorem bar_eq {x y : Bar} (h1 : x.mark = y.mark) (h2 : x.size = y.size) (h3 : x.count = y.count) (h4 : x.code = y.code) (h5 : x.dims = y.dims) : x = y := by
  cases x; cases y; simp only at h1 h2 h3 h4 h5; subst h1 h2 h3 h4 h5; rfl
theorem same14_fun (a b : List Bar) (ha : a.length ≤ 140737488355328) (hb : b.length ≤ 140737488355328) (hwa : ∀ x ∈ a, x.dims.length ≤ 140737488355328) (hwb : ∀ x ∈ b, x.dims.length ≤ 140737488355328) : Fun Tryz.prog 20 [.sh 5 (a.map Bar.c), .sh 5 (b.map Bar.c)] (Ret (.lit (.bool (decide (a = b)))) []) := by
  refine Fun.of (nt := 81) (rs := [.tmp 4]) Tryz.func20 rfl rfl rfl rfl rfl ?_
  refine Ev.sr fun K hK => S.o q.as (S.end (hK _ ?_))
  clear hK K
  refine Ev.seq ?_
  refine Ev.sr fun K hK => S.o q.mv (S.o (q.lens am_el22) (S.o q.mv (S.o (q.lens am_el22) (S.o q.neq (S.end (hK _ ?_))))))
  clear hK K
  refine Ev.cn (fun c1 => ?_) (fun c1 => ?_)
  · first
  | (first | omega | contradiction)
  | refine Ev.sr fun K hK => S.o q.as (S.end (hK _ ?_))
    clear hK K
    refine Ev.ret ?_
    refine Ev.ret1 ?_
    refine ⟨?_, rfl⟩
    first
     | exact bF (fun h => by have h1 := congrArg List.length h; omega)
     | exact bF (fun h => by have he := hxy h; subst he; first | contradiction | omega)
     | exact bF (fun h => by have he := hxy h; subst he; rw [hidk] at hidk2; simp only [Option.some.injEq] at hidk2; omega)
     | exact bT (bars_take hinv (by omega))
  · first
  | (first | omega | contradiction)
  | refine Ev.skip ?_
    show Ev _ _ _ _
    refine Ev.seq ?_
    refine Ev.sr fun K hK => S.o q.as (S.end (hK _ ?_))
    clear hK K
    refine Ev.block ?_
    refine Ev.loopU (ι := {q : List Bar × List Bar // q.1 ++ q.2 = a ∧ b.take q.1.length = q.1}) [] [0, 1] (fun ⟨(pre, suf), _⟩ => [(5, .lit (.int .i64 ((pre.length : Int))))]) (fun ⟨(pre, suf), _⟩ => []) (fun ⟨(pre, suf), _⟩ => suf.length) ⟨([], a), rfl, rfl⟩ (.c (.c .n)) keep_n (slots_c (he := (by first | rfl | (simp; done) | (congr 2; omega))) (h := trivial)) ?_
    rintro ⟨⟨pre, suf⟩, hp, hinv⟩ R0 hR0
    dsimp only [List.cons_append, List.nil_append, List.length_cons, List.length_nil]
    simp only at hp hinv
    have hpl : pre.length + suf.length = (a).length := by rw [← hp, List.length_append]
    rcases suf with _ | ⟨s, suf⟩
    · rw [List.append_nil] at hp; subst pre; simp only [List.length_nil] at hpl
      refine Ev.seq ?_
      refine Ev.sr fun K hK => S.o q.mv (S.o q.mv (S.o (q.lens am_el22) (S.o q.lss (S.end (hK _ ?_)))))
      clear hK K
      refine Ev.cd (fun c2 => ?_) (fun c2 => ?_)
      · first
      | (first | omega | contradiction)
      | refine Ev.skip ?_
        show Ev _ _ _ _
        refine Ev.seq ?_
        refine Ev.block ?_
        refine Ev.sl (tbs [(0, 0), (0, 0), (2, 3), (3, 7), (0, 0), (0, 0), (6, 48), (7, 112), (0, 0), (0, 0), (10, 783), (11, 2047)]) 10 fun K hK => M.o q.mv (M.o q.mv (M.o (q.ix am_el22 am_cl44 (hl := (by first | exact atig (by omega)))) (M.o (q.lsA [_, _, _, _, _] am_ag44 am_cl44) (M.o q.mv (M.o q.mv (M.o (q.ix am_el22 am_cl44 (hl := (by first | exact atig (by omega)))) (M.o (q.lsA [_, _, _, _, _] am_ag44 am_cl44) (M.nn [_] (q.al am_ze44) (h := M.nn [_, _] (q.al am_ze44) (h := M.late [_, _, _, _, _] true [_, _] am_in44 am_cl44 (h := S.sv [_, _, _, _, _] true [_] am_in44 am_cl44 (h := S.end (hK _ ?_)))))))))))))
        clear hK K
        refine Ev.seq ?_
        refine Ev.sr fun K hK => S.o (q.fa 0 am_fi44_0 am_cl9) (S.o (q.lv am_ag9) (S.o (q.fa 0 am_fi44_0 am_cl9) (S.o (q.lv am_ag9) (S.o q.snes (S.bn q.mv (fun c3 => ?_) (fun c3 => ?_))))))
        · first
        | (first | omega | contradiction)
        | refine S.sk (S.sk (S.sk (S.sk (S.sk (S.o q.pt (S.o q.mv (S.sk (S.sk (S.sk (S.sk (S.sk (S.o q.pt (S.o q.mv (S.sk (S.sk (S.sk (S.sk (S.sk (S.o q.pt (S.o q.mv (S.sk (S.sk (S.sk (S.sk (S.sk (S.sk (S.sk (S.o q.pt (S.end (hK _ ?_))))))))))))))))))))))))))))))
          clear hK K
          refine Ev.ct ?_
          refine Ev.sr fun K hK => S.o q.as (S.end (hK _ ?_))
          clear hK K
          refine Ev.ret ?_
          refine hR0 _ _ ?_
          refine Ev.ret1 ?_
          refine ⟨?_, rfl⟩
          first
           | exact bF (fun h => by have h1 := congrArg List.length h; omega)
           | exact bF (fun h => by have he := hxy h; subst he; first | contradiction | omega)
           | exact bF (fun h => by have he := hxy h; subst he; rw [hidk] at hidk2; simp only [Option.some.injEq] at hidk2; omega)
           | exact bT (bars_take hinv (by omega))
        · first
        | (first | omega | contradiction)
        | refine S.o (q.fa 1 am_fi44_1 am_cl3) (S.o (q.lv am_ag3) (S.o (q.fa 1 am_fi44_1 am_cl3) (S.o (q.lv am_ag3) (S.o q.neq (S.o q.pf (S.bn q.mv (fun c4 => ?_) (fun c4 => ?_)))))))
          · first
          | (first | omega | contradiction)
          | refine S.sk (S.sk (S.sk (S.sk (S.sk (S.o q.pt (S.o q.mv (S.sk (S.sk (S.sk (S.sk (S.sk (S.o q.pt (S.o q.mv (S.sk (S.sk (S.sk (S.sk (S.sk (S.sk (S.sk (S.o q.pt (S.end (hK _ ?_)))))))))))))))))))))))
            clear hK K
            refine Ev.ct ?_
            refine Ev.sr fun K hK => S.o q.as (S.end (hK _ ?_))
            clear hK K
            refine Ev.ret ?_
            refine hR0 _ _ ?_
            refine Ev.ret1 ?_
            refine ⟨?_, rfl⟩
            first
             | exact bF (fun h => by have h1 := congrArg List.length h; omega)
             | exact bF (fun h => by have he := hxy h; subst he; first | contradiction | omega)
             | exact bF (fun h => by have he := hxy h; subst he; rw [hidk] at hidk2; simp only [Option.some.injEq] at hidk2; omega)
             | exact bT (bars_take hinv (by omega))
          · first
          | (first | omega | contradiction)
          | refine S.o (q.fa 2 am_fi44_2 am_cl3) (S.o (q.lv am_ag3) (S.o (q.fa 2 am_fi44_2 am_cl3) (S.o (q.lv am_ag3) (S.o q.neq (S.o q.pf (S.bn q.mv (fun c5 => ?_) (fun c5 => ?_)))))))
            · first
            | (first | omega | contradiction)
            | refine S.sk (S.sk (S.sk (S.sk (S.sk (S.o q.pt (S.o q.mv (S.sk (S.sk (S.sk (S.sk (S.sk (S.sk (S.sk (S.o q.pt (S.end (hK _ ?_))))))))))))))))
              clear hK K
              refine Ev.ct ?_
              refine Ev.sr fun K hK => S.o q.as (S.end (hK _ ?_))
              clear hK K
              refine Ev.ret ?_
              refine hR0 _ _ ?_
              refine Ev.ret1 ?_
              refine ⟨?_, rfl⟩
              first
               | exact bF (fun h => by have h1 := congrArg List.length h; omega)
               | exact bF (fun h => by have he := hxy h; subst he; first | contradiction | omega)
               | exact bF (fun h => by have he := hxy h; subst he; rw [hidk] at hidk2; simp only [Option.some.injEq] at hidk2; omega)
               | exact bT (bars_take hinv (by omega))
            · first
            | (first | omega | contradiction)
            | refine S.o (q.fa 3 am_fi44_3 am_cl3) (S.o (q.lv am_ag3) (S.o (q.fa 3 am_fi44_3 am_cl3) (S.o (q.lv am_ag3) (S.o q.neq (S.o q.pf (S.bn q.mv (fun c6 => ?_) (fun c6 => ?_)))))))
              · first
              | (first | omega | contradiction)
              | refine S.sk (S.sk (S.sk (S.sk (S.sk (S.sk (S.sk (S.o q.pt (S.end (hK _ ?_)))))))))
                clear hK K
                refine Ev.ct ?_
                refine Ev.sr fun K hK => S.o q.as (S.end (hK _ ?_))
                clear hK K
                refine Ev.ret ?_
                refine hR0 _ _ ?_
                refine Ev.ret1 ?_
                refine ⟨?_, rfl⟩
                first
                 | exact bF (fun h => by have h1 := congrArg List.length h; omega)
                 | exact bF (fun h => by have he := hxy h; subst he; first | contradiction | omega)
                 | exact bF (fun h => by have he := hxy h; subst he; rw [hidk] at hidk2; simp only [Option.some.injEq] at hidk2; omega)
                 | exact bT (bars_take hinv (by omega))
              · first
              | (first | omega | contradiction)
              | refine S.o (q.fa 4 am_fi44_4 am_cl42) (S.o (q.lv am_ag42) (S.o (q.lens am_el42) (S.o (q.fa 4 am_fi44_4 am_cl42) (S.o (q.lv am_ag42) (S.o (q.lens am_el42) (S.o q.neq (S.o q.pf (S.end (hK _ ?_)))))))))
                clear hK K
                refine Ev.cn (fun c7 => ?_) (fun c7 => ?_)
                · first
                | (first | omega | contradiction)
                | refine Ev.sr fun K hK => S.o q.as (S.end (hK _ ?_))
                  clear hK K
                  refine Ev.ret ?_
                  refine hR0 _ _ ?_
                  refine Ev.ret1 ?_
                  refine ⟨?_, rfl⟩
                  first
                   | exact bF (fun h => by have h1 := congrArg List.length h; omega)
                   | exact bF (fun h => by have he := hxy h; subst he; first | contradiction | omega)
                   | exact bF (fun h => by have he := hxy h; subst he; rw [hidk] at hidk2; simp only [Option.some.injEq] at hidk2; omega)
                   | exact bT (bars_take hinv (by omega))
                · first
                | (first | omega | contradiction)
                | refine Ev.skip ?_
                  show Ev _ _ _ _
                  refine Ev.sr fun K hK => S.o q.as (S.end (hK _ ?_))
                  clear hK K
                  refine Ev.block ?_
                  refine Ev.loopU (ι := {q : List Int × List Int // q.1 ++ q.2 = s.dims ∧ s2.dims.take q.1.length = q.1}) [32, 36] [0, 1, 5, 6, 7, 14, 15, 16, 17, 20, 21, 22, 23, 24, 25, 26, 27, 28, 29, 30, 31, 32, 33, 34, 35, 36, 37, 38, 39, 40, 41, 42, 43, 44, 45, 46, 47, 48, 49, 50, 51, 52, 53, 54, 55, 56, 57, 58, 59, 60, 61, 62] (fun ⟨(prek, sufk), _⟩ => [(8, .lit (.int .i64 ((prek.length : Int))))]) (fun ⟨(prek, sufk), _⟩ => [(0, ⟨false, 44, 5, [[.lit (str (s.mark)), .lit (.int .i64 (s.size)), .lit (.int .i64 (s.count)), .lit (.int .i64 (s.code)), .sh 1 ((s.dims).map intC)]], true⟩), (1, ⟨false, 44, 5, [[.lit (str (s2.mark)), .lit (.int .i64 (s2.size)), .lit (.int .i64 (s2.count)), .lit (.int .i64 (s2.code)), .sh 1 ((s2.dims).map intC)]], true⟩)]) (fun ⟨(prek, sufk), _⟩ => sufk.length) ⟨([], s.dims), rfl, rfl⟩ (.c (.c (.c (.c (.c (.c (.c (.c (.c (.c (.c (.c (.c (.c (.c (.c (.c (.c (.c (.c (.c (.c (.c (.c (.c (.c (.c (.c (.c (.c (.c (.c (.c (.c (.c (.c (.c (.c (.c (.c (.c (.c (.c (.c (.c (.c (.c (.c (.c (.c (.c (.c .n)))))))))))))))))))))))))))))))))))))))))))))))))))) (keep_c (he := (by first | rfl | (simp; done))) (h := (keep_c (he := (by first | rfl | (simp; done))) (h := keep_n)))) (slots_c (he := (by first | rfl | (simp; done) | (congr 2; omega))) (h := trivial)) ?_
                  rintro ⟨⟨prek, sufk⟩, hpk, hinvk⟩ R2 hR2
                  dsimp only [List.cons_append, List.nil_append, List.length_cons, List.length_nil]
                  simp only at hpk hinvk
                  have hplk : prek.length + sufk.length = s.dims.length := by rw [← hpk, List.length_append]
                  rcases sufk with _ | ⟨sk, sufk⟩
                  · rw [List.append_nil] at hpk; have hpd := congrArg List.length hpk; rw [hpk] at hinvk; simp only [List.length_nil] at hplk
                    refine Ev.seq ?_
                    refine Ev.sr fun K hK => S.o q.mv (S.o (q.fa 4 am_fi44_4 am_cl42) (S.o (q.lv am_ag42) (S.o (q.lens am_el42) (S.o q.lss (S.end (hK _ ?_))))))
                    clear hK K
                    refine Ev.cd (fun c8 => ?_) (fun c8 => ?_)
                    · first
                    | (first | omega | contradiction)
                    | refine Ev.skip ?_
                      show Ev _ _ _ _
                      refine Ev.seq ?_
                      refine Ev.block ?_
                      refine Ev.sm (tbs [(0, 0), (1, 1), (0, 0), (3, 7), (4, 15), (0, 0), (6, 32), (0, 0), (8, 224), (9, 480), (10, 1023)]) 11 fun K hK => M.o (q.fa 4 am_fi44_4 am_cl42) (M.o (q.lv am_ag42) (M.o q.mv (M.o (q.ix am_el42 am_cl3 (hl := (by first | exact atig (by omega)))) (M.o (q.ls am_ag3) (M.o (q.fa 4 am_fi44_4 am_cl42) (M.o (q.lv am_ag42) (M.o q.mv (M.o (q.ix am_el42 am_cl3 (hl := (by first | exact atig (by omega)))) (M.o (q.ls am_ag3) (M.o q.neq (M.end [_, _] (h := S.end (hK _ ?_)))))))))))))
                      clear hK K
                      refine Ev.cn (fun c9 => ?_) (fun c9 => ?_)
                      · first
                      | (first | omega | contradiction)
                      | refine Ev.sr fun K hK => S.o q.as (S.end (hK _ ?_))
                        clear hK K
                        refine Ev.ret ?_
                        refine hR2 _ _ ?_
                        refine hR0 _ _ ?_
                        refine Ev.ret1 ?_
                        refine ⟨?_, rfl⟩
                        first
                         | exact bF (fun h => by have h1 := congrArg List.length h; omega)
                         | exact bF (fun h => by have he := hxy h; subst he; first | contradiction | omega)
                         | exact bF (fun h => by have he := hxy h; subst he; rw [hidk] at hidk2; simp only [Option.some.injEq] at hidk2; omega)
                         | exact bT (bars_take hinv (by omega))
                      · first
                      | (first | omega | contradiction)
                      | refine Ev.skip ?_
                        show Ev _ _ _ _
                        refine Ev.region_S fun K hK => S.o q.mv (S.o q.add (S.o q.as (S.end (hK _ ?_))))
                        clear hK K
                        refine hR2 _ _ ?_
                        refine roundU [0, 1] [0, 1, 5, 6, 7, 14, 15, 16, 17, 20, 21, 22, 23, 24, 25, 26, 27, 28, 29, 30, 31, 32, 33, 34, 35, 36, 37, 38, 39, 40, 41, 42, 43, 44, 45, 46, 47, 48, 49, 50, 51, 52, 53, 54, 55, 56, 57, 58, 59, 60, 61, 62] ⟨(prek ++ [sk], sufk), by rw [← hpk]; simp, ?_⟩ ?_ (keep_c (he := (by first | rfl | (simp; done))) (h := (keep_c (he := (by first | rfl | (simp; done))) (h := keep_n)))) (slots_c (he := (by first | rfl | (simp; done) | (congr 2; omega))) (h := trivial)) (.c (.c (.c (.c (.c (.c (.c (.c (.c (.c (.c (.c (.c (.c (.c (.c (.c (.c (.c (.c (.c (.c (.c (.c (.c (.c (.c (.c (.c (.c (.c (.c (.c (.c (.c (.c (.c (.c (.c (.c (.c (.c (.c (.c (.c (.c (.c (.c (.c (.c (.c (.c .n))))))))))))))))))))))))))))))))))))))))))))))))))))
                        simp only [List.length_append, List.length_cons, List.length_nil, Nat.zero_add]
                        rw [List.take_add_one, hinvk, hidk2]
                        simp only [Option.toList_some, List.append_cancel_left_eq, List.cons.injEq, and_true]
                        omega
                        all_goals (dsimp only; simp only [List.length_cons]; omega)
                    · first
                    | (first | omega | contradiction)
                    | refine Ev.exit ?_
                      refine hR2 _ _ ?_
                      show Ev _ _ _ _
                      have hfin : s = s2 := bar_eq (by first | assumption | omega) (by omega) (by omega) (by omega) (hinvk.symm.trans (List.take_of_length_le (by omega)))
                      refine Ev.region_S fun K hK => S.o q.mv (S.o q.add (S.o q.as (S.end (hK _ ?_))))
                      clear hK K
                      refine hR0 _ _ ?_
                      refine roundU [] [0, 1] ⟨(pre ++ [s], suf), by rw [← hp]; simp, ?_⟩ ?_ keep_n (slots_c (he := (by first | rfl | (simp; done) | (congr 2; omega))) (h := trivial)) (.c (.c .n))
                      simp only [List.length_append, List.length_cons, List.length_nil, Nat.zero_add]
                      rw [List.take_add_one, hinv, hidx2, hfin]
                      rfl
                      all_goals (dsimp only; simp only [List.length_cons]; omega)
                  · simp only [List.length_cons] at hplk
                    have hidk : s.dims[prek.length]? = some sk := by rw [← hpk]; simp
                    obtain ⟨sk2, hidk2⟩ : ∃ sk2, s2.dims[prek.length]? = some sk2 := ⟨_, List.getElem?_eq_getElem (by omega)⟩
                    refine Ev.seq ?_
                    refine Ev.sr fun K hK => S.o q.mv (S.o (q.fa 4 am_fi44_4 am_cl42) (S.o (q.lv am_ag42) (S.o (q.lens am_el42) (S.o q.lss (S.end (hK _ ?_))))))
                    clear hK K
                    refine Ev.cd (fun c10 => ?_) (fun c10 => ?_)
                    · first
                    | (first | omega | contradiction)
                    | refine Ev.skip ?_
                      show Ev _ _ _ _
                      refine Ev.seq ?_
                      refine Ev.block ?_
                      refine Ev.sm (tbs [(0, 0), (1, 1), (0, 0), (3, 7), (4, 15), (0, 0), (6, 32), (0, 0), (8, 224), (9, 480), (10, 1023)]) 11 fun K hK => M.o (q.fa 4 am_fi44_4 am_cl42) (M.o (q.lv am_ag42) (M.o q.mv (M.o (q.ix am_el42 am_cl3 (hl := (by first | exact ati hidk (by omega) | exact ati hidk2 (by omega) | exact atig (by omega)))) (M.o (q.ls am_ag3) (M.o (q.fa 4 am_fi44_4 am_cl42) (M.o (q.lv am_ag42) (M.o q.mv (M.o (q.ix am_el42 am_cl3 (hl := (by first | exact ati hidk (by omega) | exact ati hidk2 (by omega) | exact atig (by omega)))) (M.o (q.ls am_ag3) (M.o q.neq (M.end [_, _] (h := S.end (hK _ ?_)))))))))))))
                      clear hK K
                      refine Ev.cn (fun c11 => ?_) (fun c11 => ?_)
                      · first
                      | (first | omega | contradiction)
                      | refine Ev.sr fun K hK => S.o q.as (S.end (hK _ ?_))
                        clear hK K
                        refine Ev.ret ?_
                        refine hR2 _ _ ?_
                        refine hR0 _ _ ?_
                        refine Ev.ret1 ?_
                        refine ⟨?_, rfl⟩
                        first
                         | exact bF (fun h => by have h1 := congrArg List.length h; omega)
                         | exact bF (fun h => by have he := hxy h; subst he; first | contradiction | omega)
                         | exact bF (fun h => by have he := hxy h; subst he; rw [hidk] at hidk2; simp only [Option.some.injEq] at hidk2; omega)
                         | exact bT (bars_take hinv (by omega))
                      · first
                      | (first | omega | contradiction)
                      | refine Ev.skip ?_
                        show Ev _ _ _ _
                        refine Ev.region_S fun K hK => S.o q.mv (S.o q.add (S.o q.as (S.end (hK _ ?_))))
                        clear hK K
                        refine hR2 _ _ ?_
                        refine roundU [0, 1] [0, 1, 5, 6, 7, 14, 15, 16, 17, 20, 21, 22, 23, 24, 25, 26, 27, 28, 29, 30, 31, 32, 33, 34, 35, 36, 37, 38, 39, 40, 41, 42, 43, 44, 45, 46, 47, 48, 49, 50, 51, 52, 53, 54, 55, 56, 57, 58, 59, 60, 61, 62] ⟨(prek ++ [sk], sufk), by rw [← hpk]; simp, ?_⟩ ?_ (keep_c (he := (by first | rfl | (simp; done))) (h := (keep_c (he := (by first | rfl | (simp; done))) (h := keep_n)))) (slots_c (he := (by first | rfl | (simp; done) | (congr 2; omega))) (h := trivial)) (.c (.c (.c (.c (.c (.c (.c (.c (.c (.c (.c (.c (.c (.c (.c (.c (.c (.c (.c (.c (.c (.c (.c (.c (.c (.c (.c (.c (.c (.c (.c (.c (.c (.c (.c (.c (.c (.c (.c (.c (.c (.c (.c (.c (.c (.c (.c (.c (.c (.c (.c (.c .n))))))))))))))))))))))))))))))))))))))))))))))))))))
                        simp only [List.length_append, List.length_cons, List.length_nil, Nat.zero_add]
                        rw [List.take_add_one, hinvk, hidk2]
                        simp only [Option.toList_some, List.append_cancel_left_eq, List.cons.injEq, and_true]
                        omega
                        all_goals (dsimp only; simp only [List.length_cons]; omega)
                    · first
                    | (first | omega | contradiction)
                    | refine Ev.exit ?_
                      refine hR2 _ _ ?_
                      show Ev _ _ _ _
                      have hfin : s = s2 := bar_eq (by first | assumption | omega) (by omega) (by omega) (by omega) (hinvk.symm.trans (List.take_of_length_le (by omega)))
                      refine Ev.region_S fun K hK => S.o q.mv (S.o q.add (S.o q.as (S.end (hK _ ?_))))
                      clear hK K
                      refine hR0 _ _ ?_
                      refine roundU [] [0, 1] ⟨(pre ++ [s], suf), by rw [← hp]; simp, ?_⟩ ?_ keep_n (slots_c (he := (by first | rfl | (simp; done) | (congr 2; omega))) (h := trivial)) (.c (.c .n))
                      simp only [List.length_append, List.length_cons, List.length_nil, Nat.zero_add]
                      rw [List.take_add_one, hinv, hidx2, hfin]
                      rfl
                      all_goals (dsimp only; simp only [List.length_cons]; omega)
      · first
      | (first | omega | contradiction)
      | refine Ev.exit ?_
        refine hR0 _ _ ?_
        show Ev _ _ _ _
        refine Ev.sr fun K hK => S.o q.as (S.end (hK _ ?_))
        clear hK K
        refine Ev.ret ?_
        refine Ev.ret1 ?_
        refine ⟨?_, rfl⟩
        first
         | exact bF (fun h => by have h1 := congrArg List.length h; omega)
         | exact bF (fun h => by have he := hxy h; subst he; first | contradiction | omega)
         | exact bF (fun h => by have he := hxy h; subst he; rw [hidk] at hidk2; simp only [Option.some.injEq] at hidk2; omega)
         | exact bT (bars_take hinv (by omega))
    · simp only [List.length_cons] at hpl
      have hidx : (a)[pre.length]? = some s := by rw [← hp]; simp
      obtain ⟨s2, hidx2⟩ : ∃ s2, b[pre.length]? = some s2 := ⟨_, List.getElem?_eq_getElem (by omega)⟩
      have hxy : a = b → s = s2 := fun h => by rw [h, hidx2] at hidx; simp only [Option.some.injEq] at hidx; exact hidx.symm
      have hs1 := hwa s (by rw [← hp]; simp)
      have hs2 := hwb s2 (List.mem_of_getElem? hidx2)
      refine Ev.seq ?_
      refine Ev.sr fun K hK => S.o q.mv (S.o q.mv (S.o (q.lens am_el22) (S.o q.lss (S.end (hK _ ?_)))))
      clear hK K
      refine Ev.cd (fun c12 => ?_) (fun c12 => ?_)
      · first
      | (first | omega | contradiction)
      | refine Ev.skip ?_
        show Ev _ _ _ _
        refine Ev.seq ?_
        refine Ev.block ?_
        refine Ev.sl (tbs [(0, 0), (0, 0), (2, 3), (3, 7), (0, 0), (0, 0), (6, 48), (7, 112), (0, 0), (0, 0), (10, 783), (11, 2047)]) 10 fun K hK => M.o q.mv (M.o q.mv (M.o (q.ix am_el22 am_cl44 (hl := (by first | exact ati hidx (by omega) | exact ati hidx2 (by omega) | exact atig (by omega)))) (M.o (q.lsA [_, _, _, _, _] am_ag44 am_cl44) (M.o q.mv (M.o q.mv (M.o (q.ix am_el22 am_cl44 (hl := (by first | exact ati hidx (by omega) | exact ati hidx2 (by omega) | exact atig (by omega)))) (M.o (q.lsA [_, _, _, _, _] am_ag44 am_cl44) (M.nn [_] (q.al am_ze44) (h := M.nn [_, _] (q.al am_ze44) (h := M.late [_, _, _, _, _] true [_, _] am_in44 am_cl44 (h := S.sv [_, _, _, _, _] true [_] am_in44 am_cl44 (h := S.end (hK _ ?_)))))))))))))
        clear hK K
        refine Ev.seq ?_
        refine Ev.sr fun K hK => S.o (q.fa 0 am_fi44_0 am_cl9) (S.o (q.lv am_ag9) (S.o (q.fa 0 am_fi44_0 am_cl9) (S.o (q.lv am_ag9) (S.o q.snes (S.bn q.mv (fun c13 => ?_) (fun c13 => ?_))))))
        · first
        | (first | omega | contradiction)
        | refine S.sk (S.sk (S.sk (S.sk (S.sk (S.o q.pt (S.o q.mv (S.sk (S.sk (S.sk (S.sk (S.sk (S.o q.pt (S.o q.mv (S.sk (S.sk (S.sk (S.sk (S.sk (S.o q.pt (S.o q.mv (S.sk (S.sk (S.sk (S.sk (S.sk (S.sk (S.sk (S.o q.pt (S.end (hK _ ?_))))))))))))))))))))))))))))))
          clear hK K
          refine Ev.ct ?_
          refine Ev.sr fun K hK => S.o q.as (S.end (hK _ ?_))
          clear hK K
          refine Ev.ret ?_
          refine hR0 _ _ ?_
          refine Ev.ret1 ?_
          refine ⟨?_, rfl⟩
          first
           | exact bF (fun h => by have h1 := congrArg List.length h; omega)
           | exact bF (fun h => by have he := hxy h; subst he; first | contradiction | omega)
           | exact bF (fun h => by have he := hxy h; subst he; rw [hidk] at hidk2; simp only [Option.some.injEq] at hidk2; omega)
           | exact bT (bars_take hinv (by omega))
        · first
        | (first | omega | contradiction)
        | refine S.o (q.fa 1 am_fi44_1 am_cl3) (S.o (q.lv am_ag3) (S.o (q.fa 1 am_fi44_1 am_cl3) (S.o (q.lv am_ag3) (S.o q.neq (S.o q.pf (S.bn q.mv (fun c14 => ?_) (fun c14 => ?_)))))))
          · first
          | (first | omega | contradiction)
          | refine S.sk (S.sk (S.sk (S.sk (S.sk (S.o q.pt (S.o q.mv (S.sk (S.sk (S.sk (S.sk (S.sk (S.o q.pt (S.o q.mv (S.sk (S.sk (S.sk (S.sk (S.sk (S.sk (S.sk (S.o q.pt (S.end (hK _ ?_)))))))))))))))))))))))
            clear hK K
            refine Ev.ct ?_
            refine Ev.sr fun K hK => S.o q.as (S.end (hK _ ?_))
            clear hK K
            refine Ev.ret ?_
            refine hR0 _ _ ?_
            refine Ev.ret1 ?_
            refine ⟨?_, rfl⟩
            first
             | exact bF (fun h => by have h1 := congrArg List.length h; omega)
             | exact bF (fun h => by have he := hxy h; subst he; first | contradiction | omega)
             | exact bF (fun h => by have he := hxy h; subst he; rw [hidk] at hidk2; simp only [Option.some.injEq] at hidk2; omega)
             | exact bT (bars_take hinv (by omega))
          · first
          | (first | omega | contradiction)
          | refine S.o (q.fa 2 am_fi44_2 am_cl3) (S.o (q.lv am_ag3) (S.o (q.fa 2 am_fi44_2 am_cl3) (S.o (q.lv am_ag3) (S.o q.neq (S.o q.pf (S.bn q.mv (fun c15 => ?_) (fun c15 => ?_)))))))
            · first
            | (first | omega | contradiction)
            | refine S.sk (S.sk (S.sk (S.sk (S.sk (S.o q.pt (S.o q.mv (S.sk (S.sk (S.sk (S.sk (S.sk (S.sk (S.sk (S.o q.pt (S.end (hK _ ?_))))))))))))))))
              clear hK K
              refine Ev.ct ?_
              refine Ev.sr fun K hK => S.o q.as (S.end (hK _ ?_))
              clear hK K
              refine Ev.ret ?_
              refine hR0 _ _ ?_
              refine Ev.ret1 ?_
              refine ⟨?_, rfl⟩
              first
               | exact bF (fun h => by have h1 := congrArg List.length h; omega)
               | exact bF (fun h => by have he := hxy h; subst he; first | contradiction | omega)
               | exact bF (fun h => by have he := hxy h; subst he; rw [hidk] at hidk2; simp only [Option.some.injEq] at hidk2; omega)
               | exact bT (bars_take hinv (by omega))
            · first
            | (first | omega | contradiction)
            | refine S.o (q.fa 3 am_fi44_3 am_cl3) (S.o (q.lv am_ag3) (S.o (q.fa 3 am_fi44_3 am_cl3) (S.o (q.lv am_ag3) (S.o q.neq (S.o q.pf (S.bn q.mv (fun c16 => ?_) (fun c16 => ?_)))))))
              · first
              | (first | omega | contradiction)
              | refine S.sk (S.sk (S.sk (S.sk (S.sk (S.sk (S.sk (S.o q.pt (S.end (hK _ ?_)))))))))
                clear hK K
                refine Ev.ct ?_
                refine Ev.sr fun K hK => S.o q.as (S.end (hK _ ?_))
                clear hK K
                refine Ev.ret ?_
                refine hR0 _ _ ?_
                refine Ev.ret1 ?_
                refine ⟨?_, rfl⟩
                first
                 | exact bF (fun h => by have h1 := congrArg List.length h; omega)
                 | exact bF (fun h => by have he := hxy h; subst he; first | contradiction | omega)
                 | exact bF (fun h => by have he := hxy h; subst he; rw [hidk] at hidk2; simp only [Option.some.injEq] at hidk2; omega)
                 | exact bT (bars_take hinv (by omega))
              · first
              | (first | omega | contradiction)
              | refine S.o (q.fa 4 am_fi44_4 am_cl42) (S.o (q.lv am_ag42) (S.o (q.lens am_el42) (S.o (q.fa 4 am_fi44_4 am_cl42) (S.o (q.lv am_ag42) (S.o (q.lens am_el42) (S.o q.neq (S.o q.pf (S.end (hK _ ?_)))))))))
                clear hK K
                refine Ev.cn (fun c17 => ?_) (fun c17 => ?_)
                · first
                | (first | omega | contradiction)
                | refine Ev.sr fun K hK => S.o q.as (S.end (hK _ ?_))
                  clear hK K
                  refine Ev.ret ?_
                  refine hR0 _ _ ?_
                  refine Ev.ret1 ?_
                  refine ⟨?_, rfl⟩
                  first
                   | exact bF (fun h => by have h1 := congrArg List.length h; omega)
                   | exact bF (fun h => by have he := hxy h; subst he; first | contradiction | omega)
                   | exact bF (fun h => by have he := hxy h; subst he; rw [hidk] at hidk2; simp only [Option.some.injEq] at hidk2; omega)
                   | exact bT (bars_take hinv (by omega))
                · first
                | (first | omega | contradiction)
                | refine Ev.skip ?_
                  show Ev _ _ _ _
                  refine Ev.sr fun K hK => S.o q.as (S.end (hK _ ?_))
                  clear hK K
                  refine Ev.block ?_
                  refine Ev.loopU (ι := {q : List Int × List Int // q.1 ++ q.2 = s.dims ∧ s2.dims.take q.1.length = q.1}) [32, 36] [0, 1, 5, 6, 7, 14, 15, 16, 17, 20, 21, 22, 23, 24, 25, 26, 27, 28, 29, 30, 31, 32, 33, 34, 35, 36, 37, 38, 39, 40, 41, 42, 43, 44, 45, 46, 47, 48, 49, 50, 51, 52, 53, 54, 55, 56, 57, 58, 59, 60, 61, 62] (fun ⟨(prek, sufk), _⟩ => [(8, .lit (.int .i64 ((prek.length : Int))))]) (fun ⟨(prek, sufk), _⟩ => [(0, ⟨false, 44, 5, [[.lit (str (s.mark)), .lit (.int .i64 (s.size)), .lit (.int .i64 (s.count)), .lit (.int .i64 (s.code)), .sh 1 ((s.dims).map intC)]], true⟩), (1, ⟨false, 44, 5, [[.lit (str (s2.mark)), .lit (.int .i64 (s2.size)), .lit (.int .i64 (s2.count)), .lit (.int .i64 (s2.code)), .sh 1 ((s2.dims).map intC)]], true⟩)]) (fun ⟨(prek, sufk), _⟩ => sufk.length) ⟨([], s.dims), rfl, rfl⟩ (.c (.c (.c (.c (.c (.c (.c (.c (.c (.c (.c (.c (.c (.c (.c (.c (.c (.c (.c (.c (.c (.c (.c (.c (.c (.c (.c (.c (.c (.c (.c (.c (.c (.c (.c (.c (.c (.c (.c (.c (.c (.c (.c (.c (.c (.c (.c (.c (.c (.c (.c (.c .n)))))))))))))))))))))))))))))))))))))))))))))))))))) (keep_c (he := (by first | rfl | (simp; done))) (h := (keep_c (he := (by first | rfl | (simp; done))) (h := keep_n)))) (slots_c (he := (by first | rfl | (simp; done) | (congr 2; omega))) (h := trivial)) ?_
                  rintro ⟨⟨prek, sufk⟩, hpk, hinvk⟩ R2 hR2
                  dsimp only [List.cons_append, List.nil_append, List.length_cons, List.length_nil]
                  simp only at hpk hinvk
                  have hplk : prek.length + sufk.length = s.dims.length := by rw [← hpk, List.length_append]
                  rcases sufk with _ | ⟨sk, sufk⟩
                  · rw [List.append_nil] at hpk; have hpd := congrArg List.length hpk; rw [hpk] at hinvk; simp only [List.length_nil] at hplk
                    refine Ev.seq ?_
                    refine Ev.sr fun K hK => S.o q.mv (S.o (q.fa 4 am_fi44_4 am_cl42) (S.o (q.lv am_ag42) (S.o (q.lens am_el42) (S.o q.lss (S.end (hK _ ?_))))))
                    clear hK K
                    refine Ev.cd (fun c18 => ?_) (fun c18 => ?_)
                    · first
                    | (first | omega | contradiction)
                    | refine Ev.skip ?_
                      show Ev _ _ _ _
                      refine Ev.seq ?_
                      refine Ev.block ?_
                      refine Ev.sm (tbs [(0, 0), (1, 1), (0, 0), (3, 7), (4, 15), (0, 0), (6, 32), (0, 0), (8, 224), (9, 480), (10, 1023)]) 11 fun K hK => M.o (q.fa 4 am_fi44_4 am_cl42) (M.o (q.lv am_ag42) (M.o q.mv (M.o (q.ix am_el42 am_cl3 (hl := (by first | exact ati hidx (by omega) | exact ati hidx2 (by omega) | exact atig (by omega)))) (M.o (q.ls am_ag3) (M.o (q.fa 4 am_fi44_4 am_cl42) (M.o (q.lv am_ag42) (M.o q.mv (M.o (q.ix am_el42 am_cl3 (hl := (by first | exact ati hidx (by omega) | exact ati hidx2 (by omega) | exact atig (by omega)))) (M.o (q.ls am_ag3) (M.o q.neq (M.end [_, _] (h := S.end (hK _ ?_)))))))))))))
                      clear hK K
                      refine Ev.cn (fun c19 => ?_) (fun c19 => ?_)
                      · first
                      | (first | omega | contradiction)
                      | refine Ev.sr fun K hK => S.o q.as (S.end (hK _ ?_))
                        clear hK K
                        refine Ev.ret ?_
                        refine hR2 _ _ ?_
                        refine hR0 _ _ ?_
                        refine Ev.ret1 ?_
                        refine ⟨?_, rfl⟩
                        first
                         | exact bF (fun h => by have h1 := congrArg List.length h; omega)
                         | exact bF (fun h => by have he := hxy h; subst he; first | contradiction | omega)
                         | exact bF (fun h => by have he := hxy h; subst he; rw [hidk] at hidk2; simp only [Option.some.injEq] at hidk2; omega)
                         | exact bT (bars_take hinv (by omega))
                      · first
                      | (first | omega | contradiction)
                      | refine Ev.skip ?_
                        show Ev _ _ _ _
                        refine Ev.region_S fun K hK => S.o q.mv (S.o q.add (S.o q.as (S.end (hK _ ?_))))
                        clear hK K
                        refine hR2 _ _ ?_
                        refine roundU [0, 1] [0, 1, 5, 6, 7, 14, 15, 16, 17, 20, 21, 22, 23, 24, 25, 26, 27, 28, 29, 30, 31, 32, 33, 34, 35, 36, 37, 38, 39, 40, 41, 42, 43, 44, 45, 46, 47, 48, 49, 50, 51, 52, 53, 54, 55, 56, 57, 58, 59, 60, 61, 62] ⟨(prek ++ [sk], sufk), by rw [← hpk]; simp, ?_⟩ ?_ (keep_c (he := (by first | rfl | (simp; done))) (h := (keep_c (he := (by first | rfl | (simp; done))) (h := keep_n)))) (slots_c (he := (by first | rfl | (simp; done) | (congr 2; omega))) (h := trivial)) (.c (.c (.c (.c (.c (.c (.c (.c (.c (.c (.c (.c (.c (.c (.c (.c (.c (.c (.c (.c (.c (.c (.c (.c (.c (.c (.c (.c (.c (.c (.c (.c (.c (.c (.c (.c (.c (.c (.c (.c (.c (.c (.c (.c (.c (.c (.c (.c (.c (.c (.c (.c .n))))))))))))))))))))))))))))))))))))))))))))))))))))
                        simp only [List.length_append, List.length_cons, List.length_nil, Nat.zero_add]
                        rw [List.take_add_one, hinvk, hidk2]
                        simp only [Option.toList_some, List.append_cancel_left_eq, List.cons.injEq, and_true]
                        omega
                        all_goals (dsimp only; simp only [List.length_cons]; omega)
                    · first
                    | (first | omega | contradiction)
                    | refine Ev.exit ?_
                      refine hR2 _ _ ?_
                      show Ev _ _ _ _
                      have hfin : s = s2 := bar_eq (by first | assumption | omega) (by omega) (by omega) (by omega) (hinvk.symm.trans (List.take_of_length_le (by omega)))
                      refine Ev.region_S fun K hK => S.o q.mv (S.o q.add (S.o q.as (S.end (hK _ ?_))))
                      clear hK K
                      refine hR0 _ _ ?_
                      refine roundU [] [0, 1] ⟨(pre ++ [s], suf), by rw [← hp]; simp, ?_⟩ ?_ keep_n (slots_c (he := (by first | rfl | (simp; done) | (congr 2; omega))) (h := trivial)) (.c (.c .n))
                      simp only [List.length_append, List.length_cons, List.length_nil, Nat.zero_add]
                      rw [List.take_add_one, hinv, hidx2, hfin]
                      rfl
                      all_goals (dsimp only; simp only [List.length_cons]; omega)
                  · simp only [List.length_cons] at hplk
                    have hidk : s.dims[prek.length]? = some sk := by rw [← hpk]; simp
                    obtain ⟨sk2, hidk2⟩ : ∃ sk2, s2.dims[prek.length]? = some sk2 := ⟨_, List.getElem?_eq_getElem (by omega)⟩
                    refine Ev.seq ?_
                    refine Ev.sr fun K hK => S.o q.mv (S.o (q.fa 4 am_fi44_4 am_cl42) (S.o (q.lv am_ag42) (S.o (q.lens am_el42) (S.o q.lss (S.end (hK _ ?_))))))
                    clear hK K
                    refine Ev.cd (fun c20 => ?_) (fun c20 => ?_)
                    · first
                    | (first | omega | contradiction)
                    | refine Ev.skip ?_
                      show Ev _ _ _ _
                      refine Ev.seq ?_
                      refine Ev.block ?_
                      refine Ev.sm (tbs [(0, 0), (1, 1), (0, 0), (3, 7), (4, 15), (0, 0), (6, 32), (0, 0), (8, 224), (9, 480), (10, 1023)]) 11 fun K hK => M.o (q.fa 4 am_fi44_4 am_cl42) (M.o (q.lv am_ag42) (M.o q.mv (M.o (q.ix am_el42 am_cl3 (hl := (by first | exact ati hidx (by omega) | exact ati hidx2 (by omega) | exact ati hidk (by omega) | exact ati hidk2 (by omega) | exact atig (by omega)))) (M.o (q.ls am_ag3) (M.o (q.fa 4 am_fi44_4 am_cl42) (M.o (q.lv am_ag42) (M.o q.mv (M.o (q.ix am_el42 am_cl3 (hl := (by first | exact ati hidx (by omega) | exact ati hidx2 (by omega) | exact ati hidk (by omega) | exact ati hidk2 (by omega) | exact atig (by omega)))) (M.o (q.ls am_ag3) (M.o q.neq (M.end [_, _] (h := S.end (hK _ ?_)))))))))))))
                      clear hK K
                      refine Ev.cn (fun c21 => ?_) (fun c21 => ?_)
                      · first
                      | (first | omega | contradiction)
                      | refine Ev.sr fun K hK => S.o q.as (S.end (hK _ ?_))
                        clear hK K
                        refine Ev.ret ?_
                        refine hR2 _ _ ?_
                        refine hR0 _ _ ?_
                        refine Ev.ret1 ?_
                        refine ⟨?_, rfl⟩
                        first
                         | exact bF (fun h => by have h1 := congrArg List.length h; omega)
                         | exact bF (fun h => by have he := hxy h; subst he; first | contradiction | omega)
                         | exact bF (fun h => by have he := hxy h; subst he; rw [hidk] at hidk2; simp only [Option.some.injEq] at hidk2; omega)
                         | exact bT (bars_take hinv (by omega))
                      · first
                      | (first | omega | contradiction)
                      | refine Ev.skip ?_
                        show Ev _ _ _ _
                        refine Ev.region_S fun K hK => S.o q.mv (S.o q.add (S.o q.as (S.end (hK _ ?_))))
                        clear hK K
                        refine hR2 _ _ ?_
                        refine roundU [0, 1] [0, 1, 5, 6, 7, 14, 15, 16, 17, 20, 21, 22, 23, 24, 25, 26, 27, 28, 29, 30, 31, 32, 33, 34, 35, 36, 37, 38, 39, 40, 41, 42, 43, 44, 45, 46, 47, 48, 49, 50, 51, 52, 53, 54, 55, 56, 57, 58, 59, 60, 61, 62] ⟨(prek ++ [sk], sufk), by rw [← hpk]; simp, ?_⟩ ?_ (keep_c (he := (by first | rfl | (simp; done))) (h := (keep_c (he := (by first | rfl | (simp; done))) (h := keep_n)))) (slots_c (he := (by first | rfl | (simp; done) | (congr 2; omega))) (h := trivial)) (.c (.c (.c (.c (.c (.c (.c (.c (.c (.c (.c (.c (.c (.c (.c (.c (.c (.c (.c (.c (.c (.c (.c (.c (.c (.c (.c (.c (.c (.c (.c (.c (.c (.c (.c (.c (.c (.c (.c (.c (.c (.c (.c (.c (.c (.c (.c (.c (.c (.c (.c (.c .n))))))))))))))))))))))))))))))))))))))))))))))))))))
                        simp only [List.length_append, List.length_cons, List.length_nil, Nat.zero_add]
                        rw [List.take_add_one, hinvk, hidk2]
                        simp only [Option.toList_some, List.append_cancel_left_eq, List.cons.injEq, and_true]
                        omega
                        all_goals (dsimp only; simp only [List.length_cons]; omega)
                    · first
                    | (first | omega | contradiction)
                    | refine Ev.exit ?_
                      refine hR2 _ _ ?_
                      show Ev _ _ _ _
                      have hfin : s = s2 := bar_eq (by first | assumption | omega) (by omega) (by omega) (by omega) (hinvk.symm.trans (List.take_of_length_le (by omega)))
                      refine Ev.region_S fun K hK => S.o q.mv (S.o q.add (S.o q.as (S.end (hK _ ?_))))
                      clear hK K
                      refine hR0 _ _ ?_
                      refine roundU [] [0, 1] ⟨(pre ++ [s], suf), by rw [← hp]; simp, ?_⟩ ?_ keep_n (slots_c (he := (by first | rfl | (simp; done) | (congr 2; omega))) (h := trivial)) (.c (.c .n))
                      simp only [List.length_append, List.length_cons, List.length_nil, Nat.zero_add]
                      rw [List.take_add_one, hinv, hidx2, hfin]
                      rfl
                      all_goals (dsimp only; simp only [List.length_cons]; omega)
      · first
      | (first | omega | contradiction)
      | refine Ev.exit ?_
        refine hR0 _ _ ?_
        show Ev _ _ _ _
        refine Ev.sr fun K hK => S.o q.as (S.end (hK _ ?_))
        clear hK K
        refine Ev.ret ?_
        refine Ev.ret1 ?_
        refine ⟨?_, rfl⟩
        first
         | exact bF (fun h => by have h1 := congrArg List.length h; omega)
         | exact bF (fun h => by have he := hxy h; subst he; first | contradiction | omega)
         | exact bF (fun h => by have he := hxy h; subst he; rw [hidk] at hidk2; simp only [Option.some.injEq] at hidk2; omega)
         | exact bT (bars_take hinv (by omega))
end Go.Proofs.YtccddakkegelkaaGreatDoor
namespace Go.Proofs.YtccddakkegelkaaGreatDoor
open Go Go.AM
set_option linter.unusedSimpArgs false
set_option linter.unusedVariables false
set_option maxRecDepth 100000
set_option maxHeartbeats 1000000

def barsC (l : List Bar) : List AV := [.sh 5 (l.map Bar.c)]
theorem indexMemBars (g : FuncId) (p : List Bar → Bool) (l : List (List Bar)) (hg : ∀ s ∈ l, Fun Tryz.prog g [(barsC s).headD .top] (Ret (.lit (.bool (p s))) [])) (hlen : l.length ≤ 140737488355328) :
    Fun Tryz.prog 40 [.sh 1 (l.map barsC), .fn (.func g) [] []] (Ret (.lit (.int .i64 (idxP p l 0))) []) := by
  refine Fun.of (nt := 19) (rs := [.tmp 4]) Tryz.func40 rfl rfl rfl rfl rfl ?_
  refine Ev.sr fun K hK => S.o q.as (S.end (hK _ ?_))
  clear hK K
  refine Ev.seq ?_
  refine Ev.sr fun K hK => S.o q.mv (S.o (q.lens am_el51) (S.o q.mv (S.end (hK _ ?_))))
  clear hK K
  refine Ev.block ?_
  refine Ev.loopU (ι := {q : List (List Bar) × List (List Bar) // q.1 ++ q.2 = l ∧ ∀ x ∈ q.1, p x = false}) [] [0, 1, 7] (fun ⟨(pre, suf), _⟩ => [(8, .lit (.int .i64 ((pre.length : Int))))]) (fun ⟨(pre, suf), _⟩ => []) (fun ⟨(pre, suf), _⟩ => suf.length) ⟨([], l), rfl, fun x hx => by simp at hx⟩ (.c (.c (.c .n))) keep_n (slots_c (he := (by first | rfl | (simp; done) | (congr 2; omega))) (h := trivial)) ?_
  rintro ⟨⟨pre, suf⟩, hp, hinv⟩ R0 hR0
  dsimp only [List.cons_append, List.nil_append, List.length_cons, List.length_nil]
  simp only at hp hinv
  have hpl : pre.length + suf.length = (l).length := by rw [← hp, List.length_append]
  rcases suf with _ | ⟨s, suf⟩
  · rw [List.append_nil] at hp; subst pre; simp only [List.length_nil] at hpl
    refine Ev.sr fun K hK => S.o q.lss (S.end (hK _ ?_))
    clear hK K
    refine Ev.ud (fun c1 => ?_) (fun c1 => ?_)
    · first
    | (first | omega | contradiction)
    | refine Ev.seq ?_
      refine Ev.block ?_
      refine Ev.sr fun K hK => S.o q.mv (S.o q.as (S.end (hK _ ?_)))
      clear hK K
      refine Ev.sr fun K hK => S.o q.mv (S.o q.mv (S.o q.mv (S.o (q.ix am_el51 am_cl22 (hl := (by first | exact atig (by omega)))) (S.o (q.ls am_ag22) (S.c0 (hF := hg s (by rw [← hp]; simp)) (h := S.end (hK _ ?_)))))))
      clear hK K
      refine Ev.c (fun c2 => ?_) (fun c2 => ?_)
      · first
      | (first | omega | contradiction)
      | refine Ev.sr fun K hK => S.o q.mv (S.o q.as (S.end (hK _ ?_)))
        clear hK K
        refine Ev.ret ?_
        refine hR0 _ _ ?_
        refine Ev.ret1 ?_
        refine ⟨?_, rfl⟩
        first | (congr 2; rw [← hp, idxP_append p pre _ 0 hinv, idxP, if_pos ‹_›]; omega) | (congr 2; rw [idxP_none p l 0 hinv])
      · first
      | (first | omega | contradiction)
      | refine Ev.skip ?_
        show Ev _ _ _ _
        refine Ev.region_S fun K hK => S.o q.add (S.o q.mv (S.end (hK _ ?_)))
        clear hK K
        refine hR0 _ _ ?_
        refine roundU [] [0, 1, 7] ⟨(pre ++ [s], suf), by rw [← hp]; simp, ?_⟩ ?_ keep_n (slots_c (he := (by first | rfl | (simp; done) | (congr 2; omega))) (h := trivial)) (.c (.c (.c .n)))
        intro x hx; simp only [List.mem_append, List.mem_singleton] at hx; rcases hx with hx | rfl
        · exact hinv x hx
        · assumption
        all_goals (dsimp only; simp only [List.length_cons]; omega)
    · first
    | (first | omega | contradiction)
    | refine Ev.exit ?_
      refine hR0 _ _ ?_
      show Ev _ _ _ _
      refine Ev.sr fun K hK => S.o q.as (S.end (hK _ ?_))
      clear hK K
      refine Ev.ret ?_
      refine Ev.ret1 ?_
      refine ⟨?_, rfl⟩
      first | (congr 2; rw [← hp, idxP_append p pre _ 0 hinv, idxP, if_pos ‹_›]; omega) | (congr 2; rw [idxP_none p l 0 hinv])
  · simp only [List.length_cons] at hpl
    have hidx : (l)[pre.length]? = some s := by rw [← hp]; simp
    refine Ev.sr fun K hK => S.o q.lss (S.end (hK _ ?_))
    clear hK K
    refine Ev.ud (fun c3 => ?_) (fun c3 => ?_)
    · first
    | (first | omega | contradiction)
    | refine Ev.seq ?_
      refine Ev.block ?_
      refine Ev.sr fun K hK => S.o q.mv (S.o q.as (S.end (hK _ ?_)))
      clear hK K
      refine Ev.sr fun K hK => S.o q.mv (S.o q.mv (S.o q.mv (S.o (q.ix am_el51 am_cl22 (hl := (by first | exact ati hidx (by omega) | exact atig (by omega)))) (S.o (q.ls am_ag22) (S.c0 (hF := hg s (by rw [← hp]; simp)) (h := S.end (hK _ ?_)))))))
      clear hK K
      refine Ev.c (fun c4 => ?_) (fun c4 => ?_)
      · first
      | (first | omega | contradiction)
      | refine Ev.sr fun K hK => S.o q.mv (S.o q.as (S.end (hK _ ?_)))
        clear hK K
        refine Ev.ret ?_
        refine hR0 _ _ ?_
        refine Ev.ret1 ?_
        refine ⟨?_, rfl⟩
        first | (congr 2; rw [← hp, idxP_append p pre _ 0 hinv, idxP, if_pos ‹_›]; omega) | (congr 2; rw [idxP_none p l 0 hinv])
      · first
      | (first | omega | contradiction)
      | refine Ev.skip ?_
        show Ev _ _ _ _
        refine Ev.region_S fun K hK => S.o q.add (S.o q.mv (S.end (hK _ ?_)))
        clear hK K
        refine hR0 _ _ ?_
        refine roundU [] [0, 1, 7] ⟨(pre ++ [s], suf), by rw [← hp]; simp, ?_⟩ ?_ keep_n (slots_c (he := (by first | rfl | (simp; done) | (congr 2; omega))) (h := trivial)) (.c (.c (.c .n)))
        intro x hx; simp only [List.mem_append, List.mem_singleton] at hx; rcases hx with hx | rfl
        · exact hinv x hx
        · assumption
        all_goals (dsimp only; simp only [List.length_cons]; omega)
    · first
    | (first | omega | contradiction)
    | refine Ev.exit ?_
      refine hR0 _ _ ?_
      show Ev _ _ _ _
      refine Ev.sr fun K hK => S.o q.as (S.end (hK _ ?_))
      clear hK K
      refine Ev.ret ?_
      refine Ev.ret1 ?_
      refine ⟨?_, rfl⟩
      first | (congr 2; rw [← hp, idxP_append p pre _ 0 hinv, idxP, if_pos ‹_›]; omega) | (congr 2; rw [idxP_none p l 0 hinv])
theorem containsMemBars (g : FuncId) (p : List Bar → Bool) (l : List (List Bar)) (hg : ∀ s ∈ l, Fun Tryz.prog g [(barsC s).headD .top] (Ret (.lit (.bool (p s))) [])) (hlen : l.length ≤ 140737488355328) :
    Fun Tryz.prog 21 [.sh 1 (l.map barsC), .fn (.func g) [] []] (Ret (.lit (.bool (decide (∃ x ∈ l, p x = true)))) []) := by
  have hd : (decide (∃ x ∈ l, p x = true)) = decide (0 ≤ idxP p l 0) := by simp only [idxP_nonneg p l 0 (Int.le_refl _)]
  rw [hd]
  refine Fun.of (nt := 9) (rs := [.tmp 4]) Tryz.func21 rfl rfl rfl rfl rfl ?_
  refine Ev.sr fun K hK => S.o q.as (S.end (hK _ ?_))
  clear hK K
  refine Ev.sr fun K hK => S.o q.mv (S.o q.mv (S.c0 (hF := indexMemBars g p l hg hlen) (h := S.o q.geq (S.o q.as (S.end (hK _ ?_))))))
  clear hK K
  refine Ev.ret ?_
  refine Ev.ret1 ?_
  refine ⟨?_, rfl⟩
  rfl



def rightP (x : List Bar) : Prop := x.length ≤ 8 ∧ okSched x
instance (x) : Decidable (rightP x) := by unfold rightP; infer_instance
theorem right1_fun (x : List Bar) (hlen : x.length ≤ 140737488355328) (hw : schedW x) : Fun Tryz.prog 22 [.sh 5 (x.map Bar.c)] (Ret (.lit (.bool (!decide (rightP x)))) []) := by
  refine Fun.of (nt := 11) (rs := [.tmp 2]) Tryz.func22 rfl rfl rfl rfl rfl ?_
  refine Ev.sr fun K hK => S.o q.as (S.end (hK _ ?_))
  clear hK K
  refine Ev.sr fun K hK => S.o q.mv (S.o (q.lens am_el22) (S.o q.gtr (S.bd q.mv (fun c1 => ?_) (fun c1 => ?_))))
  · first
  | (first | omega | contradiction)
  | refine S.sk (S.sk (S.sk (S.o q.pt (S.o q.as (S.end (hK _ ?_))))))
    clear hK K
    refine Ev.ret ?_
    refine Ev.ret1 ?_
    refine ⟨?_, rfl⟩
    first
     | (rw [decide_eq_false (fun h : rightP x => by have h1 := h.1; omega)]; done) | (rw [decide_eq_false (fun h : rightP x => by have h1 := h.1; omega)]; rfl)
     | (congr 3; rw [decide_eq_decide]; exact ⟨fun h => ⟨by omega, h⟩, fun h => h.2⟩)
  · first
  | (first | omega | contradiction)
  | refine S.o q.mv (S.c0 (hF := rschedValid_fun _ (by omega) (by assumption)) (h := S.o q.not (S.o q.pf (S.o q.as (S.end (hK _ ?_))))))
    clear hK K
    refine Ev.ret ?_
    refine Ev.ret1 ?_
    refine ⟨?_, rfl⟩
    first
     | (rw [decide_eq_false (fun h : rightP x => by have h1 := h.1; omega)]; done) | (rw [decide_eq_false (fun h : rightP x => by have h1 := h.1; omega)]; rfl)
     | (congr 3; rw [decide_eq_decide]; exact ⟨fun h => ⟨by omega, h⟩, fun h => h.2⟩)

def rightL (l : List (List Bar)) : Bool := !decide (∃ x ∈ l, (!decide (rightP x)) = true)
theorem right_fun (l : List (List Bar)) (hl : l.length ≤ 1000) (h : ∀ x ∈ l, x.length ≤ 140737488355328 ∧ schedW x) : Fun Tryz.prog 6 [.sh 1 (l.map barsC)] (Ret (.lit (.bool (rightL l))) []) := by
  refine Fun.of (nt := 6) (rs := [.tmp 2]) Tryz.func6 rfl rfl rfl rfl rfl ?_
  refine Ev.sr fun K hK => S.o q.as (S.end (hK _ ?_))
  clear hK K
  refine Ev.sr fun K hK => S.o q.mv (S.c0 (hF := containsMemBars _ (fun x => !decide (rightP x)) l (fun s hs => right1_fun s (h s hs).1 (h s hs).2) (by omega)) (h := S.o q.not (S.o q.as (S.end (hK _ ?_)))))
  clear hK K
  refine Ev.ret ?_
  refine Ev.ret1 ?_
  refine ⟨?_, rfl⟩
  rfl


def manyP (l : List Chg) : Prop := (20 < (l.length : Int) ∧ (l.length : Int) ≤ 120) ∨ 125 < (l.length : Int) ∨ ∃ c ∈ l, decide (60 < (c.2.length : Int)) = true
instance (l) : Decidable (manyP l) := by unfold manyP; infer_instance

theorem line_fun (mk : List UInt8) (n : Int) : Fun Tryz.prog 17 [.lit (str mk), .lit (.int .i64 n)] (Ret (.agg (Bar.c ⟨mk, 12, n, 0, [1000]⟩)) []) := by
  refine Fun.of (nt := 9) (rs := [.cell 4 44]) Tryz.func17 rfl rfl rfl rfl rfl ?_
  refine Ev.sr fun K hK => S.nn (q.al am_ze44) (S.end (hK _ ?_))
  clear hK K
  refine Ev.sr fun K hK => S.o q.mv (S.o q.mv (S.nn (q.bs [[_]] true am_el42 am_ze3 am_cl3) (SeqL.weaken (Wk.frzl (f := intC) [_] 7 [_]) (S.o (q.bd [_, _, _, _, _] am_ze44 am_pl44) (S.sv [_, _, _, _, _] true [] am_in44 am_cl44 (h := S.end (hK _ ?_)))))))
  clear hK K
  refine Ev.ret ?_
  refine Ev.retv1 (res_c [_, _, _, _, _] am_ag44 am_cl44 res_n) ?_
  refine ⟨?_, rfl⟩
  rfl
end Go.Proofs.YtccddakkegelkaaGreatDoor
namespace Go.Proofs.YtccddakkegelkaaGreatDoor
open Go Go.AM
set_option linter.unusedSimpArgs false
set_option linter.unusedVariables false
set_option maxRecDepth 100000
set_option maxHeartbeats 1000000

def exA : List Bar := [⟨[97], 12, 1, 0, [1000]⟩, ⟨[98], 12, 1, 0, [1000]⟩]
def exB : List Bar := [⟨[98], 12, 2, 0, [1000]⟩, ⟨[99], 12, 1, 0, [1000]⟩]
theorem exA_w : schedW exA := by
  intro b hb
  simp only [exA, List.mem_cons, List.not_mem_nil, or_false] at hb
  rcases hb with rfl | rfl <;> exact ⟨by decide, by decide⟩
theorem exB_w : schedW exB := by
  intro b hb
  simp only [exB, List.mem_cons, List.not_mem_nil, or_false] at hb
  rcases hb with rfl | rfl <;> exact ⟨by decide, by decide⟩
theorem ex_cmpE : cmpE exA exB = 0 := by decide +kernel
theorem ex_cmpV : cmpV exA exB = [(4, [97]), (2, [98]), (3, [99])] := by decide +kernel
theorem ex_w : chgW [(4, [97]), (2, [98]), (3, [99])] := by
  intro c hc
  simp only [List.mem_cons, List.not_mem_nil, or_false] at hc
  rcases hc with rfl | rfl | rfl <;> decide
theorem ex_textE : textE [(4, [97]), (2, [98]), (3, [99])] = 0 := by decide +kernel
theorem ex_textV : textV [(4, [97]), (2, [98]), (3, [99])] = [99, 97, 110, 99, 101, 108, 108, 101, 100, 32, 97, 10, 99, 104, 97, 110, 103, 101, 100, 32, 98, 10, 97, 100, 100, 101, 100, 32, 99, 10] := by decide +kernel
theorem ex_appE : appE exA exB [(4, [97]), (2, [98]), (3, [99])] = 0 := by decide +kernel
theorem ex_appV : appV exA exB [(4, [97]), (2, [98]), (3, [99])] = exB := by decide +kernel
theorem ex_comes : stV exA exB (comesP exA exB) = 2664 := by decide +kernel
theorem ex_goes : stV exA exB (goesP exA exB) = 1776 := by decide +kernel
theorem awake_fun : Fun Tryz.prog 5 [] (Ret (.lit (.bool true)) []) := by
  have he := ex_cmpE
  have h1 := ex_textE
  have h2 := ex_textV
  have h3 := ex_appE
  have h4 := ex_comes
  have h5 := ex_goes
  have hsd : ∀ x ∈ exB, x.dims.length ≤ 140737488355328 := fun x hx => (exB_w x hx).2
  refine Fun.of (nt := 74) (rs := [.tmp 0]) Tryz.func5 rfl rfl rfl rfl rfl ?_
  refine Ev.sr fun K hK => S.o q.as (S.end (hK _ ?_))
  clear hK K
  refine Ev.sr fun K hK => S.c0 (hF := line_fun _ _) (h := S.c0 (hF := line_fun _ _) (h := S.nn (q.bs [[_, _, _, _, _], [_, _, _, _, _]] true am_el22 am_ze44 am_cl44) (S.c0 (hF := line_fun _ _) (h := S.c0 (hF := line_fun _ _) (h := S.nn (q.bs [[_, _, _, _, _], [_, _, _, _, _]] true am_el22 am_ze44 am_cl44) (S.o q.as (S.o q.as (S.end (hK _ ?_)))))))))
  clear hK K
  refine Ev.weaken (Wk.frzl (f := Bar.c) exA 1 [_]) ?_
  refine Ev.weaken (Wk.frzl (f := Bar.c) exB 2 []) ?_
  refine Ev.sr fun K hK => S.o q.mv (S.o q.mv (S.c0 (hF := (ex_cmpV ▸ Compare_fun exA exB (by decide) (by decide) exA_w exB_w)) (h := S.o q.mv (S.o q.ex (S.o q.ex (S.o q.as (S.o q.as (S.end (hK _ ?_)))))))))
  clear hK K
  refine Ev.sr fun K hK => S.o q.mv (S.c0 (hF := Text_fun _ (by decide) ex_w) (h := S.o q.mv (S.o q.ex (S.o q.ex (S.o q.as (S.o q.as (S.end (hK _ ?_))))))))
  clear hK K
  refine Ev.sr fun K hK => S.o q.mv (S.o q.mv (S.o q.mv (S.c0 (hF := (ex_appV ▸ Apply_fun exA exB _ (by decide) (by decide) (by decide) exA_w exB_w ex_w)) (h := S.o q.mv (S.o q.ex (S.o q.ex (S.o q.as (S.o q.as (S.end (hK _ ?_))))))))))
  clear hK K
  refine Ev.sr fun K hK => S.o q.mv (S.o q.mv (S.c0 (hF := Steel_fun exA exB (by decide) (by decide) exA_w exB_w) (h := S.o q.mv (S.o q.ex (S.o q.ex (S.o q.ex (S.o q.as (S.o q.as (S.o q.as (S.end (hK _ ?_)))))))))))
  clear hK K
  refine Ev.sr fun K hK => S.o q.mv (S.o q.eql (S.bd q.mv (fun c1 => ?_) (fun c1 => ?_)))
  · first
  | (first | omega | contradiction)
  | refine S.o q.mv (S.o q.eql (S.o q.pt (S.bd q.mv (fun c2 => ?_) (fun c2 => ?_))))
    · first
    | (first | omega | contradiction)
    | refine S.o q.mv (S.o q.seqs (S.o q.pt (S.bd q.mv (fun c3 => ?_) (fun c3 => ?_))))
      · first
      | (first | omega | contradiction)
      | refine S.o q.mv (S.o q.eql (S.o q.pt (S.bd q.mv (fun c4 => ?_) (fun c4 => ?_))))
        · first
        | (first | omega | contradiction)
        | refine S.o q.mv (S.o q.mv (S.c0 (hF := same14_fun exB exB (by decide) (by decide) hsd hsd) (h := S.o q.pt (S.bd q.mv (fun c5 => ?_) (fun c5 => ?_)))))
          · first
          | (first | omega | contradiction)
          | refine S.o q.mv (S.o q.eql (S.o q.pt (S.bd q.mv (fun c6 => ?_) (fun c6 => ?_))))
            · first
            | (first | omega | contradiction)
            | refine S.o q.mv (S.o q.eql (S.o q.pt (S.bd q.mv (fun c7 => ?_) (fun c7 => ?_))))
              · first
              | (first | omega | contradiction)
              | refine S.o q.mv (S.o q.eql (S.o q.pt (S.o q.as (S.end (hK _ ?_)))))
                clear hK K
                refine Ev.ret ?_
                refine Ev.ret1 ?_
                refine ⟨?_, rfl⟩
                first | exact lawT ex_goes | contradiction | omega
              · first
              | (first | omega | contradiction)
              | refine S.sk (S.sk (S.o q.pf (S.o q.as (S.end (hK _ ?_)))))
                clear hK K
                refine Ev.ret ?_
                refine Ev.ret1 ?_
                refine ⟨?_, rfl⟩
                first | exact lawT ex_goes | contradiction | omega
            · first
            | (first | omega | contradiction)
            | refine S.sk (S.sk (S.o q.pf (S.o q.mv (S.sk (S.sk (S.o q.pf (S.o q.as (S.end (hK _ ?_)))))))))
              clear hK K
              refine Ev.ret ?_
              refine Ev.ret1 ?_
              refine ⟨?_, rfl⟩
              first | exact lawT ex_goes | contradiction | omega
          · first
          | (first | omega | contradiction)
          | refine S.sk (S.sk (S.o q.pf (S.o q.mv (S.sk (S.sk (S.o q.pf (S.o q.mv (S.sk (S.sk (S.o q.pf (S.o q.as (S.end (hK _ ?_)))))))))))))
            clear hK K
            refine Ev.ret ?_
            refine Ev.ret1 ?_
            refine ⟨?_, rfl⟩
            first | exact lawT ex_goes | contradiction | omega
        · first
        | (first | omega | contradiction)
        | refine S.sk (S.sk (S.sk (S.o q.pf (S.o q.mv (S.sk (S.sk (S.o q.pf (S.o q.mv (S.sk (S.sk (S.o q.pf (S.o q.mv (S.sk (S.sk (S.o q.pf (S.o q.as (S.end (hK _ ?_))))))))))))))))))
          clear hK K
          refine Ev.ret ?_
          refine Ev.ret1 ?_
          refine ⟨?_, rfl⟩
          first | exact lawT ex_goes | contradiction | omega
      · first
      | (first | omega | contradiction)
      | refine S.sk (S.sk (S.o q.pf (S.o q.mv (S.sk (S.sk (S.sk (S.o q.pf (S.o q.mv (S.sk (S.sk (S.o q.pf (S.o q.mv (S.sk (S.sk (S.o q.pf (S.o q.mv (S.sk (S.sk (S.o q.pf (S.o q.as (S.end (hK _ ?_))))))))))))))))))))))
        clear hK K
        refine Ev.ret ?_
        refine Ev.ret1 ?_
        refine ⟨?_, rfl⟩
        first | exact lawT ex_goes | contradiction | omega
    · first
    | (first | omega | contradiction)
    | refine S.sk (S.sk (S.o q.pf (S.o q.mv (S.sk (S.sk (S.o q.pf (S.o q.mv (S.sk (S.sk (S.sk (S.o q.pf (S.o q.mv (S.sk (S.sk (S.o q.pf (S.o q.mv (S.sk (S.sk (S.o q.pf (S.o q.mv (S.sk (S.sk (S.o q.pf (S.o q.as (S.end (hK _ ?_))))))))))))))))))))))))))
      clear hK K
      refine Ev.ret ?_
      refine Ev.ret1 ?_
      refine ⟨?_, rfl⟩
      first | exact lawT ex_goes | contradiction | omega
  · first
  | (first | omega | contradiction)
  | refine S.sk (S.sk (S.o q.pf (S.o q.mv (S.sk (S.sk (S.o q.pf (S.o q.mv (S.sk (S.sk (S.o q.pf (S.o q.mv (S.sk (S.sk (S.sk (S.o q.pf (S.o q.mv (S.sk (S.sk (S.o q.pf (S.o q.mv (S.sk (S.sk (S.o q.pf (S.o q.mv (S.sk (S.sk (S.o q.pf (S.o q.as (S.end (hK _ ?_))))))))))))))))))))))))))))))
    clear hK K
    refine Ev.ret ?_
    refine Ev.ret1 ?_
    refine ⟨?_, rfl⟩
    first | exact lawT ex_goes | contradiction | omega
end Go.Proofs.YtccddakkegelkaaGreatDoor
namespace Go.Proofs.YtccddakkegelkaaGreatDoor
open Go Go.AM
set_option linter.unusedSimpArgs false
set_option linter.unusedVariables false
set_option maxRecDepth 100000
set_option maxHeartbeats 1000000

theorem cmpOk_fun {a b : List Bar} {l : List Chg} (hL : cmpP a b = l) (ha : okSched a) (hb : okSched b) (hwa : schedW a) (hwb : schedW b) : Fun Tryz.prog 7 [.sh 5 (a.map Bar.c), .sh 5 (b.map Bar.c)] (Ret (.tup [.sh 2 (l.map findC), .lit (.int .i64 0)]) []) := by
  have h := Compare_fun a b (by have := ha.1; omega) (by have := hb.1; omega) hwa hwb
  rw [show cmpV a b = l from (if_pos ⟨ha, hb⟩).trans hL, show cmpE a b = 0 from if_pos ⟨ha, hb⟩] at h
  exact h
theorem right_yes {l : List (List Bar)} (h : (!rightL l) = false) : ∀ x ∈ l, rightP x := by
  intro x hx
  by_cases hr : rightP x
  · exact hr
  · exfalso
    have hd : decide (∃ x ∈ l, (!decide (rightP x)) = true) = true := decide_eq_true ⟨x, hx, by rw [decide_eq_false hr]; rfl⟩
    rw [rightL, hd] at h
    cases h

end Go.Proofs.YtccddakkegelkaaGreatDoor
