/-
  Layer 41: the text of changes, their number.
  Conditions: none.
-/
import Derived.Test.YtccddakkegelkaaRev1
import Derived.Test.YtccddakkegelkaaBld
namespace Go.Proofs.Ytccddakkegelkaa
open Go Go.AM
set_option linter.unusedSimpArgs false
set_option linter.unusedVariables false
set_option maxRecDepth 100000

def kname (k : Int) : List UInt8 := if k = 1 then [107, 101, 112, 116] else if k = 2 then [99, 104, 97, 110, 103, 101, 100] else if k = 3 then [97, 100, 100, 101, 100] else [99, 97, 110, 99, 101, 108, 108, 101, 100]
theorem kname_len (k : Int) : (kname k).length ≤ 9 := by unfold kname; (repeat' split) <;> decide
theorem kname_row {k : Int} (h : 1 ≤ k ∧ k ≤ 4) : [[AV.lit (str [107, 101, 112, 116])], [AV.lit (str [99, 104, 97, 110, 103, 101, 100])], [AV.lit (str [97, 100, 100, 101, 100])], [AV.lit (str [99, 97, 110, 99, 101, 108, 108, 101, 100])]][(k - 1).toNat]? = some [.lit (str (kname k))] := by
  have : k = 1 ∨ k = 2 ∨ k = 3 ∨ k = 4 := by omega
  rcases this with rfl | rfl | rfl | rfl <;> rfl
def lineT (c : Chg) : List UInt8 := kname c.1 ++ [32] ++ c.2 ++ [10]
def textP (l : List Chg) : List UInt8 := l.flatMap lineT
def textV (l : List Chg) : List UInt8 := if okChgs l then textP l else []
def textE (l : List Chg) : Int := if okChgs l then 0 else 1
theorem textP_len : ∀ l : List Chg, (∀ c ∈ l, okChg c) → (textP l).length ≤ l.length * 200
  | [], _ => by simp [textP]
  | c :: l, h => by
    have h1 := textP_len l (fun x hx => h x (by simp [hx]))
    have h2 := isName_len (h c (by simp)).2.2
    have h3 := kname_len c.1
    simp only [textP, List.flatMap_cons, List.length_append, List.length_cons, List.length_nil, lineT] at h1 ⊢
    omega
theorem textP_snoc (l : List Chg) (s : Chg) : textP (l ++ [s]) = textP l ++ lineT s := by simp [textP]
theorem Text_nil : Fun Try.prog 22 [.sh 2 (([] : List Chg).map findC)] (Ret (.tup [.lit (str []), .lit (.int .i64 0)]) []) := by
  have hw : chgW [] := fun c hc => by simp at hc
  have hl0 : ([] : List Chg).length ≤ 140737488355328 := by decide
  have hok : okChgs [] := by decide
  refine Fun.of (nt := 30) (rs := [.tmp 2, .tmp 3]) Try.func22 rfl rfl rfl rfl rfl ?_
  refine Ev.sr fun K hK => S.o q.as (S.o q.as (S.end (hK _ ?_)))
  clear hK K
  refine Ev.seq ?_
  refine Ev.sr fun K hK => S.o q.mv (S.c0 (hF := rvalid_chg _ (by omega) (by assumption)) (h := S.o q.not (S.end (hK _ ?_))))
  clear hK K
  refine Ev.cn (fun c1 => ?_) (fun c1 => ?_)
  · first
  | (first | omega | contradiction)
  | contradiction
  · first
  | (first | omega | contradiction)
  | refine Ev.skip ?_
    show Ev _ _ _ _
    refine Ev.sr fun K hK => S.nn (q.al am_ze82) (S.end (hK _ ?_))
    clear hK K
    refine Ev.seq ?_
    refine Ev.sr fun K hK => S.o q.mv (S.o (q.lens am_el25) (S.o q.mv (S.end (hK _ ?_))))
    clear hK K
    refine Ev.block ?_
    refine Ev.loopU (ι := Unit) [0] [2, 3, 4, 10, 11] (fun _ => [(12, .lit (.int .i64 (0)))]) (fun _ => [(0, ⟨false, 82, 2, [[.lit (.pointer none), .lit (.slice none 0 0)]], true⟩)]) (fun _ => 0) () (.c (.c (.c (.c (.c .n))))) (keep_c (he := (by first | rfl | (simp; done))) (h := keep_n)) (slots_c (he := (by first | rfl | (simp; done) | (congr 2; omega))) (h := trivial)) ?_
    rintro ⟨⟩ R0 hR0
    dsimp only [List.cons_append, List.nil_append, List.length_cons, List.length_nil]
    refine Ev.sr fun K hK => S.o q.lss (S.end (hK _ ?_))
    clear hK K
    refine Ev.ud (fun c2 => ?_) (fun c2 => ?_)
    · first
    | (first | omega | contradiction)
    | refine Ev.seq ?_
      refine Ev.block ?_
      omega
    · first
    | (first | omega | contradiction)
    | refine Ev.exit ?_
      refine hR0 _ _ ?_
      show Ev _ _ _ _
      refine Ev.sr fun K hK => S.cR [0] 1 [_] (hob := (keep_c (he := rfl) (h := keep_n))) (hF := string0_fun) (hn' := belowL rfl rfl) (h := S.o q.as (S.o q.as (S.end (hK _ ?_))))
      clear hK K
      refine Ev.ret ?_
      refine Ev.ret2 ?_
      refine ⟨?_, rfl⟩
      rfl
theorem Text_cons (l : List Chg) (hne : l.isEmpty = false) (hl : l.length ≤ 140737488355328) (hw : chgW l) : Fun Try.prog 22 [.sh 2 (l.map findC)] (Ret (.tup [.lit (str (textV l)), .lit (.int .i64 (textE l))]) []) := by
  refine Fun.of (nt := 30) (rs := [.tmp 2, .tmp 3]) Try.func22 rfl rfl rfl rfl rfl ?_
  refine Ev.sr fun K hK => S.o q.as (S.o q.as (S.end (hK _ ?_)))
  clear hK K
  refine Ev.seq ?_
  refine Ev.sr fun K hK => S.o q.mv (S.c0 (hF := rvalid_chg _ (by omega) (by assumption)) (h := S.o q.not (S.end (hK _ ?_))))
  clear hK K
  refine Ev.cn (fun c1 => ?_) (fun c1 => ?_)
  · first
  | (first | omega | contradiction)
  | refine Ev.sr fun K hK => S.o q.as (S.o q.as (S.end (hK _ ?_)))
    clear hK K
    refine Ev.ret ?_
    refine Ev.ret2 ?_
    refine ⟨?_, rfl⟩
    first
     | (rw [show textV l = [] from if_neg ‹_›, show textE l = 1 from if_neg ‹_›]; done)
     | (rw [show textV l = textP l from if_pos hyes, show textE l = 0 from if_pos hyes]; done)
  · first
  | (first | omega | contradiction)
  | refine Ev.skip ?_
    show Ev _ _ _ _
    have hyes : okChgs l := ‹_›
    have hll := hyes.1
    have h0 : 0 < l.length := by cases l with | nil => simp at hne | cons => simp
    refine Ev.sr fun K hK => S.nn (q.al am_ze82) (S.end (hK _ ?_))
    clear hK K
    refine Ev.seq ?_
    refine Ev.weaken (Wk.nilv (f := byteC) 0 1 5 1 []) ?_
    refine Ev.sr fun K hK => S.o q.mv (S.o (q.lens am_el25) (S.o q.mv (S.end (hK _ ?_))))
    clear hK K
    refine Ev.block ?_
    refine Ev.loopU (ι := {p : List (Chg) × List (Chg) // p.1 ++ p.2 = l ∧ True}) [0, 1] [2, 3, 4, 10, 11] (fun ⟨(pre, suf), _⟩ => [(12, .lit (.int .i64 ((pre.length : Int))))]) (fun ⟨(pre, suf), _⟩ => [(0, ⟨false, 82, 2, [[bp (!pre.isEmpty) 0, .als 1 0 (textP pre).length]], false⟩), (1, ⟨true, 5, 1, (textP pre).map byteC, true⟩)]) (fun ⟨(pre, suf), _⟩ => suf.length) ⟨([], l), rfl, trivial⟩ (.c (.c (.c (.c (.c .n))))) (keep_d (he := (by first | rfl | (simp only [textP_snoc, lineT, List.append_assoc]; done) | (simp only [textP_snoc, lineT, List.append_assoc, bp_snoc]; done))) (h := (keep_c (he := (by first | rfl | (simp only [textP_snoc, lineT, List.append_assoc]; done) | (simp only [textP_snoc, lineT, List.append_assoc, bp_snoc]; done))) (h := keep_n)))) (slots_c (he := (by first | rfl | (congr 2; simp; done))) (h := trivial)) ?_
    rintro ⟨⟨pre, suf⟩, hp, hinv⟩ R0 hR0
    dsimp only [List.cons_append, List.nil_append, List.length_cons, List.length_nil]
    simp only at hp hinv
    have hpl : pre.length + suf.length = (l).length := by rw [← hp, List.length_append]
    rcases suf with _ | ⟨s, suf⟩
    · rw [List.append_nil] at hp; subst pre; simp only [List.length_nil] at hpl
      have htl : 0 < (textP l).length := by
        cases l with
        | nil => simp at hne
        | cons c l => simp [textP, lineT]; omega
      refine Ev.sr fun K hK => S.o q.lss (S.end (hK _ ?_))
      clear hK K
      refine Ev.ud (fun c2 => ?_) (fun c2 => ?_)
      · first
      | (first | omega | contradiction)
      | refine Ev.seq ?_
        refine Ev.block ?_
        refine Ev.sr fun K hK => S.o (q.ix am_el25 am_cl36 (hl := (by first | exact atig (by omega)))) (S.o (q.lsA [_, _] am_ag36 am_cl36) (S.nn (q.al am_ze36) (S.sv [_, _] true [_, _] am_in36 am_cl36 (h := S.end (hK _ ?_)))))
        clear hK K
        refine Ev.region_M (tbs [(0, 0), (0, 0), (2, 2), (3, 6), (4, 15), (5, 31), (6, 63), (0, 0), (8, 128), (9, 511), (10, 1023), (11, 2047)]) 11 fun K hK => M.nn [_] (q.bs [[_], [_], [_], [_]] true am_el87 am_ze9 am_cl9) (h := M.o (q.fa 0 am_fi36_0 am_cl3) (M.o (q.lv am_ag3) (M.o q.sub (M.oN (q.ia am_el87 am_cl9) (M.oN (q.lv am_ag9 (hr := (by exact kname_row ⟨hsk.1, hsk.2.1⟩))) (M.o q.sadd (M.o (q.fa 1 am_fi36_1 am_cl9) (M.o (q.lv am_ag9) (M.o q.sadd (M.o q.sadd (M.end [_, _, _, _] (h := ?_))))))))))))
        rcases hfl : pre.isEmpty with _ | _
        · skip
          refine S.cR [0, 1] 48 [_, _, _, _] (hob := (keep_d (he := rfl) (h := (keep_c (he := rfl) (h := keep_n))))) (hF := writeUsed_fun (textP pre) _ (by simp only [List.length_append, List.length_cons, List.length_nil]; omega)) (hn' := belowL rfl rfl) (h := S.end (hK _ ?_))
          clear hK K
          show Ev _ _ _ _
          refine Ev.region_S fun K hK => S.o q.add (S.o q.mv (S.end (hK _ ?_)))
          clear hK K
          refine hR0 _ _ ?_
          refine roundU [0, 47] [2, 3, 4, 10, 11] ⟨(pre ++ [s], suf), by rw [← hp]; simp, ?_⟩ ?_ (keep_d (he := (by first | rfl | (simp only [textP_snoc, lineT, List.append_assoc]; done) | (simp only [textP_snoc, lineT, List.append_assoc, bp_snoc]; done))) (h := (keep_c (he := (by first | rfl | (simp only [textP_snoc, lineT, List.append_assoc]; done) | (simp only [textP_snoc, lineT, List.append_assoc, bp_snoc]; done))) (h := keep_n)))) (slots_c (he := (by first | rfl | (congr 2; simp; done))) (h := trivial)) (.c (.c (.c (.c (.c .n)))))
          trivial
          all_goals (dsimp only; simp only [List.length_cons]; omega)
        · skip
          refine S.cR [0, 1] 48 [_, _, _, _] (hob := (keep_d (he := rfl) (h := (keep_c (he := rfl) (h := keep_n))))) (hF := writeFresh_fun (textP pre) _ (by simp only [List.length_append, List.length_cons, List.length_nil]; omega)) (hn' := belowL rfl rfl) (h := S.end (hK _ ?_))
          clear hK K
          show Ev _ _ _ _
          refine Ev.region_S fun K hK => S.o q.add (S.o q.mv (S.end (hK _ ?_)))
          clear hK K
          refine hR0 _ _ ?_
          refine roundU [0, 47] [2, 3, 4, 10, 11] ⟨(pre ++ [s], suf), by rw [← hp]; simp, ?_⟩ ?_ (keep_d (he := (by first | rfl | (simp only [textP_snoc, lineT, List.append_assoc]; done) | (simp only [textP_snoc, lineT, List.append_assoc, bp_snoc]; done))) (h := (keep_c (he := (by first | rfl | (simp only [textP_snoc, lineT, List.append_assoc]; done) | (simp only [textP_snoc, lineT, List.append_assoc, bp_snoc]; done))) (h := keep_n)))) (slots_c (he := (by first | rfl | (congr 2; simp; done))) (h := trivial)) (.c (.c (.c (.c (.c .n)))))
          trivial
          all_goals (dsimp only; simp only [List.length_cons]; omega)
      · first
      | (first | omega | contradiction)
      | refine Ev.exit ?_
        refine hR0 _ _ ?_
        show Ev _ _ _ _
        rw [hne]
        refine Ev.sr fun K hK => S.cR [0, 1] 2 [_] (hob := (keep_d (he := rfl) (h := (keep_c (he := rfl) (h := keep_n))))) (hF := string_fun _ htl) (hn' := belowL rfl rfl) (h := S.o q.as (S.o q.as (S.end (hK _ ?_))))
        clear hK K
        refine Ev.ret ?_
        refine Ev.ret2 ?_
        refine ⟨?_, rfl⟩
        first
         | (rw [show textV l = [] from if_neg ‹_›, show textE l = 1 from if_neg ‹_›]; done)
         | (rw [show textV l = textP l from if_pos hyes, show textE l = 0 from if_pos hyes]; done)
    · simp only [List.length_cons] at hpl
      have hidx : (l)[pre.length]? = some s := by rw [← hp]; simp
      have hsk : okChg s := hyes.2.1 s (by rw [← hp]; simp)
      have hk1 := hsk.1
      have hk2 := hsk.2.1
      have hsn := isName_len hsk.2.2
      have hkn := kname_len s.1
      have hpt := textP_len pre (fun c hc => hyes.2.1 c (by rw [← hp]; simp [hc]))
      refine Ev.sr fun K hK => S.o q.lss (S.end (hK _ ?_))
      clear hK K
      refine Ev.ud (fun c3 => ?_) (fun c3 => ?_)
      · first
      | (first | omega | contradiction)
      | refine Ev.seq ?_
        refine Ev.block ?_
        refine Ev.sr fun K hK => S.o (q.ix am_el25 am_cl36 (hl := (by first | exact ati hidx (by omega) | exact atig (by omega)))) (S.o (q.lsA [_, _] am_ag36 am_cl36) (S.nn (q.al am_ze36) (S.sv [_, _] true [_, _] am_in36 am_cl36 (h := S.end (hK _ ?_)))))
        clear hK K
        refine Ev.region_M (tbs [(0, 0), (0, 0), (2, 2), (3, 6), (4, 15), (5, 31), (6, 63), (0, 0), (8, 128), (9, 511), (10, 1023), (11, 2047)]) 11 fun K hK => M.nn [_] (q.bs [[_], [_], [_], [_]] true am_el87 am_ze9 am_cl9) (h := M.o (q.fa 0 am_fi36_0 am_cl3) (M.o (q.lv am_ag3) (M.o q.sub (M.oN (q.ia am_el87 am_cl9) (M.oN (q.lv am_ag9 (hr := (by exact kname_row ⟨hsk.1, hsk.2.1⟩))) (M.o q.sadd (M.o (q.fa 1 am_fi36_1 am_cl9) (M.o (q.lv am_ag9) (M.o q.sadd (M.o q.sadd (M.end [_, _, _, _] (h := ?_))))))))))))
        rcases hfl : pre.isEmpty with _ | _
        · skip
          refine S.cR [0, 1] 48 [_, _, _, _] (hob := (keep_d (he := rfl) (h := (keep_c (he := rfl) (h := keep_n))))) (hF := writeUsed_fun (textP pre) _ (by simp only [List.length_append, List.length_cons, List.length_nil]; omega)) (hn' := belowL rfl rfl) (h := S.end (hK _ ?_))
          clear hK K
          show Ev _ _ _ _
          refine Ev.region_S fun K hK => S.o q.add (S.o q.mv (S.end (hK _ ?_)))
          clear hK K
          refine hR0 _ _ ?_
          refine roundU [0, 47] [2, 3, 4, 10, 11] ⟨(pre ++ [s], suf), by rw [← hp]; simp, ?_⟩ ?_ (keep_d (he := (by first | rfl | (simp only [textP_snoc, lineT, List.append_assoc]; done) | (simp only [textP_snoc, lineT, List.append_assoc, bp_snoc]; done))) (h := (keep_c (he := (by first | rfl | (simp only [textP_snoc, lineT, List.append_assoc]; done) | (simp only [textP_snoc, lineT, List.append_assoc, bp_snoc]; done))) (h := keep_n)))) (slots_c (he := (by first | rfl | (congr 2; simp; done))) (h := trivial)) (.c (.c (.c (.c (.c .n)))))
          trivial
          all_goals (dsimp only; simp only [List.length_cons]; omega)
        · skip
          refine S.cR [0, 1] 48 [_, _, _, _] (hob := (keep_d (he := rfl) (h := (keep_c (he := rfl) (h := keep_n))))) (hF := writeFresh_fun (textP pre) _ (by simp only [List.length_append, List.length_cons, List.length_nil]; omega)) (hn' := belowL rfl rfl) (h := S.end (hK _ ?_))
          clear hK K
          show Ev _ _ _ _
          refine Ev.region_S fun K hK => S.o q.add (S.o q.mv (S.end (hK _ ?_)))
          clear hK K
          refine hR0 _ _ ?_
          refine roundU [0, 47] [2, 3, 4, 10, 11] ⟨(pre ++ [s], suf), by rw [← hp]; simp, ?_⟩ ?_ (keep_d (he := (by first | rfl | (simp only [textP_snoc, lineT, List.append_assoc]; done) | (simp only [textP_snoc, lineT, List.append_assoc, bp_snoc]; done))) (h := (keep_c (he := (by first | rfl | (simp only [textP_snoc, lineT, List.append_assoc]; done) | (simp only [textP_snoc, lineT, List.append_assoc, bp_snoc]; done))) (h := keep_n)))) (slots_c (he := (by first | rfl | (congr 2; simp; done))) (h := trivial)) (.c (.c (.c (.c (.c .n)))))
          trivial
          all_goals (dsimp only; simp only [List.length_cons]; omega)
      · first
      | (first | omega | contradiction)
      | refine Ev.exit ?_
        refine hR0 _ _ ?_
        show Ev _ _ _ _
        rw [hne]
        refine Ev.sr fun K hK => S.cR [0, 1] 2 [_] (hob := (keep_d (he := rfl) (h := (keep_c (he := rfl) (h := keep_n))))) (hF := string_fun _ htl) (hn' := belowL rfl rfl) (h := S.o q.as (S.o q.as (S.end (hK _ ?_))))
        clear hK K
        refine Ev.ret ?_
        refine Ev.ret2 ?_
        refine ⟨?_, rfl⟩
        first
         | (rw [show textV l = [] from if_neg ‹_›, show textE l = 1 from if_neg ‹_›]; done)
         | (rw [show textV l = textP l from if_pos hyes, show textE l = 0 from if_pos hyes]; done)
theorem Text_fun (l : List Chg) (hl : l.length ≤ 140737488355328) (hw : chgW l) : Fun Try.prog 22 [.sh 2 (l.map findC)] (Ret (.tup [.lit (str (textV l)), .lit (.int .i64 (textE l))]) []) := by
  cases l with
  | nil => exact Text_nil
  | cons c l => exact Text_cons (c :: l) rfl hl hw
def cnt (l : List Chg) (k : Int) : Int := (l.countP fun c => decide (c.1 = k) : Nat)
theorem cnt_bd (l : List Chg) (k : Int) : 0 ≤ cnt l k ∧ cnt l k ≤ l.length := by
  have := List.countP_le_length (p := fun c : Chg => decide (c.1 = k)) (l := l)
  unfold cnt
  omega
theorem cnt_snoc (l : List Chg) (s : Chg) (k : Int) : cnt (l ++ [s]) k = if s.1 = k then cnt l k + 1 else cnt l k := by
  unfold cnt
  rw [List.countP_append]
  split
  · rename_i h; simp [h]
  · rename_i h; simp [h]
def cntL (l : List Chg) : List Int := [cnt l 1, cnt l 2, cnt l 3, cnt l 4]
theorem cntL_get (l : List Chg) {k : Int} (h1 : 1 ≤ k) (h2 : k ≤ 4) : (cntL l)[(k - 1).toNat]? = some (cnt l k) := by
  have : k = 1 ∨ k = 2 ∨ k = 3 ∨ k = 4 := by omega
  rcases this with rfl | rfl | rfl | rfl <;> rfl
theorem cntL_snoc (l : List Chg) (s : Chg) (h1 : 1 ≤ s.1) (h2 : s.1 ≤ 4) : (cntL l).set (s.1 - 1).toNat (cnt l s.1 + 1) = cntL (l ++ [s]) := by
  have : s.1 = 1 ∨ s.1 = 2 ∨ s.1 = 3 ∨ s.1 = 4 := by omega
  rcases this with h | h | h | h <;> (rw [h]; simp only [cntL, cnt_snoc, h]; rfl)
def cntV (l : List Chg) : List Int := if okChgs l then cntL l else []
theorem Count_fun (l : List Chg) (hl : l.length ≤ 140737488355328) (hw : chgW l) : Fun Try.prog 21 [.sh 2 (l.map findC)] (Ret (.tup [.sh 1 ((cntV l).map intC), .lit (.int .i64 (textE l))]) []) := by
  refine Fun.of (nt := 27) (rs := [.tmp 2, .tmp 3]) Try.func21 rfl rfl rfl rfl rfl ?_
  refine Ev.sr fun K hK => S.o q.as (S.o q.as (S.end (hK _ ?_)))
  clear hK K
  refine Ev.seq ?_
  refine Ev.sr fun K hK => S.o q.mv (S.c0 (hF := rvalid_chg _ (by omega) (by assumption)) (h := S.o q.not (S.end (hK _ ?_))))
  clear hK K
  refine Ev.cn (fun c1 => ?_) (fun c1 => ?_)
  · first
  | (first | omega | contradiction)
  | refine Ev.sr fun K hK => S.o q.as (S.o q.as (S.end (hK _ ?_)))
    clear hK K
    refine Ev.weaken (Wk.nsh intC 2 1) ?_
    refine Ev.ret ?_
    refine Ev.ret2 ?_
    refine ⟨?_, rfl⟩
    first
     | (rw [show cntV l = [] from if_neg ‹_›, show textE l = 1 from if_neg ‹_›]; done)
     | (rw [show cntV l = cntL l from if_pos hyes, show textE l = 0 from if_pos hyes]; done)
  · first
  | (first | omega | contradiction)
  | refine Ev.skip ?_
    show Ev _ _ _ _
    have hyes : okChgs l := ‹_›
    have hll := hyes.1
    refine Ev.sr fun K hK => S.mkf (f := intC) (0) am_el41 am_ze3 am_cl3 am_by3 (h := S.o q.as (S.end (hK _ ?_)))
    clear hK K
    refine Ev.seq ?_
    refine Ev.sr fun K hK => S.o q.mv (S.o (q.lens am_el25) (S.o q.mv (S.end (hK _ ?_))))
    clear hK K
    refine Ev.block ?_
    refine Ev.loopU (ι := {p : List (Chg) × List (Chg) // p.1 ++ p.2 = l ∧ True}) [0] [2, 3, 11, 12] (fun ⟨(pre, suf), _⟩ => [(13, .lit (.int .i64 ((pre.length : Int)))), (4, .als 0 0 (cntL pre).length)]) (fun ⟨(pre, suf), _⟩ => [(0, ⟨true, 3, 1, (cntL pre).map intC, true⟩)]) (fun ⟨(pre, suf), _⟩ => suf.length) ⟨([], l), rfl, trivial⟩ (.c (.c (.c (.c .n)))) (keep_c (he := (by first | rfl | (rw [← cntL_snoc pre s hk1 hk2]) | (rw [← cntL_snoc pre s hk1 hk2]; simp; done))) (h := keep_n)) (slots_c (he := (by first | rfl | (congr 2; simp; done))) (h := (slots_c (he := (by first | rfl | (simp; done) | (congr 2; omega))) (h := trivial)))) ?_
    rintro ⟨⟨pre, suf⟩, hp, hinv⟩ R0 hR0
    dsimp only [List.cons_append, List.nil_append, List.length_cons, List.length_nil]
    simp only at hp hinv
    have hpl : pre.length + suf.length = (l).length := by rw [← hp, List.length_append]
    rcases suf with _ | ⟨s, suf⟩
    · rw [List.append_nil] at hp; subst pre; simp only [List.length_nil] at hpl
      refine Ev.sr fun K hK => S.o q.lss (S.end (hK _ ?_))
      clear hK K
      refine Ev.ud (fun c2 => ?_) (fun c2 => ?_)
      · first
      | (first | omega | contradiction)
      | refine Ev.seq ?_
        refine Ev.block ?_
        refine Ev.sr fun K hK => S.o (q.ix am_el25 am_cl36 (hl := (by first | exact atig (by omega)))) (S.o (q.lsA [_, _] am_ag36 am_cl36) (S.nn (q.al am_ze36) (S.sv [_, _] true [_] am_in36 am_cl36 (h := S.end (hK _ ?_)))))
        clear hK K
        refine Ev.region_S fun K hK => S.o q.mv (S.o (q.fa 0 am_fi36_0 am_cl3) (S.o (q.lv am_ag3) (S.o q.sub (S.o (q.ia am_el41 am_cl3) (S.o (q.lx am_ag3 (hl := (by first | exact at_g (by omega)))) (S.o q.add (S.o (q.ia am_el41 am_cl3) (S.sx _ [_] am_in3 am_cl3 (hl := (by first | exact at_g (by omega))) (h := S.end (hK _ ?_))))))))))
        clear hK K
        show Ev _ _ _ _
        refine Ev.region_S fun K hK => S.o q.add (S.o q.mv (S.end (hK _ ?_)))
        clear hK K
        refine hR0 _ _ ?_
        refine roundU [0] [2, 3, 11, 12] ⟨(pre ++ [s], suf), by rw [← hp]; simp, ?_⟩ ?_ (keep_c (he := (by first | rfl | (rw [← cntL_snoc pre s hk1 hk2]) | (rw [← cntL_snoc pre s hk1 hk2]; simp; done))) (h := keep_n)) (slots_c (he := (by first | rfl | (congr 2; simp; done))) (h := (slots_c (he := (by first | rfl | (simp; done) | (congr 2; omega))) (h := trivial)))) (.c (.c (.c (.c .n))))
        trivial
        all_goals (dsimp only; simp only [List.length_cons]; omega)
      · first
      | (first | omega | contradiction)
      | refine Ev.exit ?_
        refine hR0 _ _ ?_
        show Ev _ _ _ _
        refine Ev.sr fun K hK => S.o q.mv (S.o q.as (S.o q.as (S.end (hK _ ?_))))
        clear hK K
        refine Ev.weaken (Wk.frz 2 []) ?_
        refine Ev.ret ?_
        refine Ev.ret2 ?_
        refine ⟨?_, rfl⟩
        first
         | (rw [show cntV l = [] from if_neg ‹_›, show textE l = 1 from if_neg ‹_›]; done)
         | (rw [show cntV l = cntL l from if_pos hyes, show textE l = 0 from if_pos hyes]; done)
    · simp only [List.length_cons] at hpl
      have hidx : (l)[pre.length]? = some s := by rw [← hp]; simp
      have hsk : okChg s := hyes.2.1 s (by rw [← hp]; simp)
      have hk1 := hsk.1
      have hk2 := hsk.2.1
      have hcb := cnt_bd pre s.1
      have hci := cntL_get pre hk1 hk2
      have hcl : (cntL pre).length = 4 := rfl
      refine Ev.sr fun K hK => S.o q.lss (S.end (hK _ ?_))
      clear hK K
      refine Ev.ud (fun c3 => ?_) (fun c3 => ?_)
      · first
      | (first | omega | contradiction)
      | refine Ev.seq ?_
        refine Ev.block ?_
        refine Ev.sr fun K hK => S.o (q.ix am_el25 am_cl36 (hl := (by first | exact ati hidx (by omega) | exact ati hci (by omega) | exact atig (by omega)))) (S.o (q.lsA [_, _] am_ag36 am_cl36) (S.nn (q.al am_ze36) (S.sv [_, _] true [_] am_in36 am_cl36 (h := S.end (hK _ ?_)))))
        clear hK K
        refine Ev.region_S fun K hK => S.o q.mv (S.o (q.fa 0 am_fi36_0 am_cl3) (S.o (q.lv am_ag3) (S.o q.sub (S.o (q.ia am_el41 am_cl3) (S.o (q.lx am_ag3 (hl := (by first | exact at_ hidx (by omega) | exact at_ hci (by omega) | exact at_g (by omega)))) (S.o q.add (S.o (q.ia am_el41 am_cl3) (S.sx _ [_] am_in3 am_cl3 (hl := (by first | exact at_ hidx (by omega) | exact at_ hci (by omega) | exact at_g (by omega))) (h := S.end (hK _ ?_))))))))))
        clear hK K
        show Ev _ _ _ _
        refine Ev.region_S fun K hK => S.o q.add (S.o q.mv (S.end (hK _ ?_)))
        clear hK K
        refine hR0 _ _ ?_
        refine roundU [0] [2, 3, 11, 12] ⟨(pre ++ [s], suf), by rw [← hp]; simp, ?_⟩ ?_ (keep_c (he := (by first | rfl | (rw [← cntL_snoc pre s hk1 hk2]) | (rw [← cntL_snoc pre s hk1 hk2]; simp; done))) (h := keep_n)) (slots_c (he := (by first | rfl | (congr 2; simp; done))) (h := (slots_c (he := (by first | rfl | (simp; done) | (congr 2; omega))) (h := trivial)))) (.c (.c (.c (.c .n))))
        trivial
        all_goals (dsimp only; simp only [List.length_cons]; omega)
      · first
      | (first | omega | contradiction)
      | refine Ev.exit ?_
        refine hR0 _ _ ?_
        show Ev _ _ _ _
        refine Ev.sr fun K hK => S.o q.mv (S.o q.as (S.o q.as (S.end (hK _ ?_))))
        clear hK K
        refine Ev.weaken (Wk.frz 2 []) ?_
        refine Ev.ret ?_
        refine Ev.ret2 ?_
        refine ⟨?_, rfl⟩
        first
         | (rw [show cntV l = [] from if_neg ‹_›, show textE l = 1 from if_neg ‹_›]; done)
         | (rw [show cntV l = cntL l from if_pos hyes, show textE l = 0 from if_pos hyes]; done)
end Go.Proofs.Ytccddakkegelkaa
