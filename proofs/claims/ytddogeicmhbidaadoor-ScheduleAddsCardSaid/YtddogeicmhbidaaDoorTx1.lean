/-
  Layer 14: the text of a schedule.
  Conditions: none.
-/
import Derived.Test.YtddogeicmhbidaaDoorSched
import Derived.Test.YtddogeicmhbidaaDoorNum
import Derived.Test.YtddogeicmhbidaaDoorJoin
namespace Go.Proofs.YtddogeicmhbidaaDoor
open Go Go.AM
set_option linter.unusedSimpArgs false
set_option linter.unusedVariables false
set_option maxRecDepth 100000
set_option maxHeartbeats 1000000

def code2 (k : Int) : List UInt8 := if k < 10 then [48] ++ Go.Lib.itoa k else Go.Lib.itoa k
theorem code2_lo {k : Int} (h : k < 10) : code2 k = [48] ++ Go.Lib.itoa k := if_pos h
theorem code2_hi {k : Int} (h : ¬ k < 10) : code2 k = Go.Lib.itoa k := if_neg h
def lineH (b : Bar) : List (List UInt8) := [b.mark, Go.Lib.itoa b.size, Go.Lib.itoa b.count, code2 b.code]
def lineW (b : Bar) : List (List UInt8) := lineH b ++ b.dims.map Go.Lib.itoa
/-- The text of a line. -/
def lineT (b : Bar) : List UInt8 := joinS [32] (lineW b) ++ [10]
def textP (l : List Bar) : List UInt8 := l.flatMap lineT
def textV (l : List Bar) : List UInt8 := if okSched l then textP l else []
def textE (l : List Bar) : Int := if okSched l then 0 else 1
theorem okBar_code {b : Bar} (h : okBar b) : 0 ≤ b.code ∧ b.code ≤ 98 := by
  have h1 := h.2.2.2.2.1
  rcases codes b.code with e | e | e | e | e | e | e | e | e
  iterate 8 omega
  exact absurd (legsL_none e).2 h1
theorem lineW_el {b : Bar} (h : okBar b) : (lineW b).length ≤ 9 ∧ ∀ x ∈ lineW b, x.length ≤ 1000000 := by
  have h1 := isName_len h.1
  have h2 := size_bd h.2.1
  have h3 := h.2.2.1
  have h4 := h.2.2.2.1
  have h5 := okBar_code h
  have h6 := h.2.2.2.2.2.1
  have h7 := (dims_eq b.code).2.2.1
  refine ⟨by simp only [lineW, lineH, List.length_append, List.length_map, List.length_cons, List.length_nil]; omega, fun x hx => ?_⟩
  simp only [lineW, lineH, List.mem_append, List.mem_cons, List.not_mem_nil, or_false, List.mem_map] at hx
  rcases hx with (rfl | rfl | rfl | rfl) | ⟨d, hd, rfl⟩
  · omega
  · have := itoa_len (N := b.size) (by omega) (by omega); omega
  · have := itoa_len (N := b.count) (by omega) (by omega); omega
  · have := itoa_len (N := b.code) (by omega) (by omega)
    unfold code2
    split
    · simp only [List.length_append, List.length_cons, List.length_nil]; omega
    · omega
  · have h8 := dims_in h.2.2.2.2.2.2 hd
    have := itoa_len (N := d) (by omega) (by omega); omega
theorem lineT_len {b : Bar} (h : okBar b) : (lineT b).length ≤ 10000000 ∧ 0 < (lineT b).length := by
  obtain ⟨h1, h2⟩ := lineW_el h
  have h3 := joinS_len [32] _ h2
  rw [lineT, List.length_append, List.length_singleton]
  simp only [List.length_cons, List.length_nil] at h3
  omega
theorem textP_snoc (l : List Bar) (s : Bar) : textP (l ++ [s]) = textP l ++ lineT s := by simp [textP]
theorem textP_len : ∀ l : List Bar, (∀ c ∈ l, okBar c) → (textP l).length ≤ l.length * 10000000 := by
  refine snoc_ind (fun _ => by simp [textP]) ?_
  intro l s ih h
  have := ih fun b hb => h b (by simp [hb])
  have := (lineT_len (h s (by simp))).1
  rw [textP_snoc, List.length_append, List.length_append, List.length_singleton, Nat.add_mul]
  omega
theorem Text_nil : Fun Tryd.prog 25 [.sh 5 (([] : List Bar).map Bar.c)] (Ret (.tup [.lit (str []), .lit (.int .i64 0)]) []) := by
  have hw : schedW [] := fun c hc => by simp at hc
  have hl0 : ([] : List Bar).length ≤ 140737488355328 := by decide
  have hok : okSched [] := by decide
  refine Fun.of (nt := 57) (rs := [.tmp 2, .tmp 3]) Tryd.func25 rfl rfl rfl rfl rfl ?_
  refine Ev.sr fun K hK => S.o q.as (S.o q.as (S.end (hK _ ?_)))
  clear hK K
  refine Ev.seq ?_
  refine Ev.sr fun K hK => S.o q.mv (S.c0 (hF := schedValid_fun _ (by omega) (by assumption)) (h := S.o q.not (S.end (hK _ ?_))))
  clear hK K
  refine Ev.cn (fun c1 => ?_) (fun c1 => ?_)
  · first
  | (first | omega | contradiction)
  | contradiction
  · first
  | (first | omega | contradiction)
  | refine Ev.skip ?_
    show Ev _ _ _ _
    refine Ev.sr fun K hK => S.nn (q.al am_ze74) (S.end (hK _ ?_))
    clear hK K
    refine Ev.seq ?_
    refine Ev.sr fun K hK => S.o q.mv (S.o (q.lens am_el22) (S.o q.mv (S.end (hK _ ?_))))
    clear hK K
    refine Ev.block ?_
    refine Ev.loopU (ι := Unit) [0] [2, 3, 4, 14, 15] (fun _ => [(16, .lit (.int .i64 (0)))]) (fun _ => [(0, ⟨false, 74, 2, [[.lit (.pointer none), .lit (.slice none 0 0)]], true⟩)]) (fun _ => 0) () (.c (.c (.c (.c (.c .n))))) (keep_c (he := (by first | rfl | (simp; done))) (h := keep_n)) (slots_c (he := (by first | rfl | (simp; done) | (congr 2; omega))) (h := trivial)) ?_
    rintro ⟨⟩ R0 hR0
    dsimp only [List.cons_append, List.nil_append, List.length_cons, List.length_nil]
    refine Ev.sr fun K hK => S.o q.lss (S.end (hK _ ?_))
    clear hK K
    refine Ev.ud (fun c2 => ?_) (fun c2 => ?_)
    · first
    | (first | omega | contradiction)
    | refine Ev.seq ?_
      refine Ev.block ?_
      omega
    · first
    | (first | omega | contradiction)
    | refine Ev.exit ?_
      refine hR0 _ _ ?_
      show Ev _ _ _ _
      refine Ev.sr fun K hK => S.cR [0] 1 [_] (hob := (keep_c (he := rfl) (h := keep_n))) (hF := string0_fun) (hn' := belowL rfl rfl) (h := S.o q.as (S.o q.as (S.end (hK _ ?_))))
      clear hK K
      refine Ev.ret ?_
      refine Ev.ret2 ?_
      refine ⟨?_, rfl⟩
      rfl
theorem Text_cons (l : List Bar) (hne : l.isEmpty = false) (hl : l.length ≤ 140737488355328) (hw : schedW l) : Fun Tryd.prog 25 [.sh 5 (l.map Bar.c)] (Ret (.tup [.lit (str (textV l)), .lit (.int .i64 (textE l))]) []) := by
  refine Fun.of (nt := 57) (rs := [.tmp 2, .tmp 3]) Tryd.func25 rfl rfl rfl rfl rfl ?_
  refine Ev.sr fun K hK => S.o q.as (S.o q.as (S.end (hK _ ?_)))
  clear hK K
  refine Ev.seq ?_
  refine Ev.sr fun K hK => S.o q.mv (S.c0 (hF := schedValid_fun _ (by omega) (by assumption)) (h := S.o q.not (S.end (hK _ ?_))))
  clear hK K
  refine Ev.cn (fun c1 => ?_) (fun c1 => ?_)
  · first
  | (first | omega | contradiction)
  | refine Ev.sr fun K hK => S.o q.as (S.o q.as (S.end (hK _ ?_)))
    clear hK K
    refine Ev.ret ?_
    refine Ev.ret2 ?_
    refine ⟨?_, rfl⟩
    first
     | (rw [show textV l = [] from if_neg ‹_›, show textE l = 1 from if_neg ‹_›]; done)
     | (rw [show textV l = textP l from if_pos hyes, show textE l = 0 from if_pos hyes]; done)
  · first
  | (first | omega | contradiction)
  | refine Ev.skip ?_
    show Ev _ _ _ _
    have hyes : okSched l := ‹_›
    have hll := hyes.1
    have h0 : 0 < l.length := by cases l with | nil => simp at hne | cons => simp
    refine Ev.sr fun K hK => S.nn (q.al am_ze74) (S.end (hK _ ?_))
    clear hK K
    refine Ev.seq ?_
    refine Ev.weaken (Wk.nilv (f := byteC) 0 1 5 1 []) ?_
    refine Ev.sr fun K hK => S.o q.mv (S.o (q.lens am_el22) (S.o q.mv (S.end (hK _ ?_))))
    clear hK K
    refine Ev.block ?_
    refine Ev.loopU (ι := {p : List (Bar) × List (Bar) // p.1 ++ p.2 = l ∧ True}) [0, 1] [2, 3, 4, 14, 15] (fun ⟨(pre, suf), _⟩ => [(16, .lit (.int .i64 ((pre.length : Int))))]) (fun ⟨(pre, suf), _⟩ => [(0, ⟨false, 74, 2, [[bp (!pre.isEmpty) 0, .als 1 0 (textP pre).length]], false⟩), (1, ⟨true, 5, 1, (textP pre).map byteC, true⟩)]) (fun ⟨(pre, suf), _⟩ => suf.length) ⟨([], l), rfl, trivial⟩ (.c (.c (.c (.c (.c .n))))) (keep_d (hr := (by first | exact rfl | exact bp_ren rfl rfl)) (he := (by first | rfl | (simp only [textP_snoc, List.append_assoc]; done) | (simp only [textP_snoc, List.append_assoc, bp_snoc]; done))) (h := (keep_c (he := (by first | rfl | (simp only [textP_snoc, List.append_assoc]; done) | (simp only [textP_snoc, List.append_assoc, bp_snoc]; done))) (h := keep_n)))) (slots_c (he := (by first | rfl | (congr 2; simp; done))) (h := trivial)) ?_
    rintro ⟨⟨pre, suf⟩, hp, hinv⟩ R0 hR0
    dsimp only [List.cons_append, List.nil_append, List.length_cons, List.length_nil]
    simp only at hp hinv
    have hpl : pre.length + suf.length = (l).length := by rw [← hp, List.length_append]
    rcases suf with _ | ⟨s, suf⟩
    · rw [List.append_nil] at hp; subst pre; simp only [List.length_nil] at hpl
      have htl : 0 < (textP l).length := by
        cases l with
        | nil => simp at hne
        | cons c l =>
          have h9 := (lineT_len (hyes.2.1 c (by simp))).2
          simp only [textP, List.flatMap_cons, List.length_append]
          omega
      refine Ev.sr fun K hK => S.o q.lss (S.end (hK _ ?_))
      clear hK K
      refine Ev.ud (fun c2 => ?_) (fun c2 => ?_)
      · first | omega | contradiction
      · first
      | (first | omega | contradiction)
      | refine Ev.exit ?_
        refine hR0 _ _ ?_
        show Ev _ _ _ _
        rw [hne]
        refine Ev.sr fun K hK => S.cR [0, 1] 2 [_] (hob := (keep_d (he := rfl) (h := (keep_c (he := rfl) (h := keep_n))))) (hF := string_fun _ htl) (hn' := belowL rfl rfl) (h := S.o q.as (S.o q.as (S.end (hK _ ?_))))
        clear hK K
        refine Ev.ret ?_
        refine Ev.ret2 ?_
        refine ⟨?_, rfl⟩
        first
         | (rw [show textV l = [] from if_neg ‹_›, show textE l = 1 from if_neg ‹_›]; done)
         | (rw [show textV l = textP l from if_pos hyes, show textE l = 0 from if_pos hyes]; done)
    · simp only [List.length_cons] at hpl
      have hidx : (l)[pre.length]? = some s := by rw [← hp]; simp
      have hsk : okBar s := hyes.2.1 s (by rw [← hp]; simp)
      have hk1 := size_bd hsk.2.1
      have hk2 := hsk.2.2.1
      have hk3 := hsk.2.2.2.1
      have hk4 := okBar_code hsk
      have hsl := lineW_el hsk
      obtain ⟨hlt, hlt0⟩ := lineT_len hsk
      have hic := itoa_len (N := s.code) (by omega) (by omega)
      have hjl : (joinS [32] (lineH s ++ s.dims.map Go.Lib.itoa)).length + 1 = (lineT s).length := by rw [lineT, List.length_append]; rfl
      have hd6 := hsk.2.2.2.2.2.1
      have hd7 := (dims_eq s.code).2.2.1
      have hpt := textP_len pre (fun c hc => hyes.2.1 c (by rw [← hp]; simp [hc]))
      refine Ev.sr fun K hK => S.o q.lss (S.end (hK _ ?_))
      clear hK K
      refine Ev.ud (fun c3 => ?_) (fun c3 => ?_)
      · first
      | (first | omega | contradiction)
      | refine Ev.seq ?_
        refine Ev.block ?_
        refine Ev.sr fun K hK => S.o (q.ix am_el22 am_cl38 (hl := (by first | exact ati hidx (by omega) | exact atig (by omega)))) (S.o (q.lsA [_, _, _, _, _] am_ag38 am_cl38) (S.nn (q.al am_ze38) (S.sv [_, _, _, _, _] true [_, _] am_in38 am_cl38 (h := S.end (hK _ ?_)))))
        clear hK K
        refine Ev.sr fun K hK => S.o (q.fa 3 am_fi38_3 am_cl3) (S.o (q.lv am_ag3) (S.c0 (hF := itoa41_fun (by omega) (by omega)) (h := S.o q.as (S.end (hK _ ?_)))))
        clear hK K
        refine Ev.seq ?_
        refine Ev.sr fun K hK => S.o (q.fa 3 am_fi38_3 am_cl3) (S.o (q.lv am_ag3) (S.o q.lss (S.end (hK _ ?_))))
        clear hK K
        refine Ev.cd (fun c4 => ?_) (fun c4 => ?_)
        · first
        | (first | omega | contradiction)
        | refine Ev.region_S fun K hK => S.o q.mv (S.o q.sadd (S.o q.as (S.end (hK _ ?_))))
          clear hK K
          show Ev _ _ _ _
          first | rw [← code2_lo ‹s.code < 10›] | rw [← code2_hi ‹¬ s.code < 10›]
          refine Ev.sm (tbs [(0, 0), (1, 1), (0, 0), (3, 4), (4, 12), (0, 0), (6, 32), (7, 124), (0, 0), (9, 511), (10, 1023)]) 10 fun K hK => M.o (q.fa 0 am_fi38_0 am_cl9) (M.o (q.lv am_ag9) (M.o (q.fa 1 am_fi38_1 am_cl3) (M.o (q.lv am_ag3) (M.c0 (hF := itoa41_fun (by omega) (by omega)) (h := M.o (q.fa 2 am_fi38_2 am_cl3) (M.o (q.lv am_ag3) (M.c0 (hF := itoa41_fun (by omega) (by omega)) (h := M.o q.mv (M.nn [_] (q.bs [[_], [_], [_], [_]] true am_el76 am_ze9 am_cl9) (h := M.end [_, _, _, _] (h := S.o q.as (S.end (hK _ ?_)))))))))))))
          clear hK K
          refine Ev.seq ?_
          refine Ev.sr fun K hK => S.o (q.fa 4 am_fi38_4 am_cl36) (S.o (q.lv am_ag36) (S.o (q.lens am_el36) (S.o q.mv (S.end (hK _ ?_)))))
          clear hK K
          refine Ev.block ?_
          refine Ev.loopU (ι := {q : List Int × List Int // q.1 ++ q.2 = s.dims}) [0, 1, 2, 39] [2, 3, 4, 6, 7, 14, 15, 16, 17, 18, 19, 20, 21, 22, 23, 24, 25, 26, 27, 28, 29, 30, 31, 32, 33, 34, 35, 36, 38, 39, 40] (fun ⟨(prek, sufk), _⟩ => [(41, .lit (.int .i64 ((prek.length : Int)))), (8, .als 3 0 (lineH s ++ prek.map Go.Lib.itoa).length)]) (fun ⟨(prek, sufk), _⟩ => [(0, ⟨false, 74, 2, [[bp (!pre.isEmpty) 0, .als 1 0 (textP pre).length]], false⟩), (1, ⟨true, 5, 1, (textP pre).map byteC, true⟩), (2, ⟨false, 38, 5, [[.lit (str (s.mark)), .lit (.int .i64 (s.size)), .lit (.int .i64 (s.count)), .lit (.int .i64 (s.code)), .sh 1 ((s.dims).map intC)]], true⟩), (3, ⟨true, 9, 1, (lineH s ++ prek.map Go.Lib.itoa).map strC, true⟩)]) (fun ⟨(prek, sufk), _⟩ => sufk.length) ⟨([], s.dims), rfl⟩ (.c (.c (.c (.c (.c (.c (.c (.c (.c (.c (.c (.c (.c (.c (.c (.c (.c (.c (.c (.c (.c (.c (.c (.c (.c (.c (.c (.c (.c (.c (.c .n))))))))))))))))))))))))))))))) (keep_d (hr := (by first | exact rfl | exact bp_ren rfl rfl)) (he := (by first | rfl | (simp; done))) (h := (keep_c (he := (by first | rfl | (simp; done))) (h := (keep_c (he := (by first | rfl | (simp; done))) (h := (keep_c (he := (by first | rfl | (simp; done))) (h := keep_n)))))))) (slots_c (he := (by first | rfl | (congr 2; simp; done))) (h := (slots_c (he := (by first | rfl | (congr 1; simp; done))) (h := trivial)))) ?_
          rintro ⟨⟨prek, sufk⟩, hpk⟩ R2 hR2
          dsimp only [List.cons_append, List.nil_append, List.length_cons, List.length_nil]
          simp only at hpk
          have hplk : prek.length + sufk.length = s.dims.length := by rw [← hpk, List.length_append]
          rcases sufk with _ | ⟨sk, sufk⟩
          · rw [List.append_nil] at hpk; subst prek; simp only [List.length_nil] at hplk
            refine Ev.sr fun K hK => S.o q.lss (S.end (hK _ ?_))
            clear hK K
            refine Ev.ud (fun c5 => ?_) (fun c5 => ?_)
            · first | omega | contradiction
            · first
            | (first | omega | contradiction)
            | refine Ev.exit ?_
              refine hR2 _ _ ?_
              show Ev _ _ _ _
              refine Ev.region_S fun K hK => S.o q.mv ?_
              refine SeqL.weaken (Wk.frz 51 [_, _, _]) ?_
              refine S.c0 (hF := join_fun (lineH s ++ s.dims.map Go.Lib.itoa) (by have h := hsl.1; unfold lineW at h; omega) hsl.2) (h := S.o q.sadd ?_)
              rcases hfl : pre.isEmpty with _ | _
              · skip
                rw [show joinS [32] (lineH s ++ s.dims.map Go.Lib.itoa) ++ [10] = lineT s from rfl]
                refine S.cR [0, 1] 5 [_, _, _] (hob := (keep_d (he := rfl) (h := (keep_c (he := rfl) (h := keep_n))))) (hF := writeUsed_fun (textP pre) (lineT s) (by omega)) (hn' := belowL rfl rfl) (h := S.end (hK _ ?_))
                clear hK K
                show Ev _ _ _ _
                refine Ev.region_S fun K hK => S.o q.add (S.o q.mv (S.end (hK _ ?_)))
                clear hK K
                refine hR0 _ _ ?_
                refine roundU [0, 4] [2, 3, 4, 14, 15] ⟨(pre ++ [s], suf), by rw [← hp]; simp, ?_⟩ ?_ (keep_d (hr := (by first | exact rfl | exact bp_ren rfl rfl)) (he := (by first | rfl | (simp only [textP_snoc, List.append_assoc]; done) | (simp only [textP_snoc, List.append_assoc, bp_snoc]; done))) (h := (keep_c (he := (by first | rfl | (simp only [textP_snoc, List.append_assoc]; done) | (simp only [textP_snoc, List.append_assoc, bp_snoc]; done))) (h := keep_n)))) (slots_c (he := (by first | rfl | (congr 2; simp; done))) (h := trivial)) (.c (.c (.c (.c (.c .n)))))
                trivial
                all_goals (dsimp only; simp only [List.length_cons]; omega)
              · skip
                rw [show joinS [32] (lineH s ++ s.dims.map Go.Lib.itoa) ++ [10] = lineT s from rfl]
                refine S.cR [0, 1] 5 [_, _, _] (hob := (keep_d (he := rfl) (h := (keep_c (he := rfl) (h := keep_n))))) (hF := writeFresh_fun (textP pre) (lineT s) (by omega)) (hn' := belowL rfl rfl) (h := S.end (hK _ ?_))
                clear hK K
                show Ev _ _ _ _
                refine Ev.region_S fun K hK => S.o q.add (S.o q.mv (S.end (hK _ ?_)))
                clear hK K
                refine hR0 _ _ ?_
                refine roundU [0, 4] [2, 3, 4, 14, 15] ⟨(pre ++ [s], suf), by rw [← hp]; simp, ?_⟩ ?_ (keep_d (hr := (by first | exact rfl | exact bp_ren rfl rfl)) (he := (by first | rfl | (simp only [textP_snoc, List.append_assoc]; done) | (simp only [textP_snoc, List.append_assoc, bp_snoc]; done))) (h := (keep_c (he := (by first | rfl | (simp only [textP_snoc, List.append_assoc]; done) | (simp only [textP_snoc, List.append_assoc, bp_snoc]; done))) (h := keep_n)))) (slots_c (he := (by first | rfl | (congr 2; simp; done))) (h := trivial)) (.c (.c (.c (.c (.c .n)))))
                trivial
                all_goals (dsimp only; simp only [List.length_cons]; omega)
          · simp only [List.length_cons] at hplk
            have hidk : s.dims[prek.length]? = some sk := by rw [← hpk]; simp
            have hskd := dims_in hsk.2.2.2.2.2.2 (show sk ∈ s.dims by rw [← hpk]; simp)
            have hhl : (lineH s).length = 4 := rfl
            refine Ev.sr fun K hK => S.o q.lss (S.end (hK _ ?_))
            clear hK K
            refine Ev.ud (fun c6 => ?_) (fun c6 => ?_)
            · first
            | (first | omega | contradiction)
            | refine Ev.seq ?_
              refine Ev.block ?_
              refine Ev.sr fun K hK => S.o (q.ix am_el36 am_cl3 (hl := (by first | exact ati hidx (by omega) | exact ati hidk (by omega) | exact atig (by omega)))) (S.o (q.ls am_ag3) (S.o q.as (S.end (hK _ ?_))))
              clear hK K
              refine Ev.region_S fun K hK => S.o q.mv (S.o q.mv (S.c0 (hF := itoa41_fun (by omega) (by omega)) (h := S.nn (q.bs [[_]] true am_el76 am_ze9 am_cl9) (S.ap' [_, _, _, _] am_el76 am_ze9 am_cl9 am_by9 (hh := head_own') (hr := (rows_lit [_])) (h := S.o q.as (S.end (hK _ ?_)))))))
              clear hK K
              show Ev _ _ _ _
              refine Ev.region_S fun K hK => S.o q.add (S.o q.mv (S.end (hK _ ?_)))
              clear hK K
              refine hR2 _ _ ?_
              refine roundU [0, 1, 2, 5] [2, 3, 4, 6, 7, 14, 15, 16, 17, 18, 19, 20, 21, 22, 23, 24, 25, 26, 27, 28, 29, 30, 31, 32, 33, 34, 35, 36, 38, 39, 40] ⟨(prek ++ [sk], sufk), by rw [← hpk]; simp⟩ ?_ (keep_d (hr := (by first | exact rfl | exact bp_ren rfl rfl)) (he := (by first | rfl | (simp; done))) (h := (keep_c (he := (by first | rfl | (simp; done))) (h := (keep_c (he := (by first | rfl | (simp; done))) (h := (keep_c (he := (by first | rfl | (simp; done))) (h := keep_n)))))))) (slots_c (he := (by first | rfl | (congr 2; simp; done))) (h := (slots_c (he := (by first | rfl | (congr 1; simp; done))) (h := trivial)))) (.c (.c (.c (.c (.c (.c (.c (.c (.c (.c (.c (.c (.c (.c (.c (.c (.c (.c (.c (.c (.c (.c (.c (.c (.c (.c (.c (.c (.c (.c (.c .n)))))))))))))))))))))))))))))))
              skip
              all_goals (dsimp only; simp only [List.length_cons]; omega)
            · first | omega | contradiction
        · first
        | (first | omega | contradiction)
        | refine Ev.skip ?_
          show Ev _ _ _ _
          first | rw [← code2_lo ‹s.code < 10›] | rw [← code2_hi ‹¬ s.code < 10›]
          refine Ev.sm (tbs [(0, 0), (1, 1), (0, 0), (3, 4), (4, 12), (0, 0), (6, 32), (7, 124), (0, 0), (9, 511), (10, 1023)]) 10 fun K hK => M.o (q.fa 0 am_fi38_0 am_cl9) (M.o (q.lv am_ag9) (M.o (q.fa 1 am_fi38_1 am_cl3) (M.o (q.lv am_ag3) (M.c0 (hF := itoa41_fun (by omega) (by omega)) (h := M.o (q.fa 2 am_fi38_2 am_cl3) (M.o (q.lv am_ag3) (M.c0 (hF := itoa41_fun (by omega) (by omega)) (h := M.o q.mv (M.nn [_] (q.bs [[_], [_], [_], [_]] true am_el76 am_ze9 am_cl9) (h := M.end [_, _, _, _] (h := S.o q.as (S.end (hK _ ?_)))))))))))))
          clear hK K
          refine Ev.seq ?_
          refine Ev.sr fun K hK => S.o (q.fa 4 am_fi38_4 am_cl36) (S.o (q.lv am_ag36) (S.o (q.lens am_el36) (S.o q.mv (S.end (hK _ ?_)))))
          clear hK K
          refine Ev.block ?_
          refine Ev.loopU (ι := {q : List Int × List Int // q.1 ++ q.2 = s.dims}) [0, 1, 2, 39] [2, 3, 4, 6, 7, 14, 15, 16, 17, 18, 19, 20, 21, 22, 23, 24, 25, 28, 29, 30, 31, 32, 33, 34, 35, 36, 38, 39, 40] (fun ⟨(prek, sufk), _⟩ => [(41, .lit (.int .i64 ((prek.length : Int)))), (8, .als 3 0 (lineH s ++ prek.map Go.Lib.itoa).length)]) (fun ⟨(prek, sufk), _⟩ => [(0, ⟨false, 74, 2, [[bp (!pre.isEmpty) 0, .als 1 0 (textP pre).length]], false⟩), (1, ⟨true, 5, 1, (textP pre).map byteC, true⟩), (2, ⟨false, 38, 5, [[.lit (str (s.mark)), .lit (.int .i64 (s.size)), .lit (.int .i64 (s.count)), .lit (.int .i64 (s.code)), .sh 1 ((s.dims).map intC)]], true⟩), (3, ⟨true, 9, 1, (lineH s ++ prek.map Go.Lib.itoa).map strC, true⟩)]) (fun ⟨(prek, sufk), _⟩ => sufk.length) ⟨([], s.dims), rfl⟩ (.c (.c (.c (.c (.c (.c (.c (.c (.c (.c (.c (.c (.c (.c (.c (.c (.c (.c (.c (.c (.c (.c (.c (.c (.c (.c (.c (.c (.c .n))))))))))))))))))))))))))))) (keep_d (hr := (by first | exact rfl | exact bp_ren rfl rfl)) (he := (by first | rfl | (simp; done))) (h := (keep_c (he := (by first | rfl | (simp; done))) (h := (keep_c (he := (by first | rfl | (simp; done))) (h := (keep_c (he := (by first | rfl | (simp; done))) (h := keep_n)))))))) (slots_c (he := (by first | rfl | (congr 2; simp; done))) (h := (slots_c (he := (by first | rfl | (congr 1; simp; done))) (h := trivial)))) ?_
          rintro ⟨⟨prek, sufk⟩, hpk⟩ R2 hR2
          dsimp only [List.cons_append, List.nil_append, List.length_cons, List.length_nil]
          simp only at hpk
          have hplk : prek.length + sufk.length = s.dims.length := by rw [← hpk, List.length_append]
          rcases sufk with _ | ⟨sk, sufk⟩
          · rw [List.append_nil] at hpk; subst prek; simp only [List.length_nil] at hplk
            refine Ev.sr fun K hK => S.o q.lss (S.end (hK _ ?_))
            clear hK K
            refine Ev.ud (fun c7 => ?_) (fun c7 => ?_)
            · first | omega | contradiction
            · first
            | (first | omega | contradiction)
            | refine Ev.exit ?_
              refine hR2 _ _ ?_
              show Ev _ _ _ _
              refine Ev.region_S fun K hK => S.o q.mv ?_
              refine SeqL.weaken (Wk.frz 51 [_, _, _]) ?_
              refine S.c0 (hF := join_fun (lineH s ++ s.dims.map Go.Lib.itoa) (by have h := hsl.1; unfold lineW at h; omega) hsl.2) (h := S.o q.sadd ?_)
              rcases hfl : pre.isEmpty with _ | _
              · skip
                rw [show joinS [32] (lineH s ++ s.dims.map Go.Lib.itoa) ++ [10] = lineT s from rfl]
                refine S.cR [0, 1] 5 [_, _, _] (hob := (keep_d (he := rfl) (h := (keep_c (he := rfl) (h := keep_n))))) (hF := writeUsed_fun (textP pre) (lineT s) (by omega)) (hn' := belowL rfl rfl) (h := S.end (hK _ ?_))
                clear hK K
                show Ev _ _ _ _
                refine Ev.region_S fun K hK => S.o q.add (S.o q.mv (S.end (hK _ ?_)))
                clear hK K
                refine hR0 _ _ ?_
                refine roundU [0, 4] [2, 3, 4, 14, 15] ⟨(pre ++ [s], suf), by rw [← hp]; simp, ?_⟩ ?_ (keep_d (hr := (by first | exact rfl | exact bp_ren rfl rfl)) (he := (by first | rfl | (simp only [textP_snoc, List.append_assoc]; done) | (simp only [textP_snoc, List.append_assoc, bp_snoc]; done))) (h := (keep_c (he := (by first | rfl | (simp only [textP_snoc, List.append_assoc]; done) | (simp only [textP_snoc, List.append_assoc, bp_snoc]; done))) (h := keep_n)))) (slots_c (he := (by first | rfl | (congr 2; simp; done))) (h := trivial)) (.c (.c (.c (.c (.c .n)))))
                trivial
                all_goals (dsimp only; simp only [List.length_cons]; omega)
              · skip
                rw [show joinS [32] (lineH s ++ s.dims.map Go.Lib.itoa) ++ [10] = lineT s from rfl]
                refine S.cR [0, 1] 5 [_, _, _] (hob := (keep_d (he := rfl) (h := (keep_c (he := rfl) (h := keep_n))))) (hF := writeFresh_fun (textP pre) (lineT s) (by omega)) (hn' := belowL rfl rfl) (h := S.end (hK _ ?_))
                clear hK K
                show Ev _ _ _ _
                refine Ev.region_S fun K hK => S.o q.add (S.o q.mv (S.end (hK _ ?_)))
                clear hK K
                refine hR0 _ _ ?_
                refine roundU [0, 4] [2, 3, 4, 14, 15] ⟨(pre ++ [s], suf), by rw [← hp]; simp, ?_⟩ ?_ (keep_d (hr := (by first | exact rfl | exact bp_ren rfl rfl)) (he := (by first | rfl | (simp only [textP_snoc, List.append_assoc]; done) | (simp only [textP_snoc, List.append_assoc, bp_snoc]; done))) (h := (keep_c (he := (by first | rfl | (simp only [textP_snoc, List.append_assoc]; done) | (simp only [textP_snoc, List.append_assoc, bp_snoc]; done))) (h := keep_n)))) (slots_c (he := (by first | rfl | (congr 2; simp; done))) (h := trivial)) (.c (.c (.c (.c (.c .n)))))
                trivial
                all_goals (dsimp only; simp only [List.length_cons]; omega)
          · simp only [List.length_cons] at hplk
            have hidk : s.dims[prek.length]? = some sk := by rw [← hpk]; simp
            have hskd := dims_in hsk.2.2.2.2.2.2 (show sk ∈ s.dims by rw [← hpk]; simp)
            have hhl : (lineH s).length = 4 := rfl
            refine Ev.sr fun K hK => S.o q.lss (S.end (hK _ ?_))
            clear hK K
            refine Ev.ud (fun c8 => ?_) (fun c8 => ?_)
            · first
            | (first | omega | contradiction)
            | refine Ev.seq ?_
              refine Ev.block ?_
              refine Ev.sr fun K hK => S.o (q.ix am_el36 am_cl3 (hl := (by first | exact ati hidx (by omega) | exact ati hidk (by omega) | exact atig (by omega)))) (S.o (q.ls am_ag3) (S.o q.as (S.end (hK _ ?_))))
              clear hK K
              refine Ev.region_S fun K hK => S.o q.mv (S.o q.mv (S.c0 (hF := itoa41_fun (by omega) (by omega)) (h := S.nn (q.bs [[_]] true am_el76 am_ze9 am_cl9) (S.ap' [_, _, _, _] am_el76 am_ze9 am_cl9 am_by9 (hh := head_own') (hr := (rows_lit [_])) (h := S.o q.as (S.end (hK _ ?_)))))))
              clear hK K
              show Ev _ _ _ _
              refine Ev.region_S fun K hK => S.o q.add (S.o q.mv (S.end (hK _ ?_)))
              clear hK K
              refine hR2 _ _ ?_
              refine roundU [0, 1, 2, 5] [2, 3, 4, 6, 7, 14, 15, 16, 17, 18, 19, 20, 21, 22, 23, 24, 25, 28, 29, 30, 31, 32, 33, 34, 35, 36, 38, 39, 40] ⟨(prek ++ [sk], sufk), by rw [← hpk]; simp⟩ ?_ (keep_d (hr := (by first | exact rfl | exact bp_ren rfl rfl)) (he := (by first | rfl | (simp; done))) (h := (keep_c (he := (by first | rfl | (simp; done))) (h := (keep_c (he := (by first | rfl | (simp; done))) (h := (keep_c (he := (by first | rfl | (simp; done))) (h := keep_n)))))))) (slots_c (he := (by first | rfl | (congr 2; simp; done))) (h := (slots_c (he := (by first | rfl | (congr 1; simp; done))) (h := trivial)))) (.c (.c (.c (.c (.c (.c (.c (.c (.c (.c (.c (.c (.c (.c (.c (.c (.c (.c (.c (.c (.c (.c (.c (.c (.c (.c (.c (.c (.c .n)))))))))))))))))))))))))))))
              skip
              all_goals (dsimp only; simp only [List.length_cons]; omega)
            · first | omega | contradiction
      · first | omega | contradiction
theorem Text_fun (l : List Bar) (hl : l.length ≤ 140737488355328) (hw : schedW l) : Fun Tryd.prog 25 [.sh 5 (l.map Bar.c)] (Ret (.tup [.lit (str (textV l)), .lit (.int .i64 (textE l))]) []) := by
  cases l with
  | nil => exact Text_nil
  | cons c l => exact Text_cons (c :: l) rfl hl hw
end Go.Proofs.YtddogeicmhbidaaDoor
