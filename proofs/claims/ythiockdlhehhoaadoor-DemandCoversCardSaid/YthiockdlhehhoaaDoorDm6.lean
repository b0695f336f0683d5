/-
  Chapter 23: Text, walked.
  Conditions: none.
-/
import Derived.Test.YthiockdlhehhoaaDoorDm2
import Derived.Test.YthiockdlhehhoaaDoorAmAppI
import Derived.Test.YthiockdlhehhoaaDoorAmBld
import Derived.Shelf.Lay
import Derived.Ground.NamesProg
namespace Go.Proofs.YthiockdlhehhoaaDoor
open Go Go.AM
set_option linter.unusedSimpArgs false
set_option linter.unusedVariables false
set_option maxRecDepth 100000
set_option maxHeartbeats 1000000

open Go.Shelf in
shelf_lay LaysM.n176 Nm 176 at Tryd as lays176
def numsT (l : List Int) : List UInt8 := l.flatMap fun n => 32 :: Go.Lib.itoa n
theorem numsT_snoc (l : List Int) (n : Int) : numsT (l ++ [n]) = numsT l ++ [32] ++ Go.Lib.itoa n := by simp [numsT]
def okI (n : Int) : Prop := -9223372036854775808 ≤ n ∧ n ≤ 9223372036854775807
theorem itoa_le {n : Int} (h : okI n) : (Go.Lib.itoa n).length ≤ 21 := Go.Lib.itoa_length_le n h.1 h.2
theorem numsT_len : ∀ l : List Int, (∀ n ∈ l, okI n) → (numsT l).length ≤ 22 * l.length := by
  refine snoc_ind (fun _ => by simp [numsT]) ?_
  intro l n ih h
  have h1 := ih fun x hx => h x (by simp [hx])
  have h2 := itoa_le (h n (by simp))
  rw [numsT_snoc]
  simp only [List.length_append, List.length_singleton]
  omega
theorem appI_fun (l : List UInt8) (n : Int) (m : Nat) (hm : m = l.length) (h : okI n) (hl : l.length ≤ 1000000000) : FunR Tryd.prog 40 [.als 0 0 m, .lit (.int .i64 n), .lit (.int .i64 10)] [(0, ⟨true, 5, 1, l.map byteC, true⟩)] 1
    (Ret (.als 1 0 (l ++ Go.Lib.itoa n).length) [(1, ⟨true, 5, 1, (l ++ Go.Lib.itoa n).map byteC, true⟩)]) := by
  subst hm
  exact appInt_R lays176 ⟨_, Tryd.func40, rfl, rfl⟩ (g := 0) (by kernel_rfl) (by simp [laidG]) h.1 h.2 (by omega) rfl
theorem nums_fun (l : List Int) (bs : List UInt8) (hok : ∀ n ∈ l, okI n) (hll : l.length ≤ 1000) (hbl : bs.length ≤ 100000000) : FunR Tryd.prog 39 [.sh 1 (l.map intC), .adr 0 0 0] [(0, ⟨false, 71, 1, [[.als 1 0 (bs).length]], false⟩), (1, ⟨true, 5, 1, (bs).map byteC, true⟩)] 2 (Ret (.tup []) [(0, ⟨false, 71, 1, [[.als 2 0 (bs ++ numsT l).length]], false⟩), (2, ⟨true, 5, 1, (bs ++ numsT l).map byteC, true⟩)]) := by
  refine FunR.of (nt := 17) (rs := []) Tryd.func39 rfl rfl rfl rfl rfl ?_
  refine Ev.weaken (Wk.mv 0 []) ?_
  refine Ev.sr fun K hK => S.o q.mv (S.o (q.lens am_el62) (S.o q.mv (S.end (hK _ ?_))))
  clear hK K
  refine Ev.block ?_
  refine Ev.loopR (ι := {p : List (Int) × List (Int) // p.1 ++ p.2 = l ∧ True}) [0, 1, 2] [1, 5, 6] (fun ⟨(pre, suf), _⟩ => [(7, .lit (.int .i64 ((pre.length : Int))))]) (fun ⟨(pre, suf), _⟩ => [(0, ⟨false, 71, 1, [[.als 2 0 (bs ++ numsT pre).length]], false⟩), (2, ⟨true, 5, 1, (bs ++ numsT pre).map byteC, true⟩)]) (fun ⟨(pre, suf), _⟩ => suf.length) ⟨([], l), rfl, trivial⟩ (.c (.c (.c .n))) (kR_d (he := (by first | rfl | (rw [numsT_snoc]; simp only [List.append_assoc]; done) | (simp [numsT]; done))) (h := (kR_g (h := (kR_c (he := (by first | rfl | (rw [numsT_snoc]; simp only [List.append_assoc]; done) | (simp [numsT]; done))) (h := kR_n)))))) (slots_c (he := (by first | rfl | (congr 2; simp; done))) (h := trivial)) ?_
  rintro ⟨⟨pre, suf⟩, hp, hinv⟩ R0 hR0
  dsimp only [List.cons_append, List.nil_append, List.length_cons, List.length_nil]
  simp only at hp hinv
  have hpl : pre.length + suf.length = (l).length := by rw [← hp, List.length_append]
  rcases suf with _ | ⟨s, suf⟩
  · rw [List.append_nil] at hp; simp only [List.length_nil] at hpl
    subst hp
    refine Ev.sr fun K hK => S.o q.lss (S.end (hK _ ?_))
    clear hK K
    refine Ev.ud (fun c1 => ?_) (fun c1 => ?_)
    · first | omega | contradiction | (exfalso; simp at *; done)
    · first
    | (first | omega | contradiction)
    | refine Ev.exit ?_
      refine hR0 _ _ ?_
      show endR _ _ _ _ Exit.ret _
      refine Ev.rr0 [0, 1, 2] (keepR_d (h := (keepR_g (h := (keepR_c (h := keepR_n)))))) (leadsB rfl) ?_
      refine ⟨?_, ?_⟩
      all_goals first | rfl | (rw [← hp]; done)
  · simp only [List.length_cons] at hpl
    have hidx : l[pre.length]? = some s := by rw [← hp]; simp
    have hs := hok s (by rw [← hp]; simp)
    have hpn := numsT_len pre (fun x hx => hok x (by rw [← hp]; simp [hx]))
    have hbb : (bs ++ numsT pre).length = bs.length + (numsT pre).length := List.length_append
    refine Ev.sr fun K hK => S.o q.lss (S.end (hK _ ?_))
    clear hK K
    refine Ev.ud (fun c2 => ?_) (fun c2 => ?_)
    · first
    | (first | omega | contradiction)
    | refine Ev.seq ?_
      refine Ev.block ?_
      refine Ev.sr fun K hK => S.o (q.ix am_el62 am_cl3 (hl := (by first | exact ati hidx (by omega) | exact atig (by omega)))) (S.o (q.ls am_ag3) (S.o q.as (S.end (hK _ ?_))))
      clear hK K
      refine Ev.region_S fun K hK => S.o (q.lv am_ag71) (S.nn (q.bs [[_]] true am_el71 am_ze5 am_cl5) (S.ap' [_, _] am_el71 am_ze5 am_cl5 am_by5 (hh := head_own') (hr := (rows_lit [(32 : UInt8)])) (h := S.o q.mv (S.cR [4] 6 [_, _, _] (hob := (keep_c (he := rfl) (h := keep_n))) (hF := appI_fun _ s _ rfl hs (by simp only [List.length_append, List.length_singleton]; omega)) (hn' := belowL rfl rfl) (h := S.sv [_] false [_, _] am_in71 am_cl71 (h := S.end (hK _ ?_)))))))
      clear hK K
      show Ev _ _ _ _
      refine Ev.region_S fun K hK => S.o q.add (S.o q.mv (S.end (hK _ ?_)))
      clear hK K
      refine hR0 _ _ ?_
      refine roundR [0, 1, 5] [1, 5, 6] ⟨(pre ++ [s], suf), by rw [← hp]; simp, ?_⟩ ?_ (kR_d (he := (by first | rfl | (rw [numsT_snoc]; simp only [List.append_assoc]; done) | (simp [numsT]; done))) (h := (kR_g (h := (kR_c (he := (by first | rfl | (rw [numsT_snoc]; simp only [List.append_assoc]; done) | (simp [numsT]; done))) (h := kR_n)))))) (slots_c (he := (by first | rfl | (congr 2; simp; done))) (h := trivial)) (.c (.c (.c .n)))
      trivial
      all_goals (dsimp only; simp only [List.length_cons]; omega)
    · first | omega | contradiction | (exfalso; simp at *; done)

def stepsT (l : List (Int × Int)) : List UInt8 := l.flatMap fun s => numsT [s.1, s.2]
theorem stepsT_snoc (l : List (Int × Int)) (x y : Int) : stepsT (l ++ [(x, y)]) = stepsT l ++ numsT [x, y] := by simp [stepsT]
def headT (d : Dem) : List UInt8 := ([100, 101, 109, 97, 110, 100, 32] ++ d.name ++ [32, 121]) ++ numsT [d.zone.ly, d.zone.hy] ++ [32, 122] ++ numsT [d.zone.lz, d.zone.hz]
def textD (d : Dem) : List UInt8 := headT d ++ stepsT d.steps ++ [10]
def textL (l : List Dem) : List UInt8 := l.flatMap textD
theorem textL_snoc (l : List Dem) (d : Dem) : textL (l ++ [d]) = textL l ++ (headT d ++ stepsT d.steps ++ [10]) := by simp [textL, textD]
theorem okI_of {n : Int} (h : -1099511627776 ≤ n ∧ n ≤ 1099511627776) : okI n := ⟨by omega, by omega⟩
theorem nums2_len {x y : Int} (hx : okI x) (hy : okI y) : (numsT [x, y]).length ≤ 44 := by
  have := numsT_len [x, y] (fun n hn => by simp only [List.mem_cons, List.not_mem_nil, or_false] at hn; rcases hn with rfl | rfl <;> assumption)
  simpa using this
theorem zone_okI {b : Bx} (h : okBx b) : okI b.ly ∧ okI b.hy ∧ okI b.lz ∧ okI b.hz := by
  obtain ⟨h1, ⟨h2, h3, h4⟩, h5, h6, h7⟩ := h
  exact ⟨okI_of (by omega), okI_of (by omega), okI_of (by omega), okI_of (by omega)⟩
theorem stp_okI {s : Int × Int} (h : okStp s) : okI s.1 ∧ okI s.2 := by
  obtain ⟨⟨h1, h2⟩, h3, h4⟩ := h
  exact ⟨okI_of (by omega), okI_of (by omega)⟩
theorem okI2 {x y : Int} (hx : okI x) (hy : okI y) : ∀ n ∈ [x, y], okI n := fun n hn => by simp only [List.mem_cons, List.not_mem_nil, or_false] at hn; rcases hn with rfl | rfl <;> assumption
theorem stepsT_len : ∀ l : List (Int × Int), (∀ s ∈ l, okStp s) → (stepsT l).length ≤ 44 * l.length := by
  refine snoc_ind (fun _ => by simp [stepsT]) ?_
  rintro l ⟨x, y⟩ ih h
  have h1 := ih fun s hs => h s (by simp [hs])
  obtain ⟨h2, h3⟩ := stp_okI (h (x, y) (by simp))
  have h4 : (numsT [x, y]).length ≤ 44 := nums2_len h2 h3
  rw [stepsT_snoc]
  simp only [List.length_append, List.length_singleton]
  omega
theorem headT_len {d : Dem} (h : okDem d) : (headT d).length ≤ 200 := by
  obtain ⟨h1, h2, h3⟩ := h
  obtain ⟨i1, i2, i3, i4⟩ := zone_okI h2
  have j1 := nums2_len i1 i2
  have j2 := nums2_len i3 i4
  have j3 := h1.2.1
  simp only [headT, List.length_append, List.length_cons, List.length_nil]
  omega
theorem textL_len : ∀ l : List Dem, (∀ d ∈ l, okDem d) → (textL l).length ≤ 10000 * l.length := by
  refine snoc_ind (fun _ => by simp [textL]) ?_
  intro l d ih h
  have h1 := ih fun s hs => h s (by simp [hs])
  have h2 := headT_len (h d (by simp))
  have h3 := stepsT_len d.steps (h d (by simp)).2.2.2.1
  have h4 := (h d (by simp)).2.2.1
  rw [textL_snoc]
  simp only [List.length_append, List.length_singleton]
  omega
def txV (l : List Dem) : List UInt8 := if okDems l then textL l else []
def txE (l : List Dem) : Int := if okDems l then 0 else 1
theorem demText_fun (l : List Dem) (hlen : l.length ≤ 140737488355328) (hw : demW l) : Fun Tryd.prog 19 [.sh 8 (l.map Dem.c)] (Ret (.tup [.lit (str (txV l)), .lit (.int .i64 (txE l))]) []) := by
  refine Fun.of (nt := 71) (rs := [.tmp 2, .tmp 3]) Tryd.func19 rfl rfl rfl rfl rfl ?_
  refine Ev.sr fun K hK => S.o q.as (S.o q.as (S.end (hK _ ?_)))
  clear hK K
  refine Ev.seq ?_
  refine Ev.sr fun K hK => S.o q.mv (S.c0 (hF := demValid_fun _ (by omega) (by assumption)) (h := S.o q.not (S.end (hK _ ?_))))
  clear hK K
  refine Ev.cn (fun c1 => ?_) (fun c1 => ?_)
  · first
  | (first | omega | contradiction)
  | rw [show txV l = [] from if_neg ‹_›, show txE l = 1 from if_neg ‹_›]
    refine Ev.sr fun K hK => S.o q.as (S.o q.as (S.end (hK _ ?_)))
    clear hK K
    refine Ev.ret ?_
    refine Ev.ret2 ?_
    refine ⟨?_, rfl⟩
    all_goals first | rfl | (simp; done)
  · first
  | (first | omega | contradiction)
  | refine Ev.skip ?_
    show Ev _ _ _ _
    have hok : okDems l := ‹okDems l›
    have hl20 := hok.1
    rw [show txV l = textL l from if_pos hok, show txE l = 0 from if_pos hok]
    refine Ev.sr fun K hK => S.nn (q.al am_ze71) (S.end (hK _ ?_))
    clear hK K
    refine Ev.sr fun K hK => S.o q.mf (S.o q.as (S.end (hK _ ?_)))
    clear hK K
    refine Ev.seq ?_
    refine Ev.weaken (Wk.nilv (f := byteC) 0 0 5 1 []) ?_
    refine Ev.sr fun K hK => S.o q.mv (S.o (q.lens am_el22) (S.o q.mv (S.end (hK _ ?_))))
    clear hK K
    refine Ev.block ?_
    refine Ev.loopU (ι := {p : List (Dem) × List (Dem) // p.1 ++ p.2 = l ∧ True}) [0, 1] [2, 3, 4, 5, 14, 15] (fun ⟨(pre, suf), _⟩ => [(16, .lit (.int .i64 ((pre.length : Int))))]) (fun ⟨(pre, suf), _⟩ => [(0, ⟨false, 71, 1, [[.als 1 0 (textL pre).length]], false⟩), (1, ⟨true, 5, 1, (textL pre).map byteC, true⟩)]) (fun ⟨(pre, suf), _⟩ => suf.length) ⟨([], l), rfl, trivial⟩ (.c (.c (.c (.c (.c (.c .n)))))) (keep_d (he := (by first | rfl | (rw [textL_snoc]; simp only [List.append_assoc]; done) | (simp [textL]; done))) (h := (keep_c (he := (by first | rfl | (rw [textL_snoc]; simp only [List.append_assoc]; done) | (simp [textL]; done))) (h := keep_n)))) (slots_c (he := (by first | rfl | (congr 2; simp; done))) (h := trivial)) ?_
    rintro ⟨⟨pre, suf⟩, hp, hinv⟩ R0 hR0
    dsimp only [List.cons_append, List.nil_append, List.length_cons, List.length_nil]
    simp only at hp hinv
    have hpl : pre.length + suf.length = (l).length := by rw [← hp, List.length_append]
    rcases suf with _ | ⟨s, suf⟩
    · rw [List.append_nil] at hp; simp only [List.length_nil] at hpl
      subst hp
      refine Ev.sr fun K hK => S.o q.lss (S.end (hK _ ?_))
      clear hK K
      refine Ev.ud (fun c2 => ?_) (fun c2 => ?_)
      · first | omega | contradiction | (exfalso; simp at *; done)
      · first
      | (first | omega | contradiction)
      | refine Ev.exit ?_
        refine hR0 _ _ ?_
        show Ev _ _ _ _
        refine Ev.sr fun K hK => S.o (q.lv am_ag71) (S.cstr (textL pre) (by kernel_rfl : Tryd.prog.underlying 71 = some (.slice 5)) (by kernel_rfl : Tryd.prog.underlying 5 = some (.int .u8)) (by kernel_rfl : Tryd.prog.underlying 9 = some .string) (hrows := rfl) (h := S.o q.as (S.o q.as (S.end (hK _ ?_)))))
        clear hK K
        refine Ev.ret ?_
        refine Ev.ret2 ?_
        refine ⟨?_, rfl⟩
        all_goals first | rfl | (simp; done)
    · simp only [List.length_cons] at hpl
      have hidx : l[pre.length]? = some s := by rw [← hp]; simp
      have hds : okDem s := hok.2.1 s (by rw [← hp]; simp)
      obtain ⟨z1, z2, z3, z4⟩ := zone_okI hds.2.1
      have hnl := hds.1.2.1
      have hsl := hds.2.2.1
      have htl := textL_len pre (fun d hd => hok.2.1 d (by rw [← hp]; simp [hd]))
      have hhl := headT_len hds
      have k1 := nums2_len z1 z2
      have k2 := nums2_len z3 z4
      refine Ev.sr fun K hK => S.o q.lss (S.end (hK _ ?_))
      clear hK K
      refine Ev.ud (fun c3 => ?_) (fun c3 => ?_)
      · first
      | (first | omega | contradiction)
      | refine Ev.seq ?_
        refine Ev.block ?_
        refine Ev.sr fun K hK => S.o (q.ix am_el22 am_cl42 (hl := (by first | exact ati hidx (by omega) | exact atig (by omega)))) (S.o (q.lsA [_, _, _, _, _, _, _, _] am_ag42 am_cl42) (S.nn (q.al am_ze42) (S.sv [_, _, _, _, _, _, _, _] true [_, _] am_in42 am_cl42 (h := S.end (hK _ ?_)))))
        clear hK K
        refine Ev.sr fun K hK => S.o (q.lv am_ag71) (S.o (q.fa 0 am_fi42_0 am_cl9) (S.o (q.lv am_ag9) (S.o q.sadd (S.o q.sadd (S.aps [_, _] am_el71 am_un9 am_ze5 am_cl5 am_by5 (hh := (head_own' (f := byteC))) (h := S.sv [_] false [_, _] am_in71 am_cl71 (h := S.end (hK _ ?_))))))))
        clear hK K
        refine Ev.sr fun K hK => S.o q.mv (S.o (q.fa 1 am_fi42_1 am_cl26) (S.o (q.fa 1 am_fi26_0 am_cl24) (S.o (q.fa 2 am_fi24_1 am_cl3) (S.o (q.lv am_ag3) (S.o (q.fa 1 am_fi42_1 am_cl26) (S.o (q.fa 4 am_fi26_1 am_cl24) (S.o (q.fa 5 am_fi24_1 am_cl3) (S.o (q.lv am_ag3) (S.nn (q.bs [[_], [_]] true am_el62 am_ze3 am_cl3) ?_)))))))))
        refine SeqL.weaken (Wk.frzl (f := intC) [s.zone.ly, s.zone.hy] 35 [_, _, _]) ?_
        refine S.cR [0, 3] 6 [_, _, _] (hob := (keep_d (he := rfl) (h := (keep_c (he := rfl) (h := keep_n))))) (hF := nums_fun [s.zone.ly, s.zone.hy] _ (okI2 z1 z2) (by simp) (by simp only [List.length_append, List.length_cons, List.length_nil]; omega)) (hn' := belowL rfl rfl) (h := S.end (hK _ ?_))
        clear hK K
        refine Ev.sr fun K hK => S.o (q.lv am_ag71) (S.aps [_, _] am_el71 am_un9 am_ze5 am_cl5 am_by5 (hh := (head_own' (f := byteC))) (h := S.sv [_] false [_, _] am_in71 am_cl71 (h := S.end (hK _ ?_))))
        clear hK K
        refine Ev.sr fun K hK => S.o q.mv (S.o (q.fa 1 am_fi42_1 am_cl26) (S.o (q.fa 1 am_fi26_0 am_cl24) (S.o (q.fa 3 am_fi24_2 am_cl3) (S.o (q.lv am_ag3) (S.o (q.fa 1 am_fi42_1 am_cl26) (S.o (q.fa 4 am_fi26_1 am_cl24) (S.o (q.fa 6 am_fi24_2 am_cl3) (S.o (q.lv am_ag3) (S.nn (q.bs [[_], [_]] true am_el62 am_ze3 am_cl3) ?_)))))))))
        refine SeqL.weaken (Wk.frzl (f := intC) [s.zone.lz, s.zone.hz] 48 [_, _, _]) ?_
        refine S.cR [0, 6] 9 [_, _, _] (hob := (keep_d (he := rfl) (h := (keep_c (he := rfl) (h := keep_n))))) (hF := nums_fun [s.zone.lz, s.zone.hz] _ (okI2 z3 z4) (by simp) (by simp only [List.length_append, List.length_cons, List.length_nil]; omega)) (hn' := belowL rfl rfl) (h := S.end (hK _ ?_))
        clear hK K
        refine Ev.seq ?_
        refine Ev.sr fun K hK => S.o (q.fa 7 am_fi42_2 am_cl31) (S.o (q.lv am_ag31) (S.o (q.lens am_el31) (S.o q.mv (S.end (hK _ ?_)))))
        clear hK K
        refine Ev.block ?_
        refine Ev.loopU (ι := {p : List (Int × Int) × List (Int × Int) // p.1 ++ p.2 = s.steps}) [0, 8] [2, 3, 4, 5, 14, 15, 16, 51, 52] (fun ⟨(pre2, suf2), _⟩ => [(53, .lit (.int .i64 ((pre2.length : Int))))]) (fun ⟨(pre2, suf2), _⟩ => [(0, ⟨false, 71, 1, [[.als 1 0 (textL pre ++ headT s ++ stepsT pre2).length]], false⟩), (1, ⟨true, 5, 1, (textL pre ++ headT s ++ stepsT pre2).map byteC, true⟩)]) (fun ⟨(pre2, suf2), _⟩ => suf2.length) ⟨([], s.steps), rfl⟩ (.c (.c (.c (.c (.c (.c (.c (.c (.c .n))))))))) (keep_d (he := (by first | rfl | (rw [stepsT_snoc]; simp only [List.append_assoc]; done) | (simp [stepsT, headT]; done))) (h := (keep_c (he := (by first | rfl | (rw [stepsT_snoc]; simp only [List.append_assoc]; done) | (simp [stepsT, headT]; done))) (h := keep_n)))) (slots_c (he := (by first | rfl | (congr 2; simp; done))) (h := trivial)) ?_
        rintro ⟨⟨pre2, suf2⟩, hp2⟩ R2 hR2
        dsimp only [List.cons_append, List.nil_append, List.length_cons, List.length_nil]
        simp only at hp2
        have hpl2 : pre2.length + suf2.length = s.steps.length := by rw [← hp2, List.length_append]
        rcases suf2 with _ | ⟨q, suf2⟩
        · rw [List.append_nil] at hp2; simp only [List.length_nil] at hpl2
          subst hp2
          have hsl3 := stepsT_len s.steps hds.2.2.2.1
          refine Ev.sr fun K hK => S.o q.lss (S.end (hK _ ?_))
          clear hK K
          refine Ev.ud (fun c4 => ?_) (fun c4 => ?_)
          · first | omega | contradiction | (exfalso; simp at *; done)
          · first
          | (first | omega | contradiction)
          | refine Ev.exit ?_
            refine hR2 _ _ ?_
            show Ev _ _ _ _
            refine Ev.region_S fun K hK => S.o (q.lv am_ag71) (S.nn (q.bs [[_]] true am_el71 am_ze5 am_cl5) (S.ap' [_, _] am_el71 am_ze5 am_cl5 am_by5 (hh := head_own') (hr := (rows_lit [(10 : UInt8)])) (h := S.sv [_] false [_, _] am_in71 am_cl71 (h := S.end (hK _ ?_)))))
            clear hK K
            show Ev _ _ _ _
            refine Ev.region_S fun K hK => S.o q.add (S.o q.mv (S.end (hK _ ?_)))
            clear hK K
            refine hR0 _ _ ?_
            refine roundU [0, 3] [2, 3, 4, 5, 14, 15] ⟨(pre ++ [s], suf), by rw [← hp]; simp, ?_⟩ ?_ (keep_d (he := (by first | rfl | (rw [textL_snoc]; simp only [List.append_assoc]; done) | (simp [textL]; done))) (h := (keep_c (he := (by first | rfl | (rw [textL_snoc]; simp only [List.append_assoc]; done) | (simp [textL]; done))) (h := keep_n)))) (slots_c (he := (by first | rfl | (congr 2; simp; done))) (h := trivial)) (.c (.c (.c (.c (.c (.c .n))))))
            trivial
            all_goals (dsimp only; simp only [List.length_cons]; omega)
        · simp only [List.length_cons] at hpl2
          have hidx2 : s.steps[pre2.length]? = some q := by rw [← hp2]; simp
          obtain ⟨qx, qy⟩ := q
          obtain ⟨q1, q2⟩ := stp_okI (hds.2.2.2.1 (qx, qy) (by rw [← hp2]; simp))
          simp only at q1 q2
          have hsl3 := stepsT_len pre2 (fun x hx => hds.2.2.2.1 x (by rw [← hp2]; simp [hx]))
          have k3 := nums2_len q1 q2
          refine Ev.sr fun K hK => S.o q.lss (S.end (hK _ ?_))
          clear hK K
          refine Ev.ud (fun c5 => ?_) (fun c5 => ?_)
          · first
          | (first | omega | contradiction)
          | refine Ev.seq ?_
            refine Ev.block ?_
            refine Ev.sr fun K hK => S.o (q.ix am_el31 am_cl40 (hl := (by first | exact ati hidx (by omega) | exact ati hidx2 (by omega) | exact atig (by omega)))) (S.o (q.lsA [_, _] am_ag40 am_cl40) (S.nn (q.al am_ze40) (S.sv [_, _] true [_, _] am_in40 am_cl40 (h := S.end (hK _ ?_)))))
            clear hK K
            refine Ev.region_S fun K hK => S.o q.mv (S.o (q.fa 0 am_fi40_0 am_cl3) (S.o (q.lv am_ag3) (S.o (q.fa 1 am_fi40_1 am_cl3) (S.o (q.lv am_ag3) (S.nn (q.bs [[_], [_]] true am_el62 am_ze3 am_cl3) ?_)))))
            refine SeqL.weaken (Wk.frzl (f := intC) [qx, qy] 62 [_, _, _]) ?_
            refine S.cR [0, 1] 5 [_, _, _] (hob := (keep_d (he := rfl) (h := (keep_c (he := rfl) (h := keep_n))))) (hF := nums_fun [qx, qy] _ (okI2 q1 q2) (by simp) (by simp only [List.length_append, List.length_cons, List.length_nil]; omega)) (hn' := belowL rfl rfl) (h := S.end (hK _ ?_))
            clear hK K
            show Ev _ _ _ _
            refine Ev.region_S fun K hK => S.o q.add (S.o q.mv (S.end (hK _ ?_)))
            clear hK K
            refine hR2 _ _ ?_
            refine roundU [0, 4] [2, 3, 4, 5, 14, 15, 16, 51, 52] ⟨(pre2 ++ [(qx, qy)], suf2), by rw [← hp2]; simp⟩ ?_ (keep_d (he := (by first | rfl | (rw [stepsT_snoc]; simp only [List.append_assoc]; done) | (simp [stepsT, headT]; done))) (h := (keep_c (he := (by first | rfl | (rw [stepsT_snoc]; simp only [List.append_assoc]; done) | (simp [stepsT, headT]; done))) (h := keep_n)))) (slots_c (he := (by first | rfl | (congr 2; simp; done))) (h := trivial)) (.c (.c (.c (.c (.c (.c (.c (.c (.c .n)))))))))
            skip
            all_goals (dsimp only; simp only [List.length_cons]; omega)
          · first | omega | contradiction | (exfalso; simp at *; done)
      · first | omega | contradiction | (exfalso; simp at *; done)
end Go.Proofs.YthiockdlhehhoaaDoor
