/-
  Tags: the book and its methods, what they answer.
  Conditions: none.
-/
import Derived.Test.YthpjfkmhpoeojaaGreatDoorTgh
import Derived.Test.YthpjfkmhpoeojaaGreatDoorAmTree
import Derived.Test.YthpjfkmhpoeojaaGreatDoorAmSet

namespace Go.Proofs.YthpjfkmhpoeojaaGreatDoor
open Go Go.AM
set_option linter.unusedSimpArgs false
set_option linter.unusedVariables false
set_option maxRecDepth 100000
set_option maxHeartbeats 2000000
def boolC : Bool → List AV
  | b => [.lit (.bool b)]
def bkL (es : List Ent) : List Bundle := es.map (·.b)
def bkO (es : List Ent) : List Bool := es.map (·.off)
theorem bkL_len (es : List Ent) : (bkL es).length = es.length := List.length_map ..
theorem bkO_len (es : List Ent) : (bkO es).length = es.length := List.length_map ..
theorem bkL_at {es : List Ent} {i : Nat} {e : Ent} (h : es[i]? = some e) : (bkL es)[i]? = some e.b := by unfold bkL; rw [List.getElem?_map, h]; rfl
theorem bkO_at {es : List Ent} {i : Nat} {e : Ent} (h : es[i]? = some e) : (bkO es)[i]? = some e.off := by unfold bkO; rw [List.getElem?_map, h]; rfl
theorem idxP_map {T U : Type} (f : T → U) (p : U → Bool) : ∀ (l : List T) (k : Int), idxP p (l.map f) k = idxP (fun x => p (f x)) l k
  | [], _ => rfl
  | x :: l, k => by
    show (if p (f x) = true then k else idxP p (l.map f) (k + 1)) = (if p (f x) = true then k else idxP (fun x => p (f x)) l (k + 1))
    rw [idxP_map f p l (k + 1)]
theorem tagI_bk (es : List Ent) (t : List UInt8) : tagI (bkL es) t = tgI es t := idxP_map _ _ _ _
theorem bkL_new (es : List Ent) (l : List Bundle) : bkL (es ++ l.map newE) = bkL es ++ l := by
  unfold bkL
  rw [List.map_append, List.map_map]
  congr 1
  exact List.map_id _
theorem bkO_new (es : List Ent) (l : List Bundle) : bkO (es ++ l.map newE) = bkO es ++ List.replicate l.length false := by
  unfold bkO
  rw [List.map_append, List.map_map]
  congr 1
  induction l with
  | nil => rfl
  | cons x l ih => rw [List.map_cons, ih]; rfl
theorem bkL_off {es : List Ent} {i : Nat} {e : Ent} (h : es[i]? = some e) : bkL (es.set i (offE e)) = bkL es := by
  unfold bkL
  rw [List.map_set]; refine List.ext_getElem? fun j => ?_; rw [List.getElem?_set]
  split
  · rename_i hj
    subst hj
    split
    · rw [List.getElem?_map, h]; rfl
    · rename_i hj
      rw [List.length_map] at hj; exact absurd (List.getElem?_eq_some_iff.1 h).1 hj
  · rfl
theorem bkO_off (es : List Ent) (i : Nat) (e : Ent) : bkO (es.set i (offE e)) = (bkO es).set i true := by unfold bkO; rw [List.map_set]; rfl
theorem rState_fun (es : List Ent) (t : List UInt8) (hl : es.length ≤ 1000000) : Fun Tryz.prog 25 [.agg [.sh 4 ((bkL (es)).map Bundle.c), .sh 1 ((bkO (es)).map boolC)], .lit (str t)] (Ret (.lit (.int .i64 (staV es t))) []) := by
  have hbl := bkL_len es; have hol := bkO_len es; refine Fun.of (nt := 17) (rs := [.tmp 4]) Tryz.func25 rfl rfl rfl rfl rfl ?_; refine Ev.sr fun K hK => S.nn (q.bx [_, _] true) (S.o q.as (S.end (hK _ ?_))); clear hK K; refine Ev.sr fun K hK => S.o (q.fa 0 am_fi30_0 am_cl27) (S.o (q.lv am_ag27) (S.o q.mv (S.c0 (hF := rBfind_fun (bkL es) t (by omega)) (h := ?_)))); rw [tagI_bk]; refine S.o q.as (S.end (hK _ ?_)); clear hK K; refine Ev.seq ?_; refine Ev.sr fun K hK => S.o q.mv (S.o q.lss (S.end (hK _ ?_))); clear hK K; refine Ev.cd (fun c1 => ?_) (fun c1 => ?_)
  · first
  | omega | contradiction
  | rw [(at_none (es := es) (t := t) (by omega)).2.2.1]; refine Ev.sr fun K hK => S.o q.as (S.end (hK _ ?_)); clear hK K; refine Ev.ret ?_; refine Ev.ret1 ?_; refine ⟨?_, rfl⟩; rfl
  · first
  | omega | contradiction
  | refine Ev.skip ?_; show Ev _ _ _ _; refine Ev.seq ?_; obtain ⟨en, hen, hent, hge, hlt⟩ := tgI_at (es := es) (t := t) (by omega); have hio := bkO_at hen; refine Ev.sr fun K hK => S.o (q.fa 1 am_fi30_1 am_cl28) (S.o (q.lv am_ag28) (S.o q.mv (S.o (q.ix am_el28 am_cl4 (hl := (by first | exact ati hio (by omega) | exact atig (by omega)))) (S.o (q.ls am_ag4) (S.end (hK _ ?_)))))); clear hK K; refine Ev.c (fun c2 => ?_) (fun c2 => ?_)
    · first
    | omega | contradiction
    | rw [(at_off (by omega) hen ‹_›).2.2.1]; refine Ev.sr fun K hK => S.o q.as (S.end (hK _ ?_)); clear hK K; refine Ev.ret ?_; refine Ev.ret1 ?_; refine ⟨?_, rfl⟩; rfl
    · first
    | omega | contradiction
    | refine Ev.skip ?_; show Ev _ _ _ _; rw [(at_on (by omega) hen ‹_›).2.2.1]; refine Ev.sr fun K hK => S.o q.as (S.end (hK _ ?_)); clear hK K; refine Ev.ret ?_; refine Ev.ret1 ?_; refine ⟨?_, rfl⟩; rfl
theorem rOpen_fun (es : List Ent) (hl : es.length ≤ 1000000) : Fun Tryz.prog 22 [.agg [.sh 4 ((bkL (es)).map Bundle.c), .sh 1 ((bkO (es)).map boolC)]] (Ret (.sh 4 ((openL es).map Bundle.c)) []) := by
  have hbl := bkL_len es; have hol := bkO_len es; refine Fun.of (nt := 27) (rs := [.tmp 2]) Tryz.func22 rfl rfl rfl rfl rfl ?_; refine Ev.sr fun K hK => S.nn (q.bx [_, _] true) (S.o q.as (S.end (hK _ ?_))); clear hK K; refine Ev.sr fun K hK => S.o q.as (S.end (hK _ ?_)); clear hK K; refine Ev.seq ?_; refine Ev.sr fun K hK => S.o q.as (S.end (hK _ ?_)); clear hK K; refine Ev.block ?_; refine Ev.weaken (Wk.nown Bundle.c 3 53 4) ?_; refine Ev.loopU (ι := {p : List (Ent) × List (Ent) // p.1 ++ p.2 = es ∧ True}) [0, 1] [1, 2] (fun ⟨(pre, suf), _⟩ => [(4, .lit (.int .i64 ((pre.length : Int)))), (3, .als 1 0 (openL pre).length)]) (fun ⟨(pre, suf), _⟩ => [(0, ⟨false, 30, 2, [[.sh 4 ((bkL es).map Bundle.c), .sh 1 ((bkO es).map boolC)]], true⟩), (1, ⟨true, 53, 4, (openL pre).map Bundle.c, true⟩)]) (fun ⟨(pre, suf), _⟩ => suf.length) ⟨([], es), rfl, trivial⟩ (.c (.c .n)) (keep_c (he := (by first | rfl | (simp; done))) (h := (keep_c (he := (by first | rfl | (rw [openL_t ‹_›]; done) | (rw [openL_f ‹_›]; done))) (h := keep_n)))) (slots_c (he := (by first | rfl | (congr 2; simp; done))) (h := (slots_c (he := (by first | rfl | (rw [openL_t ‹_›]; done) | (rw [openL_f ‹_›]; done))) (h := trivial)))) ?_; rintro ⟨⟨pre, suf⟩, hp, hinv⟩ R0 hR0; dsimp only [List.cons_append, List.nil_append, List.length_cons, List.length_nil]
  simp only at hp hinv
  have hpl : pre.length + suf.length = (es).length := by rw [← hp, List.length_append]
  rcases suf with _ | ⟨s, suf⟩
  · rw [List.append_nil] at hp; simp only [List.length_nil] at hpl; subst hp; refine Ev.seq ?_; refine Ev.sr fun K hK => S.o q.mv (S.o (q.fa 0 am_fi30_0 am_cl27) (S.o (q.lv am_ag27) (S.o (q.lens am_el27) (S.o q.lss (S.end (hK _ ?_)))))); clear hK K; refine Ev.cd (fun c1 => ?_) (fun c1 => ?_)
    · first | omega | contradiction | (exfalso; simp at *; done)
    · first
    | omega | contradiction
    | refine Ev.exit ?_; refine hR0 _ _ ?_; show Ev _ _ _ _; refine Ev.sr fun K hK => S.o q.mv (S.o q.as (S.end (hK _ ?_))); clear hK K; refine Ev.weaken (Wk.frz 2 [_]) ?_; refine Ev.ret ?_; refine Ev.ret1 ?_; refine ⟨?_, rfl⟩
      all_goals first | rfl | (simp; done)
  · simp only [List.length_cons] at hpl
    have hids : es[pre.length]? = some s := by rw [← hp]; simp
    have hidx := bkL_at hids; have hidy := bkO_at hids; have hopl := openL_len pre; refine Ev.seq ?_; refine Ev.sr fun K hK => S.o q.mv (S.o (q.fa 0 am_fi30_0 am_cl27) (S.o (q.lv am_ag27) (S.o (q.lens am_el27) (S.o q.lss (S.end (hK _ ?_)))))); clear hK K; refine Ev.cd (fun c2 => ?_) (fun c2 => ?_)
    · first
    | omega | contradiction
    | refine Ev.skip ?_; show Ev _ _ _ _; refine Ev.seq ?_; refine Ev.block ?_; refine Ev.sr fun K hK => S.o (q.fa 1 am_fi30_1 am_cl28) (S.o (q.lv am_ag28) (S.o q.mv (S.o (q.ix am_el28 am_cl4 (hl := (by first | exact ati hidx (by omega) | exact ati hidy (by omega) | exact atig (by omega)))) (S.o (q.ls am_ag4) (S.o q.not (S.end (hK _ ?_))))))); clear hK K; refine Ev.c (fun c3 => ?_) (fun c3 => ?_)
      · first
      | omega | contradiction
      | refine Ev.region_S fun K hK => S.o q.mv (S.o (q.fa 0 am_fi30_0 am_cl27) (S.o (q.lv am_ag27) (S.o q.mv (S.o (q.ix am_el27 am_cl53 (hl := (by first | exact ati hidx (by omega) | exact ati hidy (by omega) | exact atig (by omega)))) (S.o (q.lsA [_, _, _, _] am_ag53 am_cl53) (S.nn (q.bs [[_, _, _, _]] true am_el27 am_ze53 am_cl53) (S.ap' [_, _] am_el27 am_ze53 am_cl53 am_by53 (hh := head_own') (hr := (rows_lit [s.b])) (h := S.o q.as (S.end (hK _ ?_)))))))))); clear hK K; show Ev _ _ _ _; refine Ev.region_S fun K hK => S.o q.mv (S.o q.add (S.o q.as (S.end (hK _ ?_)))); clear hK K; refine hR0 _ _ ?_; refine roundU [0, 3] [1, 2] ⟨(pre ++ [s], suf), by rw [← hp]; simp, ?_⟩ ?_ (keep_c (he := (by first | rfl | (simp; done))) (h := (keep_c (he := (by first | rfl | (rw [openL_t ‹_›]; done) | (rw [openL_f ‹_›]; done))) (h := keep_n)))) (slots_c (he := (by first | rfl | (congr 2; simp; done))) (h := (slots_c (he := (by first | rfl | (rw [openL_t ‹_›]; done) | (rw [openL_f ‹_›]; done))) (h := trivial)))) (.c (.c .n)); trivial; all_goals (dsimp only; simp only [List.length_cons]; omega)
      · first
      | omega | contradiction
      | refine Ev.skip ?_; show Ev _ _ _ _; refine Ev.region_S fun K hK => S.o q.mv (S.o q.add (S.o q.as (S.end (hK _ ?_)))); clear hK K; refine hR0 _ _ ?_; refine roundU [0, 1] [1, 2] ⟨(pre ++ [s], suf), by rw [← hp]; simp, ?_⟩ ?_ (keep_c (he := (by first | rfl | (simp; done))) (h := (keep_c (he := (by first | rfl | (rw [openL_t ‹_›]; done) | (rw [openL_f ‹_›]; done))) (h := keep_n)))) (slots_c (he := (by first | rfl | (congr 2; simp; done))) (h := (slots_c (he := (by first | rfl | (rw [openL_t ‹_›]; done) | (rw [openL_f ‹_›]; done))) (h := trivial)))) (.c (.c .n)); trivial; all_goals (dsimp only; simp only [List.length_cons]; omega)
    · first | omega | contradiction | (exfalso; simp at *; done)
theorem rNew_fun (es : List Ent) (hl : es.length ≤ 1000000) : Fun Tryz.prog 46 [.sh 4 ((bkL es).map Bundle.c)] (Ret (.lit (str (tagN (newN es)))) []) := by
  have hbl := bkL_len es; refine Fun.of (nt := 15) (rs := [.tmp 2]) Tryz.func46 rfl rfl rfl rfl rfl ?_; refine Ev.sr fun K hK => S.o q.as (S.end (hK _ ?_)); clear hK K; refine Ev.sr fun K hK => S.o q.as (S.end (hK _ ?_)); clear hK K; refine Ev.seq ?_; refine Ev.block ?_; refine Ev.loopU (ι := {n : Int // 1 ≤ n ∧ ∀ m, 1 ≤ m → m < n → used es m}) [] [0, 2] (fun ⟨n, _⟩ => [(3, .lit (.int .i64 (n)))]) (fun ⟨n, _⟩ => []) (fun ⟨n, _⟩ => (es.length + 2 - n).toNat) ⟨1, Int.le_refl 1, fun m h1 h2 => by omega⟩ (.c (.c .n)) keep_n (slots_c (he := (by first | rfl | (simp; done) | (congr 2; omega))) (h := trivial)) ?_; rintro ⟨n, hn1, hn2⟩ R0 hR0; dsimp only [List.cons_append, List.nil_append, List.length_cons, List.length_nil]; have hnb := used_bd hn2; have hil := itoa_len (N := n) (by omega) (by omega); refine Ev.seq ?_; refine Ev.sr fun K hK => S.o q.mv (S.o q.mv (S.c0 (hF := format_fun n (by omega) (by omega)) (h := S.o q.sadd (S.c0 (hF := rBfind_fun (bkL es) (tagN n) (by omega)) (h := ?_))))); rw [tagI_bk]; refine S.o q.geq (S.end (hK _ ?_)); clear hK K; refine Ev.cd (fun c1 => ?_) (fun c1 => ?_)
  · first
  | omega | contradiction
  | refine Ev.skip ?_; show Ev _ _ _ _; refine Ev.block ?_; refine Ev.region_S fun K hK => S.o q.mv (S.o q.add (S.o q.as (S.end (hK _ ?_)))); clear hK K; refine hR0 _ _ ?_; refine roundU [] [0, 2] ⟨n + 1, by omega, ?_⟩ ?_ keep_n (slots_c (he := (by first | rfl | (simp; done) | (congr 2; omega))) (h := trivial)) (.c (.c .n))
    intro m h1 h2; rcases Int.lt_or_le m n with h3 | h3
    · exact hn2 m h1 h3
    · rw [show m = n by omega]; exact (show 0 ≤ tgI _ _ from ‹tgI es (tagN n) ≥ 0›)
    all_goals (dsimp only; omega)
  · first
  | omega | contradiction
  | refine Ev.exit ?_; refine hR0 _ _ ?_; show Ev _ _ _ _; have hnn : newN es = n := newN_eq hn1 (by show ¬ (0 ≤ tgI _ _); omega) hn2; rw [hnn]; refine Ev.sr fun K hK => S.o q.mv (S.c0 (hF := format_fun n (by omega) (by omega)) (h := S.o q.sadd (S.o q.as (S.end (hK _ ?_))))); clear hK K; refine Ev.ret ?_; refine Ev.ret1 ?_; refine ⟨?_, rfl⟩
    all_goals first | rfl | (simp; done)
theorem rCancel_fun (es : List Ent) (t : List UInt8) (hl : es.length ≤ 1000000) : Fun Tryz.prog 26 [.agg [.sh 4 ((bkL (es)).map Bundle.c), .sh 1 ((bkO (es)).map boolC)], .lit (str t)] (Ret (.tup [.agg [.sh 4 ((bkL (canV es t)).map Bundle.c), .sh 1 ((bkO (canV es t)).map boolC)], .lit (.int .i64 (canE es t))]) []) := by
  have hbl := bkL_len es; have hol := bkO_len es; refine Fun.of (nt := 33) (rs := [.cell 4 30, .tmp 5]) Tryz.func26 rfl rfl rfl rfl rfl ?_; refine Ev.sr fun K hK => S.nn (q.bx [_, _] true) (S.nn (q.al am_ze30) (S.o q.as (S.end (hK _ ?_)))); clear hK K; refine Ev.sr fun K hK => S.o (q.fa 0 am_fi30_0 am_cl27) (S.o (q.lv am_ag27) (S.o q.mv (S.c0 (hF := rBfind_fun (bkL es) t (by omega)) (h := ?_)))); rw [tagI_bk]; refine S.o q.as (S.end (hK _ ?_)); clear hK K; refine Ev.seq ?_; refine Ev.sr fun K hK => S.o q.mv (S.o q.lss (S.end (hK _ ?_))); clear hK K; refine Ev.cd (fun c1 => ?_) (fun c1 => ?_)
  · first
  | omega | contradiction
  | obtain ⟨e1, e2, _, _⟩ := at_none (es := es) (t := t) (by omega); rw [e1, e2]; refine Ev.sr fun K hK => S.o (q.lvA [_, _] am_ag30 am_cl30) (S.sv [_, _] true [_] am_in30 am_cl30 (h := S.o q.as (S.end (hK _ ?_)))); clear hK K; refine Ev.ret ?_; refine Ev.retv2 (res_c [_, _] am_ag30 am_cl30 (res_t res_n)) ?_; refine ⟨?_, rfl⟩
    all_goals first | rfl | (simp; done)
  · first
  | omega | contradiction
  | refine Ev.skip ?_; show Ev _ _ _ _; refine Ev.seq ?_; obtain ⟨en, hen, hent, hge, hlt⟩ := tgI_at (es := es) (t := t) (by omega); have hio := bkO_at hen; refine Ev.sr fun K hK => S.o (q.fa 1 am_fi30_1 am_cl28) (S.o (q.lv am_ag28) (S.o q.mv (S.o (q.ix am_el28 am_cl4 (hl := (by first | exact ati hio (by omega) | exact atig (by omega)))) (S.o (q.ls am_ag4) (S.end (hK _ ?_)))))); clear hK K; refine Ev.c (fun c2 => ?_) (fun c2 => ?_)
    · first
    | omega | contradiction
    | obtain ⟨e1, e2, _, _⟩ := at_off (by omega) hen ‹_›; rw [e1, e2]; refine Ev.sr fun K hK => S.o (q.lvA [_, _] am_ag30 am_cl30) (S.sv [_, _] true [_] am_in30 am_cl30 (h := S.o q.as (S.end (hK _ ?_)))); clear hK K; refine Ev.ret ?_; refine Ev.retv2 (res_c [_, _] am_ag30 am_cl30 (res_t res_n)) ?_; refine ⟨?_, rfl⟩
      all_goals first | rfl | (simp; done)
    · first
    | omega | contradiction
    | refine Ev.skip ?_; show Ev _ _ _ _; refine Ev.weaken (Wk.frzv 2 [_]) ?_; obtain ⟨e1, e2, _, _⟩ := at_on (by omega) hen ‹_›; rw [e1, e2, bkL_off hen, bkO_off]; have hz : (([] : List Bool) ++ bkO es).length = es.length := hol; have hio2 : (([] : List Bool) ++ bkO es)[(tgI es t).toNat]? = some en.off := hio; refine Ev.stp (m := 9) (L0 := #[false, false, false, false, false, false, false, false, false]) rfl (by kernel_rfl) (by exact rfl) fun K hK => ?_; refine HP.fa (i := 0) am_fi30_0 (by rw [am_cl27]; decide) rfl (h := ?_); refine HP.ls1 (i := 1) am_ag27 rfl (h := ?_); refine HP.fa (i := 3) am_fi30_1 (by rw [am_cl28]; decide) rfl (h := ?_); refine HP.ls1 (i := 4) am_ag28 rfl (h := ?_); refine .done ?_; refine HT.two (i := 2) (j := 7) trivial rfl rfl (S.nn (v := .als 2 0 ([] : List (Bool)).length) (o := ⟨true, 4, 1, ([] : List (Bool)).map boolC, true⟩) (q.bs [] true am_el28 am_ze4 am_cl4) (S.end ?_)) (S.nn (q.al am_ze30) (S.end ?_))
      · skip; refine HT.two (i := 5) (j := 7) trivial rfl rfl (S.ap' [_] am_el28 am_ze4 am_cl4 am_by4 (hh := head_own') (hr := rows_sh) (h := S.end ?_)) (S.nn (q.al am_ze30) (S.end ?_))
        · skip; refine HT.two (i := 6) (j := 7) trivial rfl rfl (S.o (q.bd [_, _] am_ze30 am_pl30) (S.end ?_)) (S.nn (q.al am_ze30) (S.end ?_))
          · skip; refine HT.one (i := 7) trivial rfl (S.nn (q.al am_ze30) (S.end ?_)); refine HT.one (i := 8) trivial rfl (S.sv [_, _] false [_, _] am_in30 am_cl30 (h := S.end ?_)); refine HT.nil trivial (by kernel_rfl) (hK _ ?_); clear hK K; refine Ev.sr fun K hK => S.o (q.fa 1 am_fi30_1 am_cl28) (S.o (q.lv am_ag28) (S.o q.mv (S.o (q.ia am_el28 am_cl4) (S.sx true [_, _] am_in4 am_cl4 (hl := (by first | exact at_ hio (by omega) | exact at_g (by omega))) (h := S.end (hK _ ?_)))))); clear hK K; refine Ev.sr fun K hK => S.o (q.lvA [_, _] am_ag30 am_cl30) ?_; refine SeqL.weaken (Wk.frzA (f := boolC) ((bkO es).set (tgI es t).toNat true) 32 1 [_, _]) ?_; refine S.sv [_, _] true [_] am_in30 am_cl30 (h := S.o q.as (S.end (hK _ ?_))); clear hK K; refine Ev.ret ?_; refine Ev.retv2 (res_c [_, _] am_ag30 am_cl30 (res_t res_n)) ?_; refine ⟨?_, rfl⟩
            all_goals first | rfl | (simp; done)
          · skip; refine HT.one (i := 6) trivial rfl (S.o (q.bd [_, _] am_ze30 am_pl30) (S.end ?_)); refine HT.one (i := 8) trivial rfl (S.sv [_, _] false [_, _] am_in30 am_cl30 (h := S.end ?_)); refine HT.nil trivial (by kernel_rfl) (hK _ ?_); clear hK K; refine Ev.sr fun K hK => S.o (q.fa 1 am_fi30_1 am_cl28) (S.o (q.lv am_ag28) (S.o q.mv (S.o (q.ia am_el28 am_cl4) (S.sx true [_, _] am_in4 am_cl4 (hl := (by first | exact at_ hio (by omega) | exact at_g (by omega))) (h := S.end (hK _ ?_)))))); clear hK K; refine Ev.sr fun K hK => S.o (q.lvA [_, _] am_ag30 am_cl30) ?_; refine SeqL.weaken (Wk.frzA (f := boolC) ((bkO es).set (tgI es t).toNat true) 32 1 [_, _]) ?_; refine S.sv [_, _] true [_] am_in30 am_cl30 (h := S.o q.as (S.end (hK _ ?_))); clear hK K; refine Ev.ret ?_; refine Ev.retv2 (res_c [_, _] am_ag30 am_cl30 (res_t res_n)) ?_; refine ⟨?_, rfl⟩
            all_goals first | rfl | (simp; done)
        · skip; refine HT.one (i := 5) trivial rfl (S.ap' [_, _] am_el28 am_ze4 am_cl4 am_by4 (hh := head_own') (hr := rows_sh) (h := S.end ?_)); refine HT.one (i := 6) trivial rfl (S.o (q.bd [_, _] am_ze30 am_pl30) (S.end ?_)); refine HT.one (i := 8) trivial rfl (S.sv [_, _] false [_, _] am_in30 am_cl30 (h := S.end ?_)); refine HT.nil trivial (by kernel_rfl) (hK _ ?_); clear hK K; refine Ev.sr fun K hK => S.o (q.fa 1 am_fi30_1 am_cl28) (S.o (q.lv am_ag28) (S.o q.mv (S.o (q.ia am_el28 am_cl4) (S.sx true [_, _] am_in4 am_cl4 (hl := (by first | exact at_ hio (by omega) | exact at_g (by omega))) (h := S.end (hK _ ?_)))))); clear hK K; refine Ev.sr fun K hK => S.o (q.lvA [_, _] am_ag30 am_cl30) ?_; refine SeqL.weaken (Wk.frzA (f := boolC) ((bkO es).set (tgI es t).toNat true) 32 1 [_, _]) ?_; refine S.sv [_, _] true [_] am_in30 am_cl30 (h := S.o q.as (S.end (hK _ ?_))); clear hK K; refine Ev.ret ?_; refine Ev.retv2 (res_c [_, _] am_ag30 am_cl30 (res_t res_n)) ?_; refine ⟨?_, rfl⟩
          all_goals first | rfl | (simp; done)
      · skip; refine HT.one (i := 2) trivial rfl (S.nn (v := .als 3 0 ([] : List (Bool)).length) (o := ⟨true, 4, 1, ([] : List (Bool)).map boolC, true⟩) (q.bs [] true am_el28 am_ze4 am_cl4) (S.end ?_)); refine HT.one (i := 5) trivial rfl (S.ap' [_, _] am_el28 am_ze4 am_cl4 am_by4 (hh := head_own') (hr := rows_sh) (h := S.end ?_)); refine HT.one (i := 6) trivial rfl (S.o (q.bd [_, _] am_ze30 am_pl30) (S.end ?_)); refine HT.one (i := 8) trivial rfl (S.sv [_, _] false [_, _] am_in30 am_cl30 (h := S.end ?_)); refine HT.nil trivial (by kernel_rfl) (hK _ ?_); clear hK K; refine Ev.sr fun K hK => S.o (q.fa 1 am_fi30_1 am_cl28) (S.o (q.lv am_ag28) (S.o q.mv (S.o (q.ia am_el28 am_cl4) (S.sx true [_, _] am_in4 am_cl4 (hl := (by first | exact at_ hio (by omega) | exact at_g (by omega))) (h := S.end (hK _ ?_)))))); clear hK K; refine Ev.sr fun K hK => S.o (q.lvA [_, _] am_ag30 am_cl30) ?_; refine SeqL.weaken (Wk.frzA (f := boolC) ((bkO es).set (tgI es t).toNat true) 32 1 [_, _]) ?_; refine S.sv [_, _] true [_] am_in30 am_cl30 (h := S.o q.as (S.end (hK _ ?_))); clear hK K; refine Ev.ret ?_; refine Ev.retv2 (res_c [_, _] am_ag30 am_cl30 (res_t res_n)) ?_; refine ⟨?_, rfl⟩
        all_goals first | rfl | (simp; done)
end Go.Proofs.YthpjfkmhpoeojaaGreatDoor
namespace Go.Proofs.YthpjfkmhpoeojaaGreatDoor
open Go Go.AM
set_option linter.unusedSimpArgs false
set_option linter.unusedVariables false
set_option maxRecDepth 100000
set_option maxHeartbeats 2000000
theorem isu_none {es : List Ent} {l : List Bundle} (h : ∀ x ∈ l, tgI es x.tag < 0) : ¬ hasT es l := by
  rintro ⟨b, hb, h2⟩; have h3 : tgI es b.tag ≥ 0 := of_decide_eq_true h2; have := h b hb; omega
theorem rIssue_fun (es : List Ent) (l : List Bundle) (hl : es.length ≤ 100000) (hlen : l.length ≤ 100000) (hw : bunW l) : Fun Tryz.prog 24 [.agg [.sh 4 ((bkL (es)).map Bundle.c), .sh 1 ((bkO (es)).map boolC)], .sh 4 (l.map Bundle.c)] (Ret (.tup [.agg [.sh 4 ((bkL (isuV es l)).map Bundle.c), .sh 1 ((bkO (isuV es l)).map boolC)], .lit (.int .i64 (isuE es l))]) []) := by
  have hbl := bkL_len es; have hol := bkO_len es; refine Fun.of (nt := 57) (rs := [.cell 4 30, .tmp 5]) Tryz.func24 rfl rfl rfl rfl rfl ?_; refine Ev.sr fun K hK => S.nn (q.bx [_, _] true) (S.nn (q.al am_ze30) (S.o q.as (S.end (hK _ ?_)))); clear hK K; refine Ev.seq ?_; refine Ev.sr fun K hK => S.o q.mv (S.c0 (hF := rBvalid_fun l (by omega) hw) (h := S.o q.not (S.end (hK _ ?_)))); clear hK K; refine Ev.cn (fun c1 => ?_) (fun c1 => ?_)
  · first
  | omega | contradiction
  | obtain ⟨e1, e2⟩ := isu_arg (es := es) ‹¬ okBuns l›; rw [e1, e2]; refine Ev.sr fun K hK => S.o (q.lvA [_, _] am_ag30 am_cl30) (S.sv [_, _] true [_] am_in30 am_cl30 (h := S.o q.as (S.end (hK _ ?_)))); clear hK K; refine Ev.ret ?_; refine Ev.retv2 (res_c [_, _] am_ag30 am_cl30 (res_t res_n)) ?_; refine ⟨?_, rfl⟩
    all_goals first | rfl | (rw [e1, e2]; done) | (rw [e1, e2]; rfl) | (simp; done)
  · first
  | omega | contradiction
  | refine Ev.skip ?_; show Ev _ _ _ _; refine Ev.weaken (Wk.frzv 2 [_]) ?_; have hok : okBuns l := ‹_›; refine Ev.stpJ (m := 11) (nr := 4) (L0 := #[false, false, false, false, false, false, false, false, false, false, false]) [1, 2, 5] [(6, .adr 0 0 0), (4, .adr 3 0 0)] [(0, ⟨false, 30, 2, [[.als 1 0 (bkL es).length, .als 2 0 (bkO es).length]], false⟩), (1, ⟨true, 53, 4, (bkL es).map Bundle.c, true⟩), (2, ⟨true, 4, 1, (bkO es).map boolC, true⟩), (3, ⟨false, 30, 2, [[.lit (.slice none 0 0), .lit (.slice none 0 0)]], true⟩)] (.c (.c (.c .n))) rfl (by kernel_rfl) (by exact rfl) (fun K hK => ?_) ?_
    · skip; refine HP.fa (i := 1) am_fi30_0 (by rw [am_cl27]; decide) rfl (h := ?_); refine HP.ls1 (i := 2) am_ag27 rfl (h := ?_); refine HP.fa (i := 5) am_fi30_1 (by rw [am_cl28]; decide) rfl (h := ?_); refine HP.ls1 (i := 6) am_ag28 rfl (h := ?_); refine .done ?_; refine HT.three (i := 0) (j := 4) (k := 9) trivial rfl rfl rfl (S.nn (v := .als 2 0 ([] : List (Bundle)).length) (o := ⟨true, 53, 4, ([] : List (Bundle)).map Bundle.c, true⟩) (q.bs [] true am_el27 am_ze53 am_cl53) (S.end ?_)) (S.nn (v := .als 2 0 ([] : List (Bool)).length) (o := ⟨true, 4, 1, ([] : List (Bool)).map boolC, true⟩) (q.bs [] true am_el28 am_ze4 am_cl4) (S.end ?_)) (S.nn (q.al am_ze30) (S.end ?_))
      · skip; refine HT.three (i := 3) (j := 4) (k := 9) trivial rfl rfl rfl (S.ap' [_] am_el27 am_ze53 am_cl53 am_by53 (hh := head_own') (hr := rows_sh) (h := S.end ?_)) (S.nn (v := .als 3 0 ([] : List (Bool)).length) (o := ⟨true, 4, 1, ([] : List (Bool)).map boolC, true⟩) (q.bs [] true am_el28 am_ze4 am_cl4) (S.end ?_)) (S.nn (q.al am_ze30) (S.end ?_))
        · skip; refine HT.two (i := 4) (j := 9) trivial rfl rfl (S.nn (v := .als 4 0 ([] : List (Bool)).length) (o := ⟨true, 4, 1, ([] : List (Bool)).map boolC, true⟩) (q.bs [] true am_el28 am_ze4 am_cl4) (S.end ?_)) (S.nn (q.al am_ze30) (S.end ?_))
          · skip; refine HT.two (i := 7) (j := 9) trivial rfl rfl (S.ap' [_, _] am_el28 am_ze4 am_cl4 am_by4 (hh := head_own') (hr := rows_sh) (h := S.end ?_)) (S.nn (q.al am_ze30) (S.end ?_))
            · skip; refine HT.two (i := 8) (j := 9) trivial rfl rfl (S.o (q.bd [_, _] am_ze30 am_pl30) (S.end ?_)) (S.nn (q.al am_ze30) (S.end ?_))
              · skip; refine HT.one (i := 9) trivial rfl (S.nn (q.al am_ze30) (S.end ?_)); refine HT.one (i := 10) trivial rfl (S.sv [_, _] false [_, _, _] am_in30 am_cl30 (h := S.end ?_)); refine HT.nil trivial (by kernel_rfl) (hK _ (joinU [6, 3, 5, 1] [1, 2, 5] (keep_d (he := rfl) (h := (keep_c (he := rfl) (h := (keep_c (he := rfl) (h := (keep_c (he := rfl) (h := keep_n)))))))) (slots_c (he := rfl) (h := (slots_c (he := rfl) (h := trivial)))) (.c (.c (.c .n)))))
              · skip; refine HT.one (i := 8) trivial rfl (S.o (q.bd [_, _] am_ze30 am_pl30) (S.end ?_)); refine HT.one (i := 10) trivial rfl (S.sv [_, _] false [_, _, _] am_in30 am_cl30 (h := S.end ?_)); refine HT.nil trivial (by kernel_rfl) (hK _ (joinU [6, 3, 5, 1] [1, 2, 5] (keep_d (he := rfl) (h := (keep_c (he := rfl) (h := (keep_c (he := rfl) (h := (keep_c (he := rfl) (h := keep_n)))))))) (slots_c (he := rfl) (h := (slots_c (he := rfl) (h := trivial)))) (.c (.c (.c .n)))))
            · skip; refine HT.one (i := 7) trivial rfl (S.ap' [_, _, _] am_el28 am_ze4 am_cl4 am_by4 (hh := head_own') (hr := rows_sh) (h := S.end ?_)); refine HT.one (i := 8) trivial rfl (S.o (q.bd [_, _] am_ze30 am_pl30) (S.end ?_)); refine HT.one (i := 10) trivial rfl (S.sv [_, _] false [_, _, _] am_in30 am_cl30 (h := S.end ?_)); refine HT.nil trivial (by kernel_rfl) (hK _ (joinU [5, 3, 6, 1] [1, 2, 5] (keep_d (he := rfl) (h := (keep_c (he := rfl) (h := (keep_c (he := rfl) (h := (keep_c (he := rfl) (h := keep_n)))))))) (slots_c (he := rfl) (h := (slots_c (he := rfl) (h := trivial)))) (.c (.c (.c .n)))))
          · skip; refine HT.one (i := 4) trivial rfl (S.nn (v := .als 5 0 ([] : List (Bool)).length) (o := ⟨true, 4, 1, ([] : List (Bool)).map boolC, true⟩) (q.bs [] true am_el28 am_ze4 am_cl4) (S.end ?_)); refine HT.one (i := 7) trivial rfl (S.ap' [_, _, _] am_el28 am_ze4 am_cl4 am_by4 (hh := head_own') (hr := rows_sh) (h := S.end ?_)); refine HT.one (i := 8) trivial rfl (S.o (q.bd [_, _] am_ze30 am_pl30) (S.end ?_)); refine HT.one (i := 10) trivial rfl (S.sv [_, _] false [_, _, _] am_in30 am_cl30 (h := S.end ?_)); refine HT.nil trivial (by kernel_rfl) (hK _ (joinU [4, 3, 6, 1] [1, 2, 5] (keep_d (he := rfl) (h := (keep_c (he := rfl) (h := (keep_c (he := rfl) (h := (keep_c (he := rfl) (h := keep_n)))))))) (slots_c (he := rfl) (h := (slots_c (he := rfl) (h := trivial)))) (.c (.c (.c .n)))))
        · skip; refine HT.two (i := 3) (j := 9) trivial rfl rfl (S.ap' [_, _] am_el27 am_ze53 am_cl53 am_by53 (hh := head_own') (hr := rows_sh) (h := S.end ?_)) (S.nn (q.al am_ze30) (S.end ?_))
          · skip; refine HT.two (i := 7) (j := 9) trivial rfl rfl (S.ap' [_, _] am_el28 am_ze4 am_cl4 am_by4 (hh := head_own') (hr := rows_sh) (h := S.end ?_)) (S.nn (q.al am_ze30) (S.end ?_))
            · skip; refine HT.two (i := 8) (j := 9) trivial rfl rfl (S.o (q.bd [_, _] am_ze30 am_pl30) (S.end ?_)) (S.nn (q.al am_ze30) (S.end ?_))
              · skip; refine HT.one (i := 9) trivial rfl (S.nn (q.al am_ze30) (S.end ?_)); refine HT.one (i := 10) trivial rfl (S.sv [_, _] false [_, _, _] am_in30 am_cl30 (h := S.end ?_)); refine HT.nil trivial (by kernel_rfl) (hK _ (joinU [6, 4, 5, 1] [1, 2, 5] (keep_d (he := rfl) (h := (keep_c (he := rfl) (h := (keep_c (he := rfl) (h := (keep_c (he := rfl) (h := keep_n)))))))) (slots_c (he := rfl) (h := (slots_c (he := rfl) (h := trivial)))) (.c (.c (.c .n)))))
              · skip; refine HT.one (i := 8) trivial rfl (S.o (q.bd [_, _] am_ze30 am_pl30) (S.end ?_)); refine HT.one (i := 10) trivial rfl (S.sv [_, _] false [_, _, _] am_in30 am_cl30 (h := S.end ?_)); refine HT.nil trivial (by kernel_rfl) (hK _ (joinU [6, 4, 5, 1] [1, 2, 5] (keep_d (he := rfl) (h := (keep_c (he := rfl) (h := (keep_c (he := rfl) (h := (keep_c (he := rfl) (h := keep_n)))))))) (slots_c (he := rfl) (h := (slots_c (he := rfl) (h := trivial)))) (.c (.c (.c .n)))))
            · skip; refine HT.one (i := 7) trivial rfl (S.ap' [_, _, _] am_el28 am_ze4 am_cl4 am_by4 (hh := head_own') (hr := rows_sh) (h := S.end ?_)); refine HT.one (i := 8) trivial rfl (S.o (q.bd [_, _] am_ze30 am_pl30) (S.end ?_)); refine HT.one (i := 10) trivial rfl (S.sv [_, _] false [_, _, _] am_in30 am_cl30 (h := S.end ?_)); refine HT.nil trivial (by kernel_rfl) (hK _ (joinU [5, 4, 6, 1] [1, 2, 5] (keep_d (he := rfl) (h := (keep_c (he := rfl) (h := (keep_c (he := rfl) (h := (keep_c (he := rfl) (h := keep_n)))))))) (slots_c (he := rfl) (h := (slots_c (he := rfl) (h := trivial)))) (.c (.c (.c .n)))))
          · skip; refine HT.one (i := 3) trivial rfl (S.ap' [_, _, _] am_el27 am_ze53 am_cl53 am_by53 (hh := head_own') (hr := rows_sh) (h := S.end ?_)); refine HT.one (i := 7) trivial rfl (S.ap' [_, _, _] am_el28 am_ze4 am_cl4 am_by4 (hh := head_own') (hr := rows_sh) (h := S.end ?_)); refine HT.one (i := 8) trivial rfl (S.o (q.bd [_, _] am_ze30 am_pl30) (S.end ?_)); refine HT.one (i := 10) trivial rfl (S.sv [_, _] false [_, _, _] am_in30 am_cl30 (h := S.end ?_)); refine HT.nil trivial (by kernel_rfl) (hK _ (joinU [4, 5, 6, 1] [1, 2, 5] (keep_d (he := rfl) (h := (keep_c (he := rfl) (h := (keep_c (he := rfl) (h := (keep_c (he := rfl) (h := keep_n)))))))) (slots_c (he := rfl) (h := (slots_c (he := rfl) (h := trivial)))) (.c (.c (.c .n)))))
        · skip; refine HT.two (i := 3) (j := 4) trivial rfl rfl (S.ap' [_, _] am_el27 am_ze53 am_cl53 am_by53 (hh := head_own') (hr := rows_sh) (h := S.end ?_)) (S.nn (v := .als 4 0 ([] : List (Bool)).length) (o := ⟨true, 4, 1, ([] : List (Bool)).map boolC, true⟩) (q.bs [] true am_el28 am_ze4 am_cl4) (S.end ?_))
          · skip; refine HT.one (i := 4) trivial rfl (S.nn (v := .als 5 0 ([] : List (Bool)).length) (o := ⟨true, 4, 1, ([] : List (Bool)).map boolC, true⟩) (q.bs [] true am_el28 am_ze4 am_cl4) (S.end ?_)); refine HT.one (i := 7) trivial rfl (S.ap' [_, _, _] am_el28 am_ze4 am_cl4 am_by4 (hh := head_own') (hr := rows_sh) (h := S.end ?_)); refine HT.one (i := 8) trivial rfl (S.o (q.bd [_, _] am_ze30 am_pl30) (S.end ?_)); refine HT.one (i := 10) trivial rfl (S.sv [_, _] false [_, _, _] am_in30 am_cl30 (h := S.end ?_)); refine HT.nil trivial (by kernel_rfl) (hK _ (joinU [3, 4, 6, 1] [1, 2, 5] (keep_d (he := rfl) (h := (keep_c (he := rfl) (h := (keep_c (he := rfl) (h := (keep_c (he := rfl) (h := keep_n)))))))) (slots_c (he := rfl) (h := (slots_c (he := rfl) (h := trivial)))) (.c (.c (.c .n)))))
          · skip; refine HT.one (i := 3) trivial rfl (S.ap' [_, _, _] am_el27 am_ze53 am_cl53 am_by53 (hh := head_own') (hr := rows_sh) (h := S.end ?_)); refine HT.one (i := 7) trivial rfl (S.ap' [_, _, _] am_el28 am_ze4 am_cl4 am_by4 (hh := head_own') (hr := rows_sh) (h := S.end ?_)); refine HT.one (i := 8) trivial rfl (S.o (q.bd [_, _] am_ze30 am_pl30) (S.end ?_)); refine HT.one (i := 10) trivial rfl (S.sv [_, _] false [_, _, _] am_in30 am_cl30 (h := S.end ?_)); refine HT.nil trivial (by kernel_rfl) (hK _ (joinU [3, 5, 6, 1] [1, 2, 5] (keep_d (he := rfl) (h := (keep_c (he := rfl) (h := (keep_c (he := rfl) (h := (keep_c (he := rfl) (h := keep_n)))))))) (slots_c (he := rfl) (h := (slots_c (he := rfl) (h := trivial)))) (.c (.c (.c .n)))))
      · skip; refine HT.two (i := 0) (j := 9) trivial rfl rfl (S.nn (v := .als 3 0 ([] : List (Bundle)).length) (o := ⟨true, 53, 4, ([] : List (Bundle)).map Bundle.c, true⟩) (q.bs [] true am_el27 am_ze53 am_cl53) (S.end ?_)) (S.nn (q.al am_ze30) (S.end ?_))
        · skip; refine HT.two (i := 3) (j := 9) trivial rfl rfl (S.ap' [_, _] am_el27 am_ze53 am_cl53 am_by53 (hh := head_own') (hr := rows_sh) (h := S.end ?_)) (S.nn (q.al am_ze30) (S.end ?_))
          · skip; refine HT.two (i := 7) (j := 9) trivial rfl rfl (S.ap' [_, _] am_el28 am_ze4 am_cl4 am_by4 (hh := head_own') (hr := rows_sh) (h := S.end ?_)) (S.nn (q.al am_ze30) (S.end ?_))
            · skip; refine HT.two (i := 8) (j := 9) trivial rfl rfl (S.o (q.bd [_, _] am_ze30 am_pl30) (S.end ?_)) (S.nn (q.al am_ze30) (S.end ?_))
              · skip; refine HT.one (i := 9) trivial rfl (S.nn (q.al am_ze30) (S.end ?_)); refine HT.one (i := 10) trivial rfl (S.sv [_, _] false [_, _, _] am_in30 am_cl30 (h := S.end ?_)); refine HT.nil trivial (by kernel_rfl) (hK _ (joinU [6, 4, 5, 1] [1, 2, 5] (keep_d (he := rfl) (h := (keep_c (he := rfl) (h := (keep_c (he := rfl) (h := (keep_c (he := rfl) (h := keep_n)))))))) (slots_c (he := rfl) (h := (slots_c (he := rfl) (h := trivial)))) (.c (.c (.c .n)))))
              · skip; refine HT.one (i := 8) trivial rfl (S.o (q.bd [_, _] am_ze30 am_pl30) (S.end ?_)); refine HT.one (i := 10) trivial rfl (S.sv [_, _] false [_, _, _] am_in30 am_cl30 (h := S.end ?_)); refine HT.nil trivial (by kernel_rfl) (hK _ (joinU [6, 4, 5, 1] [1, 2, 5] (keep_d (he := rfl) (h := (keep_c (he := rfl) (h := (keep_c (he := rfl) (h := (keep_c (he := rfl) (h := keep_n)))))))) (slots_c (he := rfl) (h := (slots_c (he := rfl) (h := trivial)))) (.c (.c (.c .n)))))
            · skip; refine HT.one (i := 7) trivial rfl (S.ap' [_, _, _] am_el28 am_ze4 am_cl4 am_by4 (hh := head_own') (hr := rows_sh) (h := S.end ?_)); refine HT.one (i := 8) trivial rfl (S.o (q.bd [_, _] am_ze30 am_pl30) (S.end ?_)); refine HT.one (i := 10) trivial rfl (S.sv [_, _] false [_, _, _] am_in30 am_cl30 (h := S.end ?_)); refine HT.nil trivial (by kernel_rfl) (hK _ (joinU [5, 4, 6, 1] [1, 2, 5] (keep_d (he := rfl) (h := (keep_c (he := rfl) (h := (keep_c (he := rfl) (h := (keep_c (he := rfl) (h := keep_n)))))))) (slots_c (he := rfl) (h := (slots_c (he := rfl) (h := trivial)))) (.c (.c (.c .n)))))
          · skip; refine HT.one (i := 3) trivial rfl (S.ap' [_, _, _] am_el27 am_ze53 am_cl53 am_by53 (hh := head_own') (hr := rows_sh) (h := S.end ?_)); refine HT.one (i := 7) trivial rfl (S.ap' [_, _, _] am_el28 am_ze4 am_cl4 am_by4 (hh := head_own') (hr := rows_sh) (h := S.end ?_)); refine HT.one (i := 8) trivial rfl (S.o (q.bd [_, _] am_ze30 am_pl30) (S.end ?_)); refine HT.one (i := 10) trivial rfl (S.sv [_, _] false [_, _, _] am_in30 am_cl30 (h := S.end ?_)); refine HT.nil trivial (by kernel_rfl) (hK _ (joinU [4, 5, 6, 1] [1, 2, 5] (keep_d (he := rfl) (h := (keep_c (he := rfl) (h := (keep_c (he := rfl) (h := (keep_c (he := rfl) (h := keep_n)))))))) (slots_c (he := rfl) (h := (slots_c (he := rfl) (h := trivial)))) (.c (.c (.c .n)))))
        · skip; refine HT.one (i := 0) trivial rfl (S.nn (v := .als 4 0 ([] : List (Bundle)).length) (o := ⟨true, 53, 4, ([] : List (Bundle)).map Bundle.c, true⟩) (q.bs [] true am_el27 am_ze53 am_cl53) (S.end ?_)); refine HT.one (i := 3) trivial rfl (S.ap' [_, _, _] am_el27 am_ze53 am_cl53 am_by53 (hh := head_own') (hr := rows_sh) (h := S.end ?_)); refine HT.one (i := 7) trivial rfl (S.ap' [_, _, _] am_el28 am_ze4 am_cl4 am_by4 (hh := head_own') (hr := rows_sh) (h := S.end ?_)); refine HT.one (i := 8) trivial rfl (S.o (q.bd [_, _] am_ze30 am_pl30) (S.end ?_)); refine HT.one (i := 10) trivial rfl (S.sv [_, _] false [_, _, _] am_in30 am_cl30 (h := S.end ?_)); refine HT.nil trivial (by kernel_rfl) (hK _ (joinU [3, 5, 6, 1] [1, 2, 5] (keep_d (he := rfl) (h := (keep_c (he := rfl) (h := (keep_c (he := rfl) (h := (keep_c (he := rfl) (h := keep_n)))))))) (slots_c (he := rfl) (h := (slots_c (he := rfl) (h := trivial)))) (.c (.c (.c .n)))))
      · skip; refine HT.two (i := 0) (j := 4) trivial rfl rfl (S.nn (v := .als 3 0 ([] : List (Bundle)).length) (o := ⟨true, 53, 4, ([] : List (Bundle)).map Bundle.c, true⟩) (q.bs [] true am_el27 am_ze53 am_cl53) (S.end ?_)) (S.nn (v := .als 3 0 ([] : List (Bool)).length) (o := ⟨true, 4, 1, ([] : List (Bool)).map boolC, true⟩) (q.bs [] true am_el28 am_ze4 am_cl4) (S.end ?_))
        · skip; refine HT.two (i := 3) (j := 4) trivial rfl rfl (S.ap' [_, _] am_el27 am_ze53 am_cl53 am_by53 (hh := head_own') (hr := rows_sh) (h := S.end ?_)) (S.nn (v := .als 4 0 ([] : List (Bool)).length) (o := ⟨true, 4, 1, ([] : List (Bool)).map boolC, true⟩) (q.bs [] true am_el28 am_ze4 am_cl4) (S.end ?_))
          · skip; refine HT.one (i := 4) trivial rfl (S.nn (v := .als 5 0 ([] : List (Bool)).length) (o := ⟨true, 4, 1, ([] : List (Bool)).map boolC, true⟩) (q.bs [] true am_el28 am_ze4 am_cl4) (S.end ?_)); refine HT.one (i := 7) trivial rfl (S.ap' [_, _, _] am_el28 am_ze4 am_cl4 am_by4 (hh := head_own') (hr := rows_sh) (h := S.end ?_)); refine HT.one (i := 8) trivial rfl (S.o (q.bd [_, _] am_ze30 am_pl30) (S.end ?_)); refine HT.one (i := 10) trivial rfl (S.sv [_, _] false [_, _, _] am_in30 am_cl30 (h := S.end ?_)); refine HT.nil trivial (by kernel_rfl) (hK _ (joinU [2, 4, 6, 1] [1, 2, 5] (keep_d (he := rfl) (h := (keep_c (he := rfl) (h := (keep_c (he := rfl) (h := (keep_c (he := rfl) (h := keep_n)))))))) (slots_c (he := rfl) (h := (slots_c (he := rfl) (h := trivial)))) (.c (.c (.c .n)))))
          · skip; refine HT.one (i := 3) trivial rfl (S.ap' [_, _, _] am_el27 am_ze53 am_cl53 am_by53 (hh := head_own') (hr := rows_sh) (h := S.end ?_)); refine HT.one (i := 7) trivial rfl (S.ap' [_, _, _] am_el28 am_ze4 am_cl4 am_by4 (hh := head_own') (hr := rows_sh) (h := S.end ?_)); refine HT.one (i := 8) trivial rfl (S.o (q.bd [_, _] am_ze30 am_pl30) (S.end ?_)); refine HT.one (i := 10) trivial rfl (S.sv [_, _] false [_, _, _] am_in30 am_cl30 (h := S.end ?_)); refine HT.nil trivial (by kernel_rfl) (hK _ (joinU [2, 5, 6, 1] [1, 2, 5] (keep_d (he := rfl) (h := (keep_c (he := rfl) (h := (keep_c (he := rfl) (h := (keep_c (he := rfl) (h := keep_n)))))))) (slots_c (he := rfl) (h := (slots_c (he := rfl) (h := trivial)))) (.c (.c (.c .n)))))
        · skip; refine HT.one (i := 0) trivial rfl (S.nn (v := .als 4 0 ([] : List (Bundle)).length) (o := ⟨true, 53, 4, ([] : List (Bundle)).map Bundle.c, true⟩) (q.bs [] true am_el27 am_ze53 am_cl53) (S.end ?_)); refine HT.one (i := 3) trivial rfl (S.ap' [_, _, _] am_el27 am_ze53 am_cl53 am_by53 (hh := head_own') (hr := rows_sh) (h := S.end ?_)); refine HT.one (i := 7) trivial rfl (S.ap' [_, _, _] am_el28 am_ze4 am_cl4 am_by4 (hh := head_own') (hr := rows_sh) (h := S.end ?_)); refine HT.one (i := 8) trivial rfl (S.o (q.bd [_, _] am_ze30 am_pl30) (S.end ?_)); refine HT.one (i := 10) trivial rfl (S.sv [_, _] false [_, _, _] am_in30 am_cl30 (h := S.end ?_)); refine HT.nil trivial (by kernel_rfl) (hK _ (joinU [2, 5, 6, 1] [1, 2, 5] (keep_d (he := rfl) (h := (keep_c (he := rfl) (h := (keep_c (he := rfl) (h := (keep_c (he := rfl) (h := keep_n)))))))) (slots_c (he := rfl) (h := (slots_c (he := rfl) (h := trivial)))) (.c (.c (.c .n)))))
    dsimp only [List.cons_append, List.nil_append]; refine Ev.seq ?_; refine Ev.sr fun K hK => S.o q.as (S.end (hK _ ?_)); clear hK K; refine Ev.block ?_; refine Ev.loopU (ι := {q : List Bundle × List Bundle // q.1 ++ q.2 = l ∧ ∀ x ∈ q.1, tgI es x.tag < 0}) [0, 1, 2, 3] [1, 2, 4, 6] (fun ⟨(pre, suf), _⟩ => [(7, .lit (.int .i64 ((pre.length : Int))))]) (fun ⟨(pre, suf), _⟩ => [(0, ⟨false, 30, 2, [[.als 1 0 (bkL es ++ pre).length, .als 2 0 (bkO es ++ List.replicate pre.length false).length]], false⟩), (1, ⟨true, 53, 4, (bkL es ++ pre).map Bundle.c, true⟩), (2, ⟨true, 4, 1, (bkO es ++ List.replicate pre.length false).map boolC, true⟩), (3, ⟨false, 30, 2, [[.lit (.slice none 0 0), .lit (.slice none 0 0)]], true⟩)]) (fun ⟨(pre, suf), _⟩ => suf.length) ⟨([], l), rfl, fun x hx => by simp at hx⟩ (.c (.c (.c (.c .n)))) (keep_d (he := (by first | rfl | (simp; done) | (simp [List.replicate_succ']; done))) (h := (keep_c (he := (by first | rfl | (simp; done) | (rw [List.append_assoc]; done) | (simp [List.replicate_succ']; done))) (h := (keep_c (he := (by first | rfl | (simp; done) | (rw [List.length_append, List.length_singleton, List.replicate_succ', ← List.append_assoc]; done))) (h := (keep_c (he := (by first | rfl | (simp; done))) (h := keep_n)))))))) (slots_c (he := (by first | rfl | (congr 2; simp; done))) (h := trivial)) ?_; rintro ⟨⟨pre, suf⟩, hp, hinv⟩ R0 hR0
    dsimp only [List.cons_append, List.nil_append, List.length_cons, List.length_nil]
    simp only at hp hinv
    have hpl : pre.length + suf.length = (l).length := by rw [← hp, List.length_append]
    rcases suf with _ | ⟨s, suf⟩
    · rw [List.append_nil] at hp; simp only [List.length_nil] at hpl; subst pre; refine Ev.seq ?_; refine Ev.sr fun K hK => S.o q.mv (S.o q.mv (S.o (q.lens am_el27) (S.o q.lss (S.end (hK _ ?_))))); clear hK K; refine Ev.cd (fun c2 => ?_) (fun c2 => ?_)
      · first | omega | contradiction | (exfalso; simp at *; done)
      · first
      | omega | contradiction
      | refine Ev.exit ?_; refine hR0 _ _ ?_; show Ev _ _ _ _; refine Ev.seq ?_; have hnh := isu_none hinv
        have hlx : (bkL es ++ l).length = es.length + l.length := by rw [List.length_append, hbl]
        have hly : (bkO es ++ List.replicate l.length false).length = es.length + l.length := by simp [hol]
        refine Ev.sr fun K hK => S.o (q.fa 0 am_fi30_0 am_cl27) (S.o (q.lv am_ag27) (S.o (q.lena am_el27) (S.o q.gtr (S.end (hK _ ?_))))); clear hK K; refine Ev.cd (fun c3 => ?_) (fun c3 => ?_)
        · first
        | omega | contradiction
        | obtain ⟨e1, e2⟩ := isu_full hok hnh (by omega); rw [e1, e2]; refine Ev.sr fun K hK => S.o (q.lsA [_, _] am_ag30 am_cl30) (S.sv [_, _] true [_, _, _] am_in30 am_cl30 (h := S.o q.as (S.end (hK _ ?_)))); clear hK K; refine Ev.ret ?_; refine Ev.retv2 (res_c [_, _] am_ag30 am_cl30 (res_t res_n)) ?_; refine ⟨?_, rfl⟩
          all_goals first | rfl | (rw [e1, e2]; done) | (rw [e1, e2]; rfl) | (simp; done)
        · first
        | omega | contradiction
        | refine Ev.skip ?_; show Ev _ _ _ _; obtain ⟨e1, e2⟩ := isu_ok hok hnh (by omega); rw [e1, e2, bkL_new, bkO_new]; refine Ev.sr fun K hK => S.o (q.lvA [_, _] am_ag30 am_cl30) ?_; refine SeqL.weaken (Wk.frzA (f := Bundle.c) (bkL es ++ l) 56 0 [_, _, _]) ?_; refine SeqL.weaken (Wk.frzA (f := boolC) (bkO es ++ List.replicate l.length false) 56 1 [_, _]) ?_; refine S.sv [_, _] true [_] am_in30 am_cl30 (h := S.o q.as (S.end (hK _ ?_))); clear hK K; refine Ev.ret ?_; refine Ev.retv2 (res_c [_, _] am_ag30 am_cl30 (res_t res_n)) ?_; refine ⟨?_, rfl⟩
          all_goals first | rfl | (rw [e1, e2]; done) | (rw [e1, e2]; rfl) | (simp; done)
    · simp only [List.length_cons] at hpl
      have hidx : l[pre.length]? = some s := by rw [← hp]; simp
      have hlx : (bkL es ++ pre).length = es.length + pre.length := by rw [List.length_append, hbl]
      have hlz : (List.replicate pre.length false).length = pre.length := List.length_replicate
      have hly : (bkO es ++ List.replicate pre.length false).length = es.length + pre.length := by simp [hol]
      refine Ev.seq ?_; refine Ev.sr fun K hK => S.o q.mv (S.o q.mv (S.o (q.lens am_el27) (S.o q.lss (S.end (hK _ ?_))))); clear hK K; refine Ev.cd (fun c4 => ?_) (fun c4 => ?_)
      · first
      | omega | contradiction
      | refine Ev.skip ?_; show Ev _ _ _ _; refine Ev.seq ?_; refine Ev.block ?_; refine Ev.seq ?_; refine Ev.stp (m := 9) (L0 := #[false, false, false, false, false, false, false, false, false]) rfl (by kernel_rfl) (by exact rfl) fun K hK => ?_; refine HP.fa (i := 0) am_fi30_0 (by rw [am_cl27]; decide) rfl (h := ?_); refine HP.ls1 (i := 1) am_ag27 rfl (h := ?_); refine HP.mv (i := 2) rfl (h := ?_); refine HP.mv (i := 3) rfl (h := ?_); refine HP.ix (i := 4) am_el27 am_cl53 (by decide) rfl (hl := (by first | exact ati hidx (by omega) | exact atig (by omega))) (h := ?_); refine HP.fa (i := 5) am_fi53_0 (by rw [am_cl9]; decide) rfl (h := ?_); refine HP.ls1 (i := 6) am_ag9 rfl (h := ?_); refine .done ?_; refine HT.one (i := 7) trivial rfl ?_; refine S.c0 (hF := rBfind_fun (bkL es) s.tag (by omega)) (h := ?_); rw [tagI_bk]; refine S.end ?_; refine HT.one (i := 8) trivial rfl (S.o q.geq (S.end ?_)); refine HT.nil trivial (by kernel_rfl) (hK _ ?_); clear hK K; refine Ev.cd (fun c5 => ?_) (fun c5 => ?_)
        · first
        | omega | contradiction
        | obtain ⟨e1, e2⟩ := isu_has (es := es) hok ⟨s, by rw [← hp]; simp, decide_eq_true ‹_›⟩; refine Ev.sr fun K hK => S.o (q.lsA [_, _] am_ag30 am_cl30) (S.sv [_, _] true [_, _, _] am_in30 am_cl30 (h := S.o q.as (S.end (hK _ ?_)))); clear hK K; refine Ev.ret ?_; refine hR0 _ _ ?_; refine Ev.retv2 (res_c [_, _] am_ag30 am_cl30 (res_t res_n)) ?_; refine ⟨?_, rfl⟩
          all_goals first | rfl | (rw [e1, e2]; done) | (rw [e1, e2]; rfl) | (simp; done)
        · first
        | omega | contradiction
        | refine Ev.skip ?_; show Ev _ _ _ _; refine Ev.stp (m := 10) (L0 := #[false, false, false, false, false, false, false, false, false, false]) rfl (by kernel_rfl) (by exact rfl) fun K hK => ?_; refine HP.fa (i := 0) am_fi30_0 (by rw [am_cl27]; decide) rfl (h := ?_); refine HP.mv (i := 2) rfl (h := ?_); refine HP.mv (i := 3) rfl (h := ?_); refine HP.ix (i := 4) am_el27 am_cl53 (by decide) rfl (hl := (by first | exact ati hidx (by omega) | exact atig (by omega))) (h := ?_); refine HP.lsA (i := 5) [_, _, _, _] am_ag53 am_cl53 rfl (h := ?_); refine .done ?_; refine HT.two (i := 1) (j := 6) trivial rfl rfl (S.o (q.lv am_ag27) (S.end ?_)) (S.nn (q.bs [[_, _, _, _]] true am_el27 am_ze53 am_cl53) (S.end ?_))
          · skip; refine HT.one (i := 6) trivial rfl (S.nn (q.bs [[_, _, _, _]] true am_el27 am_ze53 am_cl53) (S.end ?_)); refine HT.one (i := 7) trivial rfl (S.ap' [_, _, _, _] am_el27 am_ze53 am_cl53 am_by53 (hh := head_own') (hr := (rows_lit [s])) (h := S.end ?_)); refine HT.one (i := 8) trivial rfl (S.o (q.fa 0 am_fi30_0 am_cl27) (S.end ?_)); refine HT.one (i := 9) trivial rfl (S.sv [_, _] false [_, _, _, _] am_in27 am_cl27 (h := S.end ?_)); refine HT.nil trivial (by kernel_rfl) (hK _ ?_); clear hK K; refine Ev.region_S fun K hK => S.o (q.fa 1 am_fi30_1 am_cl28) (S.o (q.lv am_ag28) (S.nn (q.bs [[_]] true am_el28 am_ze4 am_cl4) (S.ap' [_, _, _, _, _] am_el28 am_ze4 am_cl4 am_by4 (hh := head_own') (hr := (rows_lit [false])) (h := S.o (q.fa 1 am_fi30_1 am_cl28) (S.sv [_, _] false [_, _, _, _, _] am_in28 am_cl28 (h := S.end (hK _ ?_))))))); clear hK K; show Ev _ _ _ _; refine Ev.region_S fun K hK => S.o q.mv (S.o q.add (S.o q.as (S.end (hK _ ?_)))); clear hK K; refine hR0 _ _ ?_
            refine roundU [0, 5, 7, 3] [1, 2, 4, 6] ⟨(pre ++ [s], suf), by rw [← hp]; simp, ?_⟩ ?_ (keep_d (he := (by first | rfl | (simp; done) | (simp [List.replicate_succ']; done))) (h := (keep_c (he := (by first | rfl | (simp; done) | (rw [List.append_assoc]; done) | (simp [List.replicate_succ']; done))) (h := (keep_c (he := (by first | rfl | (simp; done) | (rw [List.length_append, List.length_singleton, List.replicate_succ', ← List.append_assoc]; done))) (h := (keep_c (he := (by first | rfl | (simp; done))) (h := keep_n)))))))) (slots_c (he := (by first | rfl | (congr 2; simp; done))) (h := trivial)) (.c (.c (.c (.c .n))))
            intro x hx; simp only [List.mem_append, List.mem_singleton] at hx; rcases hx with hx | rfl
            · exact hinv x hx
            · omega
            all_goals (dsimp only; simp only [List.length_cons]; omega)
          · skip; refine HT.one (i := 1) trivial rfl (S.o (q.lv am_ag27) (S.end ?_)); refine HT.one (i := 7) trivial rfl (S.ap' [_, _, _, _] am_el27 am_ze53 am_cl53 am_by53 (hh := head_own') (hr := (rows_lit [s])) (h := S.end ?_)); refine HT.one (i := 8) trivial rfl (S.o (q.fa 0 am_fi30_0 am_cl27) (S.end ?_)); refine HT.one (i := 9) trivial rfl (S.sv [_, _] false [_, _, _, _] am_in27 am_cl27 (h := S.end ?_)); refine HT.nil trivial (by kernel_rfl) (hK _ ?_); clear hK K; refine Ev.region_S fun K hK => S.o (q.fa 1 am_fi30_1 am_cl28) (S.o (q.lv am_ag28) (S.nn (q.bs [[_]] true am_el28 am_ze4 am_cl4) (S.ap' [_, _, _, _, _] am_el28 am_ze4 am_cl4 am_by4 (hh := head_own') (hr := (rows_lit [false])) (h := S.o (q.fa 1 am_fi30_1 am_cl28) (S.sv [_, _] false [_, _, _, _, _] am_in28 am_cl28 (h := S.end (hK _ ?_))))))); clear hK K; show Ev _ _ _ _; refine Ev.region_S fun K hK => S.o q.mv (S.o q.add (S.o q.as (S.end (hK _ ?_)))); clear hK K; refine hR0 _ _ ?_
            refine roundU [0, 5, 7, 3] [1, 2, 4, 6] ⟨(pre ++ [s], suf), by rw [← hp]; simp, ?_⟩ ?_ (keep_d (he := (by first | rfl | (simp; done) | (simp [List.replicate_succ']; done))) (h := (keep_c (he := (by first | rfl | (simp; done) | (rw [List.append_assoc]; done) | (simp [List.replicate_succ']; done))) (h := (keep_c (he := (by first | rfl | (simp; done) | (rw [List.length_append, List.length_singleton, List.replicate_succ', ← List.append_assoc]; done))) (h := (keep_c (he := (by first | rfl | (simp; done))) (h := keep_n)))))))) (slots_c (he := (by first | rfl | (congr 2; simp; done))) (h := trivial)) (.c (.c (.c (.c .n))))
            intro x hx; simp only [List.mem_append, List.mem_singleton] at hx; rcases hx with hx | rfl
            · exact hinv x hx
            · omega
            all_goals (dsimp only; simp only [List.length_cons]; omega)
      · first | omega | contradiction | (exfalso; simp at *; done)
end Go.Proofs.YthpjfkmhpoeojaaGreatDoor
namespace Go.Proofs.YthpjfkmhpoeojaaGreatDoor
open Go Go.AM
set_option linter.unusedSimpArgs false
set_option linter.unusedVariables false
set_option maxRecDepth 100000
set_option maxHeartbeats 4000000
theorem rKept_of {a b : List Bar} (hA : okSched a) (hB : okSched b) {y : Bar} (hy : y ∈ b) (h : keptP y a) : rKept a b y.mark = true := by
  obtain ⟨c, hc, h⟩ := h; obtain ⟨h1, h2, _, _, h3⟩ := of_decide_eq_true h; have h4 := (barAt_in hA hc).1; rw [h1] at h4; rw [rKept_y h4 (barAt_in hB hy).1 (sameD_symm h3)]; exact decide_eq_true h2
theorem rl_in {a b pre : List Bar} {s : Bar} (hA : okSched a) (hB : okSched b) (hs : s ∈ b) (h : (!rKept a b s.mark) = true) : revK a (pre ++ [s]) = revK a pre ++ [s] :=
  fl_f (decide_eq_false fun hk => by rw [rKept_of hA hB hs hk] at h; cases h)
theorem rl_out {a b pre : List Bar} {s : Bar} (hA : okSched a) (hB : okSched b) (hs : s ∈ b) (h : (!rKept a b s.mark) = false) : revK a (pre ++ [s]) = revK a pre :=
  fl_t (decide_eq_true (rKept_sw hA hB hs (by simpa using h)))
structure RvN (M : List (List UInt8)) (pre suf : List Ent) (s : Ent) : Prop where
  e : bkO (pre.map (rvE M) ++ s :: suf) = bkO ((pre ++ [s]).map (rvE M) ++ suf)
  o : offT M (pre ++ [s]) = offT M pre
theorem rvn_off {M : List (List UInt8)} {pre suf : List Ent} {s : Ent} (h : (!s.off) = false) : RvN M pre suf s := by
  have h1 : s.off = true := by simpa using h
  exact ⟨by rw [rv_same (rvE_off h1)], offT_off h1⟩
theorem rvn_find {a b : List Bar} {pre suf : List Ent} {s : Ent} (hA : okSched a) (hB : okSched b) (h : ¬ markI a s.b.mark ≥ 0) : RvN (goneM a b) pre suf s := by
  have h1 : ¬ s.b.mark ∈ goneM a b := fun hm => h ((gone_iff hA hB _).1 hm).1; exact ⟨by rw [rv_same (rvE_no h1)], offT_no h1⟩
theorem rvn_kept {a b : List Bar} {pre suf : List Ent} {s : Ent} (hA : okSched a) (hB : okSched b) (h : (!rKept a b s.b.mark) = false) : RvN (goneM a b) pre suf s := by
  have h1 : ¬ s.b.mark ∈ goneM a b := fun hm => by
    rw [((gone_iff hA hB _).1 hm).2] at h
    cases h
  exact ⟨by rw [rv_same (rvE_no h1)], offT_no h1⟩
structure RvY (M : List (List UInt8)) (pre suf : List Ent) (s : Ent) : Prop where
  e : (bkO (pre.map (rvE M) ++ s :: suf)).set pre.length true = bkO ((pre ++ [s]).map (rvE M) ++ suf)
  o : offT M (pre ++ [s]) = offT M pre ++ [s.b.tag]
theorem rvy {a b : List Bar} {pre suf : List Ent} {s : Ent} (hA : okSched a) (hB : okSched b) (h1 : (!s.off) = true) (h2 : markI a s.b.mark ≥ 0) (h3 : (!rKept a b s.b.mark) = true) : RvY (goneM a b) pre suf s := by
  have hm : s.b.mark ∈ goneM a b := (gone_iff hA hB _).2 ⟨h2, by simpa using h3⟩; exact ⟨by rw [← bkO_off _ _ s, rv_set hm], offT_in hm (by simpa using h1)⟩
theorem bkL_rv (M : List (List UInt8)) (es : List Ent) : bkL (es.map (rvE M)) = bkL es := by
  unfold bkL
  rw [List.map_map]; exact List.map_congr_left fun e _ => rvE_b M e
theorem bk_add (es : List Ent) (pre : List Bundle) (s : Bundle) : bkL (addB es (pre ++ [s])) = bkL (addB es pre) ++ [⟨tagN (newN (addB es pre)), s.mark, s.count, s.mass⟩] ∧ bkO (addB es (pre ++ [s])) = bkO (addB es pre) ++ [false] := by
  rw [addB_snoc]
  unfold bkL bkO
  rw [List.map_append, List.map_append]; exact ⟨rfl, rfl⟩
theorem rkept_fun (a b : List Bar) (mk : List UInt8) (ha : a.length ≤ 140737488355328) (hb : b.length ≤ 140737488355328) (hwa : schedW a) (hwb : schedW b) : Fun Tryz.prog 43 [.sh 5 (a.map Bar.c), .sh 5 (b.map Bar.c), .lit (str mk)] (Ret (.lit (.bool (rKept a b mk))) []) := by
  obtain ⟨x, hx, hxa, hxw⟩ := kept_at a mk hwa; obtain ⟨y, hy, hyb, hyw⟩ := kept_at b mk hwb; have hx2 := hxw.2; have hy2 := hyw.2; refine Fun.of (nt := 45) (rs := [.tmp 6]) Tryz.func43 rfl rfl rfl rfl rfl ?_; refine Ev.sr fun K hK => S.o q.as (S.end (hK _ ?_)); clear hK K; refine Ev.sr fun K hK => S.o q.mv (S.o q.mv (S.c0 (hF := rfind_fun _ _ (by omega)) (h := S.o q.mv (S.o q.mv (S.c0 (hF := rfind_fun _ _ (by omega)) (h := S.o q.as (S.o q.as (S.end (hK _ ?_))))))))); clear hK K; refine Ev.sm (tbs [(0, 0), (1, 1), (2, 3), (3, 7), (4, 15), (5, 31), (6, 63), (7, 127), (7, 127), (9, 511), (10, 1023), (7, 127), (7, 127), (13, 6271), (14, 14463), (15, 32767), (16, 65535), (17, 131071), (18, 262143), (18, 262143), (20, 1048575), (21, 2097151), (22, 4194303), (18, 262143), (18, 262143), (25, 25427967), (26, 58982399), (27, 126091263), (28, 268435455), (29, 536870911), (30, 1073741823)]) 30 fun K hK => M.o q.mv (M.o q.geq (M.bd q.mv (fun c1 => ?_) (fun c1 => ?_)))
  · first
  | omega | contradiction
  | refine M.o q.mv (M.o q.geq (M.o q.pt (M.bd q.mv (fun c2 => ?_) (fun c2 => ?_))))
    · first
    | omega | contradiction
    | refine M.o q.mv (M.o q.mv (M.o (q.ix am_el32 am_cl56 (hl := (by first | exact ati (hx (by omega)) (by omega) | exact ati (hy (by omega)) (by omega) | exact atig (by omega)))) (M.o (q.lsA [_, _, _, _, _] am_ag56 am_cl56) (M.o q.mv (M.o q.mv (M.o (q.ix am_el32 am_cl56 (hl := (by first | exact ati (hx (by omega)) (by omega) | exact ati (hy (by omega)) (by omega) | exact atig (by omega)))) (M.o (q.lsA [_, _, _, _, _] am_ag56 am_cl56) (M.c0 (hF := rsame_fun x y (by omega) (by omega)) (h := M.o q.pt (M.bd q.mv (fun c3 => ?_) (fun c3 => ?_)))))))))))
      · first
      | omega | contradiction
      | refine M.o q.mv (M.o q.mv (M.o (q.ix am_el32 am_cl56 (hl := (by first | exact ati (hx (by omega)) (by omega) | exact ati (hy (by omega)) (by omega) | exact atig (by omega)))) (M.o (q.fs 2 am_fi56_2 am_cl3) (M.o (q.ls am_ag3) (M.o q.mv (M.o q.mv (M.o (q.ix am_el32 am_cl56 (hl := (by first | exact ati (hx (by omega)) (by omega) | exact ati (hy (by omega)) (by omega) | exact atig (by omega)))) (M.o (q.fs 2 am_fi56_2 am_cl3) (M.o (q.ls am_ag3) (M.o q.eql (M.o q.pt (M.end [] (h := S.o q.as (S.end (hK _ ?_))))))))))))))); clear hK K; refine Ev.ret ?_; refine Ev.ret1 ?_; refine ⟨?_, rfl⟩
        first
         | rfl
         | (rw [rKept_a (a := a) (b := b) (mk := mk) (by omega)]; done)
         | (rw [rKept_b (a := a) (b := b) (mk := mk) (by omega)]; done)
         | (rw [rKept_n (hxa (by omega)) (hyb (by omega)) ‹¬ sameD x y›]; done)
         | (rw [rKept_y (hxa (by omega)) (hyb (by omega)) ‹sameD x y›]; done)
      · first
      | omega | contradiction
      | refine M.sk (M.sk (M.sk (M.sk (M.sk (M.sk (M.sk (M.sk (M.sk (M.sk (M.sk (M.o q.pf (M.end [] (h := S.o q.as (S.end (hK _ ?_))))))))))))))); clear hK K; refine Ev.ret ?_; refine Ev.ret1 ?_; refine ⟨?_, rfl⟩
        first
         | rfl
         | (rw [rKept_a (a := a) (b := b) (mk := mk) (by omega)]; done)
         | (rw [rKept_b (a := a) (b := b) (mk := mk) (by omega)]; done)
         | (rw [rKept_n (hxa (by omega)) (hyb (by omega)) ‹¬ sameD x y›]; done)
         | (rw [rKept_y (hxa (by omega)) (hyb (by omega)) ‹sameD x y›]; done)
    · first
    | omega | contradiction
    | refine M.sk (M.sk (M.sk (M.sk (M.sk (M.sk (M.sk (M.sk (M.sk (M.o q.pf (M.o q.mv (M.sk (M.sk (M.sk (M.sk (M.sk (M.sk (M.sk (M.sk (M.sk (M.sk (M.sk (M.o q.pf (M.end [] (h := S.o q.as (S.end (hK _ ?_)))))))))))))))))))))))))); clear hK K; refine Ev.ret ?_; refine Ev.ret1 ?_; refine ⟨?_, rfl⟩
      first
       | rfl
       | (rw [rKept_a (a := a) (b := b) (mk := mk) (by omega)]; done)
       | (rw [rKept_b (a := a) (b := b) (mk := mk) (by omega)]; done)
       | (rw [rKept_n (hxa (by omega)) (hyb (by omega)) ‹¬ sameD x y›]; done)
       | (rw [rKept_y (hxa (by omega)) (hyb (by omega)) ‹sameD x y›]; done)
  · first
  | omega | contradiction
  | refine M.sk (M.sk (M.o q.pf (M.o q.mv (M.sk (M.sk (M.sk (M.sk (M.sk (M.sk (M.sk (M.sk (M.sk (M.o q.pf (M.o q.mv (M.sk (M.sk (M.sk (M.sk (M.sk (M.sk (M.sk (M.sk (M.sk (M.sk (M.sk (M.o q.pf (M.end [] (h := S.o q.as (S.end (hK _ ?_)))))))))))))))))))))))))))))); clear hK K; refine Ev.ret ?_; refine Ev.ret1 ?_; refine ⟨?_, rfl⟩
    first
     | rfl
     | (rw [rKept_a (a := a) (b := b) (mk := mk) (by omega)]; done)
     | (rw [rKept_b (a := a) (b := b) (mk := mk) (by omega)]; done)
     | (rw [rKept_n (hxa (by omega)) (hyb (by omega)) ‹¬ sameD x y›]; done)
     | (rw [rKept_y (hxa (by omega)) (hyb (by omega)) ‹sameD x y›]; done)
theorem rRevise_fun (es : List Ent) (a b : List Bar) (most : Int) (hl : es.length ≤ 100000) (ha : a.length ≤ 140737488355328) (hb : b.length ≤ 1000000) (hwa : schedW a) (hwb : schedW b) : Fun Tryz.prog 27 [.agg [.sh 4 ((bkL (es)).map Bundle.c), .sh 1 ((bkO (es)).map boolC)], .sh 5 (a.map Bar.c), .sh 5 (b.map Bar.c), .lit (.int .i64 most)] (Ret (.tup [.agg [.sh 4 ((bkL (revV es a b most)).map Bundle.c), .sh 1 ((bkO (revV es a b most)).map boolC)], .sh 1 ((revF es a b most).map strC), .sh 1 ((revN es a b most).map strC), .lit (.int .i64 (revE es.length a b most))]) []) := by
  have hbl := bkL_len es; have hol := bkO_len es; refine Fun.of (nt := 159) (rs := [.cell 8 30, .tmp 9, .tmp 10, .tmp 11]) Tryz.func27 rfl rfl rfl rfl rfl ?_; refine Ev.sr fun K hK => S.nn (q.bx [_, _] true) (S.nn (q.al am_ze30) (S.o q.as (S.o q.as (S.o q.as (S.end (hK _ ?_)))))); clear hK K; refine Ev.seq ?_; refine Ev.sr fun K hK => S.o q.mv (S.c0 (hF := rschedValid_fun _ (by omega) (by assumption)) (h := S.o q.not (S.bn q.mv (fun c1 => ?_) (fun c1 => ?_))))
  · first
  | omega | contradiction
  | refine S.sk (S.sk (S.sk (S.o q.pt (S.end (hK _ ?_))))); clear hK K; refine Ev.ct ?_; have hR := rev_bad (es := es) (a := a) (b := b) (most := most) (by first | (intro h; exact ‹¬ okSched a› h.1) | (intro h; exact ‹¬ okSched b› h.2)); rw [hR.e, hR.v, hR.f, hR.n]; refine Ev.sr fun K hK => S.o (q.lvA [_, _] am_ag30 am_cl30) (S.sv [_, _] true [_] am_in30 am_cl30 (h := S.o q.as (S.o q.as (S.o q.as (S.end (hK _ ?_)))))); clear hK K; refine Ev.weaken (Wk.nsh strC 9 1) ?_; refine Ev.weaken (Wk.nsh strC 10 1) ?_; refine Ev.ret ?_; refine Ev.retv4 (res_c [_, _] am_ag30 am_cl30 (res_t (res_t (res_t res_n)))) ?_; refine ⟨?_, rfl⟩
    all_goals first | rfl | (rw [hR.e, hR.v, hR.f, hR.n]; done) | (simp; done)
  · first
  | omega | contradiction
  | refine S.o q.mv (S.c0 (hF := rschedValid_fun _ (by omega) (by assumption)) (h := S.o q.not (S.o q.pf (S.end (hK _ ?_))))); clear hK K; refine Ev.cn (fun c2 => ?_) (fun c2 => ?_)
    · first
    | omega | contradiction
    | have hR := rev_bad (es := es) (a := a) (b := b) (most := most) (by first | (intro h; exact ‹¬ okSched a› h.1) | (intro h; exact ‹¬ okSched b› h.2)); rw [hR.e, hR.v, hR.f, hR.n]; refine Ev.sr fun K hK => S.o (q.lvA [_, _] am_ag30 am_cl30) (S.sv [_, _] true [_] am_in30 am_cl30 (h := S.o q.as (S.o q.as (S.o q.as (S.end (hK _ ?_)))))); clear hK K; refine Ev.weaken (Wk.nsh strC 9 1) ?_; refine Ev.weaken (Wk.nsh strC 10 1) ?_; refine Ev.ret ?_; refine Ev.retv4 (res_c [_, _] am_ag30 am_cl30 (res_t (res_t (res_t res_n)))) ?_; refine ⟨?_, rfl⟩
      all_goals first | rfl | (rw [hR.e, hR.v, hR.f, hR.n]; done) | (simp; done)
    · first
    | omega | contradiction
    | refine Ev.skip ?_; show Ev _ _ _ _; have hA : okSched a := ‹_›; have hB : okSched b := ‹_›; have hS : okSched a ∧ okSched b := ⟨hA, hB⟩; have hkl := revK_le a b
      refine Ev.sr fun K hK => S.o q.as (S.end (hK _ ?_)); clear hK K; refine Ev.seq ?_; refine Ev.sr fun K hK => S.o q.as (S.end (hK _ ?_)); clear hK K; refine Ev.block ?_; refine Ev.weaken (Wk.nown Bar.c 12 56 5) ?_; refine Ev.loopU (ι := {p : List (Bar) × List (Bar) // p.1 ++ p.2 = b ∧ True}) [0, 1, 2] [1, 2, 3, 4, 8, 9, 10, 11] (fun ⟨(pre, suf), _⟩ => [(13, .lit (.int .i64 ((pre.length : Int)))), (12, .als 2 0 (revK a pre).length)]) (fun ⟨(pre, suf), _⟩ => [(0, ⟨false, 30, 2, [[.sh 4 ((bkL es).map Bundle.c), .sh 1 ((bkO es).map boolC)]], true⟩), (1, ⟨false, 30, 2, [[.lit (.slice none 0 0), .lit (.slice none 0 0)]], true⟩), (2, ⟨true, 56, 5, (revK a pre).map Bar.c, true⟩)]) (fun ⟨(pre, suf), _⟩ => suf.length) ⟨([], b), rfl, trivial⟩ (.c (.c (.c (.c (.c (.c (.c (.c .n)))))))) (keep_c (he := (by first | rfl | (simp; done))) (h := (keep_c (he := (by first | rfl | (simp; done))) (h := (keep_c (he := (by first | rfl | (rw [rl_in hA hB hsb ‹_›]; done) | (rw [rl_out hA hB hsb ‹_›]; done))) (h := keep_n)))))) (slots_c (he := (by first | rfl | (congr 2; simp; done))) (h := (slots_c (he := (by first | rfl | (rw [rl_in hA hB hsb ‹_›]; done) | (rw [rl_out hA hB hsb ‹_›]; done))) (h := trivial)))) ?_; rintro ⟨⟨pre, suf⟩, hp, hinv⟩ R0 hR0; dsimp only [List.cons_append, List.nil_append, List.length_cons, List.length_nil]
      simp only at hp hinv
      have hpl : pre.length + suf.length = (b).length := by rw [← hp, List.length_append]
      rcases suf with _ | ⟨s, suf⟩
      · rw [List.append_nil] at hp; simp only [List.length_nil] at hpl; subst pre; refine Ev.seq ?_; refine Ev.sr fun K hK => S.o q.mv (S.o q.mv (S.o (q.lens am_el32) (S.o q.lss (S.end (hK _ ?_))))); clear hK K; refine Ev.cd (fun c3 => ?_) (fun c3 => ?_)
        · first | omega | contradiction | (exfalso; simp at *; done)
        · first
        | omega | contradiction
        | refine Ev.exit ?_; refine hR0 _ _ ?_; show Ev _ _ _ _; refine Ev.sr fun K hK => S.o q.mv (S.o q.mv ?_); refine SeqL.weaken (Wk.frz 54 [_, _]) ?_; refine S.c0 (hF := rmake_fun (revK a b) most (by omega) (revK_w hwb)) (h := S.o q.mv (S.o q.ex (S.o q.ex (S.o q.as (S.o q.as (S.end (hK _ ?_))))))); clear hK K; refine Ev.seq ?_; have hvl := makeV_le (revK a b) most; refine Ev.sr fun K hK => S.o q.mv (S.o q.neq (S.end (hK _ ?_))); clear hK K; refine Ev.cn (fun c4 => ?_) (fun c4 => ?_)
          · first
          | omega | contradiction
          | have hR := rev_mk (es := es) hS (by omega); rw [hR.e, hR.v, hR.f, hR.n]; refine Ev.sr fun K hK => S.o (q.lvA [_, _] am_ag30 am_cl30) (S.o q.mv (S.sv [_, _] true [_] am_in30 am_cl30 (h := S.o q.as (S.o q.as (S.o q.as (S.end (hK _ ?_))))))); clear hK K; refine Ev.weaken (Wk.nsh strC 9 1) ?_; refine Ev.weaken (Wk.nsh strC 10 1) ?_; refine Ev.ret ?_; refine Ev.retv4 (res_c [_, _] am_ag30 am_cl30 (res_t (res_t (res_t res_n)))) ?_; refine ⟨?_, rfl⟩
            all_goals first | rfl | (rw [hR.e, hR.v, hR.f, hR.n]; done) | (simp; done)
          · first
          | omega | contradiction
          | refine Ev.skip ?_; show Ev _ _ _ _; refine Ev.weaken (Wk.frzv 4 [_]) ?_; have hgl : goneM a b = goneM a b := rfl; refine Ev.stpJ (m := 11) (nr := 4) (L0 := #[false, false, false, false, false, false, false, false, false, false, false]) [1, 2, 3, 4, 9, 10, 11, 13, 14, 15, 31, 32, 33, 34, 53, 54, 55, 56, 57, 58, 59, 60] [(16, .adr 0 0 0), (8, .adr 3 0 0)] [(0, ⟨false, 30, 2, [[.als 1 0 (bkL es).length, .als 2 0 (bkO es).length]], false⟩), (1, ⟨true, 53, 4, (bkL es).map Bundle.c, true⟩), (2, ⟨true, 4, 1, (bkO es).map boolC, true⟩), (3, ⟨false, 30, 2, [[.lit (.slice none 0 0), .lit (.slice none 0 0)]], true⟩)] (.c (.c (.c (.c (.c (.c (.c (.c (.c (.c (.c (.c (.c (.c (.c (.c (.c (.c (.c (.c (.c (.c .n)))))))))))))))))))))) rfl (by kernel_rfl) (by exact rfl) (fun K hK => ?_) ?_
            · skip; refine HP.fa (i := 1) am_fi30_0 (by rw [am_cl27]; decide) rfl (h := ?_); refine HP.ls1 (i := 2) am_ag27 rfl (h := ?_); refine HP.fa (i := 5) am_fi30_1 (by rw [am_cl28]; decide) rfl (h := ?_); refine HP.ls1 (i := 6) am_ag28 rfl (h := ?_); refine .done ?_; refine HT.three (i := 0) (j := 4) (k := 9) trivial rfl rfl rfl (S.nn (v := .als 3 0 ([] : List (Bundle)).length) (o := ⟨true, 53, 4, ([] : List (Bundle)).map Bundle.c, true⟩) (q.bs [] true am_el27 am_ze53 am_cl53) (S.end ?_)) (S.nn (v := .als 3 0 ([] : List (Bool)).length) (o := ⟨true, 4, 1, ([] : List (Bool)).map boolC, true⟩) (q.bs [] true am_el28 am_ze4 am_cl4) (S.end ?_)) (S.nn (q.al am_ze30) (S.end ?_))
              · skip; refine HT.three (i := 3) (j := 4) (k := 9) trivial rfl rfl rfl (S.ap' [_] am_el27 am_ze53 am_cl53 am_by53 (hh := head_own') (hr := rows_sh) (h := S.end ?_)) (S.nn (v := .als 4 0 ([] : List (Bool)).length) (o := ⟨true, 4, 1, ([] : List (Bool)).map boolC, true⟩) (q.bs [] true am_el28 am_ze4 am_cl4) (S.end ?_)) (S.nn (q.al am_ze30) (S.end ?_))
                · skip; refine HT.two (i := 4) (j := 9) trivial rfl rfl (S.nn (v := .als 5 0 ([] : List (Bool)).length) (o := ⟨true, 4, 1, ([] : List (Bool)).map boolC, true⟩) (q.bs [] true am_el28 am_ze4 am_cl4) (S.end ?_)) (S.nn (q.al am_ze30) (S.end ?_))
                  · skip; refine HT.two (i := 7) (j := 9) trivial rfl rfl (S.ap' [_, _] am_el28 am_ze4 am_cl4 am_by4 (hh := head_own') (hr := rows_sh) (h := S.end ?_)) (S.nn (q.al am_ze30) (S.end ?_))
                    · skip; refine HT.two (i := 8) (j := 9) trivial rfl rfl (S.o (q.bd [_, _] am_ze30 am_pl30) (S.end ?_)) (S.nn (q.al am_ze30) (S.end ?_))
                      · skip; refine HT.one (i := 9) trivial rfl (S.nn (q.al am_ze30) (S.end ?_)); refine HT.one (i := 10) trivial rfl (S.sv [_, _] false [_, _, _] am_in30 am_cl30 (h := S.end ?_)); refine HT.nil trivial (by kernel_rfl) (hK _ (joinU [7, 4, 6, 1] [1, 2, 3, 4, 9, 10, 11, 13, 14, 15, 31, 32, 33, 34, 53, 54, 55, 56, 57, 58, 59, 60] (keep_d (he := rfl) (h := (keep_c (he := rfl) (h := (keep_c (he := rfl) (h := (keep_c (he := rfl) (h := keep_n)))))))) (slots_c (he := rfl) (h := (slots_c (he := rfl) (h := trivial)))) (.c (.c (.c (.c (.c (.c (.c (.c (.c (.c (.c (.c (.c (.c (.c (.c (.c (.c (.c (.c (.c (.c .n))))))))))))))))))))))))
                      · skip; refine HT.one (i := 8) trivial rfl (S.o (q.bd [_, _] am_ze30 am_pl30) (S.end ?_)); refine HT.one (i := 10) trivial rfl (S.sv [_, _] false [_, _, _] am_in30 am_cl30 (h := S.end ?_)); refine HT.nil trivial (by kernel_rfl) (hK _ (joinU [7, 4, 6, 1] [1, 2, 3, 4, 9, 10, 11, 13, 14, 15, 31, 32, 33, 34, 53, 54, 55, 56, 57, 58, 59, 60] (keep_d (he := rfl) (h := (keep_c (he := rfl) (h := (keep_c (he := rfl) (h := (keep_c (he := rfl) (h := keep_n)))))))) (slots_c (he := rfl) (h := (slots_c (he := rfl) (h := trivial)))) (.c (.c (.c (.c (.c (.c (.c (.c (.c (.c (.c (.c (.c (.c (.c (.c (.c (.c (.c (.c (.c (.c .n))))))))))))))))))))))))
                    · skip; refine HT.one (i := 7) trivial rfl (S.ap' [_, _, _] am_el28 am_ze4 am_cl4 am_by4 (hh := head_own') (hr := rows_sh) (h := S.end ?_)); refine HT.one (i := 8) trivial rfl (S.o (q.bd [_, _] am_ze30 am_pl30) (S.end ?_)); refine HT.one (i := 10) trivial rfl (S.sv [_, _] false [_, _, _] am_in30 am_cl30 (h := S.end ?_)); refine HT.nil trivial (by kernel_rfl) (hK _ (joinU [6, 4, 7, 1] [1, 2, 3, 4, 9, 10, 11, 13, 14, 15, 31, 32, 33, 34, 53, 54, 55, 56, 57, 58, 59, 60] (keep_d (he := rfl) (h := (keep_c (he := rfl) (h := (keep_c (he := rfl) (h := (keep_c (he := rfl) (h := keep_n)))))))) (slots_c (he := rfl) (h := (slots_c (he := rfl) (h := trivial)))) (.c (.c (.c (.c (.c (.c (.c (.c (.c (.c (.c (.c (.c (.c (.c (.c (.c (.c (.c (.c (.c (.c .n))))))))))))))))))))))))
                  · skip; refine HT.one (i := 4) trivial rfl (S.nn (v := .als 6 0 ([] : List (Bool)).length) (o := ⟨true, 4, 1, ([] : List (Bool)).map boolC, true⟩) (q.bs [] true am_el28 am_ze4 am_cl4) (S.end ?_)); refine HT.one (i := 7) trivial rfl (S.ap' [_, _, _] am_el28 am_ze4 am_cl4 am_by4 (hh := head_own') (hr := rows_sh) (h := S.end ?_)); refine HT.one (i := 8) trivial rfl (S.o (q.bd [_, _] am_ze30 am_pl30) (S.end ?_)); refine HT.one (i := 10) trivial rfl (S.sv [_, _] false [_, _, _] am_in30 am_cl30 (h := S.end ?_)); refine HT.nil trivial (by kernel_rfl) (hK _ (joinU [5, 4, 7, 1] [1, 2, 3, 4, 9, 10, 11, 13, 14, 15, 31, 32, 33, 34, 53, 54, 55, 56, 57, 58, 59, 60] (keep_d (he := rfl) (h := (keep_c (he := rfl) (h := (keep_c (he := rfl) (h := (keep_c (he := rfl) (h := keep_n)))))))) (slots_c (he := rfl) (h := (slots_c (he := rfl) (h := trivial)))) (.c (.c (.c (.c (.c (.c (.c (.c (.c (.c (.c (.c (.c (.c (.c (.c (.c (.c (.c (.c (.c (.c .n))))))))))))))))))))))))
                · skip; refine HT.two (i := 3) (j := 9) trivial rfl rfl (S.ap' [_, _] am_el27 am_ze53 am_cl53 am_by53 (hh := head_own') (hr := rows_sh) (h := S.end ?_)) (S.nn (q.al am_ze30) (S.end ?_))
                  · skip; refine HT.two (i := 7) (j := 9) trivial rfl rfl (S.ap' [_, _] am_el28 am_ze4 am_cl4 am_by4 (hh := head_own') (hr := rows_sh) (h := S.end ?_)) (S.nn (q.al am_ze30) (S.end ?_))
                    · skip; refine HT.two (i := 8) (j := 9) trivial rfl rfl (S.o (q.bd [_, _] am_ze30 am_pl30) (S.end ?_)) (S.nn (q.al am_ze30) (S.end ?_))
                      · skip; refine HT.one (i := 9) trivial rfl (S.nn (q.al am_ze30) (S.end ?_)); refine HT.one (i := 10) trivial rfl (S.sv [_, _] false [_, _, _] am_in30 am_cl30 (h := S.end ?_)); refine HT.nil trivial (by kernel_rfl) (hK _ (joinU [7, 5, 6, 1] [1, 2, 3, 4, 9, 10, 11, 13, 14, 15, 31, 32, 33, 34, 53, 54, 55, 56, 57, 58, 59, 60] (keep_d (he := rfl) (h := (keep_c (he := rfl) (h := (keep_c (he := rfl) (h := (keep_c (he := rfl) (h := keep_n)))))))) (slots_c (he := rfl) (h := (slots_c (he := rfl) (h := trivial)))) (.c (.c (.c (.c (.c (.c (.c (.c (.c (.c (.c (.c (.c (.c (.c (.c (.c (.c (.c (.c (.c (.c .n))))))))))))))))))))))))
                      · skip; refine HT.one (i := 8) trivial rfl (S.o (q.bd [_, _] am_ze30 am_pl30) (S.end ?_)); refine HT.one (i := 10) trivial rfl (S.sv [_, _] false [_, _, _] am_in30 am_cl30 (h := S.end ?_)); refine HT.nil trivial (by kernel_rfl) (hK _ (joinU [7, 5, 6, 1] [1, 2, 3, 4, 9, 10, 11, 13, 14, 15, 31, 32, 33, 34, 53, 54, 55, 56, 57, 58, 59, 60] (keep_d (he := rfl) (h := (keep_c (he := rfl) (h := (keep_c (he := rfl) (h := (keep_c (he := rfl) (h := keep_n)))))))) (slots_c (he := rfl) (h := (slots_c (he := rfl) (h := trivial)))) (.c (.c (.c (.c (.c (.c (.c (.c (.c (.c (.c (.c (.c (.c (.c (.c (.c (.c (.c (.c (.c (.c .n))))))))))))))))))))))))
                    · skip; refine HT.one (i := 7) trivial rfl (S.ap' [_, _, _] am_el28 am_ze4 am_cl4 am_by4 (hh := head_own') (hr := rows_sh) (h := S.end ?_)); refine HT.one (i := 8) trivial rfl (S.o (q.bd [_, _] am_ze30 am_pl30) (S.end ?_)); refine HT.one (i := 10) trivial rfl (S.sv [_, _] false [_, _, _] am_in30 am_cl30 (h := S.end ?_)); refine HT.nil trivial (by kernel_rfl) (hK _ (joinU [6, 5, 7, 1] [1, 2, 3, 4, 9, 10, 11, 13, 14, 15, 31, 32, 33, 34, 53, 54, 55, 56, 57, 58, 59, 60] (keep_d (he := rfl) (h := (keep_c (he := rfl) (h := (keep_c (he := rfl) (h := (keep_c (he := rfl) (h := keep_n)))))))) (slots_c (he := rfl) (h := (slots_c (he := rfl) (h := trivial)))) (.c (.c (.c (.c (.c (.c (.c (.c (.c (.c (.c (.c (.c (.c (.c (.c (.c (.c (.c (.c (.c (.c .n))))))))))))))))))))))))
                  · skip; refine HT.one (i := 3) trivial rfl (S.ap' [_, _, _] am_el27 am_ze53 am_cl53 am_by53 (hh := head_own') (hr := rows_sh) (h := S.end ?_)); refine HT.one (i := 7) trivial rfl (S.ap' [_, _, _] am_el28 am_ze4 am_cl4 am_by4 (hh := head_own') (hr := rows_sh) (h := S.end ?_)); refine HT.one (i := 8) trivial rfl (S.o (q.bd [_, _] am_ze30 am_pl30) (S.end ?_)); refine HT.one (i := 10) trivial rfl (S.sv [_, _] false [_, _, _] am_in30 am_cl30 (h := S.end ?_)); refine HT.nil trivial (by kernel_rfl) (hK _ (joinU [5, 6, 7, 1] [1, 2, 3, 4, 9, 10, 11, 13, 14, 15, 31, 32, 33, 34, 53, 54, 55, 56, 57, 58, 59, 60] (keep_d (he := rfl) (h := (keep_c (he := rfl) (h := (keep_c (he := rfl) (h := (keep_c (he := rfl) (h := keep_n)))))))) (slots_c (he := rfl) (h := (slots_c (he := rfl) (h := trivial)))) (.c (.c (.c (.c (.c (.c (.c (.c (.c (.c (.c (.c (.c (.c (.c (.c (.c (.c (.c (.c (.c (.c .n))))))))))))))))))))))))
                · skip; refine HT.two (i := 3) (j := 4) trivial rfl rfl (S.ap' [_, _] am_el27 am_ze53 am_cl53 am_by53 (hh := head_own') (hr := rows_sh) (h := S.end ?_)) (S.nn (v := .als 5 0 ([] : List (Bool)).length) (o := ⟨true, 4, 1, ([] : List (Bool)).map boolC, true⟩) (q.bs [] true am_el28 am_ze4 am_cl4) (S.end ?_))
                  · skip; refine HT.one (i := 4) trivial rfl (S.nn (v := .als 6 0 ([] : List (Bool)).length) (o := ⟨true, 4, 1, ([] : List (Bool)).map boolC, true⟩) (q.bs [] true am_el28 am_ze4 am_cl4) (S.end ?_)); refine HT.one (i := 7) trivial rfl (S.ap' [_, _, _] am_el28 am_ze4 am_cl4 am_by4 (hh := head_own') (hr := rows_sh) (h := S.end ?_)); refine HT.one (i := 8) trivial rfl (S.o (q.bd [_, _] am_ze30 am_pl30) (S.end ?_)); refine HT.one (i := 10) trivial rfl (S.sv [_, _] false [_, _, _] am_in30 am_cl30 (h := S.end ?_)); refine HT.nil trivial (by kernel_rfl) (hK _ (joinU [4, 5, 7, 1] [1, 2, 3, 4, 9, 10, 11, 13, 14, 15, 31, 32, 33, 34, 53, 54, 55, 56, 57, 58, 59, 60] (keep_d (he := rfl) (h := (keep_c (he := rfl) (h := (keep_c (he := rfl) (h := (keep_c (he := rfl) (h := keep_n)))))))) (slots_c (he := rfl) (h := (slots_c (he := rfl) (h := trivial)))) (.c (.c (.c (.c (.c (.c (.c (.c (.c (.c (.c (.c (.c (.c (.c (.c (.c (.c (.c (.c (.c (.c .n))))))))))))))))))))))))
                  · skip; refine HT.one (i := 3) trivial rfl (S.ap' [_, _, _] am_el27 am_ze53 am_cl53 am_by53 (hh := head_own') (hr := rows_sh) (h := S.end ?_)); refine HT.one (i := 7) trivial rfl (S.ap' [_, _, _] am_el28 am_ze4 am_cl4 am_by4 (hh := head_own') (hr := rows_sh) (h := S.end ?_)); refine HT.one (i := 8) trivial rfl (S.o (q.bd [_, _] am_ze30 am_pl30) (S.end ?_)); refine HT.one (i := 10) trivial rfl (S.sv [_, _] false [_, _, _] am_in30 am_cl30 (h := S.end ?_)); refine HT.nil trivial (by kernel_rfl) (hK _ (joinU [4, 6, 7, 1] [1, 2, 3, 4, 9, 10, 11, 13, 14, 15, 31, 32, 33, 34, 53, 54, 55, 56, 57, 58, 59, 60] (keep_d (he := rfl) (h := (keep_c (he := rfl) (h := (keep_c (he := rfl) (h := (keep_c (he := rfl) (h := keep_n)))))))) (slots_c (he := rfl) (h := (slots_c (he := rfl) (h := trivial)))) (.c (.c (.c (.c (.c (.c (.c (.c (.c (.c (.c (.c (.c (.c (.c (.c (.c (.c (.c (.c (.c (.c .n))))))))))))))))))))))))
              · skip; refine HT.two (i := 0) (j := 9) trivial rfl rfl (S.nn (v := .als 4 0 ([] : List (Bundle)).length) (o := ⟨true, 53, 4, ([] : List (Bundle)).map Bundle.c, true⟩) (q.bs [] true am_el27 am_ze53 am_cl53) (S.end ?_)) (S.nn (q.al am_ze30) (S.end ?_))
                · skip; refine HT.two (i := 3) (j := 9) trivial rfl rfl (S.ap' [_, _] am_el27 am_ze53 am_cl53 am_by53 (hh := head_own') (hr := rows_sh) (h := S.end ?_)) (S.nn (q.al am_ze30) (S.end ?_))
                  · skip; refine HT.two (i := 7) (j := 9) trivial rfl rfl (S.ap' [_, _] am_el28 am_ze4 am_cl4 am_by4 (hh := head_own') (hr := rows_sh) (h := S.end ?_)) (S.nn (q.al am_ze30) (S.end ?_))
                    · skip; refine HT.two (i := 8) (j := 9) trivial rfl rfl (S.o (q.bd [_, _] am_ze30 am_pl30) (S.end ?_)) (S.nn (q.al am_ze30) (S.end ?_))
                      · skip; refine HT.one (i := 9) trivial rfl (S.nn (q.al am_ze30) (S.end ?_)); refine HT.one (i := 10) trivial rfl (S.sv [_, _] false [_, _, _] am_in30 am_cl30 (h := S.end ?_)); refine HT.nil trivial (by kernel_rfl) (hK _ (joinU [7, 5, 6, 1] [1, 2, 3, 4, 9, 10, 11, 13, 14, 15, 31, 32, 33, 34, 53, 54, 55, 56, 57, 58, 59, 60] (keep_d (he := rfl) (h := (keep_c (he := rfl) (h := (keep_c (he := rfl) (h := (keep_c (he := rfl) (h := keep_n)))))))) (slots_c (he := rfl) (h := (slots_c (he := rfl) (h := trivial)))) (.c (.c (.c (.c (.c (.c (.c (.c (.c (.c (.c (.c (.c (.c (.c (.c (.c (.c (.c (.c (.c (.c .n))))))))))))))))))))))))
                      · skip; refine HT.one (i := 8) trivial rfl (S.o (q.bd [_, _] am_ze30 am_pl30) (S.end ?_)); refine HT.one (i := 10) trivial rfl (S.sv [_, _] false [_, _, _] am_in30 am_cl30 (h := S.end ?_)); refine HT.nil trivial (by kernel_rfl) (hK _ (joinU [7, 5, 6, 1] [1, 2, 3, 4, 9, 10, 11, 13, 14, 15, 31, 32, 33, 34, 53, 54, 55, 56, 57, 58, 59, 60] (keep_d (he := rfl) (h := (keep_c (he := rfl) (h := (keep_c (he := rfl) (h := (keep_c (he := rfl) (h := keep_n)))))))) (slots_c (he := rfl) (h := (slots_c (he := rfl) (h := trivial)))) (.c (.c (.c (.c (.c (.c (.c (.c (.c (.c (.c (.c (.c (.c (.c (.c (.c (.c (.c (.c (.c (.c .n))))))))))))))))))))))))
                    · skip; refine HT.one (i := 7) trivial rfl (S.ap' [_, _, _] am_el28 am_ze4 am_cl4 am_by4 (hh := head_own') (hr := rows_sh) (h := S.end ?_)); refine HT.one (i := 8) trivial rfl (S.o (q.bd [_, _] am_ze30 am_pl30) (S.end ?_)); refine HT.one (i := 10) trivial rfl (S.sv [_, _] false [_, _, _] am_in30 am_cl30 (h := S.end ?_)); refine HT.nil trivial (by kernel_rfl) (hK _ (joinU [6, 5, 7, 1] [1, 2, 3, 4, 9, 10, 11, 13, 14, 15, 31, 32, 33, 34, 53, 54, 55, 56, 57, 58, 59, 60] (keep_d (he := rfl) (h := (keep_c (he := rfl) (h := (keep_c (he := rfl) (h := (keep_c (he := rfl) (h := keep_n)))))))) (slots_c (he := rfl) (h := (slots_c (he := rfl) (h := trivial)))) (.c (.c (.c (.c (.c (.c (.c (.c (.c (.c (.c (.c (.c (.c (.c (.c (.c (.c (.c (.c (.c (.c .n))))))))))))))))))))))))
                  · skip; refine HT.one (i := 3) trivial rfl (S.ap' [_, _, _] am_el27 am_ze53 am_cl53 am_by53 (hh := head_own') (hr := rows_sh) (h := S.end ?_)); refine HT.one (i := 7) trivial rfl (S.ap' [_, _, _] am_el28 am_ze4 am_cl4 am_by4 (hh := head_own') (hr := rows_sh) (h := S.end ?_)); refine HT.one (i := 8) trivial rfl (S.o (q.bd [_, _] am_ze30 am_pl30) (S.end ?_)); refine HT.one (i := 10) trivial rfl (S.sv [_, _] false [_, _, _] am_in30 am_cl30 (h := S.end ?_)); refine HT.nil trivial (by kernel_rfl) (hK _ (joinU [5, 6, 7, 1] [1, 2, 3, 4, 9, 10, 11, 13, 14, 15, 31, 32, 33, 34, 53, 54, 55, 56, 57, 58, 59, 60] (keep_d (he := rfl) (h := (keep_c (he := rfl) (h := (keep_c (he := rfl) (h := (keep_c (he := rfl) (h := keep_n)))))))) (slots_c (he := rfl) (h := (slots_c (he := rfl) (h := trivial)))) (.c (.c (.c (.c (.c (.c (.c (.c (.c (.c (.c (.c (.c (.c (.c (.c (.c (.c (.c (.c (.c (.c .n))))))))))))))))))))))))
                · skip; refine HT.one (i := 0) trivial rfl (S.nn (v := .als 5 0 ([] : List (Bundle)).length) (o := ⟨true, 53, 4, ([] : List (Bundle)).map Bundle.c, true⟩) (q.bs [] true am_el27 am_ze53 am_cl53) (S.end ?_)); refine HT.one (i := 3) trivial rfl (S.ap' [_, _, _] am_el27 am_ze53 am_cl53 am_by53 (hh := head_own') (hr := rows_sh) (h := S.end ?_)); refine HT.one (i := 7) trivial rfl (S.ap' [_, _, _] am_el28 am_ze4 am_cl4 am_by4 (hh := head_own') (hr := rows_sh) (h := S.end ?_)); refine HT.one (i := 8) trivial rfl (S.o (q.bd [_, _] am_ze30 am_pl30) (S.end ?_)); refine HT.one (i := 10) trivial rfl (S.sv [_, _] false [_, _, _] am_in30 am_cl30 (h := S.end ?_)); refine HT.nil trivial (by kernel_rfl) (hK _ (joinU [4, 6, 7, 1] [1, 2, 3, 4, 9, 10, 11, 13, 14, 15, 31, 32, 33, 34, 53, 54, 55, 56, 57, 58, 59, 60] (keep_d (he := rfl) (h := (keep_c (he := rfl) (h := (keep_c (he := rfl) (h := (keep_c (he := rfl) (h := keep_n)))))))) (slots_c (he := rfl) (h := (slots_c (he := rfl) (h := trivial)))) (.c (.c (.c (.c (.c (.c (.c (.c (.c (.c (.c (.c (.c (.c (.c (.c (.c (.c (.c (.c (.c (.c .n))))))))))))))))))))))))
              · skip; refine HT.two (i := 0) (j := 4) trivial rfl rfl (S.nn (v := .als 4 0 ([] : List (Bundle)).length) (o := ⟨true, 53, 4, ([] : List (Bundle)).map Bundle.c, true⟩) (q.bs [] true am_el27 am_ze53 am_cl53) (S.end ?_)) (S.nn (v := .als 4 0 ([] : List (Bool)).length) (o := ⟨true, 4, 1, ([] : List (Bool)).map boolC, true⟩) (q.bs [] true am_el28 am_ze4 am_cl4) (S.end ?_))
                · skip; refine HT.two (i := 3) (j := 4) trivial rfl rfl (S.ap' [_, _] am_el27 am_ze53 am_cl53 am_by53 (hh := head_own') (hr := rows_sh) (h := S.end ?_)) (S.nn (v := .als 5 0 ([] : List (Bool)).length) (o := ⟨true, 4, 1, ([] : List (Bool)).map boolC, true⟩) (q.bs [] true am_el28 am_ze4 am_cl4) (S.end ?_))
                  · skip; refine HT.one (i := 4) trivial rfl (S.nn (v := .als 6 0 ([] : List (Bool)).length) (o := ⟨true, 4, 1, ([] : List (Bool)).map boolC, true⟩) (q.bs [] true am_el28 am_ze4 am_cl4) (S.end ?_)); refine HT.one (i := 7) trivial rfl (S.ap' [_, _, _] am_el28 am_ze4 am_cl4 am_by4 (hh := head_own') (hr := rows_sh) (h := S.end ?_)); refine HT.one (i := 8) trivial rfl (S.o (q.bd [_, _] am_ze30 am_pl30) (S.end ?_)); refine HT.one (i := 10) trivial rfl (S.sv [_, _] false [_, _, _] am_in30 am_cl30 (h := S.end ?_)); refine HT.nil trivial (by kernel_rfl) (hK _ (joinU [3, 5, 7, 1] [1, 2, 3, 4, 9, 10, 11, 13, 14, 15, 31, 32, 33, 34, 53, 54, 55, 56, 57, 58, 59, 60] (keep_d (he := rfl) (h := (keep_c (he := rfl) (h := (keep_c (he := rfl) (h := (keep_c (he := rfl) (h := keep_n)))))))) (slots_c (he := rfl) (h := (slots_c (he := rfl) (h := trivial)))) (.c (.c (.c (.c (.c (.c (.c (.c (.c (.c (.c (.c (.c (.c (.c (.c (.c (.c (.c (.c (.c (.c .n))))))))))))))))))))))))
                  · skip; refine HT.one (i := 3) trivial rfl (S.ap' [_, _, _] am_el27 am_ze53 am_cl53 am_by53 (hh := head_own') (hr := rows_sh) (h := S.end ?_)); refine HT.one (i := 7) trivial rfl (S.ap' [_, _, _] am_el28 am_ze4 am_cl4 am_by4 (hh := head_own') (hr := rows_sh) (h := S.end ?_)); refine HT.one (i := 8) trivial rfl (S.o (q.bd [_, _] am_ze30 am_pl30) (S.end ?_)); refine HT.one (i := 10) trivial rfl (S.sv [_, _] false [_, _, _] am_in30 am_cl30 (h := S.end ?_)); refine HT.nil trivial (by kernel_rfl) (hK _ (joinU [3, 6, 7, 1] [1, 2, 3, 4, 9, 10, 11, 13, 14, 15, 31, 32, 33, 34, 53, 54, 55, 56, 57, 58, 59, 60] (keep_d (he := rfl) (h := (keep_c (he := rfl) (h := (keep_c (he := rfl) (h := (keep_c (he := rfl) (h := keep_n)))))))) (slots_c (he := rfl) (h := (slots_c (he := rfl) (h := trivial)))) (.c (.c (.c (.c (.c (.c (.c (.c (.c (.c (.c (.c (.c (.c (.c (.c (.c (.c (.c (.c (.c (.c .n))))))))))))))))))))))))
                · skip; refine HT.one (i := 0) trivial rfl (S.nn (v := .als 5 0 ([] : List (Bundle)).length) (o := ⟨true, 53, 4, ([] : List (Bundle)).map Bundle.c, true⟩) (q.bs [] true am_el27 am_ze53 am_cl53) (S.end ?_)); refine HT.one (i := 3) trivial rfl (S.ap' [_, _, _] am_el27 am_ze53 am_cl53 am_by53 (hh := head_own') (hr := rows_sh) (h := S.end ?_)); refine HT.one (i := 7) trivial rfl (S.ap' [_, _, _] am_el28 am_ze4 am_cl4 am_by4 (hh := head_own') (hr := rows_sh) (h := S.end ?_)); refine HT.one (i := 8) trivial rfl (S.o (q.bd [_, _] am_ze30 am_pl30) (S.end ?_)); refine HT.one (i := 10) trivial rfl (S.sv [_, _] false [_, _, _] am_in30 am_cl30 (h := S.end ?_)); refine HT.nil trivial (by kernel_rfl) (hK _ (joinU [3, 6, 7, 1] [1, 2, 3, 4, 9, 10, 11, 13, 14, 15, 31, 32, 33, 34, 53, 54, 55, 56, 57, 58, 59, 60] (keep_d (he := rfl) (h := (keep_c (he := rfl) (h := (keep_c (he := rfl) (h := (keep_c (he := rfl) (h := keep_n)))))))) (slots_c (he := rfl) (h := (slots_c (he := rfl) (h := trivial)))) (.c (.c (.c (.c (.c (.c (.c (.c (.c (.c (.c (.c (.c (.c (.c (.c (.c (.c (.c (.c (.c (.c .n))))))))))))))))))))))))
            dsimp only [List.cons_append, List.nil_append]; refine Ev.sr fun K hK => S.o q.as (S.o q.as (S.end (hK _ ?_))); clear hK K; refine Ev.seq ?_; refine Ev.sr fun K hK => S.o q.as (S.end (hK _ ?_)); clear hK K; refine Ev.block ?_; refine Ev.weaken (Wk.nown strC 17 9 1) ?_
            refine Ev.loopU (ι := {p : List (Ent) × List (Ent) // p.1 ++ p.2 = es ∧ True}) [0, 1, 2, 3, 4] [1, 2, 3, 4, 8, 9, 10, 11, 13, 14, 15, 16, 18, 31, 32, 33, 34, 53, 54, 55, 56, 57, 58, 59, 60] (fun ⟨(pre, suf), _⟩ => [(19, .lit (.int .i64 ((pre.length : Int)))), (17, .als 4 0 (offT (goneM a b) pre).length)]) (fun ⟨(pre, suf), _⟩ => [(0, ⟨false, 30, 2, [[.als 1 0 (bkL es).length, .als 2 0 (bkO (pre.map (rvE (goneM a b)) ++ suf)).length]], false⟩), (1, ⟨true, 53, 4, (bkL es).map Bundle.c, true⟩), (2, ⟨true, 4, 1, (bkO (pre.map (rvE (goneM a b)) ++ suf)).map boolC, true⟩), (3, ⟨false, 30, 2, [[.lit (.slice none 0 0), .lit (.slice none 0 0)]], true⟩), (4, ⟨true, 9, 1, (offT (goneM a b) pre).map strC, true⟩)]) (fun ⟨(pre, suf), _⟩ => suf.length) ⟨([], es), rfl, trivial⟩ (.c (.c (.c (.c (.c (.c (.c (.c (.c (.c (.c (.c (.c (.c (.c (.c (.c (.c (.c (.c (.c (.c (.c (.c (.c .n))))))))))))))))))))))))) (keep_d (he := (by first | rfl | (rw [hN.e]; done) | (rw [Int.toNat_natCast, hY1]; done) | (simp [bkO_len]; done))) (h := (keep_c (he := (by first | rfl | (simp; done))) (h := (keep_c (he := (by first | rfl | (rw [hN.e]; done) | (rw [Int.toNat_natCast, hY1]; done) | (simp; done))) (h := (keep_c (he := (by first | rfl | (simp; done))) (h := (keep_c (he := (by first | rfl | (rw [hN.o]; done) | (rw [hY.o]; done))) (h := keep_n)))))))))) (slots_c (he := (by first | rfl | (congr 2; simp; done))) (h := (slots_c (he := (by first | rfl | (rw [hN.o]; done) | (rw [hY.o]; done))) (h := trivial)))) ?_
            rintro ⟨⟨pre, suf⟩, hp, hinv⟩ R2 hR2; dsimp only [List.cons_append, List.nil_append, List.length_cons, List.length_nil]
            simp only at hp hinv
            have hpl : pre.length + suf.length = (es).length := by rw [← hp, List.length_append]
            rcases suf with _ | ⟨s, suf⟩
            · rw [List.append_nil] at hp; simp only [List.length_nil] at hpl; subst pre; rw [List.append_nil]; refine Ev.seq ?_; refine Ev.sr fun K hK => S.o q.mv (S.o (q.fs 0 am_fi30_0 am_cl27) (S.o (q.ls am_ag27) (S.o (q.lens am_el27) (S.o q.lss (S.end (hK _ ?_)))))); clear hK K; refine Ev.cd (fun c5 => ?_) (fun c5 => ?_)
              · first | omega | contradiction | (exfalso; simp at *; done)
              · first
              | omega | contradiction
              | refine Ev.exit ?_; refine hR2 _ _ ?_; show Ev _ _ _ _; refine Ev.seq ?_; refine Ev.sr fun K hK => S.o q.as (S.end (hK _ ?_)); clear hK K; refine Ev.block ?_; refine Ev.weaken (Wk.nown strC 18 9 1) ?_
                refine Ev.loopU (ι := {p : List (Bundle) × List (Bundle) // p.1 ++ p.2 = (makeV (revK a b) most) ∧ True}) [0, 1, 2, 3, 4, 5] [1, 2, 3, 4, 8, 9, 10, 11, 13, 14, 15, 16, 19, 31, 32, 33, 34, 53, 54, 55, 56, 57, 58, 59, 60, 72, 73, 74, 75, 76] (fun ⟨(pre, suf), _⟩ => [(20, .lit (.int .i64 ((pre.length : Int)))), (17, .als 4 0 (offT (goneM a b) es).length), (18, .als 5 0 (onT (es.map (rvE (goneM a b))) pre).length)]) (fun ⟨(pre, suf), _⟩ => [(0, ⟨false, 30, 2, [[.als 1 0 (bkL (addB (es.map (rvE (goneM a b))) pre)).length, .als 2 0 (bkO (addB (es.map (rvE (goneM a b))) pre)).length]], false⟩), (1, ⟨true, 53, 4, (bkL (addB (es.map (rvE (goneM a b))) pre)).map Bundle.c, true⟩), (2, ⟨true, 4, 1, (bkO (addB (es.map (rvE (goneM a b))) pre)).map boolC, true⟩), (3, ⟨false, 30, 2, [[.lit (.slice none 0 0), .lit (.slice none 0 0)]], true⟩), (4, ⟨true, 9, 1, (offT (goneM a b) es).map strC, true⟩), (5, ⟨true, 9, 1, (onT (es.map (rvE (goneM a b))) pre).map strC, true⟩)]) (fun ⟨(pre, suf), _⟩ => suf.length) ⟨([], (makeV (revK a b) most)), rfl, trivial⟩ (.c (.c (.c (.c (.c (.c (.c (.c (.c (.c (.c (.c (.c (.c (.c (.c (.c (.c (.c (.c (.c (.c (.c (.c (.c (.c (.c (.c (.c (.c .n)))))))))))))))))))))))))))))) (keep_d (he := (by first | rfl | (rw [hk1, hk2]; done) | (simp [addB, bkL_rv]; done) | (simp [addB, bkL_len, bkO_len]; done))) (h := (keep_c (he := (by first | rfl | (rw [bkL_rv]; done) | (rw [hk1]; done) | (simp [addB, bkL_rv]; done))) (h := (keep_c (he := (by first | rfl | (rw [hk2]; done) | (simp [addB]; done))) (h := (keep_c (he := (by first | rfl | (simp; done))) (h := (keep_c (he := (by first | rfl | (simp; done))) (h := (keep_c (he := (by first | rfl | (rw [hk3]; done) | (rw [onT_nil]; done))) (h := keep_n)))))))))))) (slots_c (he := (by first | rfl | (congr 2; simp; done))) (h := (slots_c (he := (by first | rfl | (simp; done) | (congr 2; omega))) (h := (slots_c (he := (by first | rfl | (rw [hk3]; done) | (rw [onT_nil]; done))) (h := trivial)))))) ?_
                rintro ⟨⟨pre, suf⟩, hp, hinv⟩ R4 hR4; dsimp only [List.cons_append, List.nil_append, List.length_cons, List.length_nil]
                simp only at hp hinv
                have hpl : pre.length + suf.length = ((makeV (revK a b) most)).length := by rw [← hp, List.length_append]
                rcases suf with _ | ⟨s, suf⟩
                · rw [List.append_nil] at hp; simp only [List.length_nil] at hpl; subst hp; have hal := addB_len (makeV (revK a b) most) (es.map (rvE (goneM a b))); rw [List.length_map] at hal; have hlx := bkL_len (addB (es.map (rvE (goneM a b))) (makeV (revK a b) most)); have hly := bkO_len (addB (es.map (rvE (goneM a b))) (makeV (revK a b) most)); refine Ev.seq ?_; refine Ev.sr fun K hK => S.o q.mv (S.o q.mv (S.o (q.lens am_el27) (S.o q.lss (S.end (hK _ ?_))))); clear hK K; refine Ev.cd (fun c6 => ?_) (fun c6 => ?_)
                  · first | omega | contradiction | (exfalso; simp at *; done)
                  · first
                  | omega | contradiction
                  | refine Ev.exit ?_; refine hR4 _ _ ?_; show Ev _ _ _ _; refine Ev.seq ?_; refine Ev.sr fun K hK => S.o (q.fa 0 am_fi30_0 am_cl27) (S.o (q.lv am_ag27) (S.o (q.lena am_el27) (S.o q.gtr (S.end (hK _ ?_))))); clear hK K; refine Ev.cd (fun c7 => ?_) (fun c7 => ?_)
                    · first
                    | omega | contradiction
                    | have hR := rev_full (es := es) hS (by omega) (by omega); rw [hR.e, hR.v, hR.f, hR.n]; refine Ev.sr fun K hK => S.o (q.lsA [_, _] am_ag30 am_cl30) (S.sv [_, _] true [_, _, _, _, _] am_in30 am_cl30 (h := S.o q.as (S.o q.as (S.o q.as (S.end (hK _ ?_)))))); clear hK K; refine Ev.weaken (Wk.nsh strC 9 1) ?_; refine Ev.weaken (Wk.nsh strC 10 1) ?_; refine Ev.ret ?_; refine Ev.retv4 (res_c [_, _] am_ag30 am_cl30 (res_t (res_t (res_t res_n)))) ?_; refine ⟨?_, rfl⟩
                      all_goals first | rfl | (rw [hR.e, hR.v, hR.f, hR.n]; done) | (simp; done)
                    · first
                    | omega | contradiction
                    | refine Ev.skip ?_; show Ev _ _ _ _; have hR := rev_ok (es := es) (most := most) hS (by omega) (by omega); rw [hR.e, hR.v, hR.f, hR.n]; refine Ev.sr fun K hK => S.o (q.lvA [_, _] am_ag30 am_cl30) ?_; refine SeqL.weaken (Wk.frzA (f := Bundle.c) (bkL (addB (es.map (rvE (goneM a b))) (makeV (revK a b) most))) 156 0 [_, _, _, _, _]) ?_; refine SeqL.weaken (Wk.frzA (f := boolC) (bkO (addB (es.map (rvE (goneM a b))) (makeV (revK a b) most))) 156 1 [_, _, _, _]) ?_; refine S.o q.mv (S.o q.mv (S.sv [_, _] true [_, _, _] am_in30 am_cl30 (h := S.o q.as (S.o q.as (S.o q.as (S.end (hK _ ?_))))))); clear hK K; refine Ev.weaken (Wk.frz 9 [_, _, _]) ?_; refine Ev.weaken (Wk.frz 10 [_, _]) ?_; refine Ev.ret ?_; refine Ev.retv4 (res_c [_, _] am_ag30 am_cl30 (res_t (res_t (res_t res_n)))) ?_; refine ⟨?_, rfl⟩
                      all_goals first | rfl | (rw [hR.e, hR.v, hR.f, hR.n]; done) | (simp; done)
                · simp only [List.length_cons] at hpl
                  have hidx : (makeV (revK a b) most)[pre.length]? = some s := by rw [← hp]; simp
                  have hal := addB_len pre (es.map (rvE (goneM a b))); rw [List.length_map] at hal; have hlx := bkL_len (addB (es.map (rvE (goneM a b))) pre); have hly := bkO_len (addB (es.map (rvE (goneM a b))) pre); have honl := onT_len (es.map (rvE (goneM a b))) pre; obtain ⟨hk1, hk2⟩ := bk_add (es.map (rvE (goneM a b))) pre s; have hk3 := onT_at (es := (es.map (rvE (goneM a b)))) (pre := pre) (s := s) rfl; refine Ev.seq ?_; refine Ev.sr fun K hK => S.o q.mv (S.o q.mv (S.o (q.lens am_el27) (S.o q.lss (S.end (hK _ ?_))))); clear hK K; refine Ev.cd (fun c8 => ?_) (fun c8 => ?_)
                  · first
                  | omega | contradiction
                  | refine Ev.skip ?_; show Ev _ _ _ _; refine Ev.seq ?_; refine Ev.block ?_; refine Ev.sr fun K hK => S.o q.mv (S.o q.mv (S.o (q.ix am_el27 am_cl53 (hl := (by first | exact ati hidx (by omega) | exact atig (by omega)))) (S.o (q.lsA [_, _, _, _] am_ag53 am_cl53) (S.nn (q.al am_ze53) (S.sv [_, _, _, _] true [_, _, _, _, _, _] am_in53 am_cl53 (h := S.end (hK _ ?_))))))); clear hK K; refine Ev.sr fun K hK => S.o (q.fa 0 am_fi30_0 am_cl27) (S.o (q.lv am_ag27) (S.c0 (hF := rNew_fun (addB (es.map (rvE (goneM a b))) pre) (by omega)) (hv := (by simp [viewL, viewAV, St.ev, St.get, find_cons])) (h := S.o (q.fa 0 am_fi53_0 am_cl9) (S.sv [_, _, _, _] true [_, _, _, _, _, _] am_in9 am_cl9 (h := S.end (hK _ ?_)))))); clear hK K; refine Ev.sr fun K hK => S.o (q.fa 0 am_fi30_0 am_cl27) (S.o (q.lv am_ag27) (S.o (q.lvA [_, _, _, _] am_ag53 am_cl53) (S.nn (q.bs [[_, _, _, _]] true am_el27 am_ze53 am_cl53) (S.ap' [_, _, _, _, _, _, _] am_el27 am_ze53 am_cl53 am_by53 (hh := head_own') (hr := (rows_lit [(⟨tagN (newN (addB (es.map (rvE (goneM a b))) pre)), s.mark, s.count, s.mass⟩ : Bundle)])) (h := S.o (q.fa 0 am_fi30_0 am_cl27) (S.sv [_, _] false [_, _, _, _, _, _, _] am_in27 am_cl27 (h := S.end (hK _ ?_)))))))); clear hK K
                    refine Ev.sr fun K hK => S.o (q.fa 1 am_fi30_1 am_cl28) (S.o (q.lv am_ag28) (S.nn (q.bs [[_]] true am_el28 am_ze4 am_cl4) (S.ap' [_, _, _, _, _, _, _, _] am_el28 am_ze4 am_cl4 am_by4 (hh := head_own') (hr := (rows_lit [false])) (h := S.o (q.fa 1 am_fi30_1 am_cl28) (S.sv [_, _] false [_, _, _, _, _, _, _, _] am_in28 am_cl28 (h := S.end (hK _ ?_))))))); clear hK K; refine Ev.region_S fun K hK => S.o q.mv (S.o (q.fa 0 am_fi53_0 am_cl9) (S.o (q.lv am_ag9) (S.nn (q.bs [[_]] true am_el37 am_ze9 am_cl9) (S.ap' [_, _, _, _, _, _, _, _, _] am_el37 am_ze9 am_cl9 am_by9 (hh := head_own') (hr := (rows_lit [tagN (newN (addB (es.map (rvE (goneM a b))) pre))])) (h := S.o q.as (S.end (hK _ ?_))))))); clear hK K; show Ev _ _ _ _; refine Ev.region_S fun K hK => S.o q.mv (S.o q.add (S.o q.as (S.end (hK _ ?_)))); clear hK K; refine hR4 _ _ ?_
                    refine roundU [0, 8, 10, 3, 4, 12] [1, 2, 3, 4, 8, 9, 10, 11, 13, 14, 15, 16, 19, 31, 32, 33, 34, 53, 54, 55, 56, 57, 58, 59, 60, 72, 73, 74, 75, 76] ⟨(pre ++ [s], suf), by rw [← hp]; simp, ?_⟩ ?_ (keep_d (he := (by first | rfl | (rw [hk1, hk2]; done) | (simp [addB, bkL_rv]; done) | (simp [addB, bkL_len, bkO_len]; done))) (h := (keep_c (he := (by first | rfl | (rw [bkL_rv]; done) | (rw [hk1]; done) | (simp [addB, bkL_rv]; done))) (h := (keep_c (he := (by first | rfl | (rw [hk2]; done) | (simp [addB]; done))) (h := (keep_c (he := (by first | rfl | (simp; done))) (h := (keep_c (he := (by first | rfl | (simp; done))) (h := (keep_c (he := (by first | rfl | (rw [hk3]; done) | (rw [onT_nil]; done))) (h := keep_n)))))))))))) (slots_c (he := (by first | rfl | (congr 2; simp; done))) (h := (slots_c (he := (by first | rfl | (simp; done) | (congr 2; omega))) (h := (slots_c (he := (by first | rfl | (rw [hk3]; done) | (rw [onT_nil]; done))) (h := trivial)))))) (.c (.c (.c (.c (.c (.c (.c (.c (.c (.c (.c (.c (.c (.c (.c (.c (.c (.c (.c (.c (.c (.c (.c (.c (.c (.c (.c (.c (.c (.c .n)))))))))))))))))))))))))))))); trivial; all_goals (dsimp only; simp only [List.length_cons]; omega)
                  · first | omega | contradiction | (exfalso; simp at *; done)
            · simp only [List.length_cons] at hpl
              have hids : es[pre.length]? = some s := by rw [← hp]; simp
              have hidx := bkL_at hids; have hidy := bkO_at hids; have hidz : (bkO (pre.map (rvE (goneM a b)) ++ s :: suf))[pre.length]? = some s.off := bkO_at rv_at
              have hoz : (bkO (pre.map (rvE (goneM a b)) ++ s :: suf)).length = es.length := by rw [bkO_len, List.length_append, List.length_map, List.length_cons, ← hp]; simp
              have hofl := offT_len (goneM a b) pre; refine Ev.seq ?_; refine Ev.sr fun K hK => S.o q.mv (S.o (q.fs 0 am_fi30_0 am_cl27) (S.o (q.ls am_ag27) (S.o (q.lens am_el27) (S.o q.lss (S.end (hK _ ?_)))))); clear hK K; refine Ev.cd (fun c9 => ?_) (fun c9 => ?_)
              · first
              | omega | contradiction
              | refine Ev.skip ?_; show Ev _ _ _ _; refine Ev.seq ?_; refine Ev.block ?_; refine Ev.sr fun K hK => S.o (q.fs 1 am_fi30_1 am_cl28) (S.o (q.ls am_ag28) (S.o q.mv (S.o (q.ix am_el28 am_cl4 (hl := (by first | exact ati hidx (by omega) | exact ati hidy (by omega) | exact ati hidz (by omega) | exact atig (by omega)))) (S.o (q.ls am_ag4) (S.o q.not (S.bb q.mv (fun c10 => ?_) (fun c10 => ?_)))))))
                · first
                | omega | contradiction
                | refine S.o q.mv (S.o (q.fs 0 am_fi30_0 am_cl27) (S.o (q.ls am_ag27) (S.o q.mv (S.o (q.ix am_el27 am_cl53 (hl := (by first | exact ati hidx (by omega) | exact ati hidy (by omega) | exact ati hidz (by omega) | exact atig (by omega)))) (S.o (q.fs 1 am_fi53_1 am_cl9) (S.o (q.ls am_ag9) (S.c0 (hF := rfind_fun _ _ (by omega)) (h := S.o q.geq (S.o q.pt (S.bd q.mv (fun c11 => ?_) (fun c11 => ?_)))))))))))
                  · first
                  | omega | contradiction
                  | refine S.o q.mv (S.o q.mv (S.o (q.fs 0 am_fi30_0 am_cl27) (S.o (q.ls am_ag27) (S.o q.mv (S.o (q.ix am_el27 am_cl53 (hl := (by first | exact ati hidx (by omega) | exact ati hidy (by omega) | exact ati hidz (by omega) | exact atig (by omega)))) (S.o (q.fs 1 am_fi53_1 am_cl9) (S.o (q.ls am_ag9) (S.c0 (hF := rkept_fun a b s.b.mark (by omega) (by omega) hwa hwb) (h := S.o q.not (S.o q.pt (S.end (hK _ ?_)))))))))))); clear hK K; refine Ev.c (fun c12 => ?_) (fun c12 => ?_)
                    · first
                    | omega | contradiction
                    | have hY := rvy (pre := pre) (suf := suf) hA hB ‹(!s.off) = true› ‹markI a s.b.mark ≥ 0› ‹(!rKept a b s.b.mark) = true›; have hY1 := hY.e; refine Ev.sr fun K hK => S.o (q.fa 1 am_fi30_1 am_cl28) (S.o (q.lv am_ag28) (S.o q.mv (S.o (q.ia am_el28 am_cl4) (S.sx true [_, _, _, _] am_in4 am_cl4 (hl := (by first | exact at_ hidx (by omega) | exact at_ hidy (by omega) | exact at_ hidz (by omega) | exact at_g (by omega))) (h := S.end (hK _ ?_)))))); clear hK K; refine Ev.region_S fun K hK => S.o q.mv (S.o (q.fs 0 am_fi30_0 am_cl27) (S.o (q.ls am_ag27) (S.o q.mv (S.o (q.ix am_el27 am_cl53 (hl := (by first | exact ati hidx (by omega) | exact ati hidy (by omega) | exact ati hidz (by omega) | exact atig (by omega)))) (S.o (q.fs 0 am_fi53_0 am_cl9) (S.o (q.ls am_ag9) (S.nn (q.bs [[_]] true am_el37 am_ze9 am_cl9) (S.ap' [_, _, _, _, _] am_el37 am_ze9 am_cl9 am_by9 (hh := head_own') (hr := (rows_lit [s.b.tag])) (h := S.o q.as (S.end (hK _ ?_))))))))))); clear hK K; show Ev _ _ _ _
                      first | have hN := rvn_off (M := (goneM a b)) (pre := pre) (suf := suf) ‹(!s.off) = false› | have hN := rvn_find (pre := pre) (suf := suf) hA hB ‹¬ markI a s.b.mark ≥ 0› | have hN := rvn_kept (pre := pre) (suf := suf) hA hB ‹(!rKept a b s.b.mark) = false› | skip
                      refine Ev.region_S fun K hK => S.o q.mv (S.o q.add (S.o q.as (S.end (hK _ ?_)))); clear hK K; refine hR2 _ _ ?_; refine roundU [0, 1, 2, 3, 6] [1, 2, 3, 4, 8, 9, 10, 11, 13, 14, 15, 16, 18, 31, 32, 33, 34, 53, 54, 55, 56, 57, 58, 59, 60] ⟨(pre ++ [s], suf), by rw [← hp]; simp, ?_⟩ ?_ (keep_d (he := (by first | rfl | (rw [hN.e]; done) | (rw [Int.toNat_natCast, hY1]; done) | (simp [bkO_len]; done))) (h := (keep_c (he := (by first | rfl | (simp; done))) (h := (keep_c (he := (by first | rfl | (rw [hN.e]; done) | (rw [Int.toNat_natCast, hY1]; done) | (simp; done))) (h := (keep_c (he := (by first | rfl | (simp; done))) (h := (keep_c (he := (by first | rfl | (rw [hN.o]; done) | (rw [hY.o]; done))) (h := keep_n)))))))))) (slots_c (he := (by first | rfl | (congr 2; simp; done))) (h := (slots_c (he := (by first | rfl | (rw [hN.o]; done) | (rw [hY.o]; done))) (h := trivial)))) (.c (.c (.c (.c (.c (.c (.c (.c (.c (.c (.c (.c (.c (.c (.c (.c (.c (.c (.c (.c (.c (.c (.c (.c (.c .n))))))))))))))))))))))))); trivial; all_goals (dsimp only; simp only [List.length_cons]; omega)
                    · first
                    | omega | contradiction
                    | refine Ev.skip ?_; show Ev _ _ _ _
                      first | have hN := rvn_off (M := (goneM a b)) (pre := pre) (suf := suf) ‹(!s.off) = false› | have hN := rvn_find (pre := pre) (suf := suf) hA hB ‹¬ markI a s.b.mark ≥ 0› | have hN := rvn_kept (pre := pre) (suf := suf) hA hB ‹(!rKept a b s.b.mark) = false› | skip
                      refine Ev.region_S fun K hK => S.o q.mv (S.o q.add (S.o q.as (S.end (hK _ ?_)))); clear hK K; refine hR2 _ _ ?_; refine roundU [0, 1, 2, 3, 4] [1, 2, 3, 4, 8, 9, 10, 11, 13, 14, 15, 16, 18, 31, 32, 33, 34, 53, 54, 55, 56, 57, 58, 59, 60] ⟨(pre ++ [s], suf), by rw [← hp]; simp, ?_⟩ ?_ (keep_d (he := (by first | rfl | (rw [hN.e]; done) | (rw [Int.toNat_natCast, hY1]; done) | (simp [bkO_len]; done))) (h := (keep_c (he := (by first | rfl | (simp; done))) (h := (keep_c (he := (by first | rfl | (rw [hN.e]; done) | (rw [Int.toNat_natCast, hY1]; done) | (simp; done))) (h := (keep_c (he := (by first | rfl | (simp; done))) (h := (keep_c (he := (by first | rfl | (rw [hN.o]; done) | (rw [hY.o]; done))) (h := keep_n)))))))))) (slots_c (he := (by first | rfl | (congr 2; simp; done))) (h := (slots_c (he := (by first | rfl | (rw [hN.o]; done) | (rw [hY.o]; done))) (h := trivial)))) (.c (.c (.c (.c (.c (.c (.c (.c (.c (.c (.c (.c (.c (.c (.c (.c (.c (.c (.c (.c (.c (.c (.c (.c (.c .n))))))))))))))))))))))))); trivial; all_goals (dsimp only; simp only [List.length_cons]; omega)
                  · first
                  | omega | contradiction
                  | refine S.sk (S.sk (S.sk (S.sk (S.sk (S.sk (S.sk (S.sk (S.sk (S.sk (S.o q.pf (S.end (hK _ ?_)))))))))))); clear hK K; refine Ev.cf ?_; refine Ev.skip ?_; show Ev _ _ _ _
                    first | have hN := rvn_off (M := (goneM a b)) (pre := pre) (suf := suf) ‹(!s.off) = false› | have hN := rvn_find (pre := pre) (suf := suf) hA hB ‹¬ markI a s.b.mark ≥ 0› | have hN := rvn_kept (pre := pre) (suf := suf) hA hB ‹(!rKept a b s.b.mark) = false› | skip
                    refine Ev.region_S fun K hK => S.o q.mv (S.o q.add (S.o q.as (S.end (hK _ ?_)))); clear hK K; refine hR2 _ _ ?_; refine roundU [0, 1, 2, 3, 4] [1, 2, 3, 4, 8, 9, 10, 11, 13, 14, 15, 16, 18, 31, 32, 33, 34, 53, 54, 55, 56, 57, 58, 59, 60] ⟨(pre ++ [s], suf), by rw [← hp]; simp, ?_⟩ ?_ (keep_d (he := (by first | rfl | (rw [hN.e]; done) | (rw [Int.toNat_natCast, hY1]; done) | (simp [bkO_len]; done))) (h := (keep_c (he := (by first | rfl | (simp; done))) (h := (keep_c (he := (by first | rfl | (rw [hN.e]; done) | (rw [Int.toNat_natCast, hY1]; done) | (simp; done))) (h := (keep_c (he := (by first | rfl | (simp; done))) (h := (keep_c (he := (by first | rfl | (rw [hN.o]; done) | (rw [hY.o]; done))) (h := keep_n)))))))))) (slots_c (he := (by first | rfl | (congr 2; simp; done))) (h := (slots_c (he := (by first | rfl | (rw [hN.o]; done) | (rw [hY.o]; done))) (h := trivial)))) (.c (.c (.c (.c (.c (.c (.c (.c (.c (.c (.c (.c (.c (.c (.c (.c (.c (.c (.c (.c (.c (.c (.c (.c (.c .n))))))))))))))))))))))))); trivial; all_goals (dsimp only; simp only [List.length_cons]; omega)
                · first
                | omega | contradiction
                | refine S.sk (S.sk (S.sk (S.sk (S.sk (S.sk (S.sk (S.sk (S.sk (S.o q.pf (S.o q.mv (S.sk (S.sk (S.sk (S.sk (S.sk (S.sk (S.sk (S.sk (S.sk (S.sk (S.o q.pf (S.end (hK _ ?_))))))))))))))))))))))); clear hK K; refine Ev.cf ?_; refine Ev.skip ?_; show Ev _ _ _ _
                  first | have hN := rvn_off (M := (goneM a b)) (pre := pre) (suf := suf) ‹(!s.off) = false› | have hN := rvn_find (pre := pre) (suf := suf) hA hB ‹¬ markI a s.b.mark ≥ 0› | have hN := rvn_kept (pre := pre) (suf := suf) hA hB ‹(!rKept a b s.b.mark) = false› | skip
                  refine Ev.region_S fun K hK => S.o q.mv (S.o q.add (S.o q.as (S.end (hK _ ?_)))); clear hK K; refine hR2 _ _ ?_; refine roundU [0, 1, 2, 3, 4] [1, 2, 3, 4, 8, 9, 10, 11, 13, 14, 15, 16, 18, 31, 32, 33, 34, 53, 54, 55, 56, 57, 58, 59, 60] ⟨(pre ++ [s], suf), by rw [← hp]; simp, ?_⟩ ?_ (keep_d (he := (by first | rfl | (rw [hN.e]; done) | (rw [Int.toNat_natCast, hY1]; done) | (simp [bkO_len]; done))) (h := (keep_c (he := (by first | rfl | (simp; done))) (h := (keep_c (he := (by first | rfl | (rw [hN.e]; done) | (rw [Int.toNat_natCast, hY1]; done) | (simp; done))) (h := (keep_c (he := (by first | rfl | (simp; done))) (h := (keep_c (he := (by first | rfl | (rw [hN.o]; done) | (rw [hY.o]; done))) (h := keep_n)))))))))) (slots_c (he := (by first | rfl | (congr 2; simp; done))) (h := (slots_c (he := (by first | rfl | (rw [hN.o]; done) | (rw [hY.o]; done))) (h := trivial)))) (.c (.c (.c (.c (.c (.c (.c (.c (.c (.c (.c (.c (.c (.c (.c (.c (.c (.c (.c (.c (.c (.c (.c (.c (.c .n))))))))))))))))))))))))); trivial; all_goals (dsimp only; simp only [List.length_cons]; omega)
              · first | omega | contradiction | (exfalso; simp at *; done)
      · simp only [List.length_cons] at hpl
        have hidx : b[pre.length]? = some s := by rw [← hp]; simp
        have hsb : s ∈ b := by rw [← hp]; simp
        have hrl := revK_le a pre; refine Ev.seq ?_; refine Ev.sr fun K hK => S.o q.mv (S.o q.mv (S.o (q.lens am_el32) (S.o q.lss (S.end (hK _ ?_))))); clear hK K; refine Ev.cd (fun c13 => ?_) (fun c13 => ?_)
        · first
        | omega | contradiction
        | refine Ev.skip ?_; show Ev _ _ _ _; refine Ev.seq ?_; refine Ev.block ?_; refine Ev.sr fun K hK => S.o q.mv (S.o q.mv (S.o q.mv (S.o q.mv (S.o (q.ix am_el32 am_cl56 (hl := (by first | exact ati hidx (by omega) | exact atig (by omega)))) (S.o (q.fs 0 am_fi56_0 am_cl9) (S.o (q.ls am_ag9) (S.c0 (hF := rkept_fun a b s.mark (by omega) (by omega) hwa hwb) (h := S.o q.not (S.end (hK _ ?_)))))))))); clear hK K; refine Ev.c (fun c14 => ?_) (fun c14 => ?_)
          · first
          | omega | contradiction
          | refine Ev.region_S fun K hK => S.o q.mv (S.o q.mv (S.o q.mv (S.o (q.ix am_el32 am_cl56 (hl := (by first | exact ati hidx (by omega) | exact atig (by omega)))) (S.o (q.lsA [_, _, _, _, _] am_ag56 am_cl56) (S.nn (q.bs [[_, _, _, _, _]] true am_el32 am_ze56 am_cl56) (S.ap' [_, _, _] am_el32 am_ze56 am_cl56 am_by56 (hh := head_own') (hr := (rows_lit [s])) (h := S.o q.as (S.end (hK _ ?_))))))))); clear hK K; show Ev _ _ _ _; refine Ev.region_S fun K hK => S.o q.mv (S.o q.add (S.o q.as (S.end (hK _ ?_)))); clear hK K; refine hR0 _ _ ?_; refine roundU [0, 1, 4] [1, 2, 3, 4, 8, 9, 10, 11] ⟨(pre ++ [s], suf), by rw [← hp]; simp, ?_⟩ ?_ (keep_c (he := (by first | rfl | (simp; done))) (h := (keep_c (he := (by first | rfl | (simp; done))) (h := (keep_c (he := (by first | rfl | (rw [rl_in hA hB hsb ‹_›]; done) | (rw [rl_out hA hB hsb ‹_›]; done))) (h := keep_n)))))) (slots_c (he := (by first | rfl | (congr 2; simp; done))) (h := (slots_c (he := (by first | rfl | (rw [rl_in hA hB hsb ‹_›]; done) | (rw [rl_out hA hB hsb ‹_›]; done))) (h := trivial)))) (.c (.c (.c (.c (.c (.c (.c (.c .n)))))))); trivial; all_goals (dsimp only; simp only [List.length_cons]; omega)
          · first
          | omega | contradiction
          | refine Ev.skip ?_; show Ev _ _ _ _; refine Ev.region_S fun K hK => S.o q.mv (S.o q.add (S.o q.as (S.end (hK _ ?_)))); clear hK K; refine hR0 _ _ ?_; refine roundU [0, 1, 2] [1, 2, 3, 4, 8, 9, 10, 11] ⟨(pre ++ [s], suf), by rw [← hp]; simp, ?_⟩ ?_ (keep_c (he := (by first | rfl | (simp; done))) (h := (keep_c (he := (by first | rfl | (simp; done))) (h := (keep_c (he := (by first | rfl | (rw [rl_in hA hB hsb ‹_›]; done) | (rw [rl_out hA hB hsb ‹_›]; done))) (h := keep_n)))))) (slots_c (he := (by first | rfl | (congr 2; simp; done))) (h := (slots_c (he := (by first | rfl | (rw [rl_in hA hB hsb ‹_›]; done) | (rw [rl_out hA hB hsb ‹_›]; done))) (h := trivial)))) (.c (.c (.c (.c (.c (.c (.c (.c .n)))))))); trivial; all_goals (dsimp only; simp only [List.length_cons]; omega)
        · first | omega | contradiction | (exfalso; simp at *; done)
end Go.Proofs.YthpjfkmhpoeojaaGreatDoor
namespace Go.Proofs.YthpjfkmhpoeojaaGreatDoor
open Go Go.AM
set_option linter.unusedSimpArgs false
set_option linter.unusedVariables false
set_option maxRecDepth 100000
set_option maxHeartbeats 4000000
theorem sta_cases (es : List Ent) (t : List UInt8) : (staV es t = 0 ∧ staE es t = 9) ∨ (staV es t = 1 ∧ staE es t = 0) ∨ (staV es t = 2 ∧ staE es t = 0) := by
  by_cases h : tgI es t < 0
  · exact .inl ⟨(at_none h).2.2.1, (at_none h).2.2.2⟩
  · obtain ⟨e, he, _⟩ := tgI_at h
    cases ho : e.off with
    | true => exact .inr (.inr ⟨(at_off h he ho).2.2.1, (at_off h he ho).2.2.2⟩)
    | false => exact .inr (.inl ⟨(at_on h he ho).2.2.1, (at_on h he ho).2.2.2⟩)
theorem actE_len {es : List Ent} (x : Act) (h : es.length ≤ 1000) : (actE es x).length ≤ 1000 := by
  unfold actE
  split
  · exact isuV_len _ h
  · split
    · rw [canV_len]; exact h
    · exact revV_len _ _ _ h
theorem revN_len (es : List Ent) (a b : List Bar) (most : Int) : (revN es a b most).length ≤ 1000 := by
  unfold revN
  split
  · rw [onT_len]; exact makeV_le _ _
  · exact Nat.zero_le _
theorem revF_len (es : List Ent) (a b : List Bar) (most : Int) : (revF es a b most).length ≤ es.length := by
  unfold revF
  split
  · exact offT_len _ _
  · exact Nat.zero_le _
theorem eqBun_fun (a b : List Bundle) (ha : a.length ≤ 140737488355328) (hb : b.length ≤ 140737488355328) : Fun Tryz.prog 23 [.sh 4 (a.map Bundle.c), .sh 4 (b.map Bundle.c)] (Ret (.lit (.bool (decide (a = b)))) []) := by
  refine Fun.of (nt := 26) (rs := [.tmp 4]) Tryz.func23 rfl rfl rfl rfl rfl ?_; refine Ev.sr fun K hK => S.o q.as (S.end (hK _ ?_)); clear hK K; refine Ev.seq ?_; refine Ev.sr fun K hK => S.o q.mv (S.o (q.lens am_el27) (S.o q.mv (S.o (q.lens am_el27) (S.o q.neq (S.end (hK _ ?_)))))); clear hK K; refine Ev.cn (fun c1 => ?_) (fun c1 => ?_)
  · first
  | omega | contradiction
  | refine Ev.sr fun K hK => S.o q.as (S.end (hK _ ?_)); clear hK K; refine Ev.ret ?_; refine Ev.ret1 ?_; refine ⟨?_, rfl⟩
    first
     | exact bF (fun h => by subst h; omega)
     | exact bF (fun h => by subst h; rw [hidx] at hidx2; cases hidx2; simp at *)
     | exact bT (hinv.symm.trans (List.take_of_length_le (by omega)))
  · first
  | omega | contradiction
  | refine Ev.skip ?_; show Ev _ _ _ _; refine Ev.seq ?_; refine Ev.sr fun K hK => S.o q.mv (S.o (q.lens am_el27) (S.o q.mv (S.end (hK _ ?_)))); clear hK K; refine Ev.block ?_; refine Ev.loopU (ι := {q : List Bundle × List Bundle // q.1 ++ q.2 = a ∧ b.take q.1.length = q.1}) [] [0, 1, 12] (fun ⟨(pre, suf), _⟩ => [(13, .lit (.int .i64 ((pre.length : Int))))]) (fun ⟨(pre, suf), _⟩ => []) (fun ⟨(pre, suf), _⟩ => suf.length) ⟨([], a), rfl, rfl⟩ (.c (.c (.c .n))) keep_n (slots_c (he := (by first | rfl | (simp; done) | (congr 2; omega))) (h := trivial)) ?_; rintro ⟨⟨pre, suf⟩, hp, hinv⟩ R0 hR0; dsimp only [List.cons_append, List.nil_append, List.length_cons, List.length_nil]
    simp only at hp hinv
    have hpl : pre.length + suf.length = (a).length := by rw [← hp, List.length_append]
    rcases suf with _ | ⟨s, suf⟩
    · rw [List.append_nil] at hp; subst hp; simp only [List.length_nil] at hpl; refine Ev.sr fun K hK => S.o q.lss (S.end (hK _ ?_)); clear hK K; refine Ev.ud (fun c2 => ?_) (fun c2 => ?_)
      · first
      | omega | contradiction
      | refine Ev.seq ?_; refine Ev.block ?_; refine Ev.sr fun K hK => S.o q.mv (S.o q.as (S.end (hK _ ?_))); clear hK K; refine Ev.sm (tbs [(0, 0), (0, 0), (2, 3), (3, 7), (0, 0), (0, 0), (6, 48), (7, 112), (8, 255)]) 9 fun K hK => M.o q.mv (M.o q.mv (M.o (q.ix am_el27 am_cl53 (hl := (by first | exact atig (by omega)))) (M.o (q.lsA [_, _, _, _] am_ag53 am_cl53) (M.o q.mv (M.o q.mv (M.o (q.ix am_el27 am_cl53 (hl := (by first | exact atig (by omega)))) (M.o (q.lsA [_, _, _, _] am_ag53 am_cl53) (M.o (q.sneq am_eq53 (am_sq53 _ _ _ _ _ _ _ _)) (M.end [] (h := S.end (hK _ ?_))))))))))); clear hK K; refine Ev.c (fun c3 => ?_) (fun c3 => ?_)
        · first
        | omega | contradiction
        | refine Ev.sr fun K hK => S.o q.as (S.end (hK _ ?_)); clear hK K; refine Ev.ret ?_; refine hR0 _ _ ?_; refine Ev.ret1 ?_; refine ⟨?_, rfl⟩
          first
           | exact bF (fun h => by subst h; omega)
           | exact bF (fun h => by subst h; rw [hidx] at hidx2; cases hidx2; simp at *)
           | exact bT (hinv.symm.trans (List.take_of_length_le (by omega)))
        · first
        | omega | contradiction
        | refine Ev.skip ?_; show Ev _ _ _ _; refine Ev.region_S fun K hK => S.o q.add (S.o q.mv (S.end (hK _ ?_))); clear hK K; refine hR0 _ _ ?_; refine roundU [] [0, 1, 12] ⟨(pre ++ [s], suf), by rw [← hp]; simp, ?_⟩ ?_ keep_n (slots_c (he := (by first | rfl | (simp; done) | (congr 2; omega))) (h := trivial)) (.c (.c (.c .n))); simp only [List.length_append, List.length_cons, List.length_nil, Nat.zero_add]; rw [List.take_add_one, hinv, hidx2]
          simp at *
          obtain ⟨x1, x2, x3, x4⟩ := s; obtain ⟨y1, y2, y3, y4⟩ := s2
          simp_all
          all_goals (dsimp only; simp only [List.length_cons]; omega)
      · first
      | omega | contradiction
      | refine Ev.exit ?_; refine hR0 _ _ ?_; show Ev _ _ _ _; refine Ev.sr fun K hK => S.o q.as (S.end (hK _ ?_)); clear hK K; refine Ev.ret ?_; refine Ev.ret1 ?_; refine ⟨?_, rfl⟩
        first
         | exact bF (fun h => by subst h; omega)
         | exact bF (fun h => by subst h; rw [hidx] at hidx2; cases hidx2; simp at *)
         | exact bT (hinv.symm.trans (List.take_of_length_le (by omega)))
    · simp only [List.length_cons] at hpl
      have hidx : (a)[pre.length]? = some s := by rw [← hp]; simp
      obtain ⟨s2, hidx2⟩ : ∃ s2, b[pre.length]? = some s2 := ⟨_, List.getElem?_eq_getElem (by omega)⟩; refine Ev.sr fun K hK => S.o q.lss (S.end (hK _ ?_)); clear hK K; refine Ev.ud (fun c4 => ?_) (fun c4 => ?_)
      · first
      | omega | contradiction
      | refine Ev.seq ?_; refine Ev.block ?_; refine Ev.sr fun K hK => S.o q.mv (S.o q.as (S.end (hK _ ?_))); clear hK K; refine Ev.sm (tbs [(0, 0), (0, 0), (2, 3), (3, 7), (0, 0), (0, 0), (6, 48), (7, 112), (8, 255)]) 9 fun K hK => M.o q.mv (M.o q.mv (M.o (q.ix am_el27 am_cl53 (hl := (by first | exact ati hidx (by omega) | exact ati hidx2 (by omega) | exact atig (by omega)))) (M.o (q.lsA [_, _, _, _] am_ag53 am_cl53) (M.o q.mv (M.o q.mv (M.o (q.ix am_el27 am_cl53 (hl := (by first | exact ati hidx (by omega) | exact ati hidx2 (by omega) | exact atig (by omega)))) (M.o (q.lsA [_, _, _, _] am_ag53 am_cl53) (M.o (q.sneq am_eq53 (am_sq53 _ _ _ _ _ _ _ _)) (M.end [] (h := S.end (hK _ ?_))))))))))); clear hK K; refine Ev.c (fun c5 => ?_) (fun c5 => ?_)
        · first
        | omega | contradiction
        | refine Ev.sr fun K hK => S.o q.as (S.end (hK _ ?_)); clear hK K; refine Ev.ret ?_; refine hR0 _ _ ?_; refine Ev.ret1 ?_; refine ⟨?_, rfl⟩
          first
           | exact bF (fun h => by subst h; omega)
           | exact bF (fun h => by subst h; rw [hidx] at hidx2; cases hidx2; simp at *)
           | exact bT (hinv.symm.trans (List.take_of_length_le (by omega)))
        · first
        | omega | contradiction
        | refine Ev.skip ?_; show Ev _ _ _ _; refine Ev.region_S fun K hK => S.o q.add (S.o q.mv (S.end (hK _ ?_))); clear hK K; refine hR0 _ _ ?_; refine roundU [] [0, 1, 12] ⟨(pre ++ [s], suf), by rw [← hp]; simp, ?_⟩ ?_ keep_n (slots_c (he := (by first | rfl | (simp; done) | (congr 2; omega))) (h := trivial)) (.c (.c (.c .n))); simp only [List.length_append, List.length_cons, List.length_nil, Nat.zero_add]; rw [List.take_add_one, hinv, hidx2]
          simp at *
          obtain ⟨x1, x2, x3, x4⟩ := s; obtain ⟨y1, y2, y3, y4⟩ := s2
          simp_all
          all_goals (dsimp only; simp only [List.length_cons]; omega)
      · first
      | omega | contradiction
      | refine Ev.exit ?_; refine hR0 _ _ ?_; show Ev _ _ _ _; refine Ev.sr fun K hK => S.o q.as (S.end (hK _ ?_)); clear hK K; refine Ev.ret ?_; refine Ev.ret1 ?_; refine ⟨?_, rfl⟩
        first
         | exact bF (fun h => by subst h; omega)
         | exact bF (fun h => by subst h; rw [hidx] at hidx2; cases hidx2; simp at *)
         | exact bT (hinv.symm.trans (List.take_of_length_le (by omega)))
theorem eqBunT_fun (a : List Bundle) (ha : a.length ≤ 140737488355328) : Fun Tryz.prog 23 [.sh 4 (a.map Bundle.c), .sh 4 (a.map Bundle.c)] (Ret (.lit (.bool true)) []) := by
  have h := eqBun_fun a a ha ha
  rwa [decide_eq_true (rfl : a = a)] at h
theorem eqStrT_fun (a : List (List UInt8)) (ha : a.length ≤ 140737488355328) : Fun Tryz.prog 17 [.sh 1 (a.map strC), .sh 1 (a.map strC)] (Ret (.lit (.bool true)) []) := by
  have h := eqStr_fun a a ha ha
  rwa [decide_eq_true (rfl : a = a)] at h
theorem sameR (es : List Ent) (hl : es.length ≤ 1000) : FunR Tryz.prog 8 [.adr 0 0 0, .agg [.sh 4 ((bkL (es)).map Bundle.c), .sh 1 ((bkO (es)).map boolC)]] [(0, ⟨false, 50, 1, [[.als 1 0 (es).length]], false⟩), (1, ⟨true, 81, 5, (es).map Ent.c, true⟩)] 2 (Ret (.lit (.bool true)) [(0, ⟨false, 50, 1, [[.als 1 0 (es).length]], false⟩), (1, ⟨true, 81, 5, (es).map Ent.c, true⟩)]) := by
  have hbl := bkL_len es; have hol := bkO_len es; have hopl := openL_len es; refine FunR.of (nt := 41) (rs := [.tmp 4]) Tryz.func8 rfl rfl rfl rfl rfl ?_; refine Ev.sr fun K hK => S.nn (q.bx [_, _] true) (S.o q.as (S.end (hK _ ?_))); clear hK K; refine Ev.sr fun K hK => S.o (q.lvA [_, _] am_ag30 am_cl30) (S.c0 (hF := rOpen_fun es (by omega)) (h := S.o q.as (S.end (hK _ ?_)))); clear hK K; refine Ev.sr fun K hK => S.o q.mv (S.cR [0, 1] 3 [_, _, _] (hob := (keep_d (he := rfl) (h := (keep_c (he := rfl) (h := keep_n))))) (hF := accountR es (by omega)) (hn' := belowL rfl rfl) (h := S.o q.mv (S.o q.ex (S.o q.ex (S.o q.ex (S.o q.as (S.o q.as (S.o q.as (S.end (hK _ ?_)))))))))); clear hK K; refine Ev.sr fun K hK => S.o q.mv (S.cR [0, 1] 3 [_, _, _] (hob := (keep_d (he := rfl) (h := (keep_c (he := rfl) (h := keep_n))))) (hF := openR es (by omega)) (hn' := belowL rfl rfl) (h := S.o q.mv (S.c0 (hF := eqBunT_fun (openL es) (by omega)) (h := S.o q.mv (S.o q.mv (S.o (q.fa 0 am_fi30_0 am_cl27) (S.o (q.lv am_ag27) (S.o (q.lens am_el27) (S.o q.eql (S.o q.pt (S.bd q.mv (fun c1 => ?_) (fun c1 => ?_))))))))))))
  · first
  | omega | contradiction
  | refine S.o q.mv (S.o q.mv (S.o (q.lens am_el27) (S.o q.eql (S.o q.pt (S.bd q.mv (fun c2 => ?_) (fun c2 => ?_))))))
    · first
    | omega | contradiction
    | refine S.o q.mv (S.o q.mv (S.o q.mv (S.o q.sub (S.o q.eql (S.o q.pt (S.o q.as (S.end (hK _ ?_)))))))); clear hK K; refine Ev.ret ?_; refine Ev.rr1 [0, 1] (keepR_d (h := (keepR_c (h := keepR_n)))) leads2 ?_; refine ⟨?_, ?_⟩
      all_goals first | rfl | exact lawT rfl | exact lawT (by omega) | (exfalso; omega)
    · first
    | omega | contradiction
    | refine S.sk (S.sk (S.sk (S.sk (S.sk (S.o q.pf (S.o q.as (S.end (hK _ ?_)))))))); clear hK K; refine Ev.ret ?_; refine Ev.rr1 [0, 1] (keepR_d (h := (keepR_c (h := keepR_n)))) leads2 ?_; refine ⟨?_, ?_⟩
      all_goals first | rfl | exact lawT rfl | exact lawT (by omega) | (exfalso; omega)
  · first
  | omega | contradiction
  | refine S.sk (S.sk (S.sk (S.sk (S.o q.pf (S.o q.mv (S.sk (S.sk (S.sk (S.sk (S.sk (S.o q.pf (S.o q.as (S.end (hK _ ?_)))))))))))))); clear hK K; refine Ev.ret ?_; refine Ev.rr1 [0, 1] (keepR_d (h := (keepR_c (h := keepR_n)))) leads2 ?_; refine ⟨?_, ?_⟩
    all_goals first | rfl | exact lawT rfl | exact lawT (by omega) | (exfalso; omega)
theorem doR (es : List Ent) (x : Act) (hl : es.length ≤ 1000) (hx : fewX x) : FunR Tryz.prog 9 [.adr 0 0 0, .agg [.sh 4 ((bkL (es)).map Bundle.c), .sh 1 ((bkO (es)).map boolC)], .agg x.c] [(0, ⟨false, 50, 1, [[.als 1 0 (es).length]], false⟩), (1, ⟨true, 81, 5, (es).map Ent.c, true⟩)] 2 (Ret (.tup [.agg [.sh 4 ((bkL (actE es x)).map Bundle.c), .sh 1 ((bkO (actE es x)).map boolC)], .lit (.bool true)]) [(0, ⟨false, 50, 1, [[.als 2 0 (actE es x).length]], false⟩), (2, ⟨true, 81, 5, (actE es x).map Ent.c, true⟩)]) := by
  have hal := actE_len x hl; obtain ⟨kind, most, tag, l, a, b⟩ := x; obtain ⟨hsh, htl, hsa, hsb⟩ := hx
  simp only at hsh htl hsa hsb
  have hbl : l.length ≤ 1003 ∧ bunW l := hsh.elim (fun h => ⟨(short_w h).2, (short_w h).1⟩) (fun h => ⟨(short_w h.2).2, (short_w h.2).1⟩); have hbl1 := hbl.1; have hbw := hbl.2; have hwa := small_w hsa; have hwb := small_w hsb; have hsa1 := hsa.1; have hsb1 := hsb.1; have hrn := revN_len es a b most; have hrf := revF_len es a b most; refine FunR.of (nt := 138) (rs := [.cell 6 30, .tmp 7]) Tryz.func9 rfl rfl rfl rfl rfl ?_; refine Ev.sr fun K hK => S.nn (q.bx [_, _] true) (S.nn (q.bx [_, _, _, _, _, _] true) (S.nn (q.al am_ze30) (S.o q.as (S.end (hK _ ?_))))); clear hK K; refine Ev.seq ?_; refine Ev.sr fun K hK => S.o (q.fa 0 am_fi34_0 am_cl3) (S.o (q.lv am_ag3) (S.end (hK _ ?_))); clear hK K; refine Ev.block ?_; refine Ev.sr fun K hK => S.o q.eql (S.o q.as (S.end (hK _ ?_))); clear hK K; refine Ev.cd (fun c1 => ?_) (fun c1 => ?_)
  · first
  | omega | contradiction
  | have hac : actE es ⟨kind, most, tag, l, a, b⟩ = isuV es l := if_pos ‹_›; rw [hac] at hal ⊢; refine Ev.sr fun K hK => S.o (q.lvA [_, _] am_ag30 am_cl30) (S.o (q.fa 3 am_fi34_3 am_cl27) (S.o (q.lv am_ag27) (S.c0 (hF := rIssue_fun es l (by omega) (by omega) hbw) (h := S.o q.mv (S.o q.ex (S.o q.ex (S.nn (q.al am_ze30) (S.sv [_, _] true [_, _, _, _, _] am_in30 am_cl30 (h := S.o q.as (S.end (hK _ ?_))))))))))); clear hK K; refine Ev.weaken (Wk.frzv 8 [_, _, _, _, _]) ?_; refine Ev.weaken (Wk.frzv 5 [_, _, _, _]) ?_; refine Ev.stp (m := 14) (L0 := #[false, false, false, false, false, false, false, false, false, false, false, false, false, false]) rfl (by kernel_rfl) (by exact rfl) fun K hK => ?_; refine HP.lsA (i := 0) [_, _] am_ag30 am_cl30 rfl (h := ?_); refine HP.mv (i := 1) rfl (h := ?_); refine HP.fa (i := 2) am_fi34_3 (by rw [am_cl27]; decide) rfl (h := ?_); refine HP.ls1 (i := 3) am_ag27 rfl (h := ?_); refine HP.mv (i := 5) rfl (h := ?_); refine .done ?_; refine HT.one (i := 4) trivial rfl (S.cR [0, 1] 7 [_, _, _, _] (hob := (keep_d (he := rfl) (h := (keep_c (he := rfl) (h := keep_n))))) (hF := issueR es l (by omega) (by omega) hbw) (hn' := belowL rfl rfl) (h := S.end ?_)); refine HT.one (i := 6) trivial rfl (S.o q.eql (S.end ?_)); refine HT.one (i := 7) trivial rfl ?_; refine S.bd q.mv (fun c2 => ?_) (fun c2 => ?_)
    · first
    | omega | contradiction
    | refine S.end ?_; refine HT.mv (i := 8) trivial rfl (h := ?_); refine HT.one (i := 9) trivial rfl (S.o (q.lsA [_, _] am_ag30 am_cl30) (S.end ?_)); refine HT.one (i := 10) trivial rfl (S.cR [0, 6] 7 [_, _, _, _] (hob := (keep_d (he := rfl) (h := (keep_c (he := rfl) (h := keep_n))))) (hF := sameR _ hal) (hn' := belowL rfl rfl) (h := S.end ?_)); refine HT.pk (i := 11) trivial rfl (h := ?_); refine HT.one (i := 12) trivial rfl (S.sv [_, _] true [_, _, _] am_in30 am_cl30 (h := S.end ?_)); refine HT.one (i := 13) trivial rfl (S.o q.as (S.end ?_)); refine HT.nil trivial (by kernel_rfl) (hK _ ?_); clear hK K; refine Ev.ret ?_; refine Ev.rrv2 [0, 1, 6] (res_c [_, _] am_ag30 am_cl30 (res_t res_n)) (keepR_d (h := (keepR_g (h := (keepR_c (h := keepR_n)))))) (leadsB rfl) ?_; refine ⟨?_, ?_⟩
      all_goals first | rfl | exact lawT rfl
    · first | omega | contradiction | (exfalso; simp at *; done)
  · first
  | omega | contradiction
  | refine Ev.sr fun K hK => S.o q.eql (S.o q.as (S.end (hK _ ?_))); clear hK K; refine Ev.cd (fun c3 => ?_) (fun c3 => ?_)
    · first
    | omega | contradiction
    | refine Ev.sr fun K hK => S.o q.mv (S.o (q.fa 2 am_fi34_2 am_cl9) (S.o (q.lv am_ag9) (S.cR [0, 1] 5 [_, _, _, _, _] (hob := (keep_d (he := rfl) (h := (keep_c (he := rfl) (h := keep_n))))) (hF := stateR es tag (by omega)) (hn' := belowL rfl rfl) (h := S.o q.mv (S.o q.ex (S.o q.ex (S.o q.as (S.o q.as (S.end (hK _ ?_)))))))))); clear hK K; refine Ev.seq ?_; refine Ev.sr fun K hK => S.o q.mv (S.o (q.lvA [_, _] am_ag30 am_cl30) (S.o (q.fa 2 am_fi34_2 am_cl9) (S.o (q.lv am_ag9) ?_)))
      rcases sta_cases es tag with ⟨e1, e2⟩ | ⟨e1, e2⟩ | ⟨e1, e2⟩ <;> rw [e1, e2]
      · skip; refine S.c0 (hF := rState_fun es tag (by omega)) (h := ?_); rw [e1]; refine S.o q.neq (S.bn q.mv (fun c4 => ?_) (fun c4 => ?_))
        · first | omega | contradiction | (exfalso; simp at *; done)
        · first
        | omega | contradiction
        | refine S.o q.mv (S.o q.eql (S.o q.mv (S.o q.gtr (S.o (q.bneq am_un4) (S.o q.pf (S.bb q.mv (fun c5 => ?_) (fun c5 => ?_)))))))
          · first | omega | contradiction | (exfalso; simp at *; done)
          · first
          | omega | contradiction
          | refine S.o q.mv (S.o q.eql (S.bd q.mv (fun c6 => ?_) (fun c6 => ?_)))
            · first
            | omega | contradiction
            | refine S.o q.mv (S.o q.neq (S.o q.pt (S.o q.pf (S.end (hK _ ?_))))); clear hK K; refine Ev.cn (fun c7 => ?_) (fun c7 => ?_)
              · first
              | omega | contradiction
              | first | (exfalso; omega) | contradiction | (exfalso; simp at *; done) | (exfalso; simp_all; done) | (exfalso; simp at *; omega)
              · first
              | omega | contradiction
              | refine Ev.skip ?_; show Ev _ _ _ _; have hac : actE es ⟨kind, most, tag, l, a, b⟩ = canV es tag := (if_neg ‹_›).trans (if_pos ‹_›)
                rw [hac] at hal ⊢; refine Ev.sr fun K hK => S.o (q.lvA [_, _] am_ag30 am_cl30) (S.o (q.fa 2 am_fi34_2 am_cl9) (S.o (q.lv am_ag9) (S.c0 (hF := rCancel_fun es tag (by omega)) (h := S.o q.mv (S.o q.ex (S.o q.ex (S.nn (q.al am_ze30) (S.sv [_, _] true [_, _, _, _, _] am_in30 am_cl30 (h := S.o q.as (S.end (hK _ ?_))))))))))); clear hK K; refine Ev.weaken (Wk.frzv 12 [_, _, _, _, _]) ?_; refine Ev.weaken (Wk.frzv 5 [_, _, _, _]) ?_; refine Ev.weaken (Wk.mv 0 [_, _]) ?_; refine Ev.stp (m := 14) (L0 := #[false, false, false, false, false, false, false, false, false, false, false, false, false, false]) rfl (by kernel_rfl) (by exact rfl) fun K hK => ?_; refine HP.lsA (i := 0) [_, _] am_ag30 am_cl30 rfl (h := ?_); refine HP.mv (i := 1) rfl (h := ?_); refine HP.fa (i := 2) am_fi34_2 (by rw [am_cl9]; decide) rfl (h := ?_); refine HP.ls1 (i := 3) am_ag9 rfl (h := ?_); refine HP.mv (i := 5) rfl (h := ?_); refine .done ?_; refine HT.one (i := 4) trivial rfl (S.cR [0, 6] 7 [_, _, _, _] (hob := (keep_d (he := rfl) (h := (keep_c (he := rfl) (h := keep_n))))) (hF := cancelR es tag (by omega)) (hn' := belowL rfl rfl) (h := S.end ?_)); refine HT.one (i := 6) trivial rfl (S.o q.eql (S.end ?_)); refine HT.one (i := 7) trivial rfl ?_; refine S.bd q.mv (fun c8 => ?_) (fun c8 => ?_)
                · first
                | omega | contradiction
                | refine S.end ?_; refine HT.mv (i := 8) trivial rfl (h := ?_); refine HT.one (i := 9) trivial rfl (S.o (q.lsA [_, _] am_ag30 am_cl30) (S.end ?_)); refine HT.one (i := 10) trivial rfl (S.cR [0, 6] 7 [_, _, _, _] (hob := (keep_d (he := rfl) (h := (keep_c (he := rfl) (h := keep_n))))) (hF := sameR _ hal) (hn' := belowL rfl rfl) (h := S.end ?_)); refine HT.pk (i := 11) trivial rfl (h := ?_); refine HT.one (i := 12) trivial rfl (S.sv [_, _] true [_, _, _] am_in30 am_cl30 (h := S.end ?_)); refine HT.one (i := 13) trivial rfl (S.o q.as (S.end ?_)); refine HT.nil trivial (by kernel_rfl) (hK _ ?_); clear hK K; refine Ev.ret ?_; refine Ev.rrv2 [0, 1, 6] (res_c [_, _] am_ag30 am_cl30 (res_t res_n)) (keepR_d (h := (keepR_g (h := (keepR_c (h := keepR_n)))))) (leadsB rfl) ?_; refine ⟨?_, ?_⟩
                  all_goals first | rfl | exact lawT rfl
                · first | omega | contradiction | (exfalso; simp at *; done)
            · first
            | omega | contradiction
            | refine S.sk (S.sk (S.o q.pf (S.o q.pf (S.end (hK _ ?_))))); clear hK K; refine Ev.cf ?_; refine Ev.skip ?_; show Ev _ _ _ _; have hac : actE es ⟨kind, most, tag, l, a, b⟩ = canV es tag := (if_neg ‹_›).trans (if_pos ‹_›)
              rw [hac] at hal ⊢; refine Ev.sr fun K hK => S.o (q.lvA [_, _] am_ag30 am_cl30) (S.o (q.fa 2 am_fi34_2 am_cl9) (S.o (q.lv am_ag9) (S.c0 (hF := rCancel_fun es tag (by omega)) (h := S.o q.mv (S.o q.ex (S.o q.ex (S.nn (q.al am_ze30) (S.sv [_, _] true [_, _, _, _, _] am_in30 am_cl30 (h := S.o q.as (S.end (hK _ ?_))))))))))); clear hK K; refine Ev.weaken (Wk.frzv 12 [_, _, _, _, _]) ?_; refine Ev.weaken (Wk.frzv 5 [_, _, _, _]) ?_; refine Ev.weaken (Wk.mv 0 [_, _]) ?_; refine Ev.stp (m := 14) (L0 := #[false, false, false, false, false, false, false, false, false, false, false, false, false, false]) rfl (by kernel_rfl) (by exact rfl) fun K hK => ?_; refine HP.lsA (i := 0) [_, _] am_ag30 am_cl30 rfl (h := ?_); refine HP.mv (i := 1) rfl (h := ?_); refine HP.fa (i := 2) am_fi34_2 (by rw [am_cl9]; decide) rfl (h := ?_); refine HP.ls1 (i := 3) am_ag9 rfl (h := ?_); refine HP.mv (i := 5) rfl (h := ?_); refine .done ?_; refine HT.one (i := 4) trivial rfl (S.cR [0, 6] 7 [_, _, _, _] (hob := (keep_d (he := rfl) (h := (keep_c (he := rfl) (h := keep_n))))) (hF := cancelR es tag (by omega)) (hn' := belowL rfl rfl) (h := S.end ?_)); refine HT.one (i := 6) trivial rfl (S.o q.eql (S.end ?_)); refine HT.one (i := 7) trivial rfl ?_; refine S.bd q.mv (fun c9 => ?_) (fun c9 => ?_)
              · first
              | omega | contradiction
              | refine S.end ?_; refine HT.mv (i := 8) trivial rfl (h := ?_); refine HT.one (i := 9) trivial rfl (S.o (q.lsA [_, _] am_ag30 am_cl30) (S.end ?_)); refine HT.one (i := 10) trivial rfl (S.cR [0, 6] 7 [_, _, _, _] (hob := (keep_d (he := rfl) (h := (keep_c (he := rfl) (h := keep_n))))) (hF := sameR _ hal) (hn' := belowL rfl rfl) (h := S.end ?_)); refine HT.pk (i := 11) trivial rfl (h := ?_); refine HT.one (i := 12) trivial rfl (S.sv [_, _] true [_, _, _] am_in30 am_cl30 (h := S.end ?_)); refine HT.one (i := 13) trivial rfl (S.o q.as (S.end ?_)); refine HT.nil trivial (by kernel_rfl) (hK _ ?_); clear hK K; refine Ev.ret ?_; refine Ev.rrv2 [0, 1, 6] (res_c [_, _] am_ag30 am_cl30 (res_t res_n)) (keepR_d (h := (keepR_g (h := (keepR_c (h := keepR_n)))))) (leadsB rfl) ?_; refine ⟨?_, ?_⟩
                all_goals first | rfl | exact lawT rfl
              · first | omega | contradiction | (exfalso; simp at *; done)
      · skip; refine S.c0 (hF := rState_fun es tag (by omega)) (h := ?_); rw [e1]; refine S.o q.neq (S.bn q.mv (fun c10 => ?_) (fun c10 => ?_))
        · first | omega | contradiction | (exfalso; simp at *; done)
        · first
        | omega | contradiction
        | refine S.o q.mv (S.o q.eql (S.o q.mv (S.o q.gtr (S.o (q.bneq am_un4) (S.o q.pf (S.bb q.mv (fun c11 => ?_) (fun c11 => ?_)))))))
          · first | omega | contradiction | (exfalso; simp at *; done)
          · first
          | omega | contradiction
          | refine S.o q.mv (S.o q.eql (S.bd q.mv (fun c12 => ?_) (fun c12 => ?_)))
            · first
            | omega | contradiction
            | refine S.o q.mv (S.o q.neq (S.o q.pt (S.o q.pf (S.end (hK _ ?_))))); clear hK K; refine Ev.cn (fun c13 => ?_) (fun c13 => ?_)
              · first
              | omega | contradiction
              | first | (exfalso; omega) | contradiction | (exfalso; simp at *; done) | (exfalso; simp_all; done) | (exfalso; simp at *; omega)
              · first
              | omega | contradiction
              | refine Ev.skip ?_; show Ev _ _ _ _; have hac : actE es ⟨kind, most, tag, l, a, b⟩ = canV es tag := (if_neg ‹_›).trans (if_pos ‹_›)
                rw [hac] at hal ⊢; refine Ev.sr fun K hK => S.o (q.lvA [_, _] am_ag30 am_cl30) (S.o (q.fa 2 am_fi34_2 am_cl9) (S.o (q.lv am_ag9) (S.c0 (hF := rCancel_fun es tag (by omega)) (h := S.o q.mv (S.o q.ex (S.o q.ex (S.nn (q.al am_ze30) (S.sv [_, _] true [_, _, _, _, _] am_in30 am_cl30 (h := S.o q.as (S.end (hK _ ?_))))))))))); clear hK K; refine Ev.weaken (Wk.frzv 12 [_, _, _, _, _]) ?_; refine Ev.weaken (Wk.frzv 5 [_, _, _, _]) ?_; refine Ev.weaken (Wk.mv 0 [_, _]) ?_; refine Ev.stp (m := 14) (L0 := #[false, false, false, false, false, false, false, false, false, false, false, false, false, false]) rfl (by kernel_rfl) (by exact rfl) fun K hK => ?_; refine HP.lsA (i := 0) [_, _] am_ag30 am_cl30 rfl (h := ?_); refine HP.mv (i := 1) rfl (h := ?_); refine HP.fa (i := 2) am_fi34_2 (by rw [am_cl9]; decide) rfl (h := ?_); refine HP.ls1 (i := 3) am_ag9 rfl (h := ?_); refine HP.mv (i := 5) rfl (h := ?_); refine .done ?_; refine HT.one (i := 4) trivial rfl (S.cR [0, 6] 7 [_, _, _, _] (hob := (keep_d (he := rfl) (h := (keep_c (he := rfl) (h := keep_n))))) (hF := cancelR es tag (by omega)) (hn' := belowL rfl rfl) (h := S.end ?_)); refine HT.one (i := 6) trivial rfl (S.o q.eql (S.end ?_)); refine HT.one (i := 7) trivial rfl ?_; refine S.bd q.mv (fun c14 => ?_) (fun c14 => ?_)
                · first
                | omega | contradiction
                | refine S.end ?_; refine HT.mv (i := 8) trivial rfl (h := ?_); refine HT.one (i := 9) trivial rfl (S.o (q.lsA [_, _] am_ag30 am_cl30) (S.end ?_)); refine HT.one (i := 10) trivial rfl (S.cR [0, 6] 7 [_, _, _, _] (hob := (keep_d (he := rfl) (h := (keep_c (he := rfl) (h := keep_n))))) (hF := sameR _ hal) (hn' := belowL rfl rfl) (h := S.end ?_)); refine HT.pk (i := 11) trivial rfl (h := ?_); refine HT.one (i := 12) trivial rfl (S.sv [_, _] true [_, _, _] am_in30 am_cl30 (h := S.end ?_)); refine HT.one (i := 13) trivial rfl (S.o q.as (S.end ?_)); refine HT.nil trivial (by kernel_rfl) (hK _ ?_); clear hK K; refine Ev.ret ?_; refine Ev.rrv2 [0, 1, 6] (res_c [_, _] am_ag30 am_cl30 (res_t res_n)) (keepR_d (h := (keepR_g (h := (keepR_c (h := keepR_n)))))) (leadsB rfl) ?_; refine ⟨?_, ?_⟩
                  all_goals first | rfl | exact lawT rfl
                · first | omega | contradiction | (exfalso; simp at *; done)
            · first
            | omega | contradiction
            | refine S.sk (S.sk (S.o q.pf (S.o q.pf (S.end (hK _ ?_))))); clear hK K; refine Ev.cf ?_; refine Ev.skip ?_; show Ev _ _ _ _; have hac : actE es ⟨kind, most, tag, l, a, b⟩ = canV es tag := (if_neg ‹_›).trans (if_pos ‹_›)
              rw [hac] at hal ⊢; refine Ev.sr fun K hK => S.o (q.lvA [_, _] am_ag30 am_cl30) (S.o (q.fa 2 am_fi34_2 am_cl9) (S.o (q.lv am_ag9) (S.c0 (hF := rCancel_fun es tag (by omega)) (h := S.o q.mv (S.o q.ex (S.o q.ex (S.nn (q.al am_ze30) (S.sv [_, _] true [_, _, _, _, _] am_in30 am_cl30 (h := S.o q.as (S.end (hK _ ?_))))))))))); clear hK K; refine Ev.weaken (Wk.frzv 12 [_, _, _, _, _]) ?_; refine Ev.weaken (Wk.frzv 5 [_, _, _, _]) ?_; refine Ev.weaken (Wk.mv 0 [_, _]) ?_; refine Ev.stp (m := 14) (L0 := #[false, false, false, false, false, false, false, false, false, false, false, false, false, false]) rfl (by kernel_rfl) (by exact rfl) fun K hK => ?_; refine HP.lsA (i := 0) [_, _] am_ag30 am_cl30 rfl (h := ?_); refine HP.mv (i := 1) rfl (h := ?_); refine HP.fa (i := 2) am_fi34_2 (by rw [am_cl9]; decide) rfl (h := ?_); refine HP.ls1 (i := 3) am_ag9 rfl (h := ?_); refine HP.mv (i := 5) rfl (h := ?_); refine .done ?_; refine HT.one (i := 4) trivial rfl (S.cR [0, 6] 7 [_, _, _, _] (hob := (keep_d (he := rfl) (h := (keep_c (he := rfl) (h := keep_n))))) (hF := cancelR es tag (by omega)) (hn' := belowL rfl rfl) (h := S.end ?_)); refine HT.one (i := 6) trivial rfl (S.o q.eql (S.end ?_)); refine HT.one (i := 7) trivial rfl ?_; refine S.bd q.mv (fun c15 => ?_) (fun c15 => ?_)
              · first
              | omega | contradiction
              | refine S.end ?_; refine HT.mv (i := 8) trivial rfl (h := ?_); refine HT.one (i := 9) trivial rfl (S.o (q.lsA [_, _] am_ag30 am_cl30) (S.end ?_)); refine HT.one (i := 10) trivial rfl (S.cR [0, 6] 7 [_, _, _, _] (hob := (keep_d (he := rfl) (h := (keep_c (he := rfl) (h := keep_n))))) (hF := sameR _ hal) (hn' := belowL rfl rfl) (h := S.end ?_)); refine HT.pk (i := 11) trivial rfl (h := ?_); refine HT.one (i := 12) trivial rfl (S.sv [_, _] true [_, _, _] am_in30 am_cl30 (h := S.end ?_)); refine HT.one (i := 13) trivial rfl (S.o q.as (S.end ?_)); refine HT.nil trivial (by kernel_rfl) (hK _ ?_); clear hK K; refine Ev.ret ?_; refine Ev.rrv2 [0, 1, 6] (res_c [_, _] am_ag30 am_cl30 (res_t res_n)) (keepR_d (h := (keepR_g (h := (keepR_c (h := keepR_n)))))) (leadsB rfl) ?_; refine ⟨?_, ?_⟩
                all_goals first | rfl | exact lawT rfl
              · first | omega | contradiction | (exfalso; simp at *; done)
      · skip; refine S.c0 (hF := rState_fun es tag (by omega)) (h := ?_); rw [e1]; refine S.o q.neq (S.bn q.mv (fun c16 => ?_) (fun c16 => ?_))
        · first | omega | contradiction | (exfalso; simp at *; done)
        · first
        | omega | contradiction
        | refine S.o q.mv (S.o q.eql (S.o q.mv (S.o q.gtr (S.o (q.bneq am_un4) (S.o q.pf (S.bb q.mv (fun c17 => ?_) (fun c17 => ?_)))))))
          · first | omega | contradiction | (exfalso; simp at *; done)
          · first
          | omega | contradiction
          | refine S.o q.mv (S.o q.eql (S.bd q.mv (fun c18 => ?_) (fun c18 => ?_)))
            · first
            | omega | contradiction
            | refine S.o q.mv (S.o q.neq (S.o q.pt (S.o q.pf (S.end (hK _ ?_))))); clear hK K; refine Ev.cn (fun c19 => ?_) (fun c19 => ?_)
              · first
              | omega | contradiction
              | first | (exfalso; omega) | contradiction | (exfalso; simp at *; done) | (exfalso; simp_all; done) | (exfalso; simp at *; omega)
              · first
              | omega | contradiction
              | refine Ev.skip ?_; show Ev _ _ _ _; have hac : actE es ⟨kind, most, tag, l, a, b⟩ = canV es tag := (if_neg ‹_›).trans (if_pos ‹_›)
                rw [hac] at hal ⊢; refine Ev.sr fun K hK => S.o (q.lvA [_, _] am_ag30 am_cl30) (S.o (q.fa 2 am_fi34_2 am_cl9) (S.o (q.lv am_ag9) (S.c0 (hF := rCancel_fun es tag (by omega)) (h := S.o q.mv (S.o q.ex (S.o q.ex (S.nn (q.al am_ze30) (S.sv [_, _] true [_, _, _, _, _] am_in30 am_cl30 (h := S.o q.as (S.end (hK _ ?_))))))))))); clear hK K; refine Ev.weaken (Wk.frzv 12 [_, _, _, _, _]) ?_; refine Ev.weaken (Wk.frzv 5 [_, _, _, _]) ?_; refine Ev.weaken (Wk.mv 0 [_, _]) ?_; refine Ev.stp (m := 14) (L0 := #[false, false, false, false, false, false, false, false, false, false, false, false, false, false]) rfl (by kernel_rfl) (by exact rfl) fun K hK => ?_; refine HP.lsA (i := 0) [_, _] am_ag30 am_cl30 rfl (h := ?_); refine HP.mv (i := 1) rfl (h := ?_); refine HP.fa (i := 2) am_fi34_2 (by rw [am_cl9]; decide) rfl (h := ?_); refine HP.ls1 (i := 3) am_ag9 rfl (h := ?_); refine HP.mv (i := 5) rfl (h := ?_); refine .done ?_; refine HT.one (i := 4) trivial rfl (S.cR [0, 6] 7 [_, _, _, _] (hob := (keep_d (he := rfl) (h := (keep_c (he := rfl) (h := keep_n))))) (hF := cancelR es tag (by omega)) (hn' := belowL rfl rfl) (h := S.end ?_)); refine HT.one (i := 6) trivial rfl (S.o q.eql (S.end ?_)); refine HT.one (i := 7) trivial rfl ?_; refine S.bd q.mv (fun c20 => ?_) (fun c20 => ?_)
                · first
                | omega | contradiction
                | refine S.end ?_; refine HT.mv (i := 8) trivial rfl (h := ?_); refine HT.one (i := 9) trivial rfl (S.o (q.lsA [_, _] am_ag30 am_cl30) (S.end ?_)); refine HT.one (i := 10) trivial rfl (S.cR [0, 6] 7 [_, _, _, _] (hob := (keep_d (he := rfl) (h := (keep_c (he := rfl) (h := keep_n))))) (hF := sameR _ hal) (hn' := belowL rfl rfl) (h := S.end ?_)); refine HT.pk (i := 11) trivial rfl (h := ?_); refine HT.one (i := 12) trivial rfl (S.sv [_, _] true [_, _, _] am_in30 am_cl30 (h := S.end ?_)); refine HT.one (i := 13) trivial rfl (S.o q.as (S.end ?_)); refine HT.nil trivial (by kernel_rfl) (hK _ ?_); clear hK K; refine Ev.ret ?_; refine Ev.rrv2 [0, 1, 6] (res_c [_, _] am_ag30 am_cl30 (res_t res_n)) (keepR_d (h := (keepR_g (h := (keepR_c (h := keepR_n)))))) (leadsB rfl) ?_; refine ⟨?_, ?_⟩
                  all_goals first | rfl | exact lawT rfl
                · first | omega | contradiction | (exfalso; simp at *; done)
            · first
            | omega | contradiction
            | refine S.sk (S.sk (S.o q.pf (S.o q.pf (S.end (hK _ ?_))))); clear hK K; refine Ev.cf ?_; refine Ev.skip ?_; show Ev _ _ _ _; have hac : actE es ⟨kind, most, tag, l, a, b⟩ = canV es tag := (if_neg ‹_›).trans (if_pos ‹_›)
              rw [hac] at hal ⊢; refine Ev.sr fun K hK => S.o (q.lvA [_, _] am_ag30 am_cl30) (S.o (q.fa 2 am_fi34_2 am_cl9) (S.o (q.lv am_ag9) (S.c0 (hF := rCancel_fun es tag (by omega)) (h := S.o q.mv (S.o q.ex (S.o q.ex (S.nn (q.al am_ze30) (S.sv [_, _] true [_, _, _, _, _] am_in30 am_cl30 (h := S.o q.as (S.end (hK _ ?_))))))))))); clear hK K; refine Ev.weaken (Wk.frzv 12 [_, _, _, _, _]) ?_; refine Ev.weaken (Wk.frzv 5 [_, _, _, _]) ?_; refine Ev.weaken (Wk.mv 0 [_, _]) ?_; refine Ev.stp (m := 14) (L0 := #[false, false, false, false, false, false, false, false, false, false, false, false, false, false]) rfl (by kernel_rfl) (by exact rfl) fun K hK => ?_; refine HP.lsA (i := 0) [_, _] am_ag30 am_cl30 rfl (h := ?_); refine HP.mv (i := 1) rfl (h := ?_); refine HP.fa (i := 2) am_fi34_2 (by rw [am_cl9]; decide) rfl (h := ?_); refine HP.ls1 (i := 3) am_ag9 rfl (h := ?_); refine HP.mv (i := 5) rfl (h := ?_); refine .done ?_; refine HT.one (i := 4) trivial rfl (S.cR [0, 6] 7 [_, _, _, _] (hob := (keep_d (he := rfl) (h := (keep_c (he := rfl) (h := keep_n))))) (hF := cancelR es tag (by omega)) (hn' := belowL rfl rfl) (h := S.end ?_)); refine HT.one (i := 6) trivial rfl (S.o q.eql (S.end ?_)); refine HT.one (i := 7) trivial rfl ?_; refine S.bd q.mv (fun c21 => ?_) (fun c21 => ?_)
              · first
              | omega | contradiction
              | refine S.end ?_; refine HT.mv (i := 8) trivial rfl (h := ?_); refine HT.one (i := 9) trivial rfl (S.o (q.lsA [_, _] am_ag30 am_cl30) (S.end ?_)); refine HT.one (i := 10) trivial rfl (S.cR [0, 6] 7 [_, _, _, _] (hob := (keep_d (he := rfl) (h := (keep_c (he := rfl) (h := keep_n))))) (hF := sameR _ hal) (hn' := belowL rfl rfl) (h := S.end ?_)); refine HT.pk (i := 11) trivial rfl (h := ?_); refine HT.one (i := 12) trivial rfl (S.sv [_, _] true [_, _, _] am_in30 am_cl30 (h := S.end ?_)); refine HT.one (i := 13) trivial rfl (S.o q.as (S.end ?_)); refine HT.nil trivial (by kernel_rfl) (hK _ ?_); clear hK K; refine Ev.ret ?_; refine Ev.rrv2 [0, 1, 6] (res_c [_, _] am_ag30 am_cl30 (res_t res_n)) (keepR_d (h := (keepR_g (h := (keepR_c (h := keepR_n)))))) (leadsB rfl) ?_; refine ⟨?_, ?_⟩
                all_goals first | rfl | exact lawT rfl
              · first | omega | contradiction | (exfalso; simp at *; done)
    · first
    | omega | contradiction
    | refine Ev.skip ?_; show Ev _ _ _ _; have hac : actE es ⟨kind, most, tag, l, a, b⟩ = revV es a b most := (if_neg ‹_›).trans (if_neg ‹_›)
      rw [hac] at hal ⊢; refine Ev.sr fun K hK => S.o (q.lvA [_, _] am_ag30 am_cl30) (S.o (q.fa 4 am_fi34_4 am_cl32) (S.o (q.lv am_ag32) (S.o (q.fa 5 am_fi34_5 am_cl32) (S.o (q.lv am_ag32) (S.o (q.fa 1 am_fi34_1 am_cl3) (S.o (q.lv am_ag3) (S.c0 (hF := rRevise_fun es a b most (by omega) (by omega) (by omega) hwa hwb) (h := S.o q.mv (S.o q.ex (S.o q.ex (S.o q.ex (S.o q.ex (S.nn (q.al am_ze30) (S.sv [_, _] true [_, _, _, _, _] am_in30 am_cl30 (h := S.o q.as (S.o q.as (S.o q.as (S.end (hK _ ?_))))))))))))))))))); clear hK K; refine Ev.sr fun K hK => S.o q.mv (S.o (q.fa 4 am_fi34_4 am_cl32) (S.o (q.lv am_ag32) (S.o (q.fa 5 am_fi34_5 am_cl32) (S.o (q.lv am_ag32) (S.o (q.fa 1 am_fi34_1 am_cl3) (S.o (q.lv am_ag3) (S.cR [0, 1] 7 [_, _, _, _, _, _] (hob := (keep_d (he := rfl) (h := (keep_c (he := rfl) (h := keep_n))))) (hF := reviseR es a b most (by omega) (by omega) (by omega) hwa hwb) (hn' := belowL rfl rfl) (h := S.o q.mv (S.o q.ex (S.o q.ex (S.o q.ex (S.o q.as (S.o q.as (S.o q.as (S.end (hK _ ?_)))))))))))))))); clear hK K; refine Ev.weaken (Wk.frzv 14 [_, _, _, _, _]) ?_; refine Ev.weaken (Wk.frzv 5 [_, _, _, _]) ?_; refine Ev.stp (m := 21) (L0 := #[false, false, false, false, false, false, false, false, false, false, false, false, false, false, false, false, false, false, false, false, false]) rfl (by kernel_rfl) (by exact rfl) fun K hK => ?_
      refine HP.lsA (i := 0) [_, _] am_ag30 am_cl30 rfl (h := ?_); refine HP.mv (i := 1) rfl (h := ?_); refine HP.mv (i := 2) rfl (h := ?_); refine .done ?_; refine HT.one (i := 3) trivial rfl (S.c0 (hF := eqStrT_fun (revF es a b most) (by omega)) (h := S.end ?_)); refine HT.one (i := 4) trivial rfl (S.o q.mv (S.end ?_)); refine HT.mv (i := 5) trivial rfl (h := ?_); refine HT.one (i := 6) trivial rfl (S.o q.mv (S.end ?_)); refine HT.one (i := 7) trivial rfl (S.c0 (hF := eqStrT_fun (revN es a b most) (by omega)) (h := S.end ?_)); refine HT.one (i := 8) trivial rfl (S.o q.pt (S.end ?_)); refine HT.one (i := 9) trivial rfl (S.o q.mv (S.end ?_)); refine HT.mv (i := 10) trivial rfl (h := ?_); refine HT.one (i := 11) trivial rfl (S.o q.mv (S.end ?_)); refine HT.one (i := 12) trivial rfl (S.o q.eql (S.end ?_)); refine HT.one (i := 13) trivial rfl (S.o q.pt (S.end ?_)); refine HT.one (i := 14) trivial rfl ?_; refine S.bd q.mv (fun c22 => ?_) (fun c22 => ?_)
      · first
      | omega | contradiction
      | refine S.end ?_; refine HT.mv (i := 15) trivial rfl (h := ?_); refine HT.one (i := 16) trivial rfl (S.o (q.lsA [_, _] am_ag30 am_cl30) (S.end ?_)); refine HT.one (i := 17) trivial rfl (S.cR [0, 6] 7 [_, _, _, _] (hob := (keep_d (he := rfl) (h := (keep_c (he := rfl) (h := keep_n))))) (hF := sameR _ hal) (hn' := belowL rfl rfl) (h := S.end ?_)); refine HT.pk (i := 18) trivial rfl (h := ?_); refine HT.one (i := 19) trivial rfl (S.sv [_, _] true [_, _, _] am_in30 am_cl30 (h := S.end ?_)); refine HT.one (i := 20) trivial rfl (S.o q.as (S.end ?_)); refine HT.nil trivial (by kernel_rfl) (hK _ ?_); clear hK K; refine Ev.ret ?_; refine Ev.rrv2 [0, 1, 6] (res_c [_, _] am_ag30 am_cl30 (res_t res_n)) (keepR_d (h := (keepR_g (h := (keepR_c (h := keepR_n)))))) (leadsB rfl) ?_; refine ⟨?_, ?_⟩
        all_goals first | rfl | exact lawT rfl
      · first | omega | contradiction | (exfalso; simp at *; done)
end Go.Proofs.YthpjfkmhpoeojaaGreatDoor
namespace Go.Proofs.YthpjfkmhpoeojaaGreatDoor
open Go Go.AM
set_option linter.unusedSimpArgs false
set_option linter.unusedVariables false
set_option maxRecDepth 100000
set_option maxHeartbeats 4000000
theorem nIssue_fun (l : List Bundle) : Fun Tryz.prog 13 [.lit (.pointer none), .sh 4 (l.map Bundle.c)] (Ret (.lit (.int .i64 1)) []) := by
  refine Fun.of (nt := 47) (rs := [.tmp 4]) Tryz.func13 rfl rfl rfl rfl rfl ?_; refine Ev.sr fun K hK => S.nn (q.bx [_] true) (S.o q.as (S.end (hK _ ?_))); clear hK K; refine Ev.seq ?_; refine Ev.block ?_; refine Ev.sr fun K hK => S.o (q.lv am_ag25) (S.peq (by kernel_rfl : Tryz.prog.underlying 25 = some (.pointer 50)) (h := S.o q.mv (S.sk (S.sk (S.sk (S.o q.pt (S.o q.as (S.end (hK _ ?_))))))))); clear hK K; refine Ev.ct ?_; refine Ev.sr fun K hK => S.o q.as (S.end (hK _ ?_)); clear hK K; refine Ev.ret ?_; refine Ev.ret1 ?_; refine ⟨?_, rfl⟩; rfl
theorem nCancel_fun (t : List UInt8) : Fun Tryz.prog 14 [.lit (.pointer none), .lit (str t)] (Ret (.lit (.int .i64 1)) []) := by
  refine Fun.of (nt := 30) (rs := [.tmp 4]) Tryz.func14 rfl rfl rfl rfl rfl ?_; refine Ev.sr fun K hK => S.o q.as (S.end (hK _ ?_)); clear hK K; refine Ev.seq ?_; refine Ev.sr fun K hK => S.o q.mv (S.peq (by kernel_rfl : Tryz.prog.underlying 25 = some (.pointer 50)) (h := S.end (hK _ ?_))); clear hK K; refine Ev.ct ?_; refine Ev.sr fun K hK => S.o q.as (S.end (hK _ ?_)); clear hK K; refine Ev.ret ?_; refine Ev.ret1 ?_; refine ⟨?_, rfl⟩; rfl
theorem nRevise_fun (a b : List Bar) (most : Int) : Fun Tryz.prog 10 [.lit (.pointer none), .sh 5 (a.map Bar.c), .sh 5 (b.map Bar.c), .lit (.int .i64 most)] (Ret (.tup [.sh 1 (([] : List (List UInt8)).map strC), .sh 1 (([] : List (List UInt8)).map strC), .lit (.int .i64 1)]) []) := by
  refine Fun.of (nt := 159) (rs := [.tmp 8, .tmp 9, .tmp 10]) Tryz.func10 rfl rfl rfl rfl rfl ?_; refine Ev.sr fun K hK => S.nn (q.bx [_] true) (S.o q.as (S.o q.as (S.o q.as (S.end (hK _ ?_))))); clear hK K; refine Ev.seq ?_; refine Ev.sr fun K hK => S.o q.mv (S.peq (by kernel_rfl : Tryz.prog.underlying 25 = some (.pointer 50)) (h := S.o q.mv (S.sk (S.sk (S.sk (S.o q.pt (S.o q.mv (S.sk (S.sk (S.sk (S.o q.pt (S.end (hK _ ?_))))))))))))); clear hK K; refine Ev.ct ?_; refine Ev.sr fun K hK => S.o q.as (S.o q.as (S.o q.as (S.end (hK _ ?_)))); clear hK K; refine Ev.weaken (Wk.nsh strC 8 1) ?_; refine Ev.weaken (Wk.nsh strC 9 1) ?_; refine Ev.ret ?_; refine Ev.ret3 ?_; refine ⟨?_, rfl⟩; rfl
theorem nState_fun (t : List UInt8) : Fun Tryz.prog 11 [.lit (.pointer none), .lit (str t)] (Ret (.tup [.lit (.int .i64 0), .lit (.int .i64 1)]) []) := by
  refine Fun.of (nt := 24) (rs := [.tmp 4, .tmp 5]) Tryz.func11 rfl rfl rfl rfl rfl ?_; refine Ev.sr fun K hK => S.o q.as (S.o q.as (S.end (hK _ ?_))); clear hK K; refine Ev.seq ?_; refine Ev.sr fun K hK => S.o q.mv (S.peq (by kernel_rfl : Tryz.prog.underlying 25 = some (.pointer 50)) (h := S.end (hK _ ?_))); clear hK K; refine Ev.ct ?_; refine Ev.sr fun K hK => S.o q.as (S.o q.as (S.end (hK _ ?_))); clear hK K; refine Ev.ret ?_; refine Ev.ret2 ?_; refine ⟨?_, rfl⟩; rfl
theorem nOpen_fun : Fun Tryz.prog 15 [.lit (.pointer none)] (Ret (.sh 4 (([] : List Bundle).map Bundle.c)) []) := by
  refine Fun.of (nt := 27) (rs := [.tmp 2]) Tryz.func15 rfl rfl rfl rfl rfl ?_; refine Ev.sr fun K hK => S.o q.as (S.end (hK _ ?_)); clear hK K; refine Ev.seq ?_; refine Ev.sr fun K hK => S.o q.mv (S.peq (by kernel_rfl : Tryz.prog.underlying 25 = some (.pointer 50)) (h := S.end (hK _ ?_))); clear hK K; refine Ev.ct ?_; refine Ev.sr fun K hK => S.o q.as (S.end (hK _ ?_)); clear hK K; refine Ev.weaken (Wk.nsh Bundle.c 2 4) ?_; refine Ev.ret ?_; refine Ev.ret1 ?_; refine ⟨?_, rfl⟩; rfl
theorem nAccount_fun : Fun Tryz.prog 12 [.lit (.pointer none)] (Ret (.tup [.lit (.int .i64 0), .lit (.int .i64 0), .lit (.int .i64 0)]) []) := by
  refine Fun.of (nt := 24) (rs := [.tmp 2, .tmp 3, .tmp 4]) Tryz.func12 rfl rfl rfl rfl rfl ?_; refine Ev.sr fun K hK => S.o q.as (S.o q.as (S.o q.as (S.end (hK _ ?_)))); clear hK K; refine Ev.seq ?_; refine Ev.sr fun K hK => S.o q.mv (S.peq (by kernel_rfl : Tryz.prog.underlying 25 = some (.pointer 50)) (h := S.end (hK _ ?_))); clear hK K; refine Ev.ct ?_; refine Ev.sr fun K hK => S.o q.as (S.o q.as (S.o q.as (S.end (hK _ ?_)))); clear hK K; refine Ev.ret ?_; refine Ev.ret3 ?_; refine ⟨?_, rfl⟩; rfl
theorem none_law (x : Act) (hx : x.w) : Fun Tryz.prog 4 [.agg x.c] (Ret (.lit (.bool true)) []) := by
  have hw : ∀ y ∈ [x], y.w := fun y hy => by rw [List.mem_singleton.1 hy]; exact hx
  obtain ⟨kind, most, tag, l, a, b⟩ := x; refine Fun.of (nt := 105) (rs := [.tmp 2]) Tryz.func4 rfl rfl rfl rfl rfl ?_; refine Ev.sr fun K hK => S.nn (q.bx [_, _, _, _, _, _] true) (S.o q.as (S.end (hK _ ?_))); clear hK K; refine Ev.seq ?_; refine Ev.sr fun K hK => S.c0 (hF := awake_fun) (h := S.o q.nott (S.end (hK _ ?_))); clear hK K; refine Ev.cf ?_; refine Ev.skip ?_; show Ev _ _ _ _; refine Ev.seq ?_; refine Ev.sr fun K hK => S.o (q.lvA [_, _, _, _, _, _] am_ag34 am_cl34) (S.nn (q.bs [[_, _, _, _, _, _]] true am_el22 am_ze34 am_cl34) ?_); refine SeqL.weaken (Wk.frzl (f := Act.c) [(⟨kind, most, tag, l, a, b⟩ : Act)] 18 [_]) ?_; refine S.c0 (hF := few_fun [(⟨kind, most, tag, l, a, b⟩ : Act)] (by simp) hw) (h := S.o q.not (S.end (hK _ ?_))); clear hK K; refine Ev.cn (fun c1 => ?_) (fun c1 => ?_)
  · first
  | omega | contradiction
  | refine Ev.sr fun K hK => S.o q.as (S.end (hK _ ?_)); clear hK K; refine Ev.ret ?_; refine Ev.ret1 ?_; refine ⟨?_, rfl⟩
    first | rfl | exact lawT rfl | exact lawT (by assumption) | exact lawT (by omega) | (exfalso; omega) | contradiction | (exfalso; simp at *; done)
  · first
  | omega | contradiction
  | refine Ev.skip ?_; show Ev _ _ _ _
    have hf : fewP [(⟨kind, most, tag, l, a, b⟩ : Act)] := by first | assumption | exact Decidable.not_not.1 ‹_›
    have hfx : fewX (⟨kind, most, tag, l, a, b⟩ : Act) := hf.2 _ (by simp); refine Ev.sr fun K hK => S.o q.as (S.end (hK _ ?_)); clear hK K; refine Ev.sr fun K hK => S.o q.mv (S.o (q.fa 4 am_fi34_4 am_cl32) (S.o (q.lv am_ag32) (S.o (q.fa 5 am_fi34_5 am_cl32) (S.o (q.lv am_ag32) (S.o (q.fa 1 am_fi34_1 am_cl3) (S.o (q.lv am_ag3) (S.c0 (hF := nRevise_fun a b most) (h := S.o q.mv (S.o q.ex (S.o q.ex (S.o q.ex (S.o q.as (S.o q.as (S.o q.as (S.end (hK _ ?_)))))))))))))))); clear hK K; refine Ev.sr fun K hK => S.o q.mv (S.o (q.fa 2 am_fi34_2 am_cl9) (S.o (q.lv am_ag9) (S.c0 (hF := nState_fun tag) (h := S.o q.mv (S.o q.ex (S.o q.ex (S.o q.as (S.o q.as (S.end (hK _ ?_)))))))))); clear hK K; refine Ev.sr fun K hK => S.o q.mv (S.c0 (hF := nAccount_fun) (h := S.o q.mv (S.o q.ex (S.o q.ex (S.o q.ex (S.o q.as (S.o q.as (S.o q.as (S.end (hK _ ?_)))))))))); clear hK K; refine Ev.seq ?_; refine Ev.sr fun K hK => S.o q.mv (S.o (q.fa 3 am_fi34_3 am_cl27) (S.o (q.lv am_ag27) (S.c0 (hF := nIssue_fun l) (h := S.o q.neq (S.bn q.mv (fun c2 => ?_) (fun c2 => ?_))))))
    · first
    | omega | contradiction
    | refine S.sk (S.sk (S.sk (S.sk (S.sk (S.o q.pt (S.o q.mv (S.sk (S.sk (S.sk (S.o q.pt (S.o q.mv (S.sk (S.sk (S.sk (S.o q.pt (S.o q.mv (S.sk (S.sk (S.o q.pt (S.o q.mv (S.sk (S.sk (S.o q.pt (S.o q.mv (S.sk (S.sk (S.o q.pt (S.o q.mv (S.sk (S.sk (S.o q.pt (S.o q.mv (S.sk (S.sk (S.o q.pt (S.o q.mv (S.sk (S.sk (S.o q.pt (S.o q.mv (S.sk (S.sk (S.sk (S.sk (S.o q.pt (S.end (hK _ ?_))))))))))))))))))))))))))))))))))))))))))))))); clear hK K; refine Ev.ct ?_; refine Ev.sr fun K hK => S.o q.as (S.end (hK _ ?_)); clear hK K; refine Ev.ret ?_; refine Ev.ret1 ?_; refine ⟨?_, rfl⟩
      first | rfl | exact lawT rfl | exact lawT (by assumption) | exact lawT (by omega) | (exfalso; omega) | contradiction | (exfalso; simp at *; done)
    · first
    | omega | contradiction
    | refine S.o q.mv (S.o (q.fa 2 am_fi34_2 am_cl9) (S.o (q.lv am_ag9) (S.c0 (hF := nCancel_fun tag) (h := S.o q.neq (S.o q.pf (S.bn q.mv (fun c3 => ?_) (fun c3 => ?_)))))))
      · first
      | omega | contradiction
      | refine S.sk (S.sk (S.sk (S.o q.pt (S.o q.mv (S.sk (S.sk (S.sk (S.o q.pt (S.o q.mv (S.sk (S.sk (S.o q.pt (S.o q.mv (S.sk (S.sk (S.o q.pt (S.o q.mv (S.sk (S.sk (S.o q.pt (S.o q.mv (S.sk (S.sk (S.o q.pt (S.o q.mv (S.sk (S.sk (S.o q.pt (S.o q.mv (S.sk (S.sk (S.o q.pt (S.o q.mv (S.sk (S.sk (S.sk (S.sk (S.o q.pt (S.end (hK _ ?_)))))))))))))))))))))))))))))))))))))))); clear hK K; refine Ev.ct ?_; refine Ev.sr fun K hK => S.o q.as (S.end (hK _ ?_)); clear hK K; refine Ev.ret ?_; refine Ev.ret1 ?_; refine ⟨?_, rfl⟩
        first | rfl | exact lawT rfl | exact lawT (by assumption) | exact lawT (by omega) | (exfalso; omega) | contradiction | (exfalso; simp at *; done)
      · first
      | omega | contradiction
      | refine S.o q.mv (S.o (q.lens am_el37) (S.o q.neq (S.o q.pf (S.bn q.mv (fun c4 => ?_) (fun c4 => ?_)))))
        · first
        | omega | contradiction
        | refine S.sk (S.sk (S.sk (S.o q.pt (S.o q.mv (S.sk (S.sk (S.o q.pt (S.o q.mv (S.sk (S.sk (S.o q.pt (S.o q.mv (S.sk (S.sk (S.o q.pt (S.o q.mv (S.sk (S.sk (S.o q.pt (S.o q.mv (S.sk (S.sk (S.o q.pt (S.o q.mv (S.sk (S.sk (S.o q.pt (S.o q.mv (S.sk (S.sk (S.sk (S.sk (S.o q.pt (S.end (hK _ ?_))))))))))))))))))))))))))))))))))); clear hK K; refine Ev.ct ?_; refine Ev.sr fun K hK => S.o q.as (S.end (hK _ ?_)); clear hK K; refine Ev.ret ?_; refine Ev.ret1 ?_; refine ⟨?_, rfl⟩
          first | rfl | exact lawT rfl | exact lawT (by assumption) | exact lawT (by omega) | (exfalso; omega) | contradiction | (exfalso; simp at *; done)
        · first
        | omega | contradiction
        | refine S.o q.mv (S.o (q.lens am_el37) (S.o q.neq (S.o q.pf (S.bn q.mv (fun c5 => ?_) (fun c5 => ?_)))))
          · first
          | omega | contradiction
          | refine S.sk (S.sk (S.o q.pt (S.o q.mv (S.sk (S.sk (S.o q.pt (S.o q.mv (S.sk (S.sk (S.o q.pt (S.o q.mv (S.sk (S.sk (S.o q.pt (S.o q.mv (S.sk (S.sk (S.o q.pt (S.o q.mv (S.sk (S.sk (S.o q.pt (S.o q.mv (S.sk (S.sk (S.sk (S.sk (S.o q.pt (S.end (hK _ ?_)))))))))))))))))))))))))))))); clear hK K; refine Ev.ct ?_; refine Ev.sr fun K hK => S.o q.as (S.end (hK _ ?_)); clear hK K; refine Ev.ret ?_; refine Ev.ret1 ?_; refine ⟨?_, rfl⟩
            first | rfl | exact lawT rfl | exact lawT (by assumption) | exact lawT (by omega) | (exfalso; omega) | contradiction | (exfalso; simp at *; done)
          · first
          | omega | contradiction
          | refine S.o q.mv (S.o q.neq (S.o q.pf (S.bn q.mv (fun c6 => ?_) (fun c6 => ?_))))
            · first
            | omega | contradiction
            | refine S.sk (S.sk (S.o q.pt (S.o q.mv (S.sk (S.sk (S.o q.pt (S.o q.mv (S.sk (S.sk (S.o q.pt (S.o q.mv (S.sk (S.sk (S.o q.pt (S.o q.mv (S.sk (S.sk (S.o q.pt (S.o q.mv (S.sk (S.sk (S.sk (S.sk (S.o q.pt (S.end (hK _ ?_)))))))))))))))))))))))))); clear hK K; refine Ev.ct ?_; refine Ev.sr fun K hK => S.o q.as (S.end (hK _ ?_)); clear hK K; refine Ev.ret ?_; refine Ev.ret1 ?_; refine ⟨?_, rfl⟩
              first | rfl | exact lawT rfl | exact lawT (by assumption) | exact lawT (by omega) | (exfalso; omega) | contradiction | (exfalso; simp at *; done)
            · first
            | omega | contradiction
            | refine S.o q.mv (S.o q.neq (S.o q.pf (S.bn q.mv (fun c7 => ?_) (fun c7 => ?_))))
              · first
              | omega | contradiction
              | refine S.sk (S.sk (S.o q.pt (S.o q.mv (S.sk (S.sk (S.o q.pt (S.o q.mv (S.sk (S.sk (S.o q.pt (S.o q.mv (S.sk (S.sk (S.o q.pt (S.o q.mv (S.sk (S.sk (S.sk (S.sk (S.o q.pt (S.end (hK _ ?_)))))))))))))))))))))); clear hK K; refine Ev.ct ?_; refine Ev.sr fun K hK => S.o q.as (S.end (hK _ ?_)); clear hK K; refine Ev.ret ?_; refine Ev.ret1 ?_; refine ⟨?_, rfl⟩
                first | rfl | exact lawT rfl | exact lawT (by assumption) | exact lawT (by omega) | (exfalso; omega) | contradiction | (exfalso; simp at *; done)
              · first
              | omega | contradiction
              | refine S.o q.mv (S.o q.neq (S.o q.pf (S.bn q.mv (fun c8 => ?_) (fun c8 => ?_))))
                · first
                | omega | contradiction
                | refine S.sk (S.sk (S.o q.pt (S.o q.mv (S.sk (S.sk (S.o q.pt (S.o q.mv (S.sk (S.sk (S.o q.pt (S.o q.mv (S.sk (S.sk (S.sk (S.sk (S.o q.pt (S.end (hK _ ?_)))))))))))))))))); clear hK K; refine Ev.ct ?_; refine Ev.sr fun K hK => S.o q.as (S.end (hK _ ?_)); clear hK K; refine Ev.ret ?_; refine Ev.ret1 ?_; refine ⟨?_, rfl⟩
                  first | rfl | exact lawT rfl | exact lawT (by assumption) | exact lawT (by omega) | (exfalso; omega) | contradiction | (exfalso; simp at *; done)
                · first
                | omega | contradiction
                | refine S.o q.mv (S.o q.neq (S.o q.pf (S.bn q.mv (fun c9 => ?_) (fun c9 => ?_))))
                  · first
                  | omega | contradiction
                  | refine S.sk (S.sk (S.o q.pt (S.o q.mv (S.sk (S.sk (S.o q.pt (S.o q.mv (S.sk (S.sk (S.sk (S.sk (S.o q.pt (S.end (hK _ ?_)))))))))))))); clear hK K; refine Ev.ct ?_; refine Ev.sr fun K hK => S.o q.as (S.end (hK _ ?_)); clear hK K; refine Ev.ret ?_; refine Ev.ret1 ?_; refine ⟨?_, rfl⟩
                    first | rfl | exact lawT rfl | exact lawT (by assumption) | exact lawT (by omega) | (exfalso; omega) | contradiction | (exfalso; simp at *; done)
                  · first
                  | omega | contradiction
                  | refine S.o q.mv (S.o q.neq (S.o q.pf (S.bn q.mv (fun c10 => ?_) (fun c10 => ?_))))
                    · first
                    | omega | contradiction
                    | refine S.sk (S.sk (S.o q.pt (S.o q.mv (S.sk (S.sk (S.sk (S.sk (S.o q.pt (S.end (hK _ ?_)))))))))); clear hK K; refine Ev.ct ?_; refine Ev.sr fun K hK => S.o q.as (S.end (hK _ ?_)); clear hK K; refine Ev.ret ?_; refine Ev.ret1 ?_; refine ⟨?_, rfl⟩
                      first | rfl | exact lawT rfl | exact lawT (by assumption) | exact lawT (by omega) | (exfalso; omega) | contradiction | (exfalso; simp at *; done)
                    · first
                    | omega | contradiction
                    | refine S.o q.mv (S.o q.neq (S.o q.pf (S.bn q.mv (fun c11 => ?_) (fun c11 => ?_))))
                      · first
                      | omega | contradiction
                      | refine S.sk (S.sk (S.sk (S.sk (S.o q.pt (S.end (hK _ ?_)))))); clear hK K; refine Ev.ct ?_; refine Ev.sr fun K hK => S.o q.as (S.end (hK _ ?_)); clear hK K; refine Ev.ret ?_; refine Ev.ret1 ?_; refine ⟨?_, rfl⟩
                        first | rfl | exact lawT rfl | exact lawT (by assumption) | exact lawT (by omega) | (exfalso; omega) | contradiction | (exfalso; simp at *; done)
                      · first
                      | omega | contradiction
                      | refine S.o q.mv (S.c0 (hF := nOpen_fun) (h := S.o (q.lens am_el27) (S.o q.neq (S.o q.pf (S.end (hK _ ?_)))))); clear hK K; refine Ev.cn (fun c12 => ?_) (fun c12 => ?_)
                        · first
                        | omega | contradiction
                        | refine Ev.sr fun K hK => S.o q.as (S.end (hK _ ?_)); clear hK K; refine Ev.ret ?_; refine Ev.ret1 ?_; refine ⟨?_, rfl⟩
                          first | rfl | exact lawT rfl | exact lawT (by assumption) | exact lawT (by omega) | (exfalso; omega) | contradiction | (exfalso; simp at *; done)
                        · first
                        | omega | contradiction
                        | refine Ev.skip ?_; show Ev _ _ _ _; refine Ev.sr fun K hK => S.nn (q.al am_ze50) (S.end (hK _ ?_)); clear hK K; refine Ev.weaken (Wk.nilv (f := Ent.c) 2 0 81 5 [_]) ?_; refine Ev.sr fun K hK => S.o (q.bd [_, _] am_ze30 am_pl30) ?_; refine SeqL.weaken (Wk.nsa (cs' := [.sh 4 [], .sh 1 []]) [5, 2] 99) ?_; refine S.o (q.lvA [_, _, _, _, _, _] am_ag34 am_cl34) (S.cR [2, 3] 5 [_, _, _] (hob := (keep_d (he := rfl) (h := (keep_c (he := rfl) (h := keep_n))))) (hF := doR [] (⟨kind, most, tag, l, a, b⟩ : Act) (by decide) hfx) (hn' := belowL rfl rfl) (h := S.o q.mv (S.o q.ex (S.o q.ex (S.nn (q.al am_ze30) (S.sv [_, _] true [_, _, _] am_in30 am_cl30 (h := S.o q.as (S.end (hK _ ?_))))))))); clear hK K; refine Ev.sr fun K hK => S.o q.mv (S.o q.as (S.end (hK _ ?_))); clear hK K; refine Ev.ret ?_; refine Ev.ret1 ?_; refine ⟨?_, rfl⟩
                          first | rfl | exact lawT rfl | exact lawT (by assumption) | exact lawT (by omega) | (exfalso; omega) | contradiction | (exfalso; simp at *; done)
theorem does_law (l : List Act) (hlen : l.length ≤ 140737488355328) (hw : ∀ x ∈ l, x.w) : Fun Tryz.prog 3 [.sh 6 (l.map Act.c)] (Ret (.lit (.bool true)) []) := by
  refine Fun.of (nt := 37) (rs := [.tmp 2]) Tryz.func3 rfl rfl rfl rfl rfl ?_; refine Ev.sr fun K hK => S.o q.as (S.end (hK _ ?_)); clear hK K; refine Ev.seq ?_; refine Ev.sr fun K hK => S.c0 (hF := awake_fun) (h := S.o q.nott (S.end (hK _ ?_))); clear hK K; refine Ev.cf ?_; refine Ev.skip ?_; show Ev _ _ _ _; refine Ev.seq ?_; refine Ev.sr fun K hK => S.o q.mv (S.c0 (hF := few_fun _ (by omega) (by assumption)) (h := S.o q.not (S.end (hK _ ?_)))); clear hK K; refine Ev.cn (fun c1 => ?_) (fun c1 => ?_)
  · first
  | omega | contradiction
  | refine Ev.sr fun K hK => S.o q.as (S.end (hK _ ?_)); clear hK K; refine Ev.ret ?_; refine Ev.ret1 ?_; refine ⟨?_, rfl⟩
    first | rfl | exact lawT rfl | exact lawT (by assumption) | exact lawT (by omega) | (exfalso; omega) | contradiction | (exfalso; simp at *; done)
  · first
  | omega | contradiction
  | refine Ev.skip ?_; show Ev _ _ _ _
    have hf : fewP l := by first | assumption | exact Decidable.not_not.1 ‹_›
    refine Ev.sr fun K hK => S.c1g (hF := new_fun) (h := S.o q.as (S.end (hK _ ?_))); clear hK K; refine Ev.seq ?_; refine Ev.sr fun K hK => S.o q.mv (S.peqa (by kernel_rfl : Tryz.prog.underlying 25 = some (.pointer 50)) (h := S.end (hK _ ?_))); clear hK K; refine Ev.cf ?_; refine Ev.skip ?_; show Ev _ _ _ _; refine Ev.sr fun K hK => S.o (q.bd [_, _] am_ze30 am_pl30) ?_; refine SeqL.weaken (Wk.nsa (cs' := [.sh 4 [], .sh 1 []]) [5, 2] 16) ?_; refine S.nn (q.al am_ze30) (S.sv [_, _] true [_] am_in30 am_cl30 (h := S.end (hK _ ?_))); clear hK K; refine Ev.weaken (Wk.nilv (f := Ent.c) 0 0 81 5 [_]) ?_; refine Ev.sr fun K hK => S.o q.mv (S.o (q.lvA [_, _] am_ag30 am_cl30) (S.cR [0, 2] 3 [_, _, _] (hob := (keep_d (he := rfl) (h := (keep_c (he := rfl) (h := keep_n))))) (hF := sameR [] (by decide)) (hn' := belowL rfl rfl) (h := S.o q.as (S.end (hK _ ?_))))); clear hK K; refine Ev.seq ?_; refine Ev.sr fun K hK => S.o q.mv (S.o (q.lens am_el22) (S.o q.mv (S.end (hK _ ?_)))); clear hK K; refine Ev.block ?_
    refine Ev.loopU (ι := {p : List (Act) × List (Act) // p.1 ++ p.2 = l ∧ True}) [0, 2, 1] [3, 4, 20, 21] (fun ⟨(pre, suf), _⟩ => [(22, .lit (.int .i64 ((pre.length : Int)))), (5, .lit (.bool (true)))]) (fun ⟨(pre, suf), _⟩ => [(0, ⟨false, 50, 1, [[.als 1 0 (madeE pre).length]], false⟩), (1, ⟨true, 81, 5, (madeE pre).map Ent.c, true⟩), (2, ⟨false, 30, 2, [[.sh 4 ((bkL (madeE pre)).map Bundle.c), .sh 1 ((bkO (madeE pre)).map boolC)]], true⟩)]) (fun ⟨(pre, suf), _⟩ => suf.length) ⟨([], l), rfl, trivial⟩ (.c (.c (.c (.c .n)))) (keep_d (he := (by first | rfl | (simp; done))) (h := (keep_c (he := (by first | rfl | (simp; done))) (h := (keep_c (he := (by first | rfl | (simp; done))) (h := keep_n)))))) (slots_c (he := (by first | rfl | (congr 2; simp; done))) (h := (slots_c (he := (by first | rfl | (simp; done) | (congr 2; omega))) (h := trivial)))) ?_; rintro ⟨⟨pre, suf⟩, hp, hinv⟩ R0 hR0; dsimp only [List.cons_append, List.nil_append, List.length_cons, List.length_nil]
    simp only at hp hinv
    have hpl : pre.length + suf.length = (l).length := by rw [← hp, List.length_append]
    rcases suf with _ | ⟨s, suf⟩
    · rw [List.append_nil] at hp; simp only [List.length_nil] at hpl; refine Ev.sr fun K hK => S.o q.lss (S.end (hK _ ?_)); clear hK K; refine Ev.ud (fun c2 => ?_) (fun c2 => ?_)
      · first | omega | contradiction | (exfalso; simp at *; done)
      · first
      | omega | contradiction
      | refine Ev.exit ?_; refine hR0 _ _ ?_; show Ev _ _ _ _; refine Ev.sr fun K hK => S.o q.mv (S.o q.as (S.end (hK _ ?_))); clear hK K; refine Ev.ret ?_; refine Ev.ret1 ?_; refine ⟨?_, rfl⟩
        first | rfl | exact lawT rfl | exact lawT (by assumption) | exact lawT (by omega) | (exfalso; omega) | contradiction | (exfalso; simp at *; done)
    · simp only [List.length_cons] at hpl
      have hidx : l[pre.length]? = some s := by rw [← hp]; simp
      obtain ⟨kind, most, tag, tl, a, b⟩ := s; refine Ev.sr fun K hK => S.o q.lss (S.end (hK _ ?_)); clear hK K; refine Ev.ud (fun c3 => ?_) (fun c3 => ?_)
      · first
      | omega | contradiction
      | refine Ev.seq ?_; refine Ev.block ?_; refine Ev.sr fun K hK => S.o (q.ix am_el22 am_cl34 (hl := (by first | exact ati hidx (by omega) | exact atig (by omega)))) (S.o (q.lsA [_, _, _, _, _, _] am_ag34 am_cl34) (S.nn (q.al am_ze34) (S.sv [_, _, _, _, _, _] true [_, _, _] am_in34 am_cl34 (h := S.end (hK _ ?_))))); clear hK K; refine Ev.seq ?_; refine Ev.sr fun K hK => S.o q.mv (S.o q.nott (S.end (hK _ ?_))); clear hK K; refine Ev.cf ?_; refine Ev.skip ?_; show Ev _ _ _ _; refine Ev.region_S fun K hK => S.o q.mv (S.o (q.lvA [_, _] am_ag30 am_cl30) (S.o (q.lvA [_, _, _, _, _, _] am_ag34 am_cl34) (S.cR [0, 1] 5 [_, _, _, _] (hob := (keep_d (he := rfl) (h := (keep_c (he := rfl) (h := keep_n))))) (hF := doR (madeE pre) ⟨kind, most, tag, tl, a, b⟩ (madeE_len pre) (hf.2 _ (by rw [← hp]; simp))) (hn' := belowL rfl rfl) (h := ?_)))); rw [← madeE_snoc]; refine S.o q.mv (S.o q.ex (S.o q.ex (S.sv [_, _] true [_, _, _] am_in30 am_cl30 (h := S.o q.as (S.end (hK _ ?_)))))); clear hK K; show Ev _ _ _ _; refine Ev.region_S fun K hK => S.o q.add (S.o q.mv (S.end (hK _ ?_))); clear hK K; refine hR0 _ _ ?_
        refine roundU [0, 4, 2] [3, 4, 20, 21] ⟨(pre ++ [⟨kind, most, tag, tl, a, b⟩], suf), by rw [← hp]; simp, ?_⟩ ?_ (keep_d (he := (by first | rfl | (simp; done))) (h := (keep_c (he := (by first | rfl | (simp; done))) (h := (keep_c (he := (by first | rfl | (simp; done))) (h := keep_n)))))) (slots_c (he := (by first | rfl | (congr 2; simp; done))) (h := (slots_c (he := (by first | rfl | (simp; done) | (congr 2; omega))) (h := trivial)))) (.c (.c (.c (.c .n)))); trivial; all_goals (dsimp only; simp only [List.length_cons]; omega)
      · first | omega | contradiction | (exfalso; simp at *; done)
end Go.Proofs.YthpjfkmhpoeojaaGreatDoor
