/-
  Tags: the book and its methods, what they answer.
  Conditions: none.
-/
import Derived.Test.YthpjfkmhpoeojaaGreatDoorBd4
import Derived.Test.YthpjfkmhpoeojaaGreatDoorSm1
import Derived.Test.YthpjfkmhpoeojaaGreatDoorAmAppI
import Derived.Test.YthpjfkmhpoeojaaGreatDoorMk4
import Derived.Test.YthpjfkmhpoeojaaGreatDoorAmHeld
import Derived.Test.YthpjfkmhpoeojaaGreatDoorAmArr
import Derived.Test.YthpjfkmhpoeojaaGreatDoorAmDel
import Derived.Test.YthpjfkmhpoeojaaGreatDoorAmSet
import Derived.Test.YthpjfkmhpoeojaaGreatDoorAmOwn

namespace Go.Proofs.YthpjfkmhpoeojaaGreatDoor
open Go Go.AM
set_option linter.unusedSimpArgs false
set_option linter.unusedVariables false
set_option maxRecDepth 100000
set_option maxHeartbeats 1000000
structure Ent where
  b : Bundle
  off : Bool
def Ent.c : Ent → List AV
  | ⟨⟨t, m, n, k⟩, o⟩ => [.lit (str t), .lit (str m), .lit (.int .i64 n), .lit (.int .i64 k), .lit (.bool o)]
def tgI (es : List Ent) (t : List UInt8) : Int := idxP (fun e => decide (e.b.tag = t)) es 0
theorem tgI_lt (es : List Ent) (t : List UInt8) : tgI es t < 0 ↔ ∀ e ∈ es, e.b.tag ≠ t := by
  have h := idxP_nonneg (fun e : Ent => decide (e.b.tag = t)) es 0 (Int.le_refl _)
  unfold tgI
  constructor
  · intro h1 e he ht; have := h.2 ⟨e, he, by simpa using ht⟩; omega
  · intro h1
    rcases Int.lt_or_le (idxP (fun e : Ent => decide (e.b.tag = t)) es 0) 0 with h2 | h2
    · exact h2
    · obtain ⟨e, he, ht⟩ := h.1 h2; exact absurd (by simpa using ht) (h1 e he)
theorem tgI_at {es : List Ent} {t : List UInt8} (h : ¬ tgI es t < 0) : ∃ e, es[(tgI es t).toNat]? = some e ∧ e.b.tag = t ∧ 0 ≤ tgI es t ∧ tgI es t < es.length := by
  have h0 : 0 ≤ tgI es t := by omega
  obtain ⟨x, h1, h2⟩ := (idxP_find (fun e : Ent => decide (e.b.tag = t)) es 0 (Int.le_refl _)).2 h0; rw [Int.sub_zero] at h2; have h3 : es[(tgI es t).toNat]? = some x := h2; have h4 := (List.getElem?_eq_some_iff.1 h3).1; exact ⟨x, h3, by simpa using List.find?_some h1, h0, by omega⟩
def openL (es : List Ent) : List Bundle := (es.filter fun e => !e.off).map (·.b)
theorem openL_snoc (es : List Ent) (e : Ent) : openL (es ++ [e]) = openL es ++ if e.off then [] else [e.b] := by
  unfold openL
  rw [List.filter_append, List.map_append]
  congr 1
  cases h : e.off <;> simp [h]
theorem openL_t {es : List Ent} {e : Ent} (h : (!e.off) = true) : openL (es ++ [e]) = openL es ++ [e.b] := by
  rw [openL_snoc, if_neg (by simpa using h)]
theorem openL_f {es : List Ent} {e : Ent} (h : (!e.off) = false) : openL (es ++ [e]) = openL es := by
  rw [openL_snoc, if_pos (by simpa using h), List.append_nil]
theorem openL_len (es : List Ent) : (openL es).length ≤ es.length := by
  unfold openL
  rw [List.length_map]; exact List.length_filter_le _ _
def offE (e : Ent) : Ent := ⟨e.b, true⟩
end Go.Proofs.YthpjfkmhpoeojaaGreatDoor
namespace Go.Proofs.YthpjfkmhpoeojaaGreatDoor
open Go Go.AM
set_option linter.unusedSimpArgs false
set_option linter.unusedVariables false
set_option maxRecDepth 100000
set_option maxHeartbeats 1000000
theorem indexFuncEnt1 (g : FuncId) (c0 : List AV) (p : Ent → Bool) (hg : ∀ s, Fun Tryz.prog g [.agg (Ent.c s), .sadr c0 0] (Ret (.lit (.bool (p s))) [])) (l : List (Ent)) (hlen : l.length ≤ 140737488355328) :
    Fun Tryz.prog 55 [.sh 5 (l.map Ent.c), .fn (.func g) [] [.sadr c0 0]] (Ret (.lit (.int .i64 (idxP p l 0))) []) := by
  refine Fun.of (nt := 19) (rs := [.tmp 4]) Tryz.func55 rfl rfl rfl rfl rfl ?_; refine Ev.sr fun K hK => S.o q.as (S.end (hK _ ?_)); clear hK K; refine Ev.seq ?_; refine Ev.sr fun K hK => S.o q.mv (S.o (q.lens am_el48) (S.o q.mv (S.end (hK _ ?_)))); clear hK K; refine Ev.block ?_; refine Ev.loopU (ι := {q : List (Ent) × List (Ent) // q.1 ++ q.2 = l ∧ ∀ x ∈ q.1, p x = false}) [] [0, 1, 7] (fun ⟨(pre, suf), _⟩ => [(8, .lit (.int .i64 ((pre.length : Int))))]) (fun ⟨(pre, suf), _⟩ => []) (fun ⟨(pre, suf), _⟩ => suf.length) ⟨([], l), rfl, fun x hx => by simp at hx⟩ (.c (.c (.c .n))) keep_n (slots_c (he := (by first | rfl | (simp; done) | (congr 2; omega))) (h := trivial)) ?_; rintro ⟨⟨pre, suf⟩, hp, hinv⟩ R0 hR0; dsimp only [List.cons_append, List.nil_append, List.length_cons, List.length_nil]
  simp only at hp hinv
  have hpl : pre.length + suf.length = (l).length := by rw [← hp, List.length_append]
  rcases suf with _ | ⟨s, suf⟩
  · rw [List.append_nil] at hp; subst hp; simp only [List.length_nil] at hpl; refine Ev.sr fun K hK => S.o q.lss (S.end (hK _ ?_)); clear hK K; refine Ev.ud (fun c1 => ?_) (fun c1 => ?_)
    · first
    | omega | contradiction
    | refine Ev.seq ?_; refine Ev.block ?_; refine Ev.sr fun K hK => S.o q.mv (S.o q.as (S.end (hK _ ?_))); clear hK K; refine Ev.sr fun K hK => S.o q.mv (S.o q.mv (S.o q.mv (S.o (q.ix am_el48 am_cl81 (hl := (by first | exact atig (by omega)))) (S.o (q.lsA [_, _, _, _, _] am_ag81 am_cl81) (S.c0 (hF := hg s) (h := S.end (hK _ ?_))))))); clear hK K; refine Ev.c (fun c2 => ?_) (fun c2 => ?_)
      · first
      | omega | contradiction
      | refine Ev.sr fun K hK => S.o q.mv (S.o q.as (S.end (hK _ ?_))); clear hK K; refine Ev.ret ?_; refine hR0 _ _ ?_; refine Ev.ret1 ?_; refine ⟨?_, rfl⟩
        first | (congr 2; rw [← hp, idxP_append p pre _ 0 hinv, idxP, if_pos ‹_›]; omega) | (congr 2; rw [idxP_none p pre 0 hinv])
      · first
      | omega | contradiction
      | refine Ev.skip ?_; show Ev _ _ _ _; refine Ev.region_S fun K hK => S.o q.add (S.o q.mv (S.end (hK _ ?_))); clear hK K; refine hR0 _ _ ?_; refine roundU [] [0, 1, 7] ⟨(pre ++ [s], suf), by rw [← hp]; simp, ?_⟩ ?_ keep_n (slots_c (he := (by first | rfl | (simp; done) | (congr 2; omega))) (h := trivial)) (.c (.c (.c .n)))
        intro x hx; simp only [List.mem_append, List.mem_singleton] at hx; rcases hx with hx | rfl
        · exact hinv x hx
        · assumption
        all_goals (dsimp only; simp only [List.length_cons]; omega)
    · first
    | omega | contradiction
    | refine Ev.exit ?_; refine hR0 _ _ ?_; show Ev _ _ _ _; refine Ev.sr fun K hK => S.o q.as (S.end (hK _ ?_)); clear hK K; refine Ev.ret ?_; refine Ev.ret1 ?_; refine ⟨?_, rfl⟩
      first | (congr 2; rw [← hp, idxP_append p pre _ 0 hinv, idxP, if_pos ‹_›]; omega) | (congr 2; rw [idxP_none p pre 0 hinv])
  · simp only [List.length_cons] at hpl
    have hidx : (l)[pre.length]? = some s := by rw [← hp]; simp
    refine Ev.sr fun K hK => S.o q.lss (S.end (hK _ ?_)); clear hK K; refine Ev.ud (fun c3 => ?_) (fun c3 => ?_)
    · first
    | omega | contradiction
    | refine Ev.seq ?_; refine Ev.block ?_; refine Ev.sr fun K hK => S.o q.mv (S.o q.as (S.end (hK _ ?_))); clear hK K; refine Ev.sr fun K hK => S.o q.mv (S.o q.mv (S.o q.mv (S.o (q.ix am_el48 am_cl81 (hl := (by first | exact ati hidx (by omega) | exact atig (by omega)))) (S.o (q.lsA [_, _, _, _, _] am_ag81 am_cl81) (S.c0 (hF := hg s) (h := S.end (hK _ ?_))))))); clear hK K; refine Ev.c (fun c4 => ?_) (fun c4 => ?_)
      · first
      | omega | contradiction
      | refine Ev.sr fun K hK => S.o q.mv (S.o q.as (S.end (hK _ ?_))); clear hK K; refine Ev.ret ?_; refine hR0 _ _ ?_; refine Ev.ret1 ?_; refine ⟨?_, rfl⟩
        first | (congr 2; rw [← hp, idxP_append p pre _ 0 hinv, idxP, if_pos ‹_›]; omega) | (congr 2; rw [idxP_none p pre 0 hinv])
      · first
      | omega | contradiction
      | refine Ev.skip ?_; show Ev _ _ _ _; refine Ev.region_S fun K hK => S.o q.add (S.o q.mv (S.end (hK _ ?_))); clear hK K; refine hR0 _ _ ?_; refine roundU [] [0, 1, 7] ⟨(pre ++ [s], suf), by rw [← hp]; simp, ?_⟩ ?_ keep_n (slots_c (he := (by first | rfl | (simp; done) | (congr 2; omega))) (h := trivial)) (.c (.c (.c .n)))
        intro x hx; simp only [List.mem_append, List.mem_singleton] at hx; rcases hx with hx | rfl
        · exact hinv x hx
        · assumption
        all_goals (dsimp only; simp only [List.length_cons]; omega)
    · first
    | omega | contradiction
    | refine Ev.exit ?_; refine hR0 _ _ ?_; show Ev _ _ _ _; refine Ev.sr fun K hK => S.o q.as (S.end (hK _ ?_)); clear hK K; refine Ev.ret ?_; refine Ev.ret1 ?_; refine ⟨?_, rfl⟩
      first | (congr 2; rw [← hp, idxP_append p pre _ 0 hinv, idxP, if_pos ‹_›]; omega) | (congr 2; rw [idxP_none p pre 0 hinv])
theorem find1e_fun (e : Ent) (t : List UInt8) : Fun Tryz.prog 56 [.agg e.c, .sadr [.lit (str t)] 0] (Ret (.lit (.bool (decide (e.b.tag = t)))) []) := by
  refine Fun.of (nt := 9) (rs := [.tmp 3]) Tryz.func56 rfl rfl rfl rfl rfl ?_; refine Ev.sr fun K hK => S.nn (q.bx [_, _, _, _, _] true) (S.o q.as (S.end (hK _ ?_))); clear hK K; refine Ev.sr fun K hK => S.o (q.fa 0 am_fi81_0 am_cl53) (S.o (q.fa 0 am_fi53_0 am_cl9) (S.o (q.lv am_ag9) (S.o (q.ls am_ag9) (S.o q.seqs (S.o q.as (S.end (hK _ ?_))))))); clear hK K; refine Ev.ret ?_; refine Ev.ret1 ?_; refine ⟨?_, rfl⟩; rfl
theorem findR (es : List Ent) (t : List UInt8) (hl : es.length ≤ 1000000) : FunR Tryz.prog 34 [.adr 0 0 0, .lit (str t)] [(0, ⟨false, 50, 1, [[.als 1 0 (es).length]], false⟩), (1, ⟨true, 81, 5, (es).map Ent.c, true⟩)] 2 (Ret (.lit (.int .i64 (tgI es t))) [(0, ⟨false, 50, 1, [[.als 1 0 (es).length]], false⟩), (1, ⟨true, 81, 5, (es).map Ent.c, true⟩)]) := by
  refine FunR.of (nt := 11) (rs := [.tmp 4]) Tryz.func34 rfl rfl rfl rfl rfl ?_; refine Ev.sr fun K hK => S.nn (q.bx [_] true) (S.o q.as (S.end (hK _ ?_))); clear hK K; refine Ev.sr fun K hK => S.o q.mv (S.o q.nc (S.o (q.fa 0 am_fi50_0 am_cl48) (S.o (q.lv am_ag48) (S.o q.mf (S.c0 (hF := indexFuncEnt1 _ _ _ (fun e => find1e_fun e t) es (by omega)) (hv := (by simp [viewL, viewAV, St.ev, St.get, find_cons])) (h := S.o q.as (S.end (hK _ ?_)))))))); clear hK K; refine Ev.ret ?_; refine Ev.rr1 [0, 1] (keepR_d (h := (keepR_c (h := keepR_n)))) leads2 ?_; refine ⟨?_, ?_⟩; all_goals rfl
theorem openR (es : List Ent) (hl : es.length ≤ 1000000) : FunR Tryz.prog 15 [.adr 0 0 0] [(0, ⟨false, 50, 1, [[.als 1 0 (es).length]], false⟩), (1, ⟨true, 81, 5, (es).map Ent.c, true⟩)] 2 (Ret (.sh 4 ((openL es).map Bundle.c)) [(0, ⟨false, 50, 1, [[.als 1 0 (es).length]], false⟩), (1, ⟨true, 81, 5, (es).map Ent.c, true⟩)]) := by
  refine FunR.of (nt := 27) (rs := [.tmp 2]) Tryz.func15 rfl rfl rfl rfl rfl ?_; refine Ev.sr fun K hK => S.o q.as (S.end (hK _ ?_)); clear hK K; refine Ev.seq ?_; refine Ev.sr fun K hK => S.o q.mv (S.peqa (by kernel_rfl : Tryz.prog.underlying 25 = some (.pointer 50)) (h := S.end (hK _ ?_))); clear hK K; refine Ev.cf ?_; refine Ev.skip ?_; show Ev _ _ _ _; refine Ev.sr fun K hK => S.o q.as (S.end (hK _ ?_)); clear hK K; refine Ev.seq ?_; refine Ev.sr fun K hK => S.o q.mv (S.o q.nc (S.o (q.fa 0 am_fi50_0 am_cl48) (S.o (q.lv am_ag48) (S.o (q.lena am_el48) (S.o q.mv (S.end (hK _ ?_))))))); clear hK K; refine Ev.block ?_; refine Ev.weaken (Wk.nown Bundle.c 3 53 4) ?_
  refine Ev.loopU (ι := {p : List (Ent) × List (Ent) // p.1 ++ p.2 = es ∧ True}) [0, 1, 2] [2, 11, 12] (fun ⟨(pre, suf), _⟩ => [(13, .lit (.int .i64 ((pre.length : Int)))), (3, .als 2 0 (openL pre).length)]) (fun ⟨(pre, suf), _⟩ => [(0, ⟨false, 50, 1, [[.als 1 0 (es).length]], false⟩), (1, ⟨true, 81, 5, (es).map Ent.c, true⟩), (2, ⟨true, 53, 4, (openL pre).map Bundle.c, true⟩)]) (fun ⟨(pre, suf), _⟩ => suf.length) ⟨([], es), rfl, trivial⟩ (.c (.c (.c .n))) (keep_d (he := (by first | rfl | (simp; done))) (h := (keep_c (he := (by first | rfl | (simp; done))) (h := (keep_c (he := (by first | rfl | (rw [openL_t ‹_›]; done) | (rw [openL_f ‹_›]; done))) (h := keep_n)))))) (slots_c (he := (by first | rfl | (congr 2; simp; done))) (h := (slots_c (he := (by first | rfl | (rw [openL_t ‹_›]; done) | (rw [openL_f ‹_›]; done))) (h := trivial)))) ?_; rintro ⟨⟨pre, suf⟩, hp, hinv⟩ R0 hR0; dsimp only [List.cons_append, List.nil_append, List.length_cons, List.length_nil]
  simp only at hp hinv
  have hpl : pre.length + suf.length = (es).length := by rw [← hp, List.length_append]
  rcases suf with _ | ⟨s, suf⟩
  · rw [List.append_nil] at hp; simp only [List.length_nil] at hpl; subst hp; refine Ev.sr fun K hK => S.o q.lss (S.end (hK _ ?_)); clear hK K; refine Ev.ud (fun c1 => ?_) (fun c1 => ?_)
    · first | omega | contradiction | (exfalso; simp at *; done)
    · first
    | omega | contradiction
    | refine Ev.exit ?_; refine hR0 _ _ ?_; show Ev _ _ _ _; refine Ev.sr fun K hK => S.o q.mv (S.o q.as (S.end (hK _ ?_))); clear hK K; refine Ev.weaken (Wk.frz 2 [_, _]) ?_; refine Ev.ret ?_; refine Ev.rr1 [0, 1] (keepR_d (h := (keepR_c (h := keepR_n)))) leads2 ?_; refine ⟨?_, ?_⟩; all_goals rfl
  · simp only [List.length_cons] at hpl
    have hidx : es[pre.length]? = some s := by rw [← hp]; simp
    have hol := openL_len pre; refine Ev.sr fun K hK => S.o q.lss (S.end (hK _ ?_)); clear hK K; refine Ev.ud (fun c2 => ?_) (fun c2 => ?_)
    · first
    | omega | contradiction
    | refine Ev.seq ?_; refine Ev.block ?_; refine Ev.sr fun K hK => S.o (q.ia am_el48 am_cl81) (S.o (q.lxA [_, _, _, _, _] am_ag81 am_cl81 (hl := (by first | exact at_ hidx (by omega) | exact at_g (by omega)))) (S.nn (q.al am_ze81) (S.sv [_, _, _, _, _] true [_, _, _] am_in81 am_cl81 (h := S.end (hK _ ?_))))); clear hK K; refine Ev.sr fun K hK => S.o (q.fa 4 am_fi81_1 am_cl4) (S.o (q.lv am_ag4) (S.o q.not (S.end (hK _ ?_)))); clear hK K; refine Ev.c (fun c3 => ?_) (fun c3 => ?_)
      · first
      | omega | contradiction
      | refine Ev.region_S fun K hK => S.o q.mv (S.o (q.fa 0 am_fi81_0 am_cl53) (S.o (q.lvA [_, _, _, _] am_ag53 am_cl53) (S.nn (q.bs [[_, _, _, _]] true am_el27 am_ze53 am_cl53) (S.ap' [_, _, _, _] am_el27 am_ze53 am_cl53 am_by53 (hh := head_own') (hr := (rows_lit [s.b])) (h := S.o q.as (S.end (hK _ ?_))))))); clear hK K; show Ev _ _ _ _; refine Ev.region_S fun K hK => S.o q.add (S.o q.mv (S.end (hK _ ?_))); clear hK K; refine hR0 _ _ ?_; refine roundU [0, 1, 5] [2, 11, 12] ⟨(pre ++ [s], suf), by rw [← hp]; simp, ?_⟩ ?_ (keep_d (he := (by first | rfl | (simp; done))) (h := (keep_c (he := (by first | rfl | (simp; done))) (h := (keep_c (he := (by first | rfl | (rw [openL_t ‹_›]; done) | (rw [openL_f ‹_›]; done))) (h := keep_n)))))) (slots_c (he := (by first | rfl | (congr 2; simp; done))) (h := (slots_c (he := (by first | rfl | (rw [openL_t ‹_›]; done) | (rw [openL_f ‹_›]; done))) (h := trivial)))) (.c (.c (.c .n))); trivial; all_goals (dsimp only; simp only [List.length_cons]; omega)
      · first
      | omega | contradiction
      | refine Ev.skip ?_; show Ev _ _ _ _; refine Ev.region_S fun K hK => S.o q.add (S.o q.mv (S.end (hK _ ?_))); clear hK K; refine hR0 _ _ ?_; refine roundU [0, 1, 2] [2, 11, 12] ⟨(pre ++ [s], suf), by rw [← hp]; simp, ?_⟩ ?_ (keep_d (he := (by first | rfl | (simp; done))) (h := (keep_c (he := (by first | rfl | (simp; done))) (h := (keep_c (he := (by first | rfl | (rw [openL_t ‹_›]; done) | (rw [openL_f ‹_›]; done))) (h := keep_n)))))) (slots_c (he := (by first | rfl | (congr 2; simp; done))) (h := (slots_c (he := (by first | rfl | (rw [openL_t ‹_›]; done) | (rw [openL_f ‹_›]; done))) (h := trivial)))) (.c (.c (.c .n))); trivial; all_goals (dsimp only; simp only [List.length_cons]; omega)
    · first | omega | contradiction | (exfalso; simp at *; done)
end Go.Proofs.YthpjfkmhpoeojaaGreatDoor
namespace Go.Proofs.YthpjfkmhpoeojaaGreatDoor
open Go Go.AM
set_option linter.unusedSimpArgs false
set_option linter.unusedVariables false
set_option maxRecDepth 100000
set_option maxHeartbeats 1000000
theorem issue1R (es : List Ent) (b : Bundle) (hl : es.length ≤ 1000000) : FunR Tryz.prog 38 [.agg b.c, .adr 0 0 0] [(0, ⟨false, 25, 1, [[.adr 1 0 0]], false⟩), (1, ⟨false, 50, 1, [[.als 2 0 es.length]], false⟩), (2, ⟨true, 81, 5, es.map Ent.c, true⟩)] 3 (Ret (.lit (.bool (decide (tgI es b.tag ≥ 0)))) [(0, ⟨false, 25, 1, [[.adr 1 0 0]], false⟩), (1, ⟨false, 50, 1, [[.als 2 0 es.length]], false⟩), (2, ⟨true, 81, 5, es.map Ent.c, true⟩)]) := by
  refine FunR.of (nt := 9) (rs := [.tmp 3]) Tryz.func38 rfl rfl rfl rfl rfl ?_; refine Ev.sr fun K hK => S.nn (q.bx [_, _, _, _] true) (S.o q.as (S.end (hK _ ?_))); clear hK K; refine Ev.sr fun K hK => S.o (q.lv am_ag25) (S.o (q.fa 0 am_fi53_0 am_cl9) (S.o (q.lv am_ag9) (S.cR [1, 2] 4 [_, _, _, _] (hob := (keep_d (he := rfl) (h := (keep_c (he := rfl) (h := keep_n))))) (hF := findR es b.tag hl) (hn' := belowL rfl rfl) (h := S.o q.geq (S.o q.as (S.end (hK _ ?_))))))); clear hK K; refine Ev.ret ?_; refine Ev.rr1 [0, 1, 2] (keepR_d (h := (keepR_d (h := (keepR_c (h := keepR_n)))))) leads3 ?_; refine ⟨?_, ?_⟩; all_goals rfl
theorem issueIdxR (es : List Ent) (l : List Bundle) (hl : es.length ≤ 1000000) (hlen : l.length ≤ 140737488355328) : FunR Tryz.prog 59 [.sh 4 (l.map Bundle.c), .fn (.func 38) [] [.adr 0 0 0]] [(0, ⟨false, 25, 1, [[.adr 1 0 0]], false⟩), (1, ⟨false, 50, 1, [[.als 2 0 es.length]], false⟩), (2, ⟨true, 81, 5, es.map Ent.c, true⟩)] 3 (Ret (.lit (.int .i64 (idxP (fun b : Bundle => decide (tgI es b.tag ≥ 0)) l 0))) [(0, ⟨false, 25, 1, [[.adr 1 0 0]], false⟩), (1, ⟨false, 50, 1, [[.als 2 0 es.length]], false⟩), (2, ⟨true, 81, 5, es.map Ent.c, true⟩)]) := by
  refine FunR.of (nt := 19) (rs := [.tmp 4]) Tryz.func59 rfl rfl rfl rfl rfl ?_; refine Ev.sr fun K hK => S.o q.as (S.end (hK _ ?_)); clear hK K; refine Ev.seq ?_; refine Ev.sr fun K hK => S.o q.mv (S.o (q.lens am_el27) (S.o q.mv (S.end (hK _ ?_)))); clear hK K; refine Ev.block ?_; refine Ev.loopU (ι := {q : List Bundle × List Bundle // q.1 ++ q.2 = l ∧ ∀ x ∈ q.1, (fun b : Bundle => decide (tgI es b.tag ≥ 0)) x = false}) [0, 1, 2] [0, 1, 7] (fun ⟨(pre, suf), _⟩ => [(8, .lit (.int .i64 ((pre.length : Int))))]) (fun ⟨(pre, suf), _⟩ => [(0, ⟨false, 25, 1, [[.adr 1 0 0]], false⟩), (1, ⟨false, 50, 1, [[.als 2 0 es.length]], false⟩), (2, ⟨true, 81, 5, es.map Ent.c, true⟩)]) (fun ⟨(pre, suf), _⟩ => suf.length) ⟨([], l), rfl, fun x hx => by simp at hx⟩ (.c (.c (.c .n))) (keep_d (he := rfl) (h := (keep_d (he := rfl) (h := (keep_c (he := rfl) (h := keep_n)))))) (slots_c (he := (by first | rfl | (simp; done) | (congr 2; omega))) (h := trivial)) ?_; rintro ⟨⟨pre, suf⟩, hp, hinv⟩ R0 hR0; dsimp only [List.cons_append, List.nil_append, List.length_cons, List.length_nil]
  simp only at hp hinv
  have hpl : pre.length + suf.length = (l).length := by rw [← hp, List.length_append]
  rcases suf with _ | ⟨s, suf⟩
  · rw [List.append_nil] at hp; subst hp; simp only [List.length_nil] at hpl; refine Ev.sr fun K hK => S.o q.lss (S.end (hK _ ?_)); clear hK K; refine Ev.ud (fun c1 => ?_) (fun c1 => ?_)
    · first | omega | contradiction | (exfalso; simp at *; done)
    · first
    | omega | contradiction
    | refine Ev.exit ?_; refine hR0 _ _ ?_; show Ev _ _ _ _; refine Ev.sr fun K hK => S.o q.as (S.end (hK _ ?_)); clear hK K; refine Ev.ret ?_; refine Ev.rr1 [0, 1, 2] (keepR_d (h := (keepR_d (h := (keepR_c (h := keepR_n)))))) leads3 ?_; refine ⟨?_, ?_⟩
      all_goals first | rfl | (congr 2; rw [← hp, idxP_append _ pre _ 0 hinv, idxP, if_pos (decide_eq_true ‹_›)]; omega) | (congr 2; rw [idxP_none _ pre 0 hinv])
  · simp only [List.length_cons] at hpl
    have hidx : (l)[pre.length]? = some s := by rw [← hp]; simp
    refine Ev.sr fun K hK => S.o q.lss (S.end (hK _ ?_)); clear hK K; refine Ev.ud (fun c2 => ?_) (fun c2 => ?_)
    · first
    | omega | contradiction
    | refine Ev.seq ?_; refine Ev.block ?_; refine Ev.sr fun K hK => S.o q.mv (S.o q.as (S.end (hK _ ?_))); clear hK K; refine Ev.sr fun K hK => S.o q.mv (S.o q.mv (S.o q.mv (S.o (q.ix am_el27 am_cl53 (hl := (by first | exact ati hidx (by omega) | exact atig (by omega)))) (S.o (q.lsA [_, _, _, _] am_ag53 am_cl53) (S.cR [0, 1, 2] 3 [_, _, _] (hob := (keep_d (he := rfl) (h := (keep_d (he := rfl) (h := (keep_c (he := rfl) (h := keep_n))))))) (hF := issue1R es s hl) (hn' := belowL rfl rfl) (h := S.end (hK _ ?_))))))); clear hK K; refine Ev.cd (fun c3 => ?_) (fun c3 => ?_)
      · first
      | omega | contradiction
      | refine Ev.sr fun K hK => S.o q.mv (S.o q.as (S.end (hK _ ?_))); clear hK K; refine Ev.ret ?_; refine hR0 _ _ ?_; refine Ev.rr1 [0, 1, 2] (keepR_d (h := (keepR_d (h := (keepR_c (h := keepR_n)))))) leads3 ?_; refine ⟨?_, ?_⟩
        all_goals first | rfl | (congr 2; rw [← hp, idxP_append _ pre _ 0 hinv, idxP, if_pos (decide_eq_true ‹_›)]; omega) | (congr 2; rw [idxP_none _ pre 0 hinv])
      · first
      | omega | contradiction
      | refine Ev.skip ?_; show Ev _ _ _ _; refine Ev.region_S fun K hK => S.o q.add (S.o q.mv (S.end (hK _ ?_))); clear hK K; refine hR0 _ _ ?_; refine roundU [0, 1, 2] [0, 1, 7] ⟨(pre ++ [s], suf), by rw [← hp]; simp, ?_⟩ ?_ (keep_d (he := rfl) (h := (keep_d (he := rfl) (h := (keep_c (he := rfl) (h := keep_n)))))) (slots_c (he := (by first | rfl | (simp; done) | (congr 2; omega))) (h := trivial)) (.c (.c (.c .n)))
        intro x hx; simp only [List.mem_append, List.mem_singleton] at hx; rcases hx with hx | rfl
        · exact hinv x hx
        · exact decide_eq_false ‹_›
        all_goals (dsimp only; simp only [List.length_cons]; omega)
    · first | omega | contradiction | (exfalso; simp at *; done)
theorem issueHasR (es : List Ent) (l : List Bundle) (hl : es.length ≤ 1000000) (hlen : l.length ≤ 140737488355328) : FunR Tryz.prog 37 [.sh 4 (l.map Bundle.c), .fn (.func 38) [] [.adr 0 0 0]] [(0, ⟨false, 25, 1, [[.adr 1 0 0]], false⟩), (1, ⟨false, 50, 1, [[.als 2 0 es.length]], false⟩), (2, ⟨true, 81, 5, es.map Ent.c, true⟩)] 3 (Ret (.lit (.bool (decide (∃ b ∈ l, (fun b : Bundle => decide (tgI es b.tag ≥ 0)) b = true)))) [(0, ⟨false, 25, 1, [[.adr 1 0 0]], false⟩), (1, ⟨false, 50, 1, [[.als 2 0 es.length]], false⟩), (2, ⟨true, 81, 5, es.map Ent.c, true⟩)]) := by
  have hd : (decide (∃ b ∈ l, (fun b : Bundle => decide (tgI es b.tag ≥ 0)) b = true)) = decide (0 ≤ idxP (fun b : Bundle => decide (tgI es b.tag ≥ 0)) l 0) := by simp only [idxP_nonneg (fun b : Bundle => decide (tgI es b.tag ≥ 0)) l 0 (Int.le_refl _)]
  rw [hd]; refine FunR.of (nt := 9) (rs := [.tmp 4]) Tryz.func37 rfl rfl rfl rfl rfl ?_; refine Ev.sr fun K hK => S.o q.as (S.end (hK _ ?_)); clear hK K; refine Ev.sr fun K hK => S.o q.mv (S.o q.mv (S.cR [0, 1, 2] 3 [_, _, _] (hob := (keep_d (he := rfl) (h := (keep_d (he := rfl) (h := (keep_c (he := rfl) (h := keep_n))))))) (hF := issueIdxR es l hl hlen) (hn' := belowL rfl rfl) (h := S.o q.geq (S.o q.as (S.end (hK _ ?_)))))); clear hK K; refine Ev.ret ?_; refine Ev.rr1 [0, 1, 2] (keepR_d (h := (keepR_d (h := (keepR_c (h := keepR_n)))))) leads3 ?_; refine ⟨?_, ?_⟩; all_goals rfl
end Go.Proofs.YthpjfkmhpoeojaaGreatDoor
namespace Go.Proofs.YthpjfkmhpoeojaaGreatDoor
open Go Go.AM
set_option linter.unusedSimpArgs false
set_option linter.unusedVariables false
set_option maxRecDepth 100000
set_option maxHeartbeats 1000000
def newE (b : Bundle) : Ent := ⟨b, false⟩
def hasT (es : List Ent) (l : List Bundle) : Prop := ∃ b ∈ l, (fun b : Bundle => decide (tgI es b.tag ≥ 0)) b = true
instance (es l) : Decidable (hasT es l) := inferInstanceAs (Decidable (∃ b ∈ l, (fun b : Bundle => decide (tgI es b.tag ≥ 0)) b = true))
def isuE (es : List Ent) (l : List Bundle) : Int := if okBuns l then (if hasT es l then 15 else if (es.length : Int) + l.length > 1000 then 4 else 0) else 1
def isuV (es : List Ent) (l : List Bundle) : List Ent := if isuE es l = 0 then es ++ l.map newE else es
theorem isu_arg {es : List Ent} {l : List Bundle} (h : ¬ okBuns l) : isuV es l = es ∧ isuE es l = 1 := by
  have e : isuE es l = 1 := if_neg h; exact ⟨if_neg (by rw [e]; decide), e⟩
theorem isu_has {es : List Ent} {l : List Bundle} (h : okBuns l) (h2 : hasT es l) : isuV es l = es ∧ isuE es l = 15 := by
  have e : isuE es l = 15 := (if_pos h).trans (if_pos h2); exact ⟨if_neg (by rw [e]; decide), e⟩
theorem isu_full {es : List Ent} {l : List Bundle} (h : okBuns l) (h2 : ¬ hasT es l) (h3 : (es.length : Int) + l.length > 1000) : isuV es l = es ∧ isuE es l = 4 := by
  have e : isuE es l = 4 := (if_pos h).trans ((if_neg h2).trans (if_pos h3)); exact ⟨if_neg (by rw [e]; decide), e⟩
theorem isu_ok {es : List Ent} {l : List Bundle} (h : okBuns l) (h2 : ¬ hasT es l) (h3 : ¬ (es.length : Int) + l.length > 1000) : isuV es l = es ++ l.map newE ∧ isuE es l = 0 := by
  have e : isuE es l = 0 := (if_pos h).trans ((if_neg h2).trans (if_neg h3)); exact ⟨if_pos e, e⟩
def canE (es : List Ent) (t : List UInt8) : Int := if tgI es t < 0 then 9 else if (es[(tgI es t).toNat]?.map (·.off)).getD false then 13 else 0
def canV (es : List Ent) (t : List UInt8) : List Ent := if canE es t = 0 then es.set (tgI es t).toNat (offE ((es[(tgI es t).toNat]?).getD ⟨⟨[], [], 0, 0⟩, false⟩)) else es
def staV (es : List Ent) (t : List UInt8) : Int := if tgI es t < 0 then 0 else if (es[(tgI es t).toNat]?.map (·.off)).getD false then 2 else 1
def staE (es : List Ent) (t : List UInt8) : Int := if tgI es t < 0 then 9 else 0
theorem at_none {es : List Ent} {t : List UInt8} (h : tgI es t < 0) : canV es t = es ∧ canE es t = 9 ∧ staV es t = 0 ∧ staE es t = 9 := by
  have e : canE es t = 9 := if_pos h; exact ⟨if_neg (by rw [e]; decide), e, if_pos h, if_pos h⟩
theorem at_off {es : List Ent} {t : List UInt8} {e : Ent} (h : ¬ tgI es t < 0) (he : es[(tgI es t).toNat]? = some e) (ho : e.off = true) : canV es t = es ∧ canE es t = 13 ∧ staV es t = 2 ∧ staE es t = 0 := by
  have h1 : (es[(tgI es t).toNat]?.map (·.off)).getD false = true := by rw [he]; exact ho
  have e1 : canE es t = 13 := (if_neg h).trans (if_pos h1); exact ⟨if_neg (by rw [e1]; decide), e1, (if_neg h).trans (if_pos h1), if_neg h⟩
theorem at_on {es : List Ent} {t : List UInt8} {e : Ent} (h : ¬ tgI es t < 0) (he : es[(tgI es t).toNat]? = some e) (ho : e.off = false) : canV es t = es.set (tgI es t).toNat (offE e) ∧ canE es t = 0 ∧ staV es t = 1 ∧ staE es t = 0 := by
  have h1 : ¬ (es[(tgI es t).toNat]?.map (·.off)).getD false = true := by rw [he]; simp [ho]
  have e1 : canE es t = 0 := (if_neg h).trans (if_neg h1); refine ⟨?_, e1, (if_neg h).trans (if_neg h1), if_neg h⟩
  unfold canV
  rw [if_pos e1, he]; rfl
theorem issueR (es : List Ent) (l : List Bundle) (hl : es.length ≤ 1000000) (hlen : l.length ≤ 140737488355328) (hw : bunW l) : FunR Tryz.prog 13 [.adr 0 0 0, .sh 4 (l.map Bundle.c)] [(0, ⟨false, 50, 1, [[.als 1 0 (es).length]], false⟩), (1, ⟨true, 81, 5, (es).map Ent.c, true⟩)] 2 (Ret (.lit (.int .i64 (isuE es l))) [(0, ⟨false, 50, 1, [[.als 2 0 (isuV es l).length]], false⟩), (2, ⟨true, 81, 5, (isuV es l).map Ent.c, true⟩)]) := by
  refine FunR.of (nt := 47) (rs := [.tmp 4]) Tryz.func13 rfl rfl rfl rfl rfl ?_; refine Ev.sr fun K hK => S.nn (q.bx [_] false) (S.o q.as (S.end (hK _ ?_))); clear hK K; refine Ev.seq ?_; refine Ev.block ?_; refine Ev.weaken (Wk.mv 0 [_]) ?_; refine Ev.sr fun K hK => S.o (q.lv am_ag25) (S.peqa (by kernel_rfl : Tryz.prog.underlying 25 = some (.pointer 50)) (h := S.o q.mv (S.o q.mv (S.c0 (hF := bvalid_fun l hlen hw) (h := S.o q.not (S.o q.pf (S.o q.as (S.end (hK _ ?_))))))))); clear hK K; refine Ev.cn (fun c1 => ?_) (fun c1 => ?_)
  · first
  | omega | contradiction
  | obtain ⟨e1, e2⟩ := isu_arg (es := es) ‹¬ okBuns l›; rw [e1, e2]; refine Ev.sr fun K hK => S.o q.as (S.end (hK _ ?_)); clear hK K; refine Ev.ret ?_; refine Ev.rr1 [0, 1, 3] (keepR_d (h := (keepR_g (h := (keepR_c (h := keepR_n)))))) (leadsB rfl) ?_; refine ⟨?_, ?_⟩; all_goals rfl
  · first
  | omega | contradiction
  | refine Ev.sr fun K hK => S.o q.mv (S.o q.mf (S.cR [2, 0, 3] 4 [_, _, _] (hob := (keep_d (he := rfl) (h := (keep_d (he := rfl) (h := (keep_c (he := rfl) (h := keep_n))))))) (hF := issueHasR es l hl hlen) (hn' := belowL rfl rfl) (h := S.o q.as (S.end (hK _ ?_))))); clear hK K; refine Ev.cd (fun c2 => ?_) (fun c2 => ?_)
    · first
    | omega | contradiction
    | obtain ⟨e1, e2⟩ := isu_has ‹okBuns l› (show hasT es l from ‹_›); rw [e1, e2]; refine Ev.sr fun K hK => S.o q.as (S.end (hK _ ?_)); clear hK K; refine Ev.ret ?_; refine Ev.rr1 [0, 1, 3] (keepR_d (h := (keepR_g (h := (keepR_c (h := keepR_n)))))) (leadsB rfl) ?_; refine ⟨?_, ?_⟩; all_goals rfl
    · first
    | omega | contradiction
    | refine Ev.sr fun K hK => S.o (q.lv am_ag25) (S.o q.nc (S.o (q.fa 0 am_fi50_0 am_cl48) (S.o (q.lv am_ag48) (S.o (q.lena am_el48) (S.o q.mv (S.o (q.lens am_el27) (S.o q.add (S.o q.gtr (S.o q.as (S.end (hK _ ?_))))))))))); clear hK K; refine Ev.cd (fun c3 => ?_) (fun c3 => ?_)
      · first
      | omega | contradiction
      | obtain ⟨e1, e2⟩ := isu_full ‹okBuns l› (show ¬ hasT es l from ‹_›) ‹_›; rw [e1, e2]; refine Ev.sr fun K hK => S.o q.as (S.end (hK _ ?_)); clear hK K; refine Ev.ret ?_; refine Ev.rr1 [0, 1, 3] (keepR_d (h := (keepR_g (h := (keepR_c (h := keepR_n)))))) (leadsB rfl) ?_; refine ⟨?_, ?_⟩; all_goals rfl
      · first
      | omega | contradiction
      | refine Ev.skip ?_; show Ev _ _ _ _; refine Ev.seq ?_; have hok : okBuns l := ‹_›; have hl1 := hok.1; obtain ⟨e1, e2⟩ := isu_ok hok (show ¬ hasT es l from ‹_›) (show ¬ (es.length : Int) + l.length > 1000 from ‹_›); rw [e1, e2]; refine Ev.sr fun K hK => S.o q.mv (S.o (q.lens am_el27) (S.o q.mv (S.end (hK _ ?_)))); clear hK K; refine Ev.block ?_; refine Ev.loopR (ι := {p : List (Bundle) × List (Bundle) // p.1 ++ p.2 = l ∧ True}) [0, 1, 3, 2] [2, 4, 29, 30] (fun ⟨(pre, suf), _⟩ => [(31, .lit (.int .i64 ((pre.length : Int))))]) (fun ⟨(pre, suf), _⟩ => [(0, ⟨false, 50, 1, [[.als 2 0 (es ++ pre.map newE).length]], false⟩), (2, ⟨true, 81, 5, (es ++ pre.map newE).map Ent.c, true⟩), (3, ⟨false, 25, 1, [[.adr 0 0 0]], false⟩)]) (fun ⟨(pre, suf), _⟩ => suf.length) ⟨([], l), rfl, trivial⟩ (.c (.c (.c (.c .n)))) (kR_d (he := (by first | rfl | (simp; done))) (h := (kR_g (h := (kR_c (he := (by first | rfl | (simp; done))) (h := (kR_d (he := (by first | rfl | (simp; done))) (h := kR_n)))))))) (slots_c (he := (by first | rfl | (congr 2; simp; done))) (h := trivial)) ?_; rintro ⟨⟨pre, suf⟩, hp, hinv⟩ R1 hR1; dsimp only [List.cons_append, List.nil_append, List.length_cons, List.length_nil]
        simp only at hp hinv
        have hpl : pre.length + suf.length = (l).length := by rw [← hp, List.length_append]
        rcases suf with _ | ⟨s, suf⟩
        · rw [List.append_nil] at hp; simp only [List.length_nil] at hpl; subst hp; refine Ev.sr fun K hK => S.o q.lss (S.end (hK _ ?_)); clear hK K; refine Ev.ud (fun c4 => ?_) (fun c4 => ?_)
          · first | omega | contradiction | (exfalso; simp at *; done)
          · first
          | omega | contradiction
          | refine Ev.exit ?_; refine hR1 _ _ ?_; show Ev _ _ _ _; refine Ev.sr fun K hK => S.o q.as (S.end (hK _ ?_)); clear hK K; refine Ev.ret ?_; refine Ev.rr1 [0, 1, 2] (keepR_d (h := (keepR_g (h := (keepR_c (h := keepR_n)))))) (leadsB rfl) ?_; refine ⟨?_, ?_⟩; all_goals rfl
        · simp only [List.length_cons] at hpl
          have hidx : l[pre.length]? = some s := by rw [← hp]; simp
          have hel : (es ++ pre.map newE).length = es.length + pre.length := by simp
          refine Ev.sr fun K hK => S.o q.lss (S.end (hK _ ?_)); clear hK K; refine Ev.ud (fun c5 => ?_) (fun c5 => ?_)
          · first
          | omega | contradiction
          | refine Ev.seq ?_; refine Ev.block ?_; refine Ev.sr fun K hK => S.o (q.ix am_el27 am_cl53 (hl := (by first | exact ati hidx (by omega) | exact atig (by omega)))) (S.o (q.lsA [_, _, _, _] am_ag53 am_cl53) (S.nn (q.al am_ze53) (S.sv [_, _, _, _] true [_, _, _] am_in53 am_cl53 (h := S.end (hK _ ?_))))); clear hK K; refine Ev.rhl (f0 := 0) (d0 := 35) (f1 := 1) (d1 := 36) (f2 := 2) (d2 := 37) (f3 := 3) (d3 := 38) (L0 := #[false, false, false, false, false, false, false, false, false, false, false, false]) (L1 := #[true, false, false, false, false, false, false, false, false, false, false, false]) (L2 := #[true, true, false, false, false, false, false, false, false, false, false, false]) (L3 := #[true, true, true, false, false, false, false, false, false, false, false, false]) (L4 := #[true, true, true, true, false, false, false, false, false, false, false, false]) (st := 50) (ft := 48) (r := 0) (m := 8) 2 (F := (by exact ⟨rfl, ⟨rfl, rfl⟩, rfl, ⟨rfl, rfl, rfl⟩, ⟨_, _, _, rfl⟩, ⟨_, _, _, rfl⟩, am_fi50_0, (by rw [am_cl48]; decide), rfl, (by kernel_rfl), (by kernel_rfl), (by kernel_rfl), (by kernel_rfl), (by kernel_rfl), (by kernel_rfl)⟩)) (h4 := (by kernel_rfl)) (rb := 3) (lt := 25) (ho := (by exact rfl)) (hlt := am_ag25) (hc := (by exact rfl)) (hk := (by exact rfl)) (hx := (by exact rfl)) (hm := (by exact rfl)) (hck := (by exact rfl)) (h := fun K hK => ?_)
            refine HT.two (i := 4) (j := 5) ⟨rfl, rfl⟩ rfl rfl (S.o (q.lv am_ag48) (S.end ?_)) (S.o (q.lvA [_, _, _, _] am_ag53 am_cl53) (S.end ?_))
            · skip; refine HT.one (i := 5) ⟨rfl, rfl⟩ rfl (S.o (q.lvA [_, _, _, _] am_ag53 am_cl53) (S.end ?_)); refine HT.one (i := 6) ⟨rfl, rfl⟩ rfl (S.o (q.bd [_, _, _, _, _] am_ze81 am_pl81) (S.end ?_)); refine HT.one (i := 7) ⟨rfl, rfl⟩ rfl (S.nn (q.bs [[_, _, _, _, _]] true am_el48 am_ze81 am_cl81) (S.end ?_)); refine HT.one (i := 8) ⟨rfl, rfl⟩ rfl (S.ap' [_, _, _, _] am_el48 am_ze81 am_cl81 am_by81 (hh := head_own') (hr := (rows_lit [newE s])) (h := S.end ?_)); refine HT.one (i := 9) ⟨rfl, rfl⟩ rfl (S.o q.nc (S.end ?_)); refine HT.one (i := 10) ⟨rfl, rfl⟩ rfl (S.o (q.fa 0 am_fi50_0 am_cl48) (S.end ?_)); refine HT.one (i := 11) ⟨rfl, rfl⟩ rfl (S.sv [_] false [_, _, _, _] am_in48 am_cl48 (h := S.end ?_)); refine HT.nil ⟨rfl, rfl⟩ (by kernel_rfl) (hK _ ?_); clear hK K; show Ev _ _ _ _; refine Ev.region_S fun K hK => S.o q.add (S.o q.mv (S.end (hK _ ?_))); clear hK K; refine hR1 _ _ ?_; refine roundR [0, 1, 6, 3] [2, 4, 29, 30] ⟨(pre ++ [s], suf), by rw [← hp]; simp, ?_⟩ ?_ (kR_d (he := (by first | rfl | (simp; done))) (h := (kR_g (h := (kR_c (he := (by first | rfl | (simp; done))) (h := (kR_d (he := (by first | rfl | (simp; done))) (h := kR_n)))))))) (slots_c (he := (by first | rfl | (congr 2; simp; done))) (h := trivial)) (.c (.c (.c (.c .n)))); trivial; all_goals (dsimp only; simp only [List.length_cons]; omega)
            · skip; refine HT.two (i := 4) (j := 6) ⟨rfl, rfl⟩ rfl rfl (S.o (q.lv am_ag48) (S.end ?_)) (S.o (q.bd [_, _, _, _, _] am_ze81 am_pl81) (S.end ?_))
              · skip; refine HT.one (i := 6) ⟨rfl, rfl⟩ rfl (S.o (q.bd [_, _, _, _, _] am_ze81 am_pl81) (S.end ?_)); refine HT.one (i := 7) ⟨rfl, rfl⟩ rfl (S.nn (q.bs [[_, _, _, _, _]] true am_el48 am_ze81 am_cl81) (S.end ?_)); refine HT.one (i := 8) ⟨rfl, rfl⟩ rfl (S.ap' [_, _, _, _] am_el48 am_ze81 am_cl81 am_by81 (hh := head_own') (hr := (rows_lit [newE s])) (h := S.end ?_)); refine HT.one (i := 9) ⟨rfl, rfl⟩ rfl (S.o q.nc (S.end ?_)); refine HT.one (i := 10) ⟨rfl, rfl⟩ rfl (S.o (q.fa 0 am_fi50_0 am_cl48) (S.end ?_)); refine HT.one (i := 11) ⟨rfl, rfl⟩ rfl (S.sv [_] false [_, _, _, _] am_in48 am_cl48 (h := S.end ?_)); refine HT.nil ⟨rfl, rfl⟩ (by kernel_rfl) (hK _ ?_); clear hK K; show Ev _ _ _ _; refine Ev.region_S fun K hK => S.o q.add (S.o q.mv (S.end (hK _ ?_))); clear hK K; refine hR1 _ _ ?_; refine roundR [0, 1, 6, 3] [2, 4, 29, 30] ⟨(pre ++ [s], suf), by rw [← hp]; simp, ?_⟩ ?_ (kR_d (he := (by first | rfl | (simp; done))) (h := (kR_g (h := (kR_c (he := (by first | rfl | (simp; done))) (h := (kR_d (he := (by first | rfl | (simp; done))) (h := kR_n)))))))) (slots_c (he := (by first | rfl | (congr 2; simp; done))) (h := trivial)) (.c (.c (.c (.c .n)))); trivial; all_goals (dsimp only; simp only [List.length_cons]; omega)
              · skip; refine HT.two (i := 4) (j := 7) ⟨rfl, rfl⟩ rfl rfl (S.o (q.lv am_ag48) (S.end ?_)) (S.nn (q.bs [[_, _, _, _, _]] true am_el48 am_ze81 am_cl81) (S.end ?_))
                · skip; refine HT.one (i := 7) ⟨rfl, rfl⟩ rfl (S.nn (q.bs [[_, _, _, _, _]] true am_el48 am_ze81 am_cl81) (S.end ?_)); refine HT.one (i := 8) ⟨rfl, rfl⟩ rfl (S.ap' [_, _, _, _] am_el48 am_ze81 am_cl81 am_by81 (hh := head_own') (hr := (rows_lit [newE s])) (h := S.end ?_)); refine HT.one (i := 9) ⟨rfl, rfl⟩ rfl (S.o q.nc (S.end ?_)); refine HT.one (i := 10) ⟨rfl, rfl⟩ rfl (S.o (q.fa 0 am_fi50_0 am_cl48) (S.end ?_)); refine HT.one (i := 11) ⟨rfl, rfl⟩ rfl (S.sv [_] false [_, _, _, _] am_in48 am_cl48 (h := S.end ?_)); refine HT.nil ⟨rfl, rfl⟩ (by kernel_rfl) (hK _ ?_); clear hK K; show Ev _ _ _ _; refine Ev.region_S fun K hK => S.o q.add (S.o q.mv (S.end (hK _ ?_))); clear hK K; refine hR1 _ _ ?_; refine roundR [0, 1, 6, 3] [2, 4, 29, 30] ⟨(pre ++ [s], suf), by rw [← hp]; simp, ?_⟩ ?_ (kR_d (he := (by first | rfl | (simp; done))) (h := (kR_g (h := (kR_c (he := (by first | rfl | (simp; done))) (h := (kR_d (he := (by first | rfl | (simp; done))) (h := kR_n)))))))) (slots_c (he := (by first | rfl | (congr 2; simp; done))) (h := trivial)) (.c (.c (.c (.c .n)))); trivial; all_goals (dsimp only; simp only [List.length_cons]; omega)
                · skip; refine HT.one (i := 4) ⟨rfl, rfl⟩ rfl (S.o (q.lv am_ag48) (S.end ?_)); refine HT.one (i := 8) ⟨rfl, rfl⟩ rfl (S.ap' [_, _, _, _] am_el48 am_ze81 am_cl81 am_by81 (hh := head_own') (hr := (rows_lit [newE s])) (h := S.end ?_)); refine HT.one (i := 9) ⟨rfl, rfl⟩ rfl (S.o q.nc (S.end ?_)); refine HT.one (i := 10) ⟨rfl, rfl⟩ rfl (S.o (q.fa 0 am_fi50_0 am_cl48) (S.end ?_)); refine HT.one (i := 11) ⟨rfl, rfl⟩ rfl (S.sv [_] false [_, _, _, _] am_in48 am_cl48 (h := S.end ?_)); refine HT.nil ⟨rfl, rfl⟩ (by kernel_rfl) (hK _ ?_); clear hK K; show Ev _ _ _ _; refine Ev.region_S fun K hK => S.o q.add (S.o q.mv (S.end (hK _ ?_))); clear hK K; refine hR1 _ _ ?_; refine roundR [0, 1, 6, 3] [2, 4, 29, 30] ⟨(pre ++ [s], suf), by rw [← hp]; simp, ?_⟩ ?_ (kR_d (he := (by first | rfl | (simp; done))) (h := (kR_g (h := (kR_c (he := (by first | rfl | (simp; done))) (h := (kR_d (he := (by first | rfl | (simp; done))) (h := kR_n)))))))) (slots_c (he := (by first | rfl | (congr 2; simp; done))) (h := trivial)) (.c (.c (.c (.c .n)))); trivial; all_goals (dsimp only; simp only [List.length_cons]; omega)
          · first | omega | contradiction | (exfalso; simp at *; done)
theorem stateR (es : List Ent) (t : List UInt8) (hl : es.length ≤ 1000000) : FunR Tryz.prog 11 [.adr 0 0 0, .lit (str t)] [(0, ⟨false, 50, 1, [[.als 1 0 (es).length]], false⟩), (1, ⟨true, 81, 5, (es).map Ent.c, true⟩)] 2 (Ret (.tup [.lit (.int .i64 (staV es t)), .lit (.int .i64 (staE es t))]) [(0, ⟨false, 50, 1, [[.als 1 0 (es).length]], false⟩), (1, ⟨true, 81, 5, (es).map Ent.c, true⟩)]) := by
  refine FunR.of (nt := 24) (rs := [.tmp 4, .tmp 5]) Tryz.func11 rfl rfl rfl rfl rfl ?_; refine Ev.sr fun K hK => S.o q.as (S.o q.as (S.end (hK _ ?_))); clear hK K; refine Ev.seq ?_; refine Ev.sr fun K hK => S.o q.mv (S.peqa (by kernel_rfl : Tryz.prog.underlying 25 = some (.pointer 50)) (h := S.end (hK _ ?_))); clear hK K; refine Ev.cf ?_; refine Ev.skip ?_; show Ev _ _ _ _; refine Ev.sr fun K hK => S.o q.mv (S.o q.mv (S.cR [0, 1] 2 [_, _] (hob := (keep_d (he := rfl) (h := (keep_c (he := rfl) (h := keep_n))))) (hF := findR es t hl) (hn' := belowL rfl rfl) (h := S.o q.as (S.end (hK _ ?_))))); clear hK K; refine Ev.seq ?_; refine Ev.block ?_; refine Ev.sr fun K hK => S.o q.mv (S.o q.lss (S.o q.as (S.end (hK _ ?_)))); clear hK K; refine Ev.cd (fun c1 => ?_) (fun c1 => ?_)
  · first
  | omega | contradiction
  | obtain ⟨e1, e2, e3, e4⟩ := at_none (es := es) (t := t) (by omega); rw [e3, e4]; refine Ev.sr fun K hK => S.o q.as (S.o q.as (S.end (hK _ ?_))); clear hK K; refine Ev.ret ?_; refine Ev.rr2 [0, 1] (keepR_d (h := (keepR_c (h := keepR_n)))) leads2 ?_; refine ⟨?_, ?_⟩; all_goals rfl
  · first
  | omega | contradiction
  | obtain ⟨en, hen, hent, hge, hlt⟩ := tgI_at (es := es) (t := t) (by omega); refine Ev.sr fun K hK => S.o q.mv (S.o q.nc (S.o (q.fa 0 am_fi50_0 am_cl48) (S.o (q.lv am_ag48) (S.o q.mv (S.o (q.ia am_el48 am_cl81) (S.o (q.fa 4 am_fi81_1 am_cl4) (S.o (q.lx am_ag4 (hl := (by first | exact at_ hen (by omega) | exact at_g (by omega)))) (S.o q.as (S.end (hK _ ?_)))))))))); clear hK K; refine Ev.c (fun c2 => ?_) (fun c2 => ?_)
    · first
    | omega | contradiction
    | obtain ⟨e1, e2, e3, e4⟩ := at_off (by omega) hen ‹en.off = true›; rw [e3, e4]; refine Ev.sr fun K hK => S.o q.as (S.o q.as (S.end (hK _ ?_))); clear hK K; refine Ev.ret ?_; refine Ev.rr2 [0, 1] (keepR_d (h := (keepR_c (h := keepR_n)))) leads2 ?_; refine ⟨?_, ?_⟩; all_goals rfl
    · first
    | omega | contradiction
    | refine Ev.skip ?_; show Ev _ _ _ _; obtain ⟨e1, e2, e3, e4⟩ := at_on (by omega) hen ‹en.off = false›; rw [e3, e4]; refine Ev.sr fun K hK => S.o q.as (S.o q.as (S.end (hK _ ?_))); clear hK K; refine Ev.ret ?_; refine Ev.rr2 [0, 1] (keepR_d (h := (keepR_c (h := keepR_n)))) leads2 ?_; refine ⟨?_, ?_⟩; all_goals rfl
theorem cancelR (es : List Ent) (t : List UInt8) (hl : es.length ≤ 1000000) : FunR Tryz.prog 14 [.adr 0 0 0, .lit (str t)] [(0, ⟨false, 50, 1, [[.als 1 0 (es).length]], false⟩), (1, ⟨true, 81, 5, (es).map Ent.c, true⟩)] 2 (Ret (.lit (.int .i64 (canE es t))) [(0, ⟨false, 50, 1, [[.als 1 0 (canV es t).length]], false⟩), (1, ⟨true, 81, 5, (canV es t).map Ent.c, true⟩)]) := by
  refine FunR.of (nt := 30) (rs := [.tmp 4]) Tryz.func14 rfl rfl rfl rfl rfl ?_; refine Ev.sr fun K hK => S.o q.as (S.end (hK _ ?_)); clear hK K; refine Ev.seq ?_; refine Ev.sr fun K hK => S.o q.mv (S.peqa (by kernel_rfl : Tryz.prog.underlying 25 = some (.pointer 50)) (h := S.end (hK _ ?_))); clear hK K; refine Ev.cf ?_; refine Ev.skip ?_; show Ev _ _ _ _; refine Ev.sr fun K hK => S.o q.mv (S.o q.mv (S.cR [0, 1] 2 [_, _] (hob := (keep_d (he := rfl) (h := (keep_c (he := rfl) (h := keep_n))))) (hF := findR es t hl) (hn' := belowL rfl rfl) (h := S.o q.as (S.end (hK _ ?_))))); clear hK K; refine Ev.seq ?_; refine Ev.block ?_; refine Ev.sr fun K hK => S.o q.mv (S.o q.lss (S.o q.as (S.end (hK _ ?_)))); clear hK K; refine Ev.cd (fun c1 => ?_) (fun c1 => ?_)
  · first
  | omega | contradiction
  | obtain ⟨e1, e2, e3, e4⟩ := at_none (es := es) (t := t) (by omega); rw [e1, e2]; refine Ev.sr fun K hK => S.o q.as (S.end (hK _ ?_)); clear hK K; refine Ev.ret ?_; refine Ev.rr1 [0, 1] (keepR_d (h := (keepR_c (h := keepR_n)))) leads2 ?_; refine ⟨?_, ?_⟩
    all_goals first | rfl | (simp; done)
  · first
  | omega | contradiction
  | obtain ⟨en, hen, hent, hge, hlt⟩ := tgI_at (es := es) (t := t) (by omega); refine Ev.sr fun K hK => S.o q.mv (S.o q.nc (S.o (q.fa 0 am_fi50_0 am_cl48) (S.o (q.lv am_ag48) (S.o q.mv (S.o (q.ia am_el48 am_cl81) (S.o (q.fa 4 am_fi81_1 am_cl4) (S.o (q.lx am_ag4 (hl := (by first | exact at_ hen (by omega) | exact at_g (by omega)))) (S.o q.as (S.end (hK _ ?_)))))))))); clear hK K; refine Ev.c (fun c2 => ?_) (fun c2 => ?_)
    · first
    | omega | contradiction
    | obtain ⟨e1, e2, e3, e4⟩ := at_off (by omega) hen ‹en.off = true›; rw [e1, e2]; refine Ev.sr fun K hK => S.o q.as (S.end (hK _ ?_)); clear hK K; refine Ev.ret ?_; refine Ev.rr1 [0, 1] (keepR_d (h := (keepR_c (h := keepR_n)))) leads2 ?_; refine ⟨?_, ?_⟩
      all_goals first | rfl | (simp; done)
    · first
    | omega | contradiction
    | refine Ev.skip ?_; show Ev _ _ _ _; obtain ⟨e1, e2, e3, e4⟩ := at_on (by omega) hen ‹en.off = false›; rw [e1, e2]; refine Ev.sr fun K hK => S.o q.mv (S.o q.nc (S.o (q.fa 0 am_fi50_0 am_cl48) (S.o (q.lv am_ag48) (S.o q.mv (S.o (q.ia am_el48 am_cl81) (S.o (q.fa 4 am_fi81_1 am_cl4) (S.sx (offE en) [_] am_in4 am_cl4 (hl := (by first | exact at_ hen (by omega) | exact at_g (by omega))) (h := S.end (hK _ ?_))))))))); clear hK K; refine Ev.sr fun K hK => S.o q.as (S.end (hK _ ?_)); clear hK K; refine Ev.ret ?_; refine Ev.rr1 [0, 1] (keepR_d (h := (keepR_c (h := keepR_n)))) leads2 ?_; refine ⟨?_, ?_⟩
      all_goals first | rfl | (simp; done)
theorem accountR (es : List Ent) (hl : es.length ≤ 1000000) : FunR Tryz.prog 12 [.adr 0 0 0] [(0, ⟨false, 50, 1, [[.als 1 0 (es).length]], false⟩), (1, ⟨true, 81, 5, (es).map Ent.c, true⟩)] 2 (Ret (.tup [.lit (.int .i64 (es.length : Int)), .lit (.int .i64 ((openL es).length : Int)), .lit (.int .i64 ((es.length : Int) - (openL es).length))]) [(0, ⟨false, 50, 1, [[.als 1 0 (es).length]], false⟩), (1, ⟨true, 81, 5, (es).map Ent.c, true⟩)]) := by
  have hol := openL_len es; refine FunR.of (nt := 24) (rs := [.tmp 2, .tmp 3, .tmp 4]) Tryz.func12 rfl rfl rfl rfl rfl ?_; refine Ev.sr fun K hK => S.o q.as (S.o q.as (S.o q.as (S.end (hK _ ?_)))); clear hK K; refine Ev.seq ?_; refine Ev.sr fun K hK => S.o q.mv (S.peqa (by kernel_rfl : Tryz.prog.underlying 25 = some (.pointer 50)) (h := S.end (hK _ ?_))); clear hK K; refine Ev.cf ?_; refine Ev.skip ?_; show Ev _ _ _ _; refine Ev.sr fun K hK => S.o q.mv (S.cR [0, 1] 2 [_, _] (hob := (keep_d (he := rfl) (h := (keep_c (he := rfl) (h := keep_n))))) (hF := openR es hl) (hn' := belowL rfl rfl) (h := S.o (q.lens am_el27) (S.o q.as (S.end (hK _ ?_))))); clear hK K; refine Ev.weaken (Wk.forget [2, 3, 4]) ?_; refine Ev.sm (tbs [(0, 0), (1, 1), (2, 3), (3, 7), (4, 15), (0, 0), (0, 0), (7, 64), (8, 192), (9, 448), (10, 960), (0, 0), (12, 4032), (5, 31), (14, 8255), (15, 32767)]) 15 fun K hK => M.o q.mv (M.o q.nc (M.o (q.fa 0 am_fi50_0 am_cl48) (M.o (q.lv am_ag48) (M.o (q.lena am_el48) (M.o q.mv (M.o q.mv (M.o q.nc (M.o (q.fa 0 am_fi50_0 am_cl48) (M.o (q.lv am_ag48) (M.o (q.lena am_el48) (M.o q.mv (M.o q.sub (M.o q.as (M.o q.as (M.end [_, _] (h := S.o q.as (S.end (hK _ ?_)))))))))))))))))); clear hK K; refine Ev.ret ?_; refine Ev.rr3 [0, 1] (keepR_d (h := (keepR_c (h := keepR_n)))) leads2 ?_; refine ⟨?_, ?_⟩
  all_goals first | rfl | (simp; done)
end Go.Proofs.YthpjfkmhpoeojaaGreatDoor
namespace Go.Proofs.YthpjfkmhpoeojaaGreatDoor
open Go Go.AM
set_option linter.unusedSimpArgs false
set_option linter.unusedVariables false
set_option maxRecDepth 100000
set_option maxHeartbeats 1000000
def keptB (b c : Bar) : Bool := decide (c.mark = b.mark ∧ c.count = b.count ∧ sameV b c)
def keptP (b : Bar) (l : List Bar) : Prop := ∃ c ∈ l, keptB b c = true
instance (b l) : Decidable (keptP b l) := inferInstanceAs (Decidable (∃ c ∈ l, keptB b c = true))
theorem keptB_no {b c : Bar} (h : ¬ (c.mark = b.mark ∧ c.count = b.count ∧ sameV b c)) : keptB b c = false := decide_eq_false h
theorem keptB_is {b c : Bar} (h1 : c.mark = b.mark) (h2 : c.count = b.count) : keptB b c = decide (sameV b c) := by
  unfold keptB
  rw [decide_eq_decide]; exact ⟨fun h => h.2.2, fun h => ⟨h1, h2, h⟩⟩
theorem same_no {b c : Bar} (h : ¬ sameE b c = 0) : keptB b c = false := keptB_no fun h2 => h (if_pos ⟨h2.2.2.1, h2.2.2.2.1⟩)
theorem kept1_fun (b c : Bar) (hb : b.w) (hc : c.w) : Fun Tryz.prog 50 [.agg c.c, .sadr b.c 0] (Ret (.lit (.bool (keptB b c))) []) := by
  obtain ⟨hb1, hb2⟩ := hb; obtain ⟨hc1, hc2⟩ := hc; have hb : b.w := ⟨hb1, hb2⟩; have hc : c.w := ⟨hc1, hc2⟩; refine Fun.of (nt := 29) (rs := [.tmp 3]) Tryz.func50 rfl rfl rfl rfl rfl ?_; refine Ev.sr fun K hK => S.nn (q.bx [_, _, _, _, _] true) (S.o q.as (S.end (hK _ ?_))); clear hK K; refine Ev.seq ?_; refine Ev.sr fun K hK => S.o (q.fa 0 am_fi56_0 am_cl9) (S.o (q.lv am_ag9) (S.o (q.fs 0 am_fi56_0 am_cl9) (S.o (q.ls am_ag9) (S.o q.snes (S.bn q.mv (fun c1 => ?_) (fun c1 => ?_))))))
  · first
  | omega | contradiction
  | refine S.sk (S.sk (S.sk (S.sk (S.sk (S.o q.pt (S.end (hK _ ?_))))))); clear hK K; refine Ev.ct ?_; refine Ev.sr fun K hK => S.o q.as (S.end (hK _ ?_)); clear hK K; refine Ev.ret ?_; refine Ev.ret1 ?_; refine ⟨?_, rfl⟩
    first
     | rfl
     | (rw [keptB_no (fun h => ‹¬ c.mark = b.mark› h.1)]; done)
     | (rw [keptB_no (fun h => ‹¬ c.count = b.count› h.2.1)]; done)
     | (rw [keptB_is ‹_› ‹_›]; done)
     | (rw [same_no ‹_›]; done)
     | (rw [same_no (by omega)]; done)
  · first
  | omega | contradiction
  | refine S.o (q.fa 2 am_fi56_2 am_cl3) (S.o (q.lv am_ag3) (S.o (q.fs 2 am_fi56_2 am_cl3) (S.o (q.ls am_ag3) (S.o q.neq (S.o q.pf (S.end (hK _ ?_))))))); clear hK K; refine Ev.cn (fun c2 => ?_) (fun c2 => ?_)
    · first
    | omega | contradiction
    | refine Ev.sr fun K hK => S.o q.as (S.end (hK _ ?_)); clear hK K; refine Ev.ret ?_; refine Ev.ret1 ?_; refine ⟨?_, rfl⟩
      first
       | rfl
       | (rw [keptB_no (fun h => ‹¬ c.mark = b.mark› h.1)]; done)
       | (rw [keptB_no (fun h => ‹¬ c.count = b.count› h.2.1)]; done)
       | (rw [keptB_is ‹_› ‹_›]; done)
       | (rw [same_no ‹_›]; done)
       | (rw [same_no (by omega)]; done)
    · first
    | omega | contradiction
    | refine Ev.skip ?_; show Ev _ _ _ _; refine Ev.sr fun K hK => S.o (q.lsA [_, _, _, _, _] am_ag56 am_cl56) (S.o (q.lvA [_, _, _, _, _] am_ag56 am_cl56) (S.c0 (hF := same_fun _ _ (by assumption) (by assumption)) (h := S.o q.mv (S.o q.ex (S.o q.ex (S.o q.as (S.o q.as (S.end (hK _ ?_))))))))); clear hK K; refine Ev.sr fun K hK => S.o q.mv (S.o q.eql (S.bd q.mv (fun c3 => ?_) (fun c3 => ?_)))
      · first
      | omega | contradiction
      | refine S.o q.mv (S.o q.pt (S.o q.as (S.end (hK _ ?_)))); clear hK K; refine Ev.ret ?_; refine Ev.ret1 ?_; refine ⟨?_, rfl⟩
        first
         | rfl
         | (rw [keptB_no (fun h => ‹¬ c.mark = b.mark› h.1)]; done)
         | (rw [keptB_no (fun h => ‹¬ c.count = b.count› h.2.1)]; done)
         | (rw [keptB_is ‹_› ‹_›]; done)
         | (rw [same_no ‹_›]; done)
         | (rw [same_no (by omega)]; done)
      · first
      | omega | contradiction
      | refine S.sk (S.o q.pf (S.o q.as (S.end (hK _ ?_)))); clear hK K; refine Ev.ret ?_; refine Ev.ret1 ?_; refine ⟨?_, rfl⟩
        first
         | rfl
         | (rw [keptB_no (fun h => ‹¬ c.mark = b.mark› h.1)]; done)
         | (rw [keptB_no (fun h => ‹¬ c.count = b.count› h.2.1)]; done)
         | (rw [keptB_is ‹_› ‹_›]; done)
         | (rw [same_no ‹_›]; done)
         | (rw [same_no (by omega)]; done)
theorem kept_fun (b : Bar) (l : List Bar) (hl : l.length ≤ 140737488355328) (hb : b.w) (hw : schedW l) : Fun Tryz.prog 29 [.agg b.c, .sh 5 (l.map Bar.c)] (Ret (.lit (.bool (decide (keptP b l)))) []) := by
  refine Fun.of (nt := 8) (rs := [.tmp 4]) Tryz.func29 rfl rfl rfl rfl rfl ?_; refine Ev.sr fun K hK => S.nn (q.bx [_, _, _, _, _] true) (S.o q.as (S.end (hK _ ?_))); clear hK K; refine Ev.sr fun K hK => S.o q.mv (S.o q.mf (S.c0 (hF := containsInBar1 _ b.c (keptB b) l (fun s hs => kept1_fun b s hb (hw s hs)) hl) (h := S.o q.as (S.end (hK _ ?_))))); clear hK K; refine Ev.ret ?_; refine Ev.ret1 ?_; refine ⟨?_, rfl⟩; rfl
theorem revise1_fun (a : List Bar) (x : Bar) (hl : a.length ≤ 140737488355328) (hx : x.w) (hw : schedW a) : Fun Tryz.prog 32 [.agg x.c, .sadr [.sh 5 (a.map Bar.c)] 0] (Ret (.lit (.bool (decide (keptP x a)))) []) := by
  refine Fun.of (nt := 7) (rs := [.tmp 3]) Tryz.func32 rfl rfl rfl rfl rfl ?_; refine Ev.sr fun K hK => S.nn (q.bx [_, _, _, _, _] true) (S.o q.as (S.end (hK _ ?_))); clear hK K; refine Ev.sr fun K hK => S.o (q.lvA [_, _, _, _, _] am_ag56 am_cl56) (S.o (q.ls am_ag32) (S.c0 (hF := kept_fun x a hl hx hw) (h := S.o q.as (S.end (hK _ ?_))))); clear hK K; refine Ev.ret ?_; refine Ev.ret1 ?_; refine ⟨?_, rfl⟩; rfl
theorem cloneBar_fun (l : List (Bar)) (hlen : l.length ≤ 1000000) : Fun Tryz.prog 31 [.sh 5 (l.map Bar.c)] (Ret (.als 0 0 l.length) [(0, ⟨true, 56, 5, l.map Bar.c, true⟩)]) := by
  refine Fun.of (nt := 8) (rs := [.tmp 2]) Tryz.func31 rfl rfl rfl rfl rfl ?_; refine Ev.sr fun K hK => S.o q.as (S.end (hK _ ?_)); clear hK K; refine Ev.seq ?_; refine Ev.sr fun K hK => S.o q.mv (S.eqn am_el32 (fun c1 c2 => (S.end (hK _ ?_)))); clear hK K; refine Ev.c (fun c3 => ?_) (fun c3 => ?_)
  · first
  | omega | contradiction
  | refine Ev.sr fun K hK => S.o q.as (S.end (hK _ ?_)); clear hK K; refine Ev.weaken (Wk.nown Bar.c 2 56 5) ?_; refine Ev.ret ?_; refine Ev.own1 ?_; refine ⟨?_, ?_⟩; all_goals first
     | rfl
     | (rw [List.map_eq_nil_iff.1 (c2 c3)]; done) | (rw [List.map_eq_nil_iff.1 (c2 c3)] <;> rfl)
     | (congr 1; simp; done)
     | (simp; done)
  · first
  | omega | contradiction
  | refine Ev.skip ?_; show Ev _ _ _ _; refine Ev.sr fun K hK => S.nn (v := .als 0 0 ([] : List (Bar)).length) (o := ⟨true, 56, 5, ([] : List (Bar)).map Bar.c, true⟩) (q.bs [] true am_el32 am_ze56 am_cl56) (S.o q.mv (S.ap' [] am_el32 am_ze56 am_cl56 am_by56 (hh := head_own') (hr := rows_sh) (h := S.o q.as (S.end (hK _ ?_))))); clear hK K; refine Ev.ret ?_; refine Ev.own1 ?_; refine ⟨?_, ?_⟩; all_goals first
     | rfl
     | (rw [List.map_eq_nil_iff.1 (c2 c3)]; done) | (rw [List.map_eq_nil_iff.1 (c2 c3)] <;> rfl)
     | (congr 1; simp; done)
     | (simp; done)
end Go.Proofs.YthpjfkmhpoeojaaGreatDoor
namespace Go.Proofs.YthpjfkmhpoeojaaGreatDoor
open Go Go.AM
set_option linter.unusedSimpArgs false
set_option linter.unusedVariables false
set_option maxRecDepth 100000
set_option maxHeartbeats 1000000
def fl {T : Type} (p : T → Bool) (l : List T) : List T := l.filter fun x => !p x
theorem fl_le {T : Type} (p : T → Bool) (l : List T) : (fl p l).length ≤ l.length := List.length_filter_le _ _
theorem fl_no {T : Type} {p : T → Bool} {l : List T} (h : ∀ x ∈ l, p x = false) : fl p l = l := List.filter_eq_self.2 fun x hx => by rw [h x hx]; rfl
theorem fl_app {T : Type} (p : T → Bool) (l m : List T) : fl p (l ++ m) = fl p l ++ fl p m := List.filter_append ..
theorem fl_t {T : Type} {p : T → Bool} {l : List T} {s : T} (h : p s = true) : fl p (l ++ [s]) = fl p l := by rw [fl_app, show fl p [s] = [] by simp [fl, h], List.append_nil]
theorem fl_f {T : Type} {p : T → Bool} {l : List T} {s : T} (h : p s = false) : fl p (l ++ [s]) = fl p l ++ [s] := by rw [fl_app, show fl p [s] = [s] by simp [fl, h]]
theorem idx_split {T : Type} (p : T → Bool) : ∀ (l : List T) (k : Int), 0 ≤ k → 0 ≤ idxP p l k → ∃ pre s suf, l = pre ++ s :: suf ∧ idxP p l k = k + pre.length ∧ (∀ x ∈ pre, p x = false) ∧ p s = true
  | [], k, hk, h => by simp [idxP] at h
  | x :: l, k, hk, h => by
    rw [idxP] at h ⊢
    by_cases hx : p x = true
    · exact ⟨[], x, l, rfl, by simp [hx], by simp, hx⟩
    · have hx' : p x = false := by simpa using hx
      simp only [hx', Bool.false_eq_true, if_false] at h ⊢; obtain ⟨pre, s, suf, h1, h2, h3, h4⟩ := idx_split p l (k + 1) (by omega) h; refine ⟨x :: pre, s, suf, by rw [h1]; rfl, by rw [h2, List.length_cons]; omega, fun y hy => ?_, h4⟩
      rcases List.mem_cons.1 hy with rfl | hy
      · exact hx'
      · exact h3 y hy
theorem nb_t {b : Bool} (h : (!b) = true) : b = false := by simpa using h
theorem nb_f {b : Bool} (h : (!b) = false) : b = true := by simpa using h
theorem df_in {T : Type} {p : T → Bool} {pre suf cur : List T} {s : T} (hs : p s = false) (hc : pre.length < cur.length) (h1 : cur.take (fl p pre).length = fl p pre) (h2 : cur.drop pre.length = s :: suf) :
    (cur.set (fl p pre).length s).length = cur.length ∧ (cur.set (fl p pre).length s).take (fl p (pre ++ [s])).length = fl p (pre ++ [s]) ∧ (cur.set (fl p pre).length s).drop (pre ++ [s]).length = suf := by
  have hle := fl_le p pre; refine ⟨List.length_set, ?_, ?_⟩
  · rw [fl_f hs, List.length_append, List.length_singleton, List.take_add_one, List.take_set, List.set_eq_of_length_le (by rw [List.length_take]; omega), h1, List.getElem?_set, if_pos rfl, if_pos (by omega)]; rfl
  · rw [List.length_append, List.length_singleton, List.drop_set, if_pos (by omega), ← List.drop_drop, h2]; rfl
theorem df_out {T : Type} {p : T → Bool} {pre suf cur : List T} {s : T} (hs : p s = true) (h1 : cur.take (fl p pre).length = fl p pre) (h2 : cur.drop pre.length = s :: suf) :
    cur.take (fl p (pre ++ [s])).length = fl p (pre ++ [s]) ∧ cur.drop (pre ++ [s]).length = suf := by
  refine ⟨by rw [fl_t hs, h1], ?_⟩; rw [List.length_append, List.length_singleton, ← List.drop_drop, h2]; rfl
theorem df_end {p : Bar → Bool} {l cur : List Bar} {z0 : List AV} {lo k m : Nat} (h1 : cur.take (fl p l).length = fl p l) (hlo : lo = (fl p l).length) (hm : m = (fl p l).length) (hc : (fl p l).length ≤ cur.length) : ((cur.map Bar.c).take lo ++ List.replicate k z0 ++ (cur.map Bar.c).drop (lo + k)).take m = (fl p l).map Bar.c := by
  subst hlo hm; rw [List.append_assoc, List.take_left' (by rw [List.length_take, List.length_map]; omega), ← List.map_take, h1]
theorem df_all {l : List Bar} : (l.map Bar.c).take l.length = l.map Bar.c := List.take_of_length_le (by simp)
theorem delFuncBarR (g : FuncId) (c0 : List AV) (p : Bar → Bool) (l : List Bar) (hg : ∀ s ∈ l, Fun Tryz.prog g [.agg s.c, .sadr c0 0] (Ret (.lit (.bool (p s))) [])) (hl : l.length ≤ 1000000) : FunR Tryz.prog 30 [.als 0 0 l.length, .fn (.func g) [] [.sadr c0 0]] [(0, ⟨true, 56, 5, l.map Bar.c, true⟩)] 1
    (Ret (.als 1 0 (fl p l).length) [(1, ⟨true, 56, 5, (fl p l).map Bar.c, true⟩)]) := by
  refine FunR.of (nt := 42) (rs := [.tmp 4]) Tryz.func30 rfl rfl rfl rfl rfl ?_; refine Ev.sr fun K hK => S.o q.as (S.end (hK _ ?_)); clear hK K; refine Ev.sr fun K hK => S.o q.mv (S.o q.mv (S.c0 (hF := indexInBar1 g c0 p l hg (by omega)) (hv := (by simp [viewL, viewAV, St.ev, St.get, find_cons])) (h := S.o q.as (S.end (hK _ ?_))))); clear hK K; refine Ev.seq ?_; refine Ev.sr fun K hK => S.o q.mv (S.o q.eql (S.end (hK _ ?_))); clear hK K; refine Ev.cd (fun c1 => ?_) (fun c1 => ?_)
  · first
  | omega | contradiction
  | have hno : fl p l = l := fl_no (fun x hx => by
      cases hpx : p x with
      | false => rfl
      | true => exact absurd ((idxP_nonneg p l 0 (Int.le_refl _)).2 ⟨x, hx, hpx⟩) (by omega))
    rw [hno]; refine Ev.sr fun K hK => S.o q.mv ?_; refine SeqL.weaken (Wk.cuti 13 [] am_ze56 am_cl56) ?_; refine S.o q.as (S.end (hK _ ?_)); clear hK K; refine Ev.ret ?_; refine Ev.rr1 [0, 1] (keepR_g (h := (keepR_c (h := keepR_n)))) (leadsB rfl) ?_; refine ⟨?_, ?_⟩; all_goals first
     | rfl
     | (rw [df_end hinv1 (by omega) (by omega) (by omega)]; done) | (rw [df_end hinv1 (by omega) (by omega) (by omega)]; simp; done) | (rw [df_all]; done) | (rw [df_all]; simp; done)
     | (simp; done)
  · first
  | omega | contradiction
  | refine Ev.skip ?_; show Ev _ _ _ _; refine Ev.seq ?_
    have hge : 0 ≤ idxP p l 0 := by rcases idxP_bd p l 0 (Int.le_refl _) with h | h <;> omega
    obtain ⟨pre0, s0, suf0, hl0, hi0, hp0, hs0⟩ := idx_split p l 0 (Int.le_refl _) hge
    have hlt : (fl p l).length < l.length := by
      have h1 := fl_le p suf0; rw [hl0, fl_app, show fl p (s0 :: suf0) = fl p suf0 by simp [fl, hs0], List.length_append, List.length_append, fl_no hp0, List.length_cons]; omega
    rw [hi0]
    have hll : l.length = pre0.length + suf0.length + 1 := by rw [hl0]; simp; omega
    have hf0 : fl p (pre0 ++ [s0]) = pre0 := by rw [fl_t hs0, fl_no hp0]
    refine Ev.sr fun K hK => S.o q.mv (S.o q.add (S.o q.as (S.end (hK _ ?_)))); clear hK K; refine Ev.block ?_; refine Ev.loopU (ι := {q : List Bar × List Bar × List Bar // q.1 ++ q.2.1 = l ∧ q.2.2.length = l.length ∧ q.2.2.take (fl p q.1).length = fl p q.1 ∧ q.2.2.drop q.1.length = q.2.1}) [0] [1, 4] (fun ⟨(pre, suf, cur), _⟩ => [(5, .lit (.int .i64 (((fl p pre).length : Int)))), (6, .lit (.int .i64 ((pre.length : Int)))), (0, .als 0 0 (cur).length)]) (fun ⟨(pre, suf, cur), _⟩ => [(0, ⟨true, 56, 5, (cur).map Bar.c, true⟩)]) (fun ⟨(pre, suf, cur), _⟩ => suf.length) ⟨(pre0 ++ [s0], suf0, l), by rw [hl0]; simp, rfl, by show l.take (fl p (pre0 ++ [s0])).length = _; rw [hf0, hl0]; exact List.take_left' rfl, by rw [hl0]; simp⟩ (.c (.c .n)) (keep_c (he := (by first | rfl | (simp; done))) (h := keep_n)) (slots_c (he := (by first | rfl | (rw [hf0]; congr 2; omega) | (rw [fl_f (nb_t ‹_›)]; congr 2; simp; done) | (rw [fl_t (nb_f ‹_›)]; done))) (h := (slots_c (he := (by first | rfl | (congr 2; simp; omega) | (congr 2; simp; done))) (h := (slots_c (he := (by first | rfl | (simp; done) | (congr 2; omega))) (h := trivial)))))) ?_; rintro ⟨⟨pre, suf, cur⟩, hp, hcl, hinv1, hinv2⟩ R0 hR0; dsimp only [List.cons_append, List.nil_append, List.length_cons, List.length_nil]
    simp only at hp hcl hinv1 hinv2
    have hpl : pre.length + suf.length = l.length := by rw [← hp, List.length_append]
    have hfle := fl_le p pre
    rcases suf with _ | ⟨s, suf⟩
    · rw [List.append_nil] at hp; subst hp; simp only [List.length_nil] at hpl; refine Ev.seq ?_; refine Ev.sr fun K hK => S.o q.mv (S.o q.mv (S.o (q.lena am_el32) (S.o q.lss (S.end (hK _ ?_))))); clear hK K; refine Ev.cd (fun c2 => ?_) (fun c2 => ?_)
      · first | omega | contradiction | (exfalso; simp at *; done)
      · first
      | omega | contradiction
      | refine Ev.exit ?_; refine hR0 _ _ ?_; show Ev _ _ _ _; refine Ev.sr fun K hK => S.o q.mv (S.o q.mv (S.o (q.sl am_el32 am_cl56) (S.clri [] am_el32 am_ze56 am_cl56 (h := S.end (hK _ ?_))))); clear hK K; refine Ev.sr fun K hK => S.o q.mv (S.o q.mv (S.o (q.sl am_el32 am_cl56) ?_)); refine SeqL.weaken (Wk.cuti 41 [] am_ze56 am_cl56) ?_; refine S.o q.as (S.end (hK _ ?_)); clear hK K; refine Ev.ret ?_; refine Ev.rr1 [0, 1] (keepR_g (h := (keepR_c (h := keepR_n)))) (leadsB rfl) ?_; refine ⟨?_, ?_⟩; all_goals first
         | rfl
         | (rw [df_end hinv1 (by omega) (by omega) (by omega)]; done) | (rw [df_end hinv1 (by omega) (by omega) (by omega)]; simp; done) | (rw [df_all]; done) | (rw [df_all]; simp; done)
         | (simp; done)
    · simp only [List.length_cons] at hpl
      have hidx : cur[pre.length]? = some s := by have h := congrArg (·[0]?) hinv2; simpa using h
      obtain ⟨yy, hyy⟩ : ∃ yy, cur[(fl p pre).length]? = some yy := ⟨_, List.getElem?_eq_getElem (by omega)⟩; refine Ev.seq ?_; refine Ev.sr fun K hK => S.o q.mv (S.o q.mv (S.o (q.lena am_el32) (S.o q.lss (S.end (hK _ ?_))))); clear hK K; refine Ev.cd (fun c3 => ?_) (fun c3 => ?_)
      · first
      | omega | contradiction
      | refine Ev.skip ?_; show Ev _ _ _ _; refine Ev.seq ?_; refine Ev.block ?_; refine Ev.sr fun K hK => S.o q.mv (S.o q.mv (S.o (q.ia am_el32 am_cl56) (S.o (q.lxA [_, _, _, _, _] am_ag56 am_cl56 (hl := (by first | exact at_ hidx (by omega) | exact at_ hyy (by omega) | exact at_g (by omega)))) (S.nn (q.al am_ze56) (S.sv [_, _, _, _, _] true [_] am_in56 am_cl56 (h := S.end (hK _ ?_))))))); clear hK K; refine Ev.sr fun K hK => S.o q.mv (S.o (q.lvA [_, _, _, _, _] am_ag56 am_cl56) (S.c0 (hF := hg s (by rw [← hp]; simp)) (h := S.o q.not (S.end (hK _ ?_))))); clear hK K; refine Ev.c (fun c4 => ?_) (fun c4 => ?_)
        · first
        | omega | contradiction
        | refine Ev.sr fun K hK => S.o q.mv (S.o q.mv (S.o (q.lvA [_, _, _, _, _] am_ag56 am_cl56) (S.o (q.ia am_el32 am_cl56) (S.sx s [_] am_in56 am_cl56 (hl := (by first | exact at_ hidx (by omega) | exact at_ hyy (by omega) | exact at_g (by omega))) (h := S.end (hK _ ?_)))))); clear hK K; refine Ev.region_S fun K hK => S.o q.mv (S.o q.add (S.o q.as (S.end (hK _ ?_)))); clear hK K; show Ev _ _ _ _; refine Ev.region_S fun K hK => S.o q.mv (S.o q.add (S.o q.as (S.end (hK _ ?_)))); clear hK K; refine hR0 _ _ ?_; refine roundU [0] [1, 4] ⟨(pre ++ [s], suf, cur.set (fl p pre).length s), by rw [← hp]; simp, (df_in (nb_t ‹_›) (by omega) hinv1 hinv2).1.trans hcl, (df_in (nb_t ‹_›) (by omega) hinv1 hinv2).2.1, (df_in (nb_t ‹_›) (by omega) hinv1 hinv2).2.2⟩ ?_ (keep_c (he := (by first | rfl | (simp; done))) (h := keep_n)) (slots_c (he := (by first | rfl | (rw [hf0]; congr 2; omega) | (rw [fl_f (nb_t ‹_›)]; congr 2; simp; done) | (rw [fl_t (nb_f ‹_›)]; done))) (h := (slots_c (he := (by first | rfl | (congr 2; simp; omega) | (congr 2; simp; done))) (h := (slots_c (he := (by first | rfl | (simp; done) | (congr 2; omega))) (h := trivial)))))) (.c (.c .n)); skip; all_goals (dsimp only; simp only [List.length_cons]; omega)
        · first
        | omega | contradiction
        | refine Ev.skip ?_; show Ev _ _ _ _; refine Ev.region_S fun K hK => S.o q.mv (S.o q.add (S.o q.as (S.end (hK _ ?_)))); clear hK K; refine hR0 _ _ ?_; refine roundU [0] [1, 4] ⟨(pre ++ [s], suf, cur), by rw [← hp]; simp, hcl, (df_out (nb_f ‹_›) hinv1 hinv2).1, (df_out (nb_f ‹_›) hinv1 hinv2).2⟩ ?_ (keep_c (he := (by first | rfl | (simp; done))) (h := keep_n)) (slots_c (he := (by first | rfl | (rw [hf0]; congr 2; omega) | (rw [fl_f (nb_t ‹_›)]; congr 2; simp; done) | (rw [fl_t (nb_f ‹_›)]; done))) (h := (slots_c (he := (by first | rfl | (congr 2; simp; omega) | (congr 2; simp; done))) (h := (slots_c (he := (by first | rfl | (simp; done) | (congr 2; omega))) (h := trivial)))))) (.c (.c .n)); skip; all_goals (dsimp only; simp only [List.length_cons]; omega)
      · first | omega | contradiction | (exfalso; simp at *; done)
end Go.Proofs.YthpjfkmhpoeojaaGreatDoor
namespace Go.Proofs.YthpjfkmhpoeojaaGreatDoor
open Go Go.AM
set_option linter.unusedSimpArgs false
set_option linter.unusedVariables false
set_option maxRecDepth 100000
set_option maxHeartbeats 1000000
theorem am_mt80' : mapTy Tryz.prog 71 = some (.string, none) := by kernel_rfl
theorem am_mt71 : mapTy Tryz.prog 71 = some (.string, none) := am_mt80'
theorem dec_t {p : Prop} {i : Decidable p} (h : @decide p i = true) : p := of_decide_eq_true h
theorem dec_f {p : Prop} {i : Decidable p} (h : @decide p i = false) : ¬ p := of_decide_eq_false h
def goneM (a b : List Bar) : List (List UInt8) := a.foldl (fun m x => if keptP x b then m else kput m x.mark) []
theorem goneM_in {pre : List Bar} {s : Bar} {b : List Bar} (h : keptP s b) : goneM (pre ++ [s]) b = goneM pre b := by simp [goneM, List.foldl_append, h]
theorem goneM_out {pre : List Bar} {s : Bar} {b : List Bar} (h : ¬ keptP s b) : goneM (pre ++ [s]) b = kput (goneM pre b) s.mark := by simp [goneM, List.foldl_append, h]
theorem goneM_go (b : List Bar) (k : List UInt8) : ∀ (a : List Bar) (m : List (List UInt8)), k ∈ a.foldl (fun m x => if keptP x b then m else kput m x.mark) m ↔ k ∈ m ∨ ∃ x ∈ a, ¬ keptP x b ∧ x.mark = k
  | [], m => by simp
  | x :: a, m => by
    rw [List.foldl_cons, goneM_go b k a]
    by_cases h : keptP x b
    · simp [h]
    · simp only [h, if_false, kput_mem, List.mem_cons, exists_eq_or_imp, not_false_eq_true, true_and]
      constructor
      · rintro ((h1 | h1) | h1)
        · exact .inl h1
        · exact .inr (.inl h1.symm)
        · exact .inr (.inr h1)
      · rintro (h1 | h1 | h1)
        · exact .inl (.inl h1)
        · exact .inl (.inr h1.symm)
        · exact .inr h1
theorem goneM_mem (a b : List Bar) (k : List UInt8) : k ∈ goneM a b ↔ ∃ x ∈ a, ¬ keptP x b ∧ x.mark = k := by
  unfold goneM
  rw [goneM_go]
  simp
def rvE (M : List (List UInt8)) (e : Ent) : Ent := if e.b.mark ∈ M then offE e else e
theorem rvE_no {M : List (List UInt8)} {e : Ent} (h : ¬ e.b.mark ∈ M) : rvE M e = e := if_neg h
theorem rvE_off {M : List (List UInt8)} {e : Ent} (h : e.off = true) : rvE M e = e := by
  unfold rvE
  split
  · obtain ⟨b, o⟩ := e; subst h; rfl
  · rfl
theorem rvE_b (M : List (List UInt8)) (e : Ent) : (rvE M e).b = e.b := by unfold rvE; split <;> rfl
theorem rv_at {M : List (List UInt8)} {pre suf : List Ent} {s : Ent} : (pre.map (rvE M) ++ s :: suf)[pre.length]? = some s := by
  rw [List.getElem?_append_right (by simp), List.length_map, Nat.sub_self]; rfl
theorem rv_set {M : List (List UInt8)} {pre suf : List Ent} {s : Ent} (h : s.b.mark ∈ M) : (pre.map (rvE M) ++ s :: suf).set pre.length (offE s) = (pre ++ [s]).map (rvE M) ++ suf := by
  rw [List.set_append_right _ _ (by simp), List.length_map, Nat.sub_self, List.map_append, List.map_cons, List.map_nil, List.append_assoc, rvE, if_pos h]; rfl
theorem rv_same {M : List (List UInt8)} {pre suf : List Ent} {s : Ent} (h : rvE M s = s) : pre.map (rvE M) ++ s :: suf = (pre ++ [s]).map (rvE M) ++ suf := by
  rw [List.map_append, List.map_cons, List.map_nil, h, List.append_assoc]; rfl
def offT (M : List (List UInt8)) (es : List Ent) : List (List UInt8) := (es.filter fun e => decide (e.b.mark ∈ M) && !e.off).map (·.b.tag)
theorem offT_in {M : List (List UInt8)} {pre : List Ent} {s : Ent} (h1 : s.b.mark ∈ M) (h2 : s.off = false) : offT M (pre ++ [s]) = offT M pre ++ [s.b.tag] := by simp [offT, List.filter_append, h1, h2]
theorem offT_no {M : List (List UInt8)} {pre : List Ent} {s : Ent} (h1 : ¬ s.b.mark ∈ M) : offT M (pre ++ [s]) = offT M pre := by simp [offT, List.filter_append, h1]
theorem offT_off {M : List (List UInt8)} {pre : List Ent} {s : Ent} (h1 : s.off = true) : offT M (pre ++ [s]) = offT M pre := by simp [offT, List.filter_append, h1]
theorem offT_len (M : List (List UInt8)) (es : List Ent) : (offT M es).length ≤ es.length := by
  unfold offT
  rw [List.length_map]; exact List.length_filter_le _ _
def tagN (n : Int) : List UInt8 := 116 :: Go.Lib.itoa n
def used (es : List Ent) (n : Int) : Prop := 0 ≤ tgI es (tagN n)
instance (es n) : Decidable (used es n) := inferInstanceAs (Decidable (0 ≤ tgI es (tagN n)))
theorem used_iff (es : List Ent) (n : Int) : used es n ↔ ∃ e ∈ es, e.b.tag = tagN n := by
  have h := tgI_lt es (tagN n)
  unfold used
  constructor
  · intro h1; refine Classical.byContradiction fun h2 => ?_; have := h.2 (fun e he ht => h2 ⟨e, he, ht⟩); omega
  · rintro ⟨e, he, ht⟩
    rcases Int.lt_or_le (tgI es (tagN n)) 0 with h1 | h1
    · exact absurd ht (h.1 h1 e he)
    · exact h1
theorem used_mono {es : List Ent} {n : Int} (e : Ent) (h : used es n) : used (es ++ [e]) n := by
  rw [used_iff] at h ⊢; obtain ⟨x, h1, h2⟩ := h; exact ⟨x, by simp [h1], h2⟩
theorem nodup_le {T : Type} [DecidableEq T] : ∀ (l m : List T), l.Nodup → (∀ x ∈ l, x ∈ m) → l.length ≤ m.length
  | [], m, _, _ => Nat.zero_le _
  | x :: l, m, hn, h => by
    rw [List.nodup_cons] at hn; have hx := h x (by simp); have h1 := nodup_le l (m.erase x) hn.2 fun y hy => (List.mem_erase_of_ne (fun e : y = x => hn.1 (by rw [← e]; exact hy))).2 (h y (by simp [hy])); rw [List.length_erase_of_mem hx] at h1; have := List.length_pos_of_mem hx; simp only [List.length_cons]; omega
theorem used_bd {es : List Ent} {n : Int} (h : ∀ m, 1 ≤ m → m < n → used es m) : n ≤ es.length + 1 := by
  rcases Int.lt_or_le n 2 with h1 | h1
  · omega
  have h2 := nodup_le ((List.range (n - 1).toNat).map fun k : Nat => tagN ((k : Int) + 1)) (es.map (·.b.tag)) (by
    refine (List.nodup_range).map _ fun x y hxy e => hxy ?_; have := tag_inj (a := x + 1) (b := y + 1) e
    omega) (by
    intro x hx; rw [List.mem_map] at hx; obtain ⟨k, hk, rfl⟩ := hx; rw [List.mem_range] at hk; obtain ⟨e, he, ht⟩ := (used_iff es ((k : Int) + 1)).1 (h _ (by omega) (by omega))
    exact List.mem_map.2 ⟨e, he, ht⟩)
  rw [List.length_map, List.length_range, List.length_map] at h2; omega
def newN (es : List Ent) : Int := (((List.range (es.length + 1)).find? fun k : Nat => !decide (used es ((k : Int) + 1))).getD 0 : Nat) + 1
theorem newN_eq {es : List Ent} {n : Int} (h1 : 1 ≤ n) (h2 : ¬ used es n) (h3 : ∀ m, 1 ≤ m → m < n → used es m) : newN es = n := by
  have hb := used_bd h3
  unfold newN
  have e : (List.range (es.length + 1)).find? (fun k : Nat => !decide (used es ((k : Int) + 1))) = some (n - 1).toNat := by
    rw [List.find?_range_eq_some]; refine ⟨?_, by rw [List.mem_range]; omega, fun j hj => ?_⟩
    · rw [show (((n - 1).toNat : Nat) : Int) + 1 = n by omega]
      simp [h2]
    · simp [h3 ((j : Int) + 1) (by omega) (by omega)]
  rw [e]
  show (((n - 1).toNat : Nat) : Int) + 1 = n
  omega
def retag (es : List Ent) (b : Bundle) : Bundle := ⟨tagN (newN es), b.mark, b.count, b.mass⟩
def addB (es : List Ent) (l : List Bundle) : List Ent := l.foldl (fun q b => q ++ [newE (retag q b)]) es
theorem addB_snoc (es : List Ent) (pre : List Bundle) (s : Bundle) : addB es (pre ++ [s]) = addB es pre ++ [newE (retag (addB es pre) s)] := by simp [addB, List.foldl_append]
theorem addB_at {es : List Ent} {pre : List Bundle} {s : Bundle} {n : Int} (h : newN (addB es pre) = n) : addB es (pre ++ [s]) = addB es pre ++ [newE ⟨tagN n, s.mark, s.count, s.mass⟩] := by rw [addB_snoc, retag, h]
theorem addB_len (l : List Bundle) : ∀ es : List Ent, (addB es l).length = es.length + l.length := by
  induction l with
  | nil => intro es; rfl
  | cons b l ih => intro es; show (addB _ l).length = _; rw [ih]; simp; omega
def onT (es : List Ent) (l : List Bundle) : List (List UInt8) := ((addB es l).drop es.length).map (·.b.tag)
theorem onT_at {es : List Ent} {pre : List Bundle} {s : Bundle} {n : Int} (h : newN (addB es pre) = n) : onT es (pre ++ [s]) = onT es pre ++ [tagN n] := by
  unfold onT
  rw [addB_at h, List.drop_append_of_le_length (by rw [addB_len]; omega), List.map_append]; rfl
theorem onT_nil (es : List Ent) : onT es [] = [] := by simp [onT, addB]
theorem onT_len (es : List Ent) (l : List Bundle) : (onT es l).length = l.length := by unfold onT; rw [List.length_map, List.length_drop, addB_len]; omega
def revK (a b : List Bar) : List Bar := fl (fun x => decide (keptP x a)) b
def revE (n : Nat) (a b : List Bar) (most : Int) : Int := if okSched a ∧ okSched b then (if makeE (revK a b) most = 0 then (if (n : Int) + (makeV (revK a b) most).length > 1000 then 4 else 0) else makeE (revK a b) most) else 1
def revV (es : List Ent) (a b : List Bar) (most : Int) : List Ent := if revE es.length a b most = 0 then addB (es.map (rvE (goneM a b))) (makeV (revK a b) most) else es
def revF (es : List Ent) (a b : List Bar) (most : Int) : List (List UInt8) := if revE es.length a b most = 0 then offT (goneM a b) es else []
def revN (es : List Ent) (a b : List Bar) (most : Int) : List (List UInt8) := if revE es.length a b most = 0 then onT (es.map (rvE (goneM a b))) (makeV (revK a b) most) else []
structure Rev0 (es : List Ent) (a b : List Bar) (most e : Int) : Prop where
  e : revE es.length a b most = e
  v : revV es a b most = es
  f : revF es a b most = []
  n : revN es a b most = []
theorem rev0_of {es : List Ent} {a b : List Bar} {most e : Int} (h : revE es.length a b most = e) (h0 : e ≠ 0) : Rev0 es a b most e :=
  ⟨h, if_neg (by rw [h]; exact h0), if_neg (by rw [h]; exact h0), if_neg (by rw [h]; exact h0)⟩
theorem rev_bad {es : List Ent} {a b : List Bar} {most : Int} (h : ¬ (okSched a ∧ okSched b)) : Rev0 es a b most 1 := rev0_of (if_neg h) (by decide)
theorem rev_mk {es : List Ent} {a b : List Bar} {most : Int} (h : okSched a ∧ okSched b) (h2 : ¬ makeE (revK a b) most = 0) : Rev0 es a b most (makeE (revK a b) most) := rev0_of ((if_pos h).trans (if_neg h2)) h2
theorem rev_full {es : List Ent} {a b : List Bar} {most : Int} (h : okSched a ∧ okSched b) (h2 : makeE (revK a b) most = 0) (h3 : (es.length : Int) + (makeV (revK a b) most).length > 1000) : Rev0 es a b most 4 := rev0_of ((if_pos h).trans ((if_pos h2).trans (if_pos h3))) (by decide)
structure Rev1 (es : List Ent) (a b : List Bar) (most : Int) : Prop where
  e : revE es.length a b most = 0
  v : revV es a b most = addB (es.map (rvE (goneM a b))) (makeV (revK a b) most)
  f : revF es a b most = offT (goneM a b) es
  n : revN es a b most = onT (es.map (rvE (goneM a b))) (makeV (revK a b) most)
theorem rev_ok {es : List Ent} {a b : List Bar} {most : Int} (h : okSched a ∧ okSched b) (h2 : makeE (revK a b) most = 0) (h3 : ¬ (es.length : Int) + (makeV (revK a b) most).length > 1000) : Rev1 es a b most := by
  have e : revE es.length a b most = 0 := (if_pos h).trans ((if_pos h2).trans (if_neg h3)); exact ⟨e, if_pos e, if_pos e, if_pos e⟩
theorem makeV_le (l : List Bar) (most : Int) : (makeV l most).length ≤ 1000 := by
  unfold makeV
  split
  · rename_i h
    rw [bunL_len]; exact (makeE_ok h).2.2.2
  · exact Nat.zero_le _
theorem revK_le (a b : List Bar) : (revK a b).length ≤ b.length := fl_le _ _
theorem revK_w {a b : List Bar} (h : schedW b) : schedW (revK a b) := fun x hx => h x (List.mem_filter.1 hx).1
end Go.Proofs.YthpjfkmhpoeojaaGreatDoor
namespace Go.Proofs.YthpjfkmhpoeojaaGreatDoor
open Go Go.AM
set_option linter.unusedSimpArgs false
set_option linter.unusedVariables false
set_option maxRecDepth 100000
set_option maxHeartbeats 1000000
def exA : Bar := ⟨[97], 10, 2, 0, [500]⟩
def exB1 : Bar := ⟨[98], 10, 2, 0, [500]⟩
def exB2 : Bar := ⟨[98], 10, 2, 0, [600]⟩
def exI : List Bundle := [⟨[116, 49], [97], 2, 0⟩, ⟨[116, 50], [98], 2, 0⟩]
def exE : List Ent := exI.map newE
theorem ex_isu : isuV [] exI = exE ∧ isuE [] exI = 0 := by
  have h1 : okBuns exI := by decide +kernel
  have h2 : ¬ hasT [] exI := by decide +kernel
  exact isu_ok h1 h2 (by decide)
theorem ex_sched : okSched [exA, exB1] ∧ okSched [exA, exB2] := ⟨by decide +kernel, by decide +kernel⟩
theorem ex_gone : goneM [exA, exB1] [exA, exB2] = [[98]] := by decide +kernel
theorem ex_keep : revK [exA, exB1] [exA, exB2] = [exB2] := by
  have h1 : keptP exA [exA, exB1] := by decide +kernel
  have h2 : ¬ keptP exB2 [exA, exB1] := by decide +kernel
  simp [revK, fl, List.filter, h1, h2]
theorem ex_one2 : 1 ≤ oneOf exB2 ∧ oneOf exB2 ≤ 1000 := by decide +kernel
theorem ex_okb : okSched [exB2] := by decide +kernel
theorem ex_unit : units 1099511627776 [exB2] = [(exB2, 2)] := by
  have h := ex_one2
  have h2 : (2 : Int) ≤ 1099511627776 / oneOf exB2 := by
    rw [Int.le_ediv_iff_mul_le (by omega)]; omega
  simp only [units, List.map_cons, List.map_nil, List.flatten_cons, List.flatten_nil, List.append_nil, unitsB, show exB2.count = 2 from rfl, chunks_one (show (0 : Int) < 2 by decide) h2]
theorem ex_make2 : makeV [exB2] 1099511627776 = [bun 0 (exB2, 2)] ∧ makeE [exB2] 1099511627776 = 0 := by
  have ho : ¬ overP 1099511627776 [exB2] := by
    rintro ⟨b, hb, h⟩; obtain rfl := List.mem_singleton.1 hb; have := ex_one2; have := of_decide_eq_true h; omega
  obtain ⟨h1, h2⟩ := mk0 ex_okb (most := 1099511627776) (by decide) ho (by rw [ex_unit]; decide); exact ⟨by rw [h1, ex_unit]; rfl, h2⟩
theorem tag_one {k : Nat} (h : k < 10) : tagN (k : Int) = [116, UInt8.ofNat (48 + k)] := by
  unfold tagN
  rw [Go.Lib.itoa_nonneg, Go.Lib.decDigits, dif_pos h]
theorem ex_new (M) : newN (exE.map (rvE M)) = 3 := by
  have t1 : tagN 1 = [116, 49] := tag_one (k := 1) (by decide); have t2 : tagN 2 = [116, 50] := tag_one (k := 2) (by decide); have t3 : tagN 3 = [116, 51] := tag_one (k := 3) (by decide)
  have hm : ∀ t, (∃ e ∈ exE.map (rvE M), e.b.tag = t) ↔ t = [116, 49] ∨ t = [116, 50] := by
    intro t; simp only [exE, exI, List.map_cons, List.map_nil, List.mem_cons, List.not_mem_nil, or_false, exists_eq_or_imp, exists_eq_left, rvE_b, newE]
    constructor
    · rintro (h | h) <;> simp [← h]
    · rintro (h | h) <;> simp [h]
  refine newN_eq (by decide) ?_ fun m h1 h2 => ?_
  · rw [used_iff, hm, t3]; decide
  · rw [used_iff, hm]
    rcases (by omega : m = 1 ∨ m = 2) with rfl | rfl
    · rw [t1]; decide
    · rw [t2]; decide
theorem ex_rev : revE exE.length [exA, exB1] [exA, exB2] 1099511627776 = 0 ∧ revF exE [exA, exB1] [exA, exB2] 1099511627776 = [[116, 50]] ∧ revN exE [exA, exB1] [exA, exB2] 1099511627776 = [[116, 51]] := by
  have hR := rev_ok (es := exE) (a := [exA, exB1]) (b := [exA, exB2]) (most := 1099511627776) ex_sched (by rw [ex_keep]; exact ex_make2.2) (by rw [ex_keep, ex_make2.1]; decide); refine ⟨hR.e, ?_, ?_⟩
  · rw [hR.f, ex_gone]; decide
  · rw [hR.n, ex_keep, ex_make2.1]; have h := onT_at (es := exE.map (rvE (goneM [exA, exB1] [exA, exB2]))) (pre := []) (s := bun 0 (exB2, 2)) (ex_new _); rw [List.nil_append] at h; rw [h, onT_nil]; exact congrArg (fun x => [x]) (tag_one (k := 3) (by decide))
theorem ex_w : schedW [exA, exB1] ∧ schedW [exA, exB2] := by
  constructor <;> (intro b hb; simp only [List.mem_cons, List.not_mem_nil, or_false] at hb; rcases hb with rfl | rfl <;> exact ⟨by decide, by decide⟩)
theorem ex_bw : bunW exI := by
  intro b hb; simp only [exI, List.mem_cons, List.not_mem_nil, or_false] at hb
  rcases hb with rfl | rfl <;> exact ⟨by decide, by decide⟩
end Go.Proofs.YthpjfkmhpoeojaaGreatDoor
namespace Go.Proofs.YthpjfkmhpoeojaaGreatDoor
open Go Go.AM
set_option linter.unusedSimpArgs false
set_option linter.unusedVariables false
set_option maxRecDepth 100000
set_option maxHeartbeats 1000000
structure Fits (l : List Bar) (V : List Bundle) : Prop where
  sched : okSched l
  cnt : ∀ x ∈ l, barsOf V x.mark = x.count
  at' : ∀ v ∈ V, ∃ x ∈ l, x.mark = v.mark ∧ v.mass = v.count * oneOf x
theorem Fits.check {l : List Bar} {V : List Bundle} (h : Fits l V) : checkP l V = [] := by
  unfold checkP fnd1 fnd2
  rw [flat_none _ l fun b hb => find1_eq (h.cnt b hb), flat_none _ V fun v hv => ?_]
  · rfl
  · obtain ⟨x, hx, h1, h2⟩ := h.at' v hv; have h3 := masM_in h.sched hx; rw [h1] at h3; exact f2_eq (by rw [h3]; rfl) (by rw [h3]; exact h2)
structure Good (es : List Ent) : Prop where
  len : es.length ≤ 1000
  ok : ∀ e ∈ es, okBun e.b
  tags : es.Pairwise fun a b => a.b.tag ≠ b.b.tag
theorem Good.open {es : List Ent} (h : Good es) : okBuns (openL es) := by
  refine ⟨Nat.le_trans (openL_len es) h.len, fun b hb => ?_, ?_⟩
  · unfold openL at hb
    obtain ⟨e, he, rfl⟩ := List.mem_map.1 hb; exact h.ok e (List.mem_filter.1 he).1
  · unfold openL
    rw [List.pairwise_map]; exact h.tags.filter _
theorem mark_one {l : List Bar} (h : l.Pairwise fun a b => a.mark ≠ b.mark) {x y : Bar} (hx : x ∈ l) (hy : y ∈ l) (e : x.mark = y.mark) : x = y := by
  induction l with
  | nil => simp at hx
  | cons z l ih =>
    rw [List.pairwise_cons] at h
    rcases List.mem_cons.1 hx with h1 | h1
    · rcases List.mem_cons.1 hy with h2 | h2
      · rw [h1, h2]
      · exact absurd (h1 ▸ e) (h.1 y h2)
    · rcases List.mem_cons.1 hy with h2 | h2
      · exact absurd (h2 ▸ e.symm) (h.1 x h1)
      · exact ih h.2 h1 h2
theorem sameV_symm {x y : Bar} (h : sameV x y) : sameV y x := ⟨h.2.1, h.1, h.2.2.1.symm, h.2.2.2.1.symm, h.2.2.2.2.symm⟩
theorem kept_swap {a b : List Bar} {x y : Bar} (hx : x ∈ b) (hy : y ∈ a) (hb : b.Pairwise fun a b => a.mark ≠ b.mark) (e : y.mark = x.mark) (h : keptP y b) : keptP x a := by
  obtain ⟨c, hc, h1⟩ := h; have h1 := of_decide_eq_true h1; have e2 := mark_one hb hc hx (h1.1.trans e); subst e2; exact ⟨y, hy, decide_eq_true ⟨h1.1.symm, h1.2.1.symm, sameV_symm h1.2.2⟩⟩
theorem newN_spec (es : List Ent) : ¬ used es (newN es) ∧ 1 ≤ newN es ∧ newN es ≤ es.length + 1 := by
  cases hf : (List.range (es.length + 1)).find? fun k : Nat => !decide (used es ((k : Int) + 1)) with
  | none =>
    exfalso
    have h1 : ∀ m, 1 ≤ m → m < (es.length : Int) + 2 → used es m := fun m h1 h2 => by
      have h3 := List.find?_eq_none.1 hf (m - 1).toNat (by rw [List.mem_range]; omega); rw [show (((m - 1).toNat : Nat) : Int) + 1 = m by omega] at h3
      simpa using h3
    have := used_bd h1; omega
  | some k =>
    have h1 : newN es = (k : Int) + 1 := by unfold newN; rw [hf]; rfl
    have h2 := List.find?_some hf; have h3 := List.mem_range.1 (List.mem_of_find?_eq_some hf); rw [h1]; exact ⟨by simpa using h2, by omega, by omega⟩
theorem retag_ok {es : List Ent} {b : Bundle} (h : es.length < 1000) (hb : okBun b) : okBun (retag es b) := by
  obtain ⟨_, h1, h2⟩ := newN_spec es
  have h3 : IsName (tagN (newN es)) := by
    have := tag_name (k := (newN es).toNat) (by omega)
    rwa [show tagOf (newN es).toNat = tagN (newN es) by unfold tagOf tagN; rw [Int.toNat_of_nonneg (by omega)]] at this
  exact ⟨h3, hb.2⟩
theorem Good.add {es : List Ent} (l : List Bundle) (h : Good es) (hl : es.length + l.length ≤ 1000) (hb : ∀ b ∈ l, okBun b) : Good (addB es l) := by
  induction l generalizing es with
  | nil => exact h
  | cons b l ih =>
    simp only [List.length_cons] at hl; refine ih (es := es ++ [newE (retag es b)]) ⟨by simp; omega, fun e he => ?_, ?_⟩ (by simp; omega) fun x hx => hb x (by simp [hx])
    · rcases List.mem_append.1 he with he | he
      · exact h.ok e he
      · obtain rfl := List.mem_singleton.1 he; exact retag_ok (by omega) (hb b (by simp))
    · rw [List.pairwise_append]; refine ⟨h.tags, by simp, fun x hx y hy => ?_⟩; obtain rfl := List.mem_singleton.1 hy; have := (newN_spec es).1; rw [used_iff] at this; exact fun e => this ⟨x, hx, e⟩
end Go.Proofs.YthpjfkmhpoeojaaGreatDoor
