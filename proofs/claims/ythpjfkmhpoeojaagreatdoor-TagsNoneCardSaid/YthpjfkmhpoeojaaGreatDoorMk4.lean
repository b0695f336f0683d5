/-
  Tags: the book and its methods, what they answer.
  Conditions: none.
-/
import Derived.Test.YthpjfkmhpoeojaaGreatDoorBd3
import Derived.Test.YthpjfkmhpoeojaaGreatDoorAmBld
import Derived.Shelf.Lay
import Derived.Ground.NamesProg
import Derived.Test.YthpjfkmhpoeojaaGreatDoorRbend

namespace Go.Proofs.YthpjfkmhpoeojaaGreatDoor
open Go Go.AM
set_option linter.unusedSimpArgs false
set_option linter.unusedVariables false
set_option maxRecDepth 100000
set_option maxHeartbeats 1000000
theorem dig_init {n : Int} (h : 0 ≤ n) : Go.Lib.itoa n = if n = 0 ∧ ([] : List UInt8) = [] then [48] else digZ n ++ [] := by
  by_cases h0 : n = 0
  · subst h0; rw [if_pos ⟨rfl, rfl⟩, show (0 : Int) = ((0 : Nat) : Int) from rfl, Go.Lib.itoa_nonneg, Go.Lib.decDigits]; rfl
  · rw [if_neg (fun h => h0 h.1), List.append_nil, digZ, if_neg h0]
theorem dig_step {N m : Int} {out : List UInt8} (h0 : 0 ≤ m) (h : Go.Lib.itoa N = if m = 0 ∧ out = [] then [48] else digZ m ++ out) (hc : 0 < m ∨ out.length < 1) :
    Go.Lib.itoa N = if m / 10 = 0 ∧ [UInt8.ofNat (48 + m % 10).toNat] ++ out = [] then [48] else digZ (m / 10) ++ ([UInt8.ofNat (48 + m % 10).toNat] ++ out) := by
  rw [if_neg (fun h => by simp at h)]
  by_cases hm : 0 < m
  · rw [if_neg (fun h => by omega), digZ_pos hm, List.append_assoc] at h; exact h
  · obtain rfl : m = 0 := by omega
    obtain rfl : out = [] := List.eq_nil_of_length_eq_zero (by omega); rw [if_pos ⟨rfl, rfl⟩] at h; rw [h]; rfl
theorem dig_end {N m : Int} {out : List UInt8} (h : Go.Lib.itoa N = if m = 0 ∧ out = [] then [48] else digZ m ++ out) (h0 : 0 ≤ m) (h1 : ¬ 0 < m) (h2 : ¬ out.length < 1) : out = Go.Lib.itoa N := by
  obtain rfl : m = 0 := by omega
  rw [if_neg (fun h => by rw [h.2] at h2; exact h2 (by decide))] at h; rw [h]; rfl
theorem dig_len {N m : Int} {out : List UInt8} (hN : 0 ≤ N ∧ N ≤ 1099511627777) (h : Go.Lib.itoa N = if m = 0 ∧ out = [] then [48] else digZ m ++ out) : out.length ≤ 21 := by
  have h1 := itoa_len hN.1 hN.2; rw [h] at h1
  split at h1
  · rename_i e; rw [e.2]; decide
  · rw [List.length_append] at h1; omega
theorem digits_fun (n : Int) (h0 : 0 ≤ n) (h1 : n ≤ 1099511627777) : Fun Tryz.prog 81 [.lit (.int .i64 n), .lit (.int .i64 1)] (Ret (.lit (str (Go.Lib.itoa n))) []) := by
  refine Fun.of (nt := 25) (rs := [.tmp 4]) Tryz.func81 rfl rfl rfl rfl rfl ?_; refine Ev.sr fun K hK => S.o q.as (S.end (hK _ ?_)); clear hK K; refine Ev.sr fun K hK => S.o q.as (S.end (hK _ ?_)); clear hK K; refine Ev.seq ?_; refine Ev.block ?_; refine Ev.loopU (ι := {q : Int × List UInt8 // 0 ≤ q.1 ∧ q.1 ≤ 1099511627777 ∧ Go.Lib.itoa n = if q.1 = 0 ∧ q.2 = [] then [48] else digZ q.1 ++ q.2}) [] [1, 4] (fun ⟨(m, out), _⟩ => [(0, .lit (.int .i64 (m))), (5, .lit (str (out)))]) (fun ⟨(m, out), _⟩ => []) (fun ⟨(m, out), _⟩ => m.toNat + (1 - out.length)) ⟨(n, []), h0, h1, dig_init h0⟩ (.c (.c .n)) keep_n (slots_c (he := (by first | rfl | (simp; done) | (congr 2; omega))) (h := (slots_c (he := (by first | rfl | (simp; done) | (congr 2; omega))) (h := trivial)))) ?_; rintro ⟨⟨m, out⟩, hm, hM, hE⟩ R0 hR0; dsimp only [List.cons_append, List.nil_append, List.length_cons, List.length_nil]
  simp only at hm hM hE
  have hol := dig_len ⟨h0, h1⟩ hE; refine Ev.seq ?_; refine Ev.sr fun K hK => S.o q.mv (S.o q.gtr (S.bd q.mv (fun c1 => ?_) (fun c1 => ?_)))
  · first
  | omega | contradiction
  | refine S.sk (S.sk (S.sk (S.sk (S.o q.pt (S.end (hK _ ?_)))))); clear hK K; refine Ev.ct ?_; refine Ev.skip ?_; show Ev _ _ _ _; refine Ev.block ?_; refine Ev.sr fun K hK => S.o q.mv (S.o q.rem (S.o q.add (S.o (q.cvb am_un5 am_us3) (S.nn (q.bs [[_]] true am_el133 am_ze5 am_cl5) (S.cstr ([UInt8.ofNat (48 + m % 10).toNat]) (by kernel_rfl : Tryz.prog.underlying 133 = some (.slice 5)) (by kernel_rfl : Tryz.prog.underlying 5 = some (.int .u8)) (by kernel_rfl : Tryz.prog.underlying 9 = some .string) (hrows := dig_byte (by omega)) (h := S.o q.mv (S.o q.sadd (S.o q.as (S.end (hK _ ?_)))))))))); clear hK K; refine Ev.region_S fun K hK => S.o q.mv (S.o q.quo (S.o q.as (S.end (hK _ ?_)))); clear hK K; refine hR0 _ _ ?_; refine roundU [] [1, 4] ⟨(m / 10, [UInt8.ofNat (48 + m % 10).toNat] ++ out), by dsimp only; omega, by dsimp only; omega, dig_step hm hE (by omega)⟩ ?_ keep_n (slots_c (he := (by first | rfl | (simp; done) | (congr 2; omega))) (h := (slots_c (he := (by first | rfl | (simp; done) | (congr 2; omega))) (h := trivial)))) (.c (.c .n)); skip; all_goals (dsimp only; simp only [List.length_cons, List.length_append, List.length_nil]; omega)
  · first
  | omega | contradiction
  | refine S.o q.mv (S.o (q.slen am_el9 am_un9) (S.o q.mv (S.o q.lss (S.o q.pf (S.end (hK _ ?_)))))); clear hK K; refine Ev.cd (fun c2 => ?_) (fun c2 => ?_)
    · first
    | omega | contradiction
    | refine Ev.skip ?_; show Ev _ _ _ _; refine Ev.block ?_; refine Ev.sr fun K hK => S.o q.mv (S.o q.rem (S.o q.add (S.o (q.cvb am_un5 am_us3) (S.nn (q.bs [[_]] true am_el133 am_ze5 am_cl5) (S.cstr ([UInt8.ofNat (48 + m % 10).toNat]) (by kernel_rfl : Tryz.prog.underlying 133 = some (.slice 5)) (by kernel_rfl : Tryz.prog.underlying 5 = some (.int .u8)) (by kernel_rfl : Tryz.prog.underlying 9 = some .string) (hrows := dig_byte (by omega)) (h := S.o q.mv (S.o q.sadd (S.o q.as (S.end (hK _ ?_)))))))))); clear hK K; refine Ev.region_S fun K hK => S.o q.mv (S.o q.quo (S.o q.as (S.end (hK _ ?_)))); clear hK K; refine hR0 _ _ ?_; refine roundU [] [1, 4] ⟨(m / 10, [UInt8.ofNat (48 + m % 10).toNat] ++ out), by dsimp only; omega, by dsimp only; omega, dig_step hm hE (by omega)⟩ ?_ keep_n (slots_c (he := (by first | rfl | (simp; done) | (congr 2; omega))) (h := (slots_c (he := (by first | rfl | (simp; done) | (congr 2; omega))) (h := trivial)))) (.c (.c .n)); skip; all_goals (dsimp only; simp only [List.length_cons, List.length_append, List.length_nil]; omega)
    · first
    | omega | contradiction
    | refine Ev.exit ?_; refine hR0 _ _ ?_; show Ev _ _ _ _; refine Ev.sr fun K hK => S.o q.mv (S.o q.as (S.end (hK _ ?_))); clear hK K; refine Ev.ret ?_; refine Ev.ret1 ?_; refine ⟨?_, rfl⟩
      (rw [dig_end hE hm (by omega) (by omega)]; done)
theorem format_fun (n : Int) (h0 : 0 ≤ n) (h1 : n ≤ 1099511627777) : Fun Tryz.prog 65 [.lit (.int .i64 n), .lit (.int .i64 0)] (Ret (.lit (str (Go.Lib.itoa n))) []) := by
  have hil := itoa_len h0 h1; refine Fun.of (nt := 36) (rs := [.tmp 4]) Tryz.func65 rfl rfl rfl rfl rfl ?_; refine Ev.sr fun K hK => S.o q.as (S.end (hK _ ?_)); clear hK K; refine Ev.sr fun K hK => S.o q.as (S.end (hK _ ?_)); clear hK K; refine Ev.seq ?_; refine Ev.sr fun K hK => S.o q.mv (S.o q.lss (S.end (hK _ ?_))); clear hK K; refine Ev.cd (fun c1 => ?_) (fun c1 => ?_)
  · first
  | omega | contradiction
  | omega
  · first
  | omega | contradiction
  | refine Ev.skip ?_; show Ev _ _ _ _; refine Ev.sr fun K hK => S.o q.mv (S.o q.mv (S.o q.add (S.c0 (hF := digits_fun _ (by omega) (by omega)) (h := S.o q.as (S.end (hK _ ?_)))))); clear hK K; refine Ev.seq ?_; refine Ev.sr fun K hK => S.o q.mv (S.o q.eql (S.end (hK _ ?_))); clear hK K; refine Ev.cd (fun c2 => ?_) (fun c2 => ?_)
    · first
    | omega | contradiction
    | refine Ev.sr fun K hK => S.o q.mv (S.o q.mv (S.o q.sadd (S.o q.as (S.end (hK _ ?_))))); clear hK K; refine Ev.ret ?_; refine Ev.ret1 ?_; refine ⟨?_, rfl⟩; rfl
    · first
    | omega | contradiction
    | refine Ev.skip ?_; show Ev _ _ _ _; omega
theorem number_fun (n : Int) (h0 : 0 ≤ n) (h1 : n ≤ 1099511627777) : Fun Tryz.prog 64 [.lit (.int .i64 n)] (Ret (.lit (str (Go.Lib.itoa n))) []) := by
  have hil := itoa_len h0 h1; refine Fun.of (nt := 5) (rs := [.tmp 2]) Tryz.func64 rfl rfl rfl rfl rfl ?_; refine Ev.sr fun K hK => S.o q.as (S.end (hK _ ?_)); clear hK K; refine Ev.sr fun K hK => S.o q.mv (S.c0 (hF := format_fun _ (by omega) (by omega)) (h := S.o q.as (S.end (hK _ ?_)))); clear hK K; refine Ev.ret ?_; refine Ev.ret1 ?_; refine ⟨?_, rfl⟩; rfl
end Go.Proofs.YthpjfkmhpoeojaaGreatDoor
namespace Go.Proofs.YthpjfkmhpoeojaaGreatDoor
open Go Go.AM
set_option linter.unusedSimpArgs false
set_option linter.unusedVariables false
set_option maxRecDepth 100000
set_option maxHeartbeats 1000000
theorem indexInBar1 (g : FuncId) (c0 : List AV) (p : Bar → Bool) (l : List (Bar)) (hg : ∀ s ∈ l, Fun Tryz.prog g [.agg (Bar.c s), .sadr c0 0] (Ret (.lit (.bool (p s))) [])) (hlen : l.length ≤ 140737488355328) :
    Fun Tryz.prog 52 [.sh 5 (l.map Bar.c), .fn (.func g) [] [.sadr c0 0]] (Ret (.lit (.int .i64 (idxP p l 0))) []) := by
  refine Fun.of (nt := 19) (rs := [.tmp 4]) Tryz.func52 rfl rfl rfl rfl rfl ?_; refine Ev.sr fun K hK => S.o q.as (S.end (hK _ ?_)); clear hK K; refine Ev.seq ?_; refine Ev.sr fun K hK => S.o q.mv (S.o (q.lens am_el32) (S.o q.mv (S.end (hK _ ?_)))); clear hK K; refine Ev.block ?_; refine Ev.loopU (ι := {q : List (Bar) × List (Bar) // q.1 ++ q.2 = l ∧ ∀ x ∈ q.1, p x = false}) [] [0, 1, 7] (fun ⟨(pre, suf), _⟩ => [(8, .lit (.int .i64 ((pre.length : Int))))]) (fun ⟨(pre, suf), _⟩ => []) (fun ⟨(pre, suf), _⟩ => suf.length) ⟨([], l), rfl, fun x hx => by simp at hx⟩ (.c (.c (.c .n))) keep_n (slots_c (he := (by first | rfl | (simp; done) | (congr 2; omega))) (h := trivial)) ?_; rintro ⟨⟨pre, suf⟩, hp, hinv⟩ R0 hR0; dsimp only [List.cons_append, List.nil_append, List.length_cons, List.length_nil]
  simp only at hp hinv
  have hpl : pre.length + suf.length = (l).length := by rw [← hp, List.length_append]
  rcases suf with _ | ⟨s, suf⟩
  · rw [List.append_nil] at hp; subst hp; simp only [List.length_nil] at hpl; refine Ev.sr fun K hK => S.o q.lss (S.end (hK _ ?_)); clear hK K; refine Ev.ud (fun c1 => ?_) (fun c1 => ?_)
    · first | omega | contradiction | (exfalso; simp at *; done)
    · first
    | omega | contradiction
    | refine Ev.exit ?_; refine hR0 _ _ ?_; show Ev _ _ _ _; refine Ev.sr fun K hK => S.o q.as (S.end (hK _ ?_)); clear hK K; refine Ev.ret ?_; refine Ev.ret1 ?_; refine ⟨?_, rfl⟩
      first | (congr 2; rw [← hp, idxP_append p pre _ 0 hinv, idxP, if_pos ‹_›]; omega) | (congr 2; rw [idxP_none p pre 0 hinv])
  · simp only [List.length_cons] at hpl
    have hidx : (l)[pre.length]? = some s := by rw [← hp]; simp
    refine Ev.sr fun K hK => S.o q.lss (S.end (hK _ ?_)); clear hK K; refine Ev.ud (fun c2 => ?_) (fun c2 => ?_)
    · first
    | omega | contradiction
    | refine Ev.seq ?_; refine Ev.block ?_; refine Ev.sr fun K hK => S.o q.mv (S.o q.as (S.end (hK _ ?_))); clear hK K; refine Ev.sr fun K hK => S.o q.mv (S.o q.mv (S.o q.mv (S.o (q.ix am_el32 am_cl56 (hl := (by first | exact ati hidx (by omega) | exact atig (by omega)))) (S.o (q.lsA [_, _, _, _, _] am_ag56 am_cl56) (S.c0 (hF := hg s (by rw [← hp]; simp)) (h := S.end (hK _ ?_))))))); clear hK K; refine Ev.c (fun c3 => ?_) (fun c3 => ?_)
      · first
      | omega | contradiction
      | refine Ev.sr fun K hK => S.o q.mv (S.o q.as (S.end (hK _ ?_))); clear hK K; refine Ev.ret ?_; refine hR0 _ _ ?_; refine Ev.ret1 ?_; refine ⟨?_, rfl⟩
        first | (congr 2; rw [← hp, idxP_append p pre _ 0 hinv, idxP, if_pos ‹_›]; omega) | (congr 2; rw [idxP_none p pre 0 hinv])
      · first
      | omega | contradiction
      | refine Ev.skip ?_; show Ev _ _ _ _; refine Ev.region_S fun K hK => S.o q.add (S.o q.mv (S.end (hK _ ?_))); clear hK K; refine hR0 _ _ ?_; refine roundU [] [0, 1, 7] ⟨(pre ++ [s], suf), by rw [← hp]; simp, ?_⟩ ?_ keep_n (slots_c (he := (by first | rfl | (simp; done) | (congr 2; omega))) (h := trivial)) (.c (.c (.c .n)))
        intro x hx; simp only [List.mem_append, List.mem_singleton] at hx; rcases hx with hx | rfl
        · exact hinv x hx
        · assumption
        all_goals (dsimp only; simp only [List.length_cons]; omega)
    · first | omega | contradiction | (exfalso; simp at *; done)
theorem containsInBar1 (g : FuncId) (c0 : List AV) (p : Bar → Bool) (l : List (Bar)) (hg : ∀ s ∈ l, Fun Tryz.prog g [.agg (Bar.c s), .sadr c0 0] (Ret (.lit (.bool (p s))) [])) (hlen : l.length ≤ 140737488355328) :
    Fun Tryz.prog 49 [.sh 5 (l.map Bar.c), .fn (.func g) [] [.sadr c0 0]] (Ret (.lit (.bool (decide (∃ x ∈ l, p x = true)))) []) := by
  have hd : (decide (∃ x ∈ l, p x = true)) = decide (0 ≤ idxP p l 0) := by simp only [idxP_nonneg p l 0 (Int.le_refl _)]
  rw [hd]; refine Fun.of (nt := 9) (rs := [.tmp 4]) Tryz.func49 rfl rfl rfl rfl rfl ?_; refine Ev.sr fun K hK => S.o q.as (S.end (hK _ ?_)); clear hK K; refine Ev.sr fun K hK => S.o q.mv (S.o q.mv (S.c0 (hF := indexInBar1 g c0 p l hg hlen) (h := S.o q.geq (S.o q.as (S.end (hK _ ?_)))))); clear hK K; refine Ev.ret ?_; refine Ev.ret1 ?_; refine ⟨?_, rfl⟩; rfl
open Go.Shelf in
shelf_lay LaysM.n171 Nm 171 at Tryz as lays171
theorem itoa41_fun {n : Int} (h0 : 0 ≤ n) (h1 : n ≤ 1099511627777) : Fun Tryz.prog 35 [.lit (.int .i64 n)] (Ret (.lit (str (Go.Lib.itoa n))) []) :=
  itoa_fun lays171 ⟨_, Tryz.func35, rfl, rfl⟩ (g := 0) (by kernel_rfl) (by unfold laidG; exact List.mem_singleton.2 rfl) (by omega) (by omega)
theorem okV_cut {b : Bar} (h : okBar b) : okV b (cutOf b) = cutOf b ∧ okE b = 0 ∧ szV b.size (massOf b.size (cutOf b)) = oneOf b ∧ 0 ≤ cutOf b ∧ cutOf b ≤ 1048576 := by
  obtain ⟨h1, h2⟩ := cutOf_bd h; exact ⟨okV_in h, okE_in h, szV_in h.2.1, by omega, h2⟩
theorem okBar_w {b : Bar} (h : okBar b) : b.w := by
  have h1 := isName_len h.1; have h2 := (dims_eq b.code).2.2.1; have h3 := h.2.2.2.2.2.1; exact ⟨by omega, by omega⟩
theorem bone_fun (b : Bar) (hok : okBar b) : Fun Tryz.prog 54 [.agg b.c] (Ret (.lit (.int .i64 (oneOf b))) []) := by
  have hw := okBar_w hok; obtain ⟨e1, e2, e3, e4, e5⟩ := okV_cut hok; refine Fun.of (nt := 20) (rs := [.tmp 2]) Tryz.func54 rfl rfl rfl rfl rfl ?_; refine Ev.sr fun K hK => S.nn (q.bx [_, _, _, _, _] true) (S.o q.as (S.end (hK _ ?_))); clear hK K; refine Ev.sr fun K hK => S.o (q.lvA [_, _, _, _, _] am_ag56 am_cl56) (S.c0 (hF := cut_fun _ (by assumption)) (h := S.o q.mv (S.o q.ex (S.o q.ex (S.o q.as (S.o q.as (S.end (hK _ ?_)))))))); clear hK K; rw [e1]; refine Ev.sr fun K hK => S.o (q.fa 1 am_fi56_1 am_cl3) (S.o (q.lv am_ag3) (S.o q.mv (S.c0 (hF := Mass_fun _ _ (by omega) (by omega)) (h := S.o q.mv (S.o q.ex (S.o q.ex (S.o q.as (S.o q.as (S.end (hK _ ?_)))))))))); clear hK K; rw [e3]; refine Ev.sr fun K hK => S.o q.mv (S.o q.as (S.end (hK _ ?_))); clear hK K; refine Ev.ret ?_; refine Ev.ret1 ?_; refine ⟨?_, rfl⟩; rfl
theorem make1_fun (most : Int) (b : Bar) (hok : okBar b) : Fun Tryz.prog 53 [.agg b.c, .sadr [.lit (.int .i64 most)] 0] (Ret (.lit (.bool (decide (most < oneOf b)))) []) := by
  refine Fun.of (nt := 8) (rs := [.tmp 3]) Tryz.func53 rfl rfl rfl rfl rfl ?_; refine Ev.sr fun K hK => S.nn (q.bx [_, _, _, _, _] true) (S.o q.as (S.end (hK _ ?_))); clear hK K; refine Ev.sm (tbs [(0, 0), (1, 1), (0, 0), (3, 7), (4, 15)]) 4 fun K hK => M.o (q.lvA [_, _, _, _, _] am_ag56 am_cl56) (M.c0 (hF := bone_fun _ (by assumption)) (h := M.o (q.ls am_ag3) (M.o q.gtr (M.end [_] (h := S.o q.as (S.end (hK _ ?_))))))); clear hK K; refine Ev.ret ?_; refine Ev.ret1 ?_; refine ⟨?_, rfl⟩; rfl
theorem mk1 {l : List Bar} {most : Int} (h : ¬ okSched l) : makeV l most = [] ∧ makeE l most = 1 := by
  have e : makeE l most = 1 := if_neg h; exact ⟨if_neg (by rw [e]; decide), e⟩
theorem mk2 {l : List Bar} {most : Int} (h : okSched l) (h2 : ¬ (1 ≤ most ∧ most ≤ 1099511627776)) : makeV l most = [] ∧ makeE l most = 2 := by
  have e : makeE l most = 2 := by unfold makeE; rw [if_pos h, if_neg h2]
  exact ⟨if_neg (by rw [e]; decide), e⟩
theorem mk3 {l : List Bar} {most : Int} (h : okSched l) (h2 : 1 ≤ most ∧ most ≤ 1099511627776) (h3 : overP most l) : makeV l most = [] ∧ makeE l most = 20 := by
  have e : makeE l most = 20 := by unfold makeE; rw [if_pos h, if_pos h2, if_pos h3]
  exact ⟨if_neg (by rw [e]; decide), e⟩
theorem mk4 {l : List Bar} {most : Int} (h : okSched l) (h2 : 1 ≤ most ∧ most ≤ 1099511627776) (h3 : ¬ overP most l) (h4 : ¬ (units most l).length ≤ 1000) : makeV l most = [] ∧ makeE l most = 4 := by
  have e : makeE l most = 4 := by unfold makeE; rw [if_pos h, if_pos h2, if_neg h3, if_neg h4]
  exact ⟨if_neg (by rw [e]; decide), e⟩
theorem mk0 {l : List Bar} {most : Int} (h : okSched l) (h2 : 1 ≤ most ∧ most ≤ 1099511627776) (h3 : ¬ overP most l) (h4 : (units most l).length ≤ 1000) : makeV l most = bunL 0 (units most l) ∧ makeE l most = 0 := by
  have e : makeE l most = 0 := by unfold makeE; rw [if_pos h, if_pos h2, if_neg h3, if_pos h4]
  exact ⟨if_pos e, e⟩
theorem not_over {most : Int} {l : List Bar} (h : ¬ overP most l) : ∀ b ∈ l, oneOf b ≤ most := by
  intro b hb
  by_cases h1 : most < oneOf b
  · exact absurd ⟨b, hb, decide_eq_true h1⟩ h
  · omega
theorem over_no {most : Int} {l : List Bar} (h : ∀ b ∈ l, oneOf b ≤ most) : ¬ overP most l := by
  rintro ⟨b, hb, e⟩; have h1 := h b hb; have h2 := of_decide_eq_true e; omega
theorem units_nil (most : Int) : units most [] = [] := rfl
theorem unit_mass {most left : Int} {s : Bar} (hs : okBar s) (hm : oneOf s ≤ most) (hM : most ≤ 1099511627776) (h0 : 0 < left) : 1 ≤ min left (most / oneOf s) ∧ 0 ≤ min left (most / oneOf s) * oneOf s ∧ min left (most / oneOf s) * oneOf s ≤ 1099511627776 := by
  obtain ⟨w1, w2⟩ := whole_pos hs hm; obtain ⟨o1, _⟩ := one_bd hs; have h3 := Int.mul_nonneg (show 0 ≤ min left (most / oneOf s) by omega) (show 0 ≤ oneOf s by omega); have h4 := (Int.le_ediv_iff_mul_le (show 0 < oneOf s by omega)).1 (show min left (most / oneOf s) ≤ most / oneOf s by omega); exact ⟨by omega, h3, by omega⟩
theorem bunN_snoc (k : Nat) (l : List Unit2) (u : Unit2) (h : k = l.length) : bunL 0 l ++ [bun k u] = bunL 0 (l ++ [u]) := by
  subst h; rw [bunL_snoc, Nat.zero_add]
theorem bmake_fun (l : List Bar) (most : Int) (hlen : l.length ≤ 140737488355328) (hw : schedW l) : Fun Tryz.prog 33 [.sh 5 (l.map Bar.c), .lit (.int .i64 most)] (Ret (.tup [.sh 4 ((makeV l most).map Bundle.c), .lit (.int .i64 (makeE l most))]) []) := by
  refine Fun.of (nt := 70) (rs := [.tmp 4, .tmp 5]) Tryz.func33 rfl rfl rfl rfl rfl ?_; refine Ev.sr fun K hK => S.nn (q.bx [_] true) (S.o q.as (S.o q.as (S.end (hK _ ?_)))); clear hK K; refine Ev.seq ?_; refine Ev.block ?_; refine Ev.sr fun K hK => S.o q.mv (S.c0 (hF := schedValid_fun _ (by omega) (by assumption)) (h := S.o q.not (S.o q.as (S.end (hK _ ?_))))); clear hK K; refine Ev.cn (fun c1 => ?_) (fun c1 => ?_)
  · first
  | omega | contradiction
  | refine Ev.sr fun K hK => S.o q.as (S.o q.as (S.end (hK _ ?_))); clear hK K; refine Ev.weaken (Wk.nsh Bundle.c 4 4) ?_; refine Ev.ret ?_; refine Ev.ret2 ?_; refine ⟨?_, rfl⟩
    first
     | (rw [(mk1 ‹¬ okSched l›).1, (mk1 (most := most) ‹¬ okSched l›).2]; done)
     | (rw [(mk2 ‹okSched l› (by omega)).1, (mk2 (most := most) ‹okSched l› (by omega)).2]; done)
     | (rw [(mk3 hS hR ‹_›).1, (mk3 hS hR ‹_›).2]; done)
     | (have h4 := fill_full hp hsok hm1 (by omega) hq (by rw [bunL_len] at *; omega); rw [(mk4 hS hR hO h4).1, (mk4 hS hR hO h4).2]; done)
     | (rw [(mk0 hS hR hO hinv).1, (mk0 hS hR hO hinv).2]; done)
  · first
  | omega | contradiction
  | refine Ev.sr fun K hK => S.o (q.lv am_ag3) (S.o q.lss (S.bd q.mv (fun c2 => ?_) (fun c2 => ?_)))
    · first
    | omega | contradiction
    | refine S.sk (S.sk (S.o q.pt (S.o q.as (S.end (hK _ ?_))))); clear hK K; refine Ev.ct ?_; refine Ev.sr fun K hK => S.o q.as (S.o q.as (S.end (hK _ ?_))); clear hK K; refine Ev.weaken (Wk.nsh Bundle.c 4 4) ?_; refine Ev.ret ?_; refine Ev.ret2 ?_; refine ⟨?_, rfl⟩
      first
       | (rw [(mk1 ‹¬ okSched l›).1, (mk1 (most := most) ‹¬ okSched l›).2]; done)
       | (rw [(mk2 ‹okSched l› (by omega)).1, (mk2 (most := most) ‹okSched l› (by omega)).2]; done)
       | (rw [(mk3 hS hR ‹_›).1, (mk3 hS hR ‹_›).2]; done)
       | (have h4 := fill_full hp hsok hm1 (by omega) hq (by rw [bunL_len] at *; omega); rw [(mk4 hS hR hO h4).1, (mk4 hS hR hO h4).2]; done)
       | (rw [(mk0 hS hR hO hinv).1, (mk0 hS hR hO hinv).2]; done)
    · first
    | omega | contradiction
    | refine S.o (q.lv am_ag3) (S.o q.gtr (S.o q.pf (S.o q.as (S.end (hK _ ?_))))); clear hK K; refine Ev.cd (fun c3 => ?_) (fun c3 => ?_)
      · first
      | omega | contradiction
      | refine Ev.sr fun K hK => S.o q.as (S.o q.as (S.end (hK _ ?_))); clear hK K; refine Ev.weaken (Wk.nsh Bundle.c 4 4) ?_; refine Ev.ret ?_; refine Ev.ret2 ?_; refine ⟨?_, rfl⟩
        first
         | (rw [(mk1 ‹¬ okSched l›).1, (mk1 (most := most) ‹¬ okSched l›).2]; done)
         | (rw [(mk2 ‹okSched l› (by omega)).1, (mk2 (most := most) ‹okSched l› (by omega)).2]; done)
         | (rw [(mk3 hS hR ‹_›).1, (mk3 hS hR ‹_›).2]; done)
         | (have h4 := fill_full hp hsok hm1 (by omega) hq (by rw [bunL_len] at *; omega); rw [(mk4 hS hR hO h4).1, (mk4 hS hR hO h4).2]; done)
         | (rw [(mk0 hS hR hO hinv).1, (mk0 hS hR hO hinv).2]; done)
      · first
      | omega | contradiction
      | have hS : okSched l := ‹okSched l›
        have hR : 1 ≤ most ∧ most ≤ 1099511627776 := by omega
        refine Ev.sr fun K hK => S.o q.mv (S.o q.mf (S.c0 (hF := containsInBar1 _ _ (fun b => decide (most < oneOf b)) l (fun s hs => make1_fun most s (hS.2.1 s hs)) hlen) (h := S.o q.as (S.end (hK _ ?_))))); clear hK K; refine Ev.cd (fun c4 => ?_) (fun c4 => ?_)
        · first
        | omega | contradiction
        | refine Ev.sr fun K hK => S.o q.as (S.o q.as (S.end (hK _ ?_))); clear hK K; refine Ev.weaken (Wk.nsh Bundle.c 4 4) ?_; refine Ev.ret ?_; refine Ev.ret2 ?_; refine ⟨?_, rfl⟩
          first
           | (rw [(mk1 ‹¬ okSched l›).1, (mk1 (most := most) ‹¬ okSched l›).2]; done)
           | (rw [(mk2 ‹okSched l› (by omega)).1, (mk2 (most := most) ‹okSched l› (by omega)).2]; done)
           | (rw [(mk3 hS hR ‹_›).1, (mk3 hS hR ‹_›).2]; done)
           | (have h4 := fill_full hp hsok hm1 (by omega) hq (by rw [bunL_len] at *; omega); rw [(mk4 hS hR hO h4).1, (mk4 hS hR hO h4).2]; done)
           | (rw [(mk0 hS hR hO hinv).1, (mk0 hS hR hO hinv).2]; done)
        · first
        | omega | contradiction
        | refine Ev.skip ?_; show Ev _ _ _ _; have hO : ¬ overP most l := ‹_›
          refine Ev.sr fun K hK => S.o q.as (S.end (hK _ ?_)); clear hK K; refine Ev.seq ?_; refine Ev.sr fun K hK => S.o q.mv (S.o (q.lens am_el32) (S.o q.mv (S.end (hK _ ?_)))); clear hK K; refine Ev.block ?_; refine Ev.weaken (Wk.nown Bundle.c 6 53 4) ?_; refine Ev.loopU (ι := {p : List (Bar) × List (Bar) // p.1 ++ p.2 = l ∧ (units most p.1).length ≤ 1000}) [0, 1] [3, 28, 29] (fun ⟨(pre, suf), _⟩ => [(30, .lit (.int .i64 ((pre.length : Int)))), (6, .als 1 0 (bunL 0 (units most pre)).length)]) (fun ⟨(pre, suf), _⟩ => [(0, ⟨false, 3, 1, [[.lit (.int .i64 (most))]], true⟩), (1, ⟨true, 53, 4, (bunL 0 (units most pre)).map Bundle.c, true⟩)]) (fun ⟨(pre, suf), _⟩ => suf.length) ⟨([], l), rfl, by rw [units_nil]; decide⟩ (.c (.c (.c .n))) (keep_c (he := (by first | rfl | (simp; done))) (h := (keep_c (he := (by first | rfl | (rw [List.append_nil]; done) | (rw [← List.append_assoc, ← bunN_snoc _ _ _ hbq, List.map_append]; done) | (rw [fill_done (by omega) hq, ← units_snoc]; done))) (h := keep_n)))) (slots_c (he := (by first | rfl | (congr 2; simp; done))) (h := (slots_c (he := (by first | rfl | (rw [List.append_nil]; done) | (refine congrArg (AV.als _ 0) ?_; simp only [bunL_len, List.length_append, List.length_cons, List.length_nil, List.length_map]; omega) | (rw [fill_done (by omega) hq, ← units_snoc]; done))) (h := trivial)))) ?_; rintro ⟨⟨pre, suf⟩, hp, hinv⟩ R1 hR1
          dsimp only [List.cons_append, List.nil_append, List.length_cons, List.length_nil]
          simp only at hp hinv
          have hpl : pre.length + suf.length = (l).length := by rw [← hp, List.length_append]
          rcases suf with _ | ⟨s, suf⟩
          · rw [List.append_nil] at hp; subst pre; simp only [List.length_nil] at hpl; refine Ev.sr fun K hK => S.o q.lss (S.end (hK _ ?_)); clear hK K; refine Ev.ud (fun c5 => ?_) (fun c5 => ?_)
            · first | omega | contradiction | (exfalso; simp at *; done)
            · first
            | omega | contradiction
            | refine Ev.exit ?_; refine hR1 _ _ ?_; show Ev _ _ _ _; refine Ev.sr fun K hK => S.o q.mv (S.o q.as (S.o q.as (S.end (hK _ ?_)))); clear hK K; refine Ev.weaken (Wk.frz 4 [_]) ?_; refine Ev.ret ?_; refine Ev.ret2 ?_; refine ⟨?_, rfl⟩
              first
               | (rw [(mk1 ‹¬ okSched l›).1, (mk1 (most := most) ‹¬ okSched l›).2]; done)
               | (rw [(mk2 ‹okSched l› (by omega)).1, (mk2 (most := most) ‹okSched l› (by omega)).2]; done)
               | (rw [(mk3 hS hR ‹_›).1, (mk3 hS hR ‹_›).2]; done)
               | (have h4 := fill_full hp hsok hm1 (by omega) hq (by rw [bunL_len] at *; omega); rw [(mk4 hS hR hO h4).1, (mk4 hS hR hO h4).2]; done)
               | (rw [(mk0 hS hR hO hinv).1, (mk0 hS hR hO hinv).2]; done)
          · simp only [List.length_cons] at hpl
            have hidx : (l)[pre.length]? = some s := by rw [← hp]; simp
            have hsok : okBar s := hS.2.1 s (by rw [← hp]; simp); have hm1 := not_over hO s (by rw [← hp]; simp); obtain ⟨o1, o2⟩ := one_bd hsok; obtain ⟨w1, w2⟩ := whole_pos hsok hm1; have hbl := bunL_len (units most pre) 0; have hsc := hsok.2.2.2.1; have hsc0 := hsok.2.2.1; refine Ev.sr fun K hK => S.o q.lss (S.end (hK _ ?_)); clear hK K; refine Ev.ud (fun c6 => ?_) (fun c6 => ?_)
            · first
            | omega | contradiction
            | refine Ev.seq ?_; refine Ev.block ?_; refine Ev.sr fun K hK => S.o (q.ix am_el32 am_cl56 (hl := (by first | exact ati hidx (by omega) | exact atig (by omega)))) (S.o (q.lsA [_, _, _, _, _] am_ag56 am_cl56) (S.nn (q.al am_ze56) (S.sv [_, _, _, _, _] true [_, _] am_in56 am_cl56 (h := S.end (hK _ ?_))))); clear hK K; refine Ev.sr fun K hK => S.o (q.lvA [_, _, _, _, _] am_ag56 am_cl56) (S.c0 (hF := bone_fun _ (by assumption)) (h := S.o q.as (S.end (hK _ ?_)))); clear hK K; refine Ev.sr fun K hK => S.o (q.lv am_ag3) (S.o q.mv (S.o q.max (S.o q.quo (S.o q.as (S.end (hK _ ?_)))))); clear hK K; rw [show max 1 (oneOf s) = oneOf s by omega]; refine Ev.sr fun K hK => S.o (q.fa 2 am_fi56_2 am_cl3) (S.o (q.lv am_ag3) (S.o q.as (S.end (hK _ ?_)))); clear hK K; refine Ev.block ?_
              refine Ev.loopU (ι := {q : List Unit2 × Int // q.1 ++ (chunks (most / oneOf s) q.2).map (fun n => (s, n)) = unitsB most s ∧ 0 ≤ q.2 ∧ q.2 ≤ 1000 ∧ (units most pre ++ q.1).length ≤ 1000}) [0, 1, 2] [3, 8, 9, 10, 28, 29, 30, 31, 32, 33, 34, 35, 36, 37, 38, 39, 40, 41] (fun ⟨(us, left), _⟩ => [(11, .lit (.int .i64 (left))), (6, .als 1 0 (bunL 0 (units most pre ++ us)).length)]) (fun ⟨(us, left), _⟩ => [(0, ⟨false, 3, 1, [[.lit (.int .i64 (most))]], true⟩), (1, ⟨true, 53, 4, (bunL 0 (units most pre ++ us)).map Bundle.c, true⟩), (2, ⟨false, 56, 5, [[.lit (str (s.mark)), .lit (.int .i64 (s.size)), .lit (.int .i64 (s.count)), .lit (.int .i64 (s.code)), .sh 1 ((s.dims).map intC)]], true⟩)]) (fun ⟨(us, left), _⟩ => left.toNat) ⟨([], s.count), rfl, by dsimp only; omega, by dsimp only; omega, by rw [List.append_nil]; exact hinv⟩ (.c (.c (.c (.c (.c (.c (.c (.c (.c (.c (.c (.c (.c (.c (.c (.c (.c (.c .n)))))))))))))))))) (keep_c (he := (by first | rfl | (simp; done))) (h := (keep_c (he := (by first | rfl | (rw [List.append_nil]; done) | (rw [← List.append_assoc, ← bunN_snoc _ _ _ hbq, List.map_append]; done) | (rw [fill_done (by omega) hq, ← units_snoc]; done))) (h := (keep_c (he := (by rfl)) (h := keep_n)))))) (slots_c (he := (by rfl)) (h := (slots_c (he := (by first | rfl | (rw [List.append_nil]; done) | (refine congrArg (AV.als _ 0) ?_; simp only [bunL_len, List.length_append, List.length_cons, List.length_nil, List.length_map]; omega) | (rw [fill_done (by omega) hq, ← units_snoc]; done))) (h := trivial)))) ?_
              rintro ⟨⟨us, left⟩, hq, hl0, hl1, hql⟩ R3 hR3; dsimp only [List.cons_append, List.nil_append, List.length_cons, List.length_nil]
              simp only at hq hl0 hl1 hql
              have hbq := bunL_len (units most pre ++ us) 0; refine Ev.seq ?_; refine Ev.sr fun K hK => S.o q.mv (S.o q.gtr (S.end (hK _ ?_))); clear hK K; refine Ev.cd (fun c7 => ?_) (fun c7 => ?_)
              · first
              | omega | contradiction
              | refine Ev.skip ?_; show Ev _ _ _ _; refine Ev.block ?_; refine Ev.sr fun K hK => S.o q.mv (S.o q.mv (S.o q.min (S.o q.as (S.end (hK _ ?_))))); clear hK K; refine Ev.seq ?_; refine Ev.sr fun K hK => S.o q.mv (S.o (q.lena am_el27) (S.o q.eql (S.end (hK _ ?_)))); clear hK K; refine Ev.cd (fun c8 => ?_) (fun c8 => ?_)
                · first
                | omega | contradiction
                | refine Ev.sr fun K hK => S.o q.as (S.o q.as (S.end (hK _ ?_))); clear hK K; refine Ev.weaken (Wk.nsh Bundle.c 4 4) ?_; refine Ev.ret ?_; refine hR3 _ _ ?_; refine hR1 _ _ ?_; refine Ev.ret2 ?_; refine ⟨?_, rfl⟩
                  first
                   | (rw [(mk1 ‹¬ okSched l›).1, (mk1 (most := most) ‹¬ okSched l›).2]; done)
                   | (rw [(mk2 ‹okSched l› (by omega)).1, (mk2 (most := most) ‹okSched l› (by omega)).2]; done)
                   | (rw [(mk3 hS hR ‹_›).1, (mk3 hS hR ‹_›).2]; done)
                   | (have h4 := fill_full hp hsok hm1 (by omega) hq (by rw [bunL_len] at *; omega); rw [(mk4 hS hR hO h4).1, (mk4 hS hR hO h4).2]; done)
                   | (rw [(mk0 hS hR hO hinv).1, (mk0 hS hR hO hinv).2]; done)
                · first
                | omega | contradiction
                | refine Ev.skip ?_; show Ev _ _ _ _; obtain ⟨u1, u2, u3⟩ := unit_mass hsok hm1 hR.2 (show 0 < left by omega); have hil := itoa_len (N := ((bunL 0 (units most pre ++ us)).length : Int) + 1) (by omega) (by omega); refine Ev.sm (tbs [(0, 0), (0, 0), (2, 2), (3, 6), (4, 14), (5, 30), (0, 0), (7, 64), (0, 0), (0, 0), (0, 0), (11, 1536), (12, 4094), (13, 8190), (14, 16383), (15, 32767)]) 14 fun K hK => M.o q.mv (M.o q.mv (M.o (q.lena am_el27) (M.o q.add (M.c0 (hF := itoa41_fun (by omega) (by omega)) (h := M.o q.sadd (M.o (q.fa 0 am_fi56_0 am_cl9) (M.o (q.lv am_ag9) (M.o q.mv (M.o q.mv (M.o q.mv (M.o q.mul (M.o (q.bd [_, _, _, _] am_ze53 am_pl53) (M.nn [_] (q.bs [[_, _, _, _]] true am_el27 am_ze53 am_cl53) (h := M.end [_, _, _, _] (h := S.ap' [_, _, _] am_el27 am_ze53 am_cl53 am_by53 (hh := head_own') (hr := (rows_lit [bun (bunL 0 (units most pre ++ us)).length (s, min left (most / oneOf s))])) (h := S.o q.as (S.end (hK _ ?_)))))))))))))))))); clear hK K; refine Ev.region_S fun K hK => S.o q.mv (S.o q.mv (S.o q.sub (S.o q.as (S.end (hK _ ?_))))); clear hK K; refine hR3 _ _ ?_
                  refine roundU [0, 59, 2] [3, 8, 9, 10, 28, 29, 30, 31, 32, 33, 34, 35, 36, 37, 38, 39, 40, 41] ⟨(us ++ [(s, min left (most / oneOf s))], left - min left (most / oneOf s)), fill_more hsok hm1 (by omega) hq, by dsimp only; omega, by dsimp only; omega, by rw [← List.append_assoc, List.length_append, List.length_singleton]; omega⟩ ?_ (keep_c (he := (by first | rfl | (simp; done))) (h := (keep_c (he := (by first | rfl | (rw [List.append_nil]; done) | (rw [← List.append_assoc, ← bunN_snoc _ _ _ hbq, List.map_append]; done) | (rw [fill_done (by omega) hq, ← units_snoc]; done))) (h := (keep_c (he := (by rfl)) (h := keep_n)))))) (slots_c (he := (by rfl)) (h := (slots_c (he := (by first | rfl | (rw [List.append_nil]; done) | (refine congrArg (AV.als _ 0) ?_; simp only [bunL_len, List.length_append, List.length_cons, List.length_nil, List.length_map]; omega) | (rw [fill_done (by omega) hq, ← units_snoc]; done))) (h := trivial)))) (.c (.c (.c (.c (.c (.c (.c (.c (.c (.c (.c (.c (.c (.c (.c (.c (.c (.c .n)))))))))))))))))); skip; all_goals (dsimp only; omega)
              · first
              | omega | contradiction
              | refine Ev.exit ?_; refine hR3 _ _ ?_; show Ev _ _ _ _; refine Ev.region_S fun K hK => S.o q.add (S.o q.mv (S.end (hK _ ?_))); clear hK K; refine hR1 _ _ ?_; refine roundU [0, 1] [3, 28, 29] ⟨(pre ++ [s], suf), by rw [← hp]; simp, by rw [units_snoc, ← fill_done (by omega) hq]; exact hql⟩ ?_ (keep_c (he := (by first | rfl | (simp; done))) (h := (keep_c (he := (by first | rfl | (rw [List.append_nil]; done) | (rw [← List.append_assoc, ← bunN_snoc _ _ _ hbq, List.map_append]; done) | (rw [fill_done (by omega) hq, ← units_snoc]; done))) (h := keep_n)))) (slots_c (he := (by first | rfl | (congr 2; simp; done))) (h := (slots_c (he := (by first | rfl | (rw [List.append_nil]; done) | (refine congrArg (AV.als _ 0) ?_; simp only [bunL_len, List.length_append, List.length_cons, List.length_nil, List.length_map]; omega) | (rw [fill_done (by omega) hq, ← units_snoc]; done))) (h := trivial)))) (.c (.c (.c .n))); skip; all_goals (dsimp only; simp only [List.length_cons]; omega)
            · first | omega | contradiction | (exfalso; simp at *; done)
end Go.Proofs.YthpjfkmhpoeojaaGreatDoor
namespace Go.Proofs.YthpjfkmhpoeojaaGreatDoor
open Go Go.AM
set_option linter.unusedSimpArgs false
set_option linter.unusedVariables false
set_option maxRecDepth 100000
set_option maxHeartbeats 1000000
theorem rmake_fun (l : List Bar) (most : Int) (hlen : l.length ≤ 140737488355328) (hw : schedW l) : Fun Tryz.prog 44 [.sh 5 (l.map Bar.c), .lit (.int .i64 most)] (Ret (.tup [.sh 4 ((makeV l most).map Bundle.c), .lit (.int .i64 (makeE l most))]) []) := by
  refine Fun.of (nt := 84) (rs := [.tmp 4, .tmp 5]) Tryz.func44 rfl rfl rfl rfl rfl ?_; refine Ev.sr fun K hK => S.o q.as (S.o q.as (S.end (hK _ ?_))); clear hK K; refine Ev.seq ?_; refine Ev.sr fun K hK => S.o q.mv (S.c0 (hF := rschedValid_fun _ (by omega) (by assumption)) (h := S.o q.not (S.end (hK _ ?_)))); clear hK K; refine Ev.cn (fun c1 => ?_) (fun c1 => ?_)
  · first
  | omega | contradiction
  | refine Ev.sr fun K hK => S.o q.as (S.o q.as (S.end (hK _ ?_))); clear hK K; refine Ev.weaken (Wk.nsh Bundle.c 4 4) ?_; refine Ev.ret ?_; refine Ev.ret2 ?_; refine ⟨?_, rfl⟩
    first
     | (rw [(mk1 ‹¬ okSched l›).1, (mk1 (most := most) ‹¬ okSched l›).2]; done)
     | (rw [(mk2 ‹okSched l› (by omega)).1, (mk2 (most := most) ‹okSched l› (by omega)).2]; done)
     | (rw [(mk3 hS hR ⟨s, by rw [← hp]; simp, decide_eq_true ‹_›⟩).1, (mk3 hS hR ⟨s, by rw [← hp]; simp, decide_eq_true ‹_›⟩).2]; done)
     | (have h4 := fill_full hp2 hsok hm1 (by omega) hq (by rw [bunL_len] at *; omega); rw [(mk4 hS hR hO h4).1, (mk4 hS hR hO h4).2]; done)
     | (rw [(mk0 hS hR hO hinv2).1, (mk0 hS hR hO hinv2).2]; done)
  · first
  | omega | contradiction
  | refine Ev.skip ?_; show Ev _ _ _ _; refine Ev.seq ?_; have hS : okSched l := ‹okSched l›; refine Ev.sr fun K hK => S.o q.mv (S.o q.lss (S.bd q.mv (fun c2 => ?_) (fun c2 => ?_)))
    · first
    | omega | contradiction
    | refine S.sk (S.sk (S.o q.pt (S.end (hK _ ?_)))); clear hK K; refine Ev.ct ?_; refine Ev.sr fun K hK => S.o q.as (S.o q.as (S.end (hK _ ?_))); clear hK K; refine Ev.weaken (Wk.nsh Bundle.c 4 4) ?_; refine Ev.ret ?_; refine Ev.ret2 ?_; refine ⟨?_, rfl⟩
      first
       | (rw [(mk1 ‹¬ okSched l›).1, (mk1 (most := most) ‹¬ okSched l›).2]; done)
       | (rw [(mk2 ‹okSched l› (by omega)).1, (mk2 (most := most) ‹okSched l› (by omega)).2]; done)
       | (rw [(mk3 hS hR ⟨s, by rw [← hp]; simp, decide_eq_true ‹_›⟩).1, (mk3 hS hR ⟨s, by rw [← hp]; simp, decide_eq_true ‹_›⟩).2]; done)
       | (have h4 := fill_full hp2 hsok hm1 (by omega) hq (by rw [bunL_len] at *; omega); rw [(mk4 hS hR hO h4).1, (mk4 hS hR hO h4).2]; done)
       | (rw [(mk0 hS hR hO hinv2).1, (mk0 hS hR hO hinv2).2]; done)
    · first
    | omega | contradiction
    | refine S.o q.mv (S.o q.gtr (S.o q.pf (S.end (hK _ ?_)))); clear hK K; refine Ev.cd (fun c3 => ?_) (fun c3 => ?_)
      · first
      | omega | contradiction
      | refine Ev.sr fun K hK => S.o q.as (S.o q.as (S.end (hK _ ?_))); clear hK K; refine Ev.weaken (Wk.nsh Bundle.c 4 4) ?_; refine Ev.ret ?_; refine Ev.ret2 ?_; refine ⟨?_, rfl⟩
        first
         | (rw [(mk1 ‹¬ okSched l›).1, (mk1 (most := most) ‹¬ okSched l›).2]; done)
         | (rw [(mk2 ‹okSched l› (by omega)).1, (mk2 (most := most) ‹okSched l› (by omega)).2]; done)
         | (rw [(mk3 hS hR ⟨s, by rw [← hp]; simp, decide_eq_true ‹_›⟩).1, (mk3 hS hR ⟨s, by rw [← hp]; simp, decide_eq_true ‹_›⟩).2]; done)
         | (have h4 := fill_full hp2 hsok hm1 (by omega) hq (by rw [bunL_len] at *; omega); rw [(mk4 hS hR hO h4).1, (mk4 hS hR hO h4).2]; done)
         | (rw [(mk0 hS hR hO hinv2).1, (mk0 hS hR hO hinv2).2]; done)
      · first
      | omega | contradiction
      | refine Ev.skip ?_; show Ev _ _ _ _; refine Ev.seq ?_
        have hR : 1 ≤ most ∧ most ≤ 1099511627776 := by omega
        refine Ev.sr fun K hK => S.o q.as (S.end (hK _ ?_)); clear hK K; refine Ev.block ?_; refine Ev.loopU (ι := {p : List (Bar) × List (Bar) // p.1 ++ p.2 = l ∧ ∀ b ∈ p.1, oneOf b ≤ most}) [] [0, 1] (fun ⟨(pre, suf), _⟩ => [(6, .lit (.int .i64 ((pre.length : Int))))]) (fun ⟨(pre, suf), _⟩ => []) (fun ⟨(pre, suf), _⟩ => suf.length) ⟨([], l), rfl, fun b hb => by simp at hb⟩ (.c (.c .n)) keep_n (slots_c (he := (by first | rfl | (simp; done) | (congr 2; omega))) (h := trivial)) ?_; rintro ⟨⟨pre, suf⟩, hp, hinv⟩ R0 hR0; dsimp only [List.cons_append, List.nil_append, List.length_cons, List.length_nil]
        simp only at hp hinv
        have hpl : pre.length + suf.length = (l).length := by rw [← hp, List.length_append]
        rcases suf with _ | ⟨s, suf⟩
        · rw [List.append_nil] at hp; subst pre; simp only [List.length_nil] at hpl; refine Ev.seq ?_; refine Ev.sr fun K hK => S.o q.mv (S.o q.mv (S.o (q.lens am_el32) (S.o q.lss (S.end (hK _ ?_))))); clear hK K; refine Ev.cd (fun c4 => ?_) (fun c4 => ?_)
          · first | omega | contradiction | (exfalso; simp at *; done)
          · first
          | omega | contradiction
          | refine Ev.exit ?_; refine hR0 _ _ ?_; show Ev _ _ _ _; have hO : ¬ overP most l := over_no hinv
            refine Ev.sr fun K hK => S.o q.as (S.end (hK _ ?_)); clear hK K; refine Ev.seq ?_; refine Ev.sr fun K hK => S.o q.as (S.end (hK _ ?_)); clear hK K; refine Ev.block ?_; refine Ev.weaken (Wk.nown Bundle.c 7 53 4) ?_; refine Ev.loopU (ι := {p : List Bar × List Bar // p.1 ++ p.2 = l ∧ (units most p.1).length ≤ 1000}) [0] [0, 1, 6, 20, 21, 22, 23] (fun ⟨(pre2, suf2), _⟩ => [(8, .lit (.int .i64 ((pre2.length : Int)))), (7, .als 0 0 (bunL 0 (units most pre2)).length)]) (fun ⟨(pre2, suf2), _⟩ => [(0, ⟨true, 53, 4, (bunL 0 (units most pre2)).map Bundle.c, true⟩)]) (fun ⟨(pre2, suf2), _⟩ => suf2.length) ⟨([], l), rfl, by rw [units_nil]; decide⟩ (.c (.c (.c (.c (.c (.c (.c .n))))))) (keep_c (he := (by first | rfl | (rw [List.append_nil]; done) | (rw [← List.append_assoc, ← bunN_snoc _ _ _ hbq, List.map_append]; done) | (rw [fill_done (by omega) hq, ← units_snoc]; done))) (h := keep_n)) (slots_c (he := (by first | rfl | (congr 2; simp; done))) (h := (slots_c (he := (by first | rfl | (rw [List.append_nil]; done) | (refine congrArg (AV.als _ 0) ?_; simp only [bunL_len, List.length_append, List.length_cons, List.length_nil, List.length_map]; omega) | (rw [fill_done (by omega) hq, ← units_snoc]; done))) (h := trivial)))) ?_; rintro ⟨⟨pre2, suf2⟩, hp2, hinv2⟩ R2 hR2; dsimp only [List.cons_append, List.nil_append, List.length_cons, List.length_nil]
            simp only at hp2 hinv2
            have hpl2 : pre2.length + suf2.length = l.length := by rw [← hp2, List.length_append]
            rcases suf2 with _ | ⟨s, suf2⟩
            · rw [List.append_nil] at hp2; subst hp2; simp only [List.length_nil] at hpl2; refine Ev.seq ?_; refine Ev.sr fun K hK => S.o q.mv (S.o q.mv (S.o (q.lens am_el32) (S.o q.lss (S.end (hK _ ?_))))); clear hK K; refine Ev.cd (fun c5 => ?_) (fun c5 => ?_)
              · first | omega | contradiction | (exfalso; simp at *; done)
              · first
              | omega | contradiction
              | refine Ev.exit ?_; refine hR2 _ _ ?_; show Ev _ _ _ _; refine Ev.sr fun K hK => S.o q.mv (S.o q.as (S.o q.as (S.end (hK _ ?_)))); clear hK K; refine Ev.weaken (Wk.frz 4 []) ?_; refine Ev.ret ?_; refine Ev.ret2 ?_; refine ⟨?_, rfl⟩
                first
                 | (rw [(mk1 ‹¬ okSched l›).1, (mk1 (most := most) ‹¬ okSched l›).2]; done)
                 | (rw [(mk2 ‹okSched l› (by omega)).1, (mk2 (most := most) ‹okSched l› (by omega)).2]; done)
                 | (rw [(mk3 hS hR ⟨s, by rw [← hp]; simp, decide_eq_true ‹_›⟩).1, (mk3 hS hR ⟨s, by rw [← hp]; simp, decide_eq_true ‹_›⟩).2]; done)
                 | (have h4 := fill_full hp2 hsok hm1 (by omega) hq (by rw [bunL_len] at *; omega); rw [(mk4 hS hR hO h4).1, (mk4 hS hR hO h4).2]; done)
                 | (rw [(mk0 hS hR hO hinv2).1, (mk0 hS hR hO hinv2).2]; done)
            · simp only [List.length_cons] at hpl2
              have hidx2 : l[pre2.length]? = some s := by rw [← hp2]; simp
              have hsok : okBar s := hS.2.1 s (by rw [← hp2]; simp); have hm1 := not_over hO s (by rw [← hp2]; simp); obtain ⟨o1, o2⟩ := one_bd hsok; obtain ⟨w1, w2⟩ := whole_pos hsok hm1; have hbl := bunL_len (units most pre2) 0; have hsc := hsok.2.2.2.1; have hsc0 := hsok.2.2.1; refine Ev.seq ?_; refine Ev.sr fun K hK => S.o q.mv (S.o q.mv (S.o (q.lens am_el32) (S.o q.lss (S.end (hK _ ?_))))); clear hK K; refine Ev.cd (fun c6 => ?_) (fun c6 => ?_)
              · first
              | omega | contradiction
              | refine Ev.skip ?_; show Ev _ _ _ _; refine Ev.seq ?_; refine Ev.block ?_; refine Ev.sr fun K hK => S.o q.mv (S.o q.mv (S.o (q.ix am_el32 am_cl56 (hl := (by first | exact ati hidx (by omega) | exact ati hidx2 (by omega) | exact ati hidx2 (by omega) | exact atig (by omega)))) (S.o (q.fs 2 am_fi56_2 am_cl3) (S.o (q.ls am_ag3) (S.o q.as (S.end (hK _ ?_))))))); clear hK K; refine Ev.block ?_
                refine Ev.loopU (ι := {q : List Unit2 × Int // q.1 ++ (chunks (most / oneOf s) q.2).map (fun n => (s, n)) = unitsB most s ∧ 0 ≤ q.2 ∧ q.2 ≤ 1000 ∧ (units most pre2 ++ q.1).length ≤ 1000}) [0] [0, 1, 6, 8, 20, 21, 22, 23, 33, 34, 35, 36, 39, 40, 41, 42, 43] (fun ⟨(us, left), _⟩ => [(9, .lit (.int .i64 (left))), (7, .als 0 0 (bunL 0 (units most pre2 ++ us)).length)]) (fun ⟨(us, left), _⟩ => [(0, ⟨true, 53, 4, (bunL 0 (units most pre2 ++ us)).map Bundle.c, true⟩)]) (fun ⟨(us, left), _⟩ => left.toNat) ⟨([], s.count), rfl, by dsimp only; omega, by dsimp only; omega, by rw [List.append_nil]; exact hinv2⟩ (.c (.c (.c (.c (.c (.c (.c (.c (.c (.c (.c (.c (.c (.c (.c (.c (.c .n))))))))))))))))) (keep_c (he := (by first | rfl | (rw [List.append_nil]; done) | (rw [← List.append_assoc, ← bunN_snoc _ _ _ hbq, List.map_append]; done) | (rw [fill_done (by omega) hq, ← units_snoc]; done))) (h := keep_n)) (slots_c (he := (by rfl)) (h := (slots_c (he := (by first | rfl | (rw [List.append_nil]; done) | (refine congrArg (AV.als _ 0) ?_; simp only [bunL_len, List.length_append, List.length_cons, List.length_nil, List.length_map]; omega) | (rw [fill_done (by omega) hq, ← units_snoc]; done))) (h := trivial)))) ?_; rintro ⟨⟨us, left⟩, hq, hl0, hl1, hql⟩ R4 hR4; dsimp only [List.cons_append, List.nil_append, List.length_cons, List.length_nil]
                simp only at hq hl0 hl1 hql
                have hbq := bunL_len (units most pre2 ++ us) 0; refine Ev.seq ?_; refine Ev.sr fun K hK => S.o q.mv (S.o q.gtr (S.end (hK _ ?_))); clear hK K; refine Ev.cd (fun c7 => ?_) (fun c7 => ?_)
                · first
                | omega | contradiction
                | refine Ev.skip ?_; show Ev _ _ _ _; refine Ev.block ?_; refine Ev.sr fun K hK => S.o q.mv (S.o q.mv (S.o q.mv (S.o q.mv (S.o (q.ix am_el32 am_cl56 (hl := (by first | exact ati hidx (by omega) | exact ati hidx2 (by omega) | exact ati hidx2 (by omega) | exact atig (by omega)))) (S.o (q.lsA [_, _, _, _, _] am_ag56 am_cl56) (S.c0 (hF := one_fun _ (by assumption)) (h := S.o q.quo (S.o q.min (S.o q.as (S.end (hK _ ?_))))))))))); clear hK K; refine Ev.seq ?_; refine Ev.sr fun K hK => S.o q.mv (S.o (q.lena am_el27) (S.o q.eql (S.end (hK _ ?_)))); clear hK K; refine Ev.cd (fun c8 => ?_) (fun c8 => ?_)
                  · first
                  | omega | contradiction
                  | refine Ev.sr fun K hK => S.o q.as (S.o q.as (S.end (hK _ ?_))); clear hK K; refine Ev.weaken (Wk.nsh Bundle.c 4 4) ?_; refine Ev.ret ?_; refine hR4 _ _ ?_; refine hR2 _ _ ?_; refine Ev.ret2 ?_; refine ⟨?_, rfl⟩
                    first
                     | (rw [(mk1 ‹¬ okSched l›).1, (mk1 (most := most) ‹¬ okSched l›).2]; done)
                     | (rw [(mk2 ‹okSched l› (by omega)).1, (mk2 (most := most) ‹okSched l› (by omega)).2]; done)
                     | (rw [(mk3 hS hR ⟨s, by rw [← hp]; simp, decide_eq_true ‹_›⟩).1, (mk3 hS hR ⟨s, by rw [← hp]; simp, decide_eq_true ‹_›⟩).2]; done)
                     | (have h4 := fill_full hp2 hsok hm1 (by omega) hq (by rw [bunL_len] at *; omega); rw [(mk4 hS hR hO h4).1, (mk4 hS hR hO h4).2]; done)
                     | (rw [(mk0 hS hR hO hinv2).1, (mk0 hS hR hO hinv2).2]; done)
                  · first
                  | omega | contradiction
                  | refine Ev.skip ?_; show Ev _ _ _ _; obtain ⟨u1, u2, u3⟩ := unit_mass hsok hm1 hR.2 (show 0 < left by omega); have hil := itoa_len (N := ((bunL 0 (units most pre2 ++ us)).length : Int) + 1) (by omega) (by omega)
                    refine Ev.sm (tbs [(0, 0), (0, 0), (2, 2), (3, 6), (4, 14), (5, 30), (0, 0), (0, 0), (8, 192), (9, 448), (10, 960), (0, 0), (0, 0), (0, 0), (0, 0), (15, 24576), (16, 57344), (17, 122910), (18, 258078), (19, 524286), (20, 1048574), (21, 2097151), (22, 4194303)]) 21 fun K hK => M.o q.mv (M.o q.mv (M.o (q.lena am_el27) (M.o q.add (M.c0 (hF := number_fun _ (by omega) (by omega)) (h := M.o q.sadd (M.o q.mv (M.o q.mv (M.o (q.ix am_el32 am_cl56 (hl := (by first | exact ati hidx (by omega) | exact ati hidx2 (by omega) | exact ati hidx2 (by omega) | exact atig (by omega)))) (M.o (q.fs 0 am_fi56_0 am_cl9) (M.o (q.ls am_ag9) (M.o q.mv (M.o q.mv (M.o q.mv (M.o q.mv (M.o (q.ix am_el32 am_cl56 (hl := (by first | exact ati hidx (by omega) | exact ati hidx2 (by omega) | exact ati hidx2 (by omega) | exact atig (by omega)))) (M.o (q.lsA [_, _, _, _, _] am_ag56 am_cl56) (M.c0 (hF := one_fun _ (by assumption)) (h := M.o q.mul (M.o (q.bd [_, _, _, _] am_ze53 am_pl53) (M.nn [_] (q.bs [[_, _, _, _]] true am_el27 am_ze53 am_cl53) (h := M.end [_, _] (h := S.ap' [_] am_el27 am_ze53 am_cl53 am_by53 (hh := head_own') (hr := (rows_lit [bun (bunL 0 (units most pre2 ++ us)).length (s, min left (most / oneOf s))])) (h := S.o q.as (S.end (hK _ ?_))))))))))))))))))))))))); clear hK K; refine Ev.region_S fun K hK => S.o q.mv (S.o q.mv (S.o q.sub (S.o q.as (S.end (hK _ ?_))))); clear hK K
                    refine hR4 _ _ ?_; refine roundU [85] [0, 1, 6, 8, 20, 21, 22, 23, 33, 34, 35, 36, 39, 40, 41, 42, 43] ⟨(us ++ [(s, min left (most / oneOf s))], left - min left (most / oneOf s)), fill_more hsok hm1 (by omega) hq, by dsimp only; omega, by dsimp only; omega, by rw [← List.append_assoc, List.length_append, List.length_singleton]; omega⟩ ?_ (keep_c (he := (by first | rfl | (rw [List.append_nil]; done) | (rw [← List.append_assoc, ← bunN_snoc _ _ _ hbq, List.map_append]; done) | (rw [fill_done (by omega) hq, ← units_snoc]; done))) (h := keep_n)) (slots_c (he := (by rfl)) (h := (slots_c (he := (by first | rfl | (rw [List.append_nil]; done) | (refine congrArg (AV.als _ 0) ?_; simp only [bunL_len, List.length_append, List.length_cons, List.length_nil, List.length_map]; omega) | (rw [fill_done (by omega) hq, ← units_snoc]; done))) (h := trivial)))) (.c (.c (.c (.c (.c (.c (.c (.c (.c (.c (.c (.c (.c (.c (.c (.c (.c .n))))))))))))))))); skip; all_goals (dsimp only; omega)
                · first
                | omega | contradiction
                | refine Ev.exit ?_; refine hR4 _ _ ?_; show Ev _ _ _ _; refine Ev.region_S fun K hK => S.o q.mv (S.o q.add (S.o q.as (S.end (hK _ ?_)))); clear hK K; refine hR2 _ _ ?_; refine roundU [0] [0, 1, 6, 20, 21, 22, 23] ⟨(pre2 ++ [s], suf2), by rw [← hp2]; simp, by rw [units_snoc, ← fill_done (by omega) hq]; exact hql⟩ ?_ (keep_c (he := (by first | rfl | (rw [List.append_nil]; done) | (rw [← List.append_assoc, ← bunN_snoc _ _ _ hbq, List.map_append]; done) | (rw [fill_done (by omega) hq, ← units_snoc]; done))) (h := keep_n)) (slots_c (he := (by first | rfl | (congr 2; simp; done))) (h := (slots_c (he := (by first | rfl | (rw [List.append_nil]; done) | (refine congrArg (AV.als _ 0) ?_; simp only [bunL_len, List.length_append, List.length_cons, List.length_nil, List.length_map]; omega) | (rw [fill_done (by omega) hq, ← units_snoc]; done))) (h := trivial)))) (.c (.c (.c (.c (.c (.c (.c .n))))))); skip; all_goals (dsimp only; simp only [List.length_cons]; omega)
              · first | omega | contradiction | (exfalso; simp at *; done)
        · simp only [List.length_cons] at hpl
          have hidx : (l)[pre.length]? = some s := by rw [← hp]; simp
          refine Ev.seq ?_; refine Ev.sr fun K hK => S.o q.mv (S.o q.mv (S.o (q.lens am_el32) (S.o q.lss (S.end (hK _ ?_))))); clear hK K; refine Ev.cd (fun c9 => ?_) (fun c9 => ?_)
          · first
          | omega | contradiction
          | refine Ev.skip ?_; show Ev _ _ _ _; refine Ev.seq ?_; refine Ev.block ?_; have hsok : okBar s := hS.2.1 s (by rw [← hp]; simp); refine Ev.sr fun K hK => S.o q.mv (S.o q.mv (S.o (q.ix am_el32 am_cl56 (hl := (by first | exact ati hidx (by omega) | exact ati hidx2 (by omega) | exact ati hidx (by omega) | exact atig (by omega)))) (S.o (q.lsA [_, _, _, _, _] am_ag56 am_cl56) (S.c0 (hF := one_fun _ (by assumption)) (h := S.o q.mv (S.o q.gtr (S.end (hK _ ?_)))))))); clear hK K; refine Ev.cd (fun c10 => ?_) (fun c10 => ?_)
            · first
            | omega | contradiction
            | refine Ev.sr fun K hK => S.o q.as (S.o q.as (S.end (hK _ ?_))); clear hK K; refine Ev.weaken (Wk.nsh Bundle.c 4 4) ?_; refine Ev.ret ?_; refine hR0 _ _ ?_; refine Ev.ret2 ?_; refine ⟨?_, rfl⟩
              first
               | (rw [(mk1 ‹¬ okSched l›).1, (mk1 (most := most) ‹¬ okSched l›).2]; done)
               | (rw [(mk2 ‹okSched l› (by omega)).1, (mk2 (most := most) ‹okSched l› (by omega)).2]; done)
               | (rw [(mk3 hS hR ⟨s, by rw [← hp]; simp, decide_eq_true ‹_›⟩).1, (mk3 hS hR ⟨s, by rw [← hp]; simp, decide_eq_true ‹_›⟩).2]; done)
               | (have h4 := fill_full hp2 hsok hm1 (by omega) hq (by rw [bunL_len] at *; omega); rw [(mk4 hS hR hO h4).1, (mk4 hS hR hO h4).2]; done)
               | (rw [(mk0 hS hR hO hinv2).1, (mk0 hS hR hO hinv2).2]; done)
            · first
            | omega | contradiction
            | refine Ev.skip ?_; show Ev _ _ _ _; refine Ev.region_S fun K hK => S.o q.mv (S.o q.add (S.o q.as (S.end (hK _ ?_)))); clear hK K; refine hR0 _ _ ?_; refine roundU [] [0, 1] ⟨(pre ++ [s], suf), by rw [← hp]; simp, ?_⟩ ?_ keep_n (slots_c (he := (by first | rfl | (simp; done) | (congr 2; omega))) (h := trivial)) (.c (.c .n))
              intro x hx; simp only [List.mem_append, List.mem_singleton] at hx; rcases hx with hx | rfl
              · exact hinv x hx
              · omega
              all_goals (dsimp only; simp only [List.length_cons]; omega)
          · first | omega | contradiction | (exfalso; simp at *; done)
end Go.Proofs.YthpjfkmhpoeojaaGreatDoor
namespace Go.Proofs.YthpjfkmhpoeojaaGreatDoor
open Go Go.AM
set_option linter.unusedSimpArgs false
set_option linter.unusedVariables false
set_option maxRecDepth 100000
set_option maxHeartbeats 1000000
theorem bvalid_fun (l : List Bundle) (hlen : l.length ≤ 140737488355328) (hw : bunW l) : Fun Tryz.prog 36 [.sh 4 (l.map Bundle.c)] (Ret (.lit (.bool (decide (okBuns l)))) []) := by
  refine Fun.of (nt := 56) (rs := [.tmp 2]) Tryz.func36 rfl rfl rfl rfl rfl ?_; refine Ev.sr fun K hK => S.o q.as (S.end (hK _ ?_)); clear hK K; refine Ev.seq ?_; refine Ev.sr fun K hK => S.o q.mv (S.o (q.lens am_el27) (S.o q.gtr (S.end (hK _ ?_)))); clear hK K; refine Ev.cd (fun c1 => ?_) (fun c1 => ?_)
  · first
  | omega | contradiction
  | refine Ev.sr fun K hK => S.o q.as (S.end (hK _ ?_)); clear hK K; refine Ev.ret ?_; refine Ev.ret1 ?_; refine ⟨?_, rfl⟩
    first
     | exact bF (fun h => by have h1 := h.1; omega)
     | exact bF (fun h => absurd (buns_cut hp h).1.1 ‹_›)
     | exact bF (fun h => absurd (buns_cut hp h).1.2.1 ‹_›)
     | exact bF (fun h => by obtain ⟨_, _, h1, h2, h3, h4⟩ := (buns_cut hp h).1; omega)
     | exact bF (fun h => by obtain ⟨a, ha, e⟩ := tags_yes ‹_›; exact (buns_cut hp h).2 a ha e)
     | exact bT ⟨by omega, by rw [← hp]; exact hinv⟩
  · first
  | omega | contradiction
  | refine Ev.skip ?_; show Ev _ _ _ _; refine Ev.sr fun K hK => S.nn (v := .hd 0) (o := ⟨true, 102, 3, ([] : List (List UInt8 × Bool)).map (rowK (str) (Value.bool)), true⟩) (q.mm am_mt102) (S.o q.as (S.end (hK _ ?_))); clear hK K; refine Ev.seq ?_; refine Ev.sr fun K hK => S.o q.mv (S.o (q.lens am_el27) (S.o q.mv (S.end (hK _ ?_)))); clear hK K; refine Ev.block ?_; refine Ev.loopU (ι := {q : List Bundle × List Bundle // q.1 ++ q.2 = l ∧ (∀ c ∈ q.1, okBun c) ∧ q.1.Pairwise (fun a b => a.tag ≠ b.tag)}) [0] [3, 10, 11] (fun ⟨(pre, suf), _⟩ => [(12, .lit (.int .i64 ((pre.length : Int))))]) (fun ⟨(pre, suf), _⟩ => [(0, ⟨true, 102, 3, (tagsM pre).map (rowK (str) (Value.bool)), true⟩)]) (fun ⟨(pre, suf), _⟩ => suf.length) ⟨([], l), rfl, ⟨fun b hb => by simp at hb, by simp⟩⟩ (.c (.c (.c .n))) (keep_c (he := (by first | rfl | (rw [tags_snoc ‹_›]))) (h := keep_n)) (slots_c (he := (by first | rfl | (congr 2; simp; done))) (h := trivial)) ?_; rintro ⟨⟨pre, suf⟩, hp, hinv⟩ R0 hR0; dsimp only [List.cons_append, List.nil_append, List.length_cons, List.length_nil]
    simp only at hp hinv
    have hpl : pre.length + suf.length = (l).length := by rw [← hp, List.length_append]
    rcases suf with _ | ⟨s, suf⟩
    · rw [List.append_nil] at hp; simp only [List.length_nil] at hpl; refine Ev.sr fun K hK => S.o q.lss (S.end (hK _ ?_)); clear hK K; refine Ev.ud (fun c2 => ?_) (fun c2 => ?_)
      · first | omega | contradiction | (exfalso; simp at *; done)
      · first
      | omega | contradiction
      | refine Ev.exit ?_; refine hR0 _ _ ?_; show Ev _ _ _ _; refine Ev.sr fun K hK => S.o q.as (S.end (hK _ ?_)); clear hK K; refine Ev.ret ?_; refine Ev.ret1 ?_; refine ⟨?_, rfl⟩
        first
         | exact bF (fun h => by have h1 := h.1; omega)
         | exact bF (fun h => absurd (buns_cut hp h).1.1 ‹_›)
         | exact bF (fun h => absurd (buns_cut hp h).1.2.1 ‹_›)
         | exact bF (fun h => by obtain ⟨_, _, h1, h2, h3, h4⟩ := (buns_cut hp h).1; omega)
         | exact bF (fun h => by obtain ⟨a, ha, e⟩ := tags_yes ‹_›; exact (buns_cut hp h).2 a ha e)
         | exact bT ⟨by omega, by rw [← hp]; exact hinv⟩
    · simp only [List.length_cons] at hpl
      have hidx : l[pre.length]? = some s := by rw [← hp]; simp
      obtain ⟨hsw1, hsw2⟩ : s.w := hw s (by rw [← hp]; simp); refine Ev.sr fun K hK => S.o q.lss (S.end (hK _ ?_)); clear hK K; refine Ev.ud (fun c3 => ?_) (fun c3 => ?_)
      · first
      | omega | contradiction
      | refine Ev.seq ?_; refine Ev.block ?_; refine Ev.sr fun K hK => S.o (q.ix am_el27 am_cl53 (hl := (by first | exact ati hidx (by omega) | exact atig (by omega)))) (S.o (q.lsA [_, _, _, _] am_ag53 am_cl53) (S.nn (q.al am_ze53) (S.sv [_, _, _, _] true [_] am_in53 am_cl53 (h := S.end (hK _ ?_))))); clear hK K; refine Ev.seq ?_; refine Ev.sr fun K hK => S.o (q.fa 0 am_fi53_0 am_cl9) (S.o (q.lv am_ag9) (S.c0 (hF := isName_fun _ (by omega)) (h := S.o q.not (S.bn q.mv (fun c4 => ?_) (fun c4 => ?_)))))
        · first
        | omega | contradiction
        | refine S.sk (S.sk (S.sk (S.sk (S.o q.pt (S.o q.mv (S.sk (S.sk (S.sk (S.sk (S.o q.pt (S.o q.mv (S.sk (S.sk (S.sk (S.o q.pt (S.o q.mv (S.sk (S.sk (S.sk (S.o q.pt (S.o q.mv (S.sk (S.sk (S.sk (S.o q.pt (S.o q.mv (S.sk (S.sk (S.sk (S.o q.pt (S.end (hK _ ?_)))))))))))))))))))))))))))))))); clear hK K; refine Ev.ct ?_; refine Ev.sr fun K hK => S.o q.as (S.end (hK _ ?_)); clear hK K; refine Ev.ret ?_; refine hR0 _ _ ?_; refine Ev.ret1 ?_; refine ⟨?_, rfl⟩
          first
           | exact bF (fun h => by have h1 := h.1; omega)
           | exact bF (fun h => absurd (buns_cut hp h).1.1 ‹_›)
           | exact bF (fun h => absurd (buns_cut hp h).1.2.1 ‹_›)
           | exact bF (fun h => by obtain ⟨_, _, h1, h2, h3, h4⟩ := (buns_cut hp h).1; omega)
           | exact bF (fun h => by obtain ⟨a, ha, e⟩ := tags_yes ‹_›; exact (buns_cut hp h).2 a ha e)
           | exact bT ⟨by omega, by rw [← hp]; exact hinv⟩
        · first
        | omega | contradiction
        | refine S.o (q.fa 1 am_fi53_1 am_cl9) (S.o (q.lv am_ag9) (S.c0 (hF := isName_fun _ (by omega)) (h := S.o q.not (S.o q.pf (S.bn q.mv (fun c5 => ?_) (fun c5 => ?_))))))
          · first
          | omega | contradiction
          | refine S.sk (S.sk (S.sk (S.sk (S.o q.pt (S.o q.mv (S.sk (S.sk (S.sk (S.o q.pt (S.o q.mv (S.sk (S.sk (S.sk (S.o q.pt (S.o q.mv (S.sk (S.sk (S.sk (S.o q.pt (S.o q.mv (S.sk (S.sk (S.sk (S.o q.pt (S.end (hK _ ?_)))))))))))))))))))))))))); clear hK K; refine Ev.ct ?_; refine Ev.sr fun K hK => S.o q.as (S.end (hK _ ?_)); clear hK K; refine Ev.ret ?_; refine hR0 _ _ ?_; refine Ev.ret1 ?_; refine ⟨?_, rfl⟩
            first
             | exact bF (fun h => by have h1 := h.1; omega)
             | exact bF (fun h => absurd (buns_cut hp h).1.1 ‹_›)
             | exact bF (fun h => absurd (buns_cut hp h).1.2.1 ‹_›)
             | exact bF (fun h => by obtain ⟨_, _, h1, h2, h3, h4⟩ := (buns_cut hp h).1; omega)
             | exact bF (fun h => by obtain ⟨a, ha, e⟩ := tags_yes ‹_›; exact (buns_cut hp h).2 a ha e)
             | exact bT ⟨by omega, by rw [← hp]; exact hinv⟩
          · first
          | omega | contradiction
          | refine S.o q.mv (S.o (q.fa 0 am_fi53_0 am_cl9) (S.o (q.lv am_ag9) (S.o (q.lk (vv := (Value.bool)) klS am_mt102) (S.o q.pf (S.bb q.mv (fun c6 => ?_) (fun c6 => ?_))))))
            · first
            | omega | contradiction
            | refine S.sk (S.sk (S.sk (S.o q.pt (S.o q.mv (S.sk (S.sk (S.sk (S.o q.pt (S.o q.mv (S.sk (S.sk (S.sk (S.o q.pt (S.o q.mv (S.sk (S.sk (S.sk (S.o q.pt (S.end (hK _ ?_)))))))))))))))))))); clear hK K; refine Ev.ct ?_; refine Ev.sr fun K hK => S.o q.as (S.end (hK _ ?_)); clear hK K; refine Ev.ret ?_; refine hR0 _ _ ?_; refine Ev.ret1 ?_; refine ⟨?_, rfl⟩
              first
               | exact bF (fun h => by have h1 := h.1; omega)
               | exact bF (fun h => absurd (buns_cut hp h).1.1 ‹_›)
               | exact bF (fun h => absurd (buns_cut hp h).1.2.1 ‹_›)
               | exact bF (fun h => by obtain ⟨_, _, h1, h2, h3, h4⟩ := (buns_cut hp h).1; omega)
               | exact bF (fun h => by obtain ⟨a, ha, e⟩ := tags_yes ‹_›; exact (buns_cut hp h).2 a ha e)
               | exact bT ⟨by omega, by rw [← hp]; exact hinv⟩
            · first
            | omega | contradiction
            | refine S.o (q.fa 2 am_fi53_2 am_cl3) (S.o (q.lv am_ag3) (S.o q.lss (S.o q.pf (S.bd q.mv (fun c7 => ?_) (fun c7 => ?_)))))
              · first
              | omega | contradiction
              | refine S.sk (S.sk (S.sk (S.o q.pt (S.o q.mv (S.sk (S.sk (S.sk (S.o q.pt (S.o q.mv (S.sk (S.sk (S.sk (S.o q.pt (S.end (hK _ ?_))))))))))))))); clear hK K; refine Ev.ct ?_; refine Ev.sr fun K hK => S.o q.as (S.end (hK _ ?_)); clear hK K; refine Ev.ret ?_; refine hR0 _ _ ?_; refine Ev.ret1 ?_; refine ⟨?_, rfl⟩
                first
                 | exact bF (fun h => by have h1 := h.1; omega)
                 | exact bF (fun h => absurd (buns_cut hp h).1.1 ‹_›)
                 | exact bF (fun h => absurd (buns_cut hp h).1.2.1 ‹_›)
                 | exact bF (fun h => by obtain ⟨_, _, h1, h2, h3, h4⟩ := (buns_cut hp h).1; omega)
                 | exact bF (fun h => by obtain ⟨a, ha, e⟩ := tags_yes ‹_›; exact (buns_cut hp h).2 a ha e)
                 | exact bT ⟨by omega, by rw [← hp]; exact hinv⟩
              · first
              | omega | contradiction
              | refine S.o (q.fa 2 am_fi53_2 am_cl3) (S.o (q.lv am_ag3) (S.o q.gtr (S.o q.pf (S.bd q.mv (fun c8 => ?_) (fun c8 => ?_)))))
                · first
                | omega | contradiction
                | refine S.sk (S.sk (S.sk (S.o q.pt (S.o q.mv (S.sk (S.sk (S.sk (S.o q.pt (S.end (hK _ ?_)))))))))); clear hK K; refine Ev.ct ?_; refine Ev.sr fun K hK => S.o q.as (S.end (hK _ ?_)); clear hK K; refine Ev.ret ?_; refine hR0 _ _ ?_; refine Ev.ret1 ?_; refine ⟨?_, rfl⟩
                  first
                   | exact bF (fun h => by have h1 := h.1; omega)
                   | exact bF (fun h => absurd (buns_cut hp h).1.1 ‹_›)
                   | exact bF (fun h => absurd (buns_cut hp h).1.2.1 ‹_›)
                   | exact bF (fun h => by obtain ⟨_, _, h1, h2, h3, h4⟩ := (buns_cut hp h).1; omega)
                   | exact bF (fun h => by obtain ⟨a, ha, e⟩ := tags_yes ‹_›; exact (buns_cut hp h).2 a ha e)
                   | exact bT ⟨by omega, by rw [← hp]; exact hinv⟩
                · first
                | omega | contradiction
                | refine S.o (q.fa 3 am_fi53_3 am_cl3) (S.o (q.lv am_ag3) (S.o q.lss (S.o q.pf (S.bd q.mv (fun c9 => ?_) (fun c9 => ?_)))))
                  · first
                  | omega | contradiction
                  | refine S.sk (S.sk (S.sk (S.o q.pt (S.end (hK _ ?_))))); clear hK K; refine Ev.ct ?_; refine Ev.sr fun K hK => S.o q.as (S.end (hK _ ?_)); clear hK K; refine Ev.ret ?_; refine hR0 _ _ ?_; refine Ev.ret1 ?_; refine ⟨?_, rfl⟩
                    first
                     | exact bF (fun h => by have h1 := h.1; omega)
                     | exact bF (fun h => absurd (buns_cut hp h).1.1 ‹_›)
                     | exact bF (fun h => absurd (buns_cut hp h).1.2.1 ‹_›)
                     | exact bF (fun h => by obtain ⟨_, _, h1, h2, h3, h4⟩ := (buns_cut hp h).1; omega)
                     | exact bF (fun h => by obtain ⟨a, ha, e⟩ := tags_yes ‹_›; exact (buns_cut hp h).2 a ha e)
                     | exact bT ⟨by omega, by rw [← hp]; exact hinv⟩
                  · first
                  | omega | contradiction
                  | refine S.o (q.fa 3 am_fi53_3 am_cl3) (S.o (q.lv am_ag3) (S.o q.gtr (S.o q.pf (S.end (hK _ ?_))))); clear hK K; refine Ev.cd (fun c10 => ?_) (fun c10 => ?_)
                    · first
                    | omega | contradiction
                    | refine Ev.sr fun K hK => S.o q.as (S.end (hK _ ?_)); clear hK K; refine Ev.ret ?_; refine hR0 _ _ ?_; refine Ev.ret1 ?_; refine ⟨?_, rfl⟩
                      first
                       | exact bF (fun h => by have h1 := h.1; omega)
                       | exact bF (fun h => absurd (buns_cut hp h).1.1 ‹_›)
                       | exact bF (fun h => absurd (buns_cut hp h).1.2.1 ‹_›)
                       | exact bF (fun h => by obtain ⟨_, _, h1, h2, h3, h4⟩ := (buns_cut hp h).1; omega)
                       | exact bF (fun h => by obtain ⟨a, ha, e⟩ := tags_yes ‹_›; exact (buns_cut hp h).2 a ha e)
                       | exact bT ⟨by omega, by rw [← hp]; exact hinv⟩
                    · first
                    | omega | contradiction
                    | refine Ev.skip ?_; show Ev _ _ _ _; refine Ev.region_S fun K hK => S.o q.mv (S.o (q.fa 0 am_fi53_0 am_cl9) (S.o (q.lv am_ag9) (S.mu (vv := (Value.bool)) [_] klS am_mt102 (fun _ => rfl) (hn := S.end (hK _ ?_))))); clear hK K; show Ev _ _ _ _; refine Ev.region_S fun K hK => S.o q.add (S.o q.mv (S.end (hK _ ?_))); clear hK K; refine hR0 _ _ ?_; refine roundU [0] [3, 10, 11] ⟨(pre ++ [s], suf), by rw [← hp]; simp, ?_⟩ ?_ (keep_c (he := (by first | rfl | (rw [tags_snoc ‹_›]))) (h := keep_n)) (slots_c (he := (by first | rfl | (congr 2; simp; done))) (h := trivial)) (.c (.c (.c .n))); exact buns_snoc hinv ⟨‹_›, ‹_›, by omega, by omega, by omega, by omega⟩ (tags_no ‹_›); all_goals (dsimp only; simp only [List.length_cons]; omega)
      · first | omega | contradiction | (exfalso; simp at *; done)
theorem f2_eq {bs : List Bar} {x : Bundle} (h : (!(mget (masM bs) x.mark).isSome) = false) (h2 : x.mass = x.count * (mget (masM bs) x.mark).getD 0) : find2 bs x = [] := by
  unfold find2
  cases hm : mget (masM bs) x.mark with
  | none => rw [hm] at h; simp at h
  | some v => rw [hm] at h2; exact if_pos h2
end Go.Proofs.YthpjfkmhpoeojaaGreatDoor
namespace Go.Proofs.YthpjfkmhpoeojaaGreatDoor
open Go Go.AM
set_option linter.unusedSimpArgs false
set_option linter.unusedVariables false
set_option maxRecDepth 100000
set_option maxHeartbeats 1000000
theorem rBfind_fun (l : List Bundle) (t : List UInt8) (hlen : l.length ≤ 140737488355328) : Fun Tryz.prog 41 [.sh 4 (l.map Bundle.c), .lit (str t)] (Ret (.lit (.int .i64 (tagI l t))) []) := by
  unfold tagI
  refine Fun.of (nt := 20) (rs := [.tmp 4]) Tryz.func41 rfl rfl rfl rfl rfl ?_; refine Ev.sr fun K hK => S.o q.as (S.end (hK _ ?_)); clear hK K; refine Ev.seq ?_; refine Ev.sr fun K hK => S.o q.as (S.end (hK _ ?_)); clear hK K; refine Ev.block ?_; refine Ev.loopU (ι := {q : List Bundle × List Bundle // q.1 ++ q.2 = l ∧ ∀ x ∈ q.1, decide (x.tag = t) = false}) [] [0, 1] (fun ⟨(pre, suf), _⟩ => [(5, .lit (.int .i64 ((pre.length : Int))))]) (fun ⟨(pre, suf), _⟩ => []) (fun ⟨(pre, suf), _⟩ => suf.length) ⟨([], l), rfl, fun x hx => by simp at hx⟩ (.c (.c .n)) keep_n (slots_c (he := (by first | rfl | (simp; done) | (congr 2; omega))) (h := trivial)) ?_; rintro ⟨⟨pre, suf⟩, hp, hinv⟩ R0 hR0; dsimp only [List.cons_append, List.nil_append, List.length_cons, List.length_nil]
  simp only at hp hinv
  have hpl : pre.length + suf.length = (l).length := by rw [← hp, List.length_append]
  rcases suf with _ | ⟨s, suf⟩
  · rw [List.append_nil] at hp; subst hp; simp only [List.length_nil] at hpl; refine Ev.seq ?_; refine Ev.sr fun K hK => S.o q.mv (S.o q.mv (S.o (q.lens am_el27) (S.o q.lss (S.end (hK _ ?_))))); clear hK K; refine Ev.cd (fun c1 => ?_) (fun c1 => ?_)
    · first | omega | contradiction | (exfalso; simp at *; done)
    · first
    | omega | contradiction
    | refine Ev.exit ?_; refine hR0 _ _ ?_; show Ev _ _ _ _; refine Ev.sr fun K hK => S.o q.as (S.end (hK _ ?_)); clear hK K; refine Ev.ret ?_; refine Ev.ret1 ?_; refine ⟨?_, rfl⟩
      first | (congr 2; rw [← hp, idxP_append _ pre _ 0 hinv, idxP, if_pos (decide_eq_true ‹_›)]; omega) | (congr 2; rw [idxP_none _ pre 0 hinv])
  · simp only [List.length_cons] at hpl
    have hidx : (l)[pre.length]? = some s := by rw [← hp]; simp
    refine Ev.seq ?_; refine Ev.sr fun K hK => S.o q.mv (S.o q.mv (S.o (q.lens am_el27) (S.o q.lss (S.end (hK _ ?_))))); clear hK K; refine Ev.cd (fun c2 => ?_) (fun c2 => ?_)
    · first
    | omega | contradiction
    | refine Ev.skip ?_; show Ev _ _ _ _; refine Ev.seq ?_; refine Ev.block ?_; refine Ev.sr fun K hK => S.o q.mv (S.o q.mv (S.o (q.ix am_el27 am_cl53 (hl := (by first | exact ati hidx (by omega) | exact atig (by omega)))) (S.o (q.fs 0 am_fi53_0 am_cl9) (S.o (q.ls am_ag9) (S.o q.mv (S.o q.seqs (S.end (hK _ ?_)))))))); clear hK K; refine Ev.cd (fun c3 => ?_) (fun c3 => ?_)
      · first
      | omega | contradiction
      | refine Ev.sr fun K hK => S.o q.mv (S.o q.as (S.end (hK _ ?_))); clear hK K; refine Ev.ret ?_; refine hR0 _ _ ?_; refine Ev.ret1 ?_; refine ⟨?_, rfl⟩
        first | (congr 2; rw [← hp, idxP_append _ pre _ 0 hinv, idxP, if_pos (decide_eq_true ‹_›)]; omega) | (congr 2; rw [idxP_none _ pre 0 hinv])
      · first
      | omega | contradiction
      | refine Ev.skip ?_; show Ev _ _ _ _; refine Ev.region_S fun K hK => S.o q.mv (S.o q.add (S.o q.as (S.end (hK _ ?_)))); clear hK K; refine hR0 _ _ ?_; refine roundU [] [0, 1] ⟨(pre ++ [s], suf), by rw [← hp]; simp, ?_⟩ ?_ keep_n (slots_c (he := (by first | rfl | (simp; done) | (congr 2; omega))) (h := trivial)) (.c (.c .n))
        intro x hx; simp only [List.mem_append, List.mem_singleton] at hx; rcases hx with hx | rfl
        · exact hinv x hx
        · exact decide_eq_false ‹_›
        all_goals (dsimp only; simp only [List.length_cons]; omega)
    · first | omega | contradiction | (exfalso; simp at *; done)
theorem tagI_at {pre suf l : List Bundle} {s : Bundle} (hp : pre ++ s :: suf = l) : tagI l s.tag = pre.length ↔ ∀ a ∈ pre, a.tag ≠ s.tag := by
  have h := idxP_at (p := fun b : Bundle => decide (b.tag = s.tag)) hp (decide_eq_true rfl)
  unfold tagI
  rw [h]
  simp
theorem rBvalid_fun (l : List Bundle) (hlen : l.length ≤ 140737488355328) (hw : bunW l) : Fun Tryz.prog 40 [.sh 4 (l.map Bundle.c)] (Ret (.lit (.bool (decide (okBuns l)))) []) := by
  refine Fun.of (nt := 56) (rs := [.tmp 2]) Tryz.func40 rfl rfl rfl rfl rfl ?_; refine Ev.sr fun K hK => S.o q.as (S.end (hK _ ?_)); clear hK K; refine Ev.seq ?_; refine Ev.sr fun K hK => S.o q.mv (S.o (q.lens am_el27) (S.o q.gtr (S.end (hK _ ?_)))); clear hK K; refine Ev.cd (fun c1 => ?_) (fun c1 => ?_)
  · first
  | omega | contradiction
  | refine Ev.sr fun K hK => S.o q.as (S.end (hK _ ?_)); clear hK K; refine Ev.ret ?_; refine Ev.ret1 ?_; refine ⟨?_, rfl⟩
    first
     | exact bF (fun h => by have h1 := h.1; omega)
     | exact bF (fun h => absurd (buns_cut hp h).1.1 ‹_›)
     | exact bF (fun h => absurd (buns_cut hp h).1.2.1 ‹_›)
     | exact bF (fun h => by obtain ⟨_, _, h1, h2, h3, h4⟩ := (buns_cut hp h).1; omega)
     | exact bF (fun h => by have h1 := (tagI_at hp).2 (buns_cut hp h).2; omega)
     | exact bT ⟨by omega, by rw [← hp]; exact hinv⟩
  · first
  | omega | contradiction
  | refine Ev.skip ?_; show Ev _ _ _ _; refine Ev.seq ?_; refine Ev.sr fun K hK => S.o q.as (S.end (hK _ ?_)); clear hK K; refine Ev.block ?_; refine Ev.loopU (ι := {q : List Bundle × List Bundle // q.1 ++ q.2 = l ∧ (∀ c ∈ q.1, okBun c) ∧ q.1.Pairwise (fun a b => a.tag ≠ b.tag)}) [] [0] (fun ⟨(pre, suf), _⟩ => [(3, .lit (.int .i64 ((pre.length : Int))))]) (fun ⟨(pre, suf), _⟩ => []) (fun ⟨(pre, suf), _⟩ => suf.length) ⟨([], l), rfl, ⟨fun b hb => by simp at hb, by simp⟩⟩ (.c .n) keep_n (slots_c (he := (by first | rfl | (simp; done) | (congr 2; omega))) (h := trivial)) ?_; rintro ⟨⟨pre, suf⟩, hp, hinv⟩ R0 hR0; dsimp only [List.cons_append, List.nil_append, List.length_cons, List.length_nil]
    simp only at hp hinv
    have hpl : pre.length + suf.length = (l).length := by rw [← hp, List.length_append]
    rcases suf with _ | ⟨s, suf⟩
    · rw [List.append_nil] at hp; simp only [List.length_nil] at hpl; refine Ev.seq ?_; refine Ev.sr fun K hK => S.o q.mv (S.o q.mv (S.o (q.lens am_el27) (S.o q.lss (S.end (hK _ ?_))))); clear hK K; refine Ev.cd (fun c2 => ?_) (fun c2 => ?_)
      · first | omega | contradiction | (exfalso; simp at *; done)
      · first
      | omega | contradiction
      | refine Ev.exit ?_; refine hR0 _ _ ?_; show Ev _ _ _ _; refine Ev.sr fun K hK => S.o q.as (S.end (hK _ ?_)); clear hK K; refine Ev.ret ?_; refine Ev.ret1 ?_; refine ⟨?_, rfl⟩
        first
         | exact bF (fun h => by have h1 := h.1; omega)
         | exact bF (fun h => absurd (buns_cut hp h).1.1 ‹_›)
         | exact bF (fun h => absurd (buns_cut hp h).1.2.1 ‹_›)
         | exact bF (fun h => by obtain ⟨_, _, h1, h2, h3, h4⟩ := (buns_cut hp h).1; omega)
         | exact bF (fun h => by have h1 := (tagI_at hp).2 (buns_cut hp h).2; omega)
         | exact bT ⟨by omega, by rw [← hp]; exact hinv⟩
    · simp only [List.length_cons] at hpl
      have hidx : l[pre.length]? = some s := by rw [← hp]; simp
      obtain ⟨hsw1, hsw2⟩ : s.w := hw s (by rw [← hp]; simp); refine Ev.seq ?_; refine Ev.sr fun K hK => S.o q.mv (S.o q.mv (S.o (q.lens am_el27) (S.o q.lss (S.end (hK _ ?_))))); clear hK K; refine Ev.cd (fun c3 => ?_) (fun c3 => ?_)
      · first
      | omega | contradiction
      | refine Ev.skip ?_; show Ev _ _ _ _; refine Ev.seq ?_; refine Ev.block ?_; refine Ev.sr fun K hK => S.o q.mv (S.o q.mv (S.o (q.ix am_el27 am_cl53 (hl := (by first | exact ati hidx (by omega) | exact atig (by omega)))) (S.o (q.lsA [_, _, _, _] am_ag53 am_cl53) (S.nn (q.al am_ze53) (S.sv [_, _, _, _] true [] am_in53 am_cl53 (h := S.end (hK _ ?_))))))); clear hK K; refine Ev.sr fun K hK => S.o (q.fa 0 am_fi53_0 am_cl9) (S.o (q.lv am_ag9) (S.c0 (hF := risName_fun _ (by omega)) (h := S.o q.not (S.bn q.mv (fun c4 => ?_) (fun c4 => ?_)))))
        · first
        | omega | contradiction
        | refine S.sk (S.sk (S.sk (S.sk (S.o q.pt (S.o q.mv (S.sk (S.sk (S.sk (S.o q.pt (S.o q.mv (S.sk (S.sk (S.sk (S.o q.pt (S.o q.mv (S.sk (S.sk (S.sk (S.o q.pt (S.o q.mv (S.sk (S.sk (S.sk (S.o q.pt (S.o q.mv (S.sk (S.sk (S.sk (S.sk (S.sk (S.sk (S.o q.pt (S.end (hK _ ?_)))))))))))))))))))))))))))))))))); clear hK K; refine Ev.ct ?_; refine Ev.sr fun K hK => S.o q.as (S.end (hK _ ?_)); clear hK K; refine Ev.ret ?_; refine hR0 _ _ ?_; refine Ev.ret1 ?_; refine ⟨?_, rfl⟩
          first
           | exact bF (fun h => by have h1 := h.1; omega)
           | exact bF (fun h => absurd (buns_cut hp h).1.1 ‹_›)
           | exact bF (fun h => absurd (buns_cut hp h).1.2.1 ‹_›)
           | exact bF (fun h => by obtain ⟨_, _, h1, h2, h3, h4⟩ := (buns_cut hp h).1; omega)
           | exact bF (fun h => by have h1 := (tagI_at hp).2 (buns_cut hp h).2; omega)
           | exact bT ⟨by omega, by rw [← hp]; exact hinv⟩
        · first
        | omega | contradiction
        | refine S.o (q.fa 1 am_fi53_1 am_cl9) (S.o (q.lv am_ag9) (S.c0 (hF := risName_fun _ (by omega)) (h := S.o q.not (S.o q.pf (S.bn q.mv (fun c5 => ?_) (fun c5 => ?_))))))
          · first
          | omega | contradiction
          | refine S.sk (S.sk (S.sk (S.o q.pt (S.o q.mv (S.sk (S.sk (S.sk (S.o q.pt (S.o q.mv (S.sk (S.sk (S.sk (S.o q.pt (S.o q.mv (S.sk (S.sk (S.sk (S.o q.pt (S.o q.mv (S.sk (S.sk (S.sk (S.sk (S.sk (S.sk (S.o q.pt (S.end (hK _ ?_)))))))))))))))))))))))))))); clear hK K; refine Ev.ct ?_; refine Ev.sr fun K hK => S.o q.as (S.end (hK _ ?_)); clear hK K; refine Ev.ret ?_; refine hR0 _ _ ?_; refine Ev.ret1 ?_; refine ⟨?_, rfl⟩
            first
             | exact bF (fun h => by have h1 := h.1; omega)
             | exact bF (fun h => absurd (buns_cut hp h).1.1 ‹_›)
             | exact bF (fun h => absurd (buns_cut hp h).1.2.1 ‹_›)
             | exact bF (fun h => by obtain ⟨_, _, h1, h2, h3, h4⟩ := (buns_cut hp h).1; omega)
             | exact bF (fun h => by have h1 := (tagI_at hp).2 (buns_cut hp h).2; omega)
             | exact bT ⟨by omega, by rw [← hp]; exact hinv⟩
          · first
          | omega | contradiction
          | refine S.o (q.fa 2 am_fi53_2 am_cl3) (S.o (q.lv am_ag3) (S.o q.lss (S.o q.pf (S.bd q.mv (fun c6 => ?_) (fun c6 => ?_)))))
            · first
            | omega | contradiction
            | refine S.sk (S.sk (S.sk (S.o q.pt (S.o q.mv (S.sk (S.sk (S.sk (S.o q.pt (S.o q.mv (S.sk (S.sk (S.sk (S.o q.pt (S.o q.mv (S.sk (S.sk (S.sk (S.sk (S.sk (S.sk (S.o q.pt (S.end (hK _ ?_))))))))))))))))))))))); clear hK K; refine Ev.ct ?_; refine Ev.sr fun K hK => S.o q.as (S.end (hK _ ?_)); clear hK K; refine Ev.ret ?_; refine hR0 _ _ ?_; refine Ev.ret1 ?_; refine ⟨?_, rfl⟩
              first
               | exact bF (fun h => by have h1 := h.1; omega)
               | exact bF (fun h => absurd (buns_cut hp h).1.1 ‹_›)
               | exact bF (fun h => absurd (buns_cut hp h).1.2.1 ‹_›)
               | exact bF (fun h => by obtain ⟨_, _, h1, h2, h3, h4⟩ := (buns_cut hp h).1; omega)
               | exact bF (fun h => by have h1 := (tagI_at hp).2 (buns_cut hp h).2; omega)
               | exact bT ⟨by omega, by rw [← hp]; exact hinv⟩
            · first
            | omega | contradiction
            | refine S.o (q.fa 2 am_fi53_2 am_cl3) (S.o (q.lv am_ag3) (S.o q.gtr (S.o q.pf (S.bd q.mv (fun c7 => ?_) (fun c7 => ?_)))))
              · first
              | omega | contradiction
              | refine S.sk (S.sk (S.sk (S.o q.pt (S.o q.mv (S.sk (S.sk (S.sk (S.o q.pt (S.o q.mv (S.sk (S.sk (S.sk (S.sk (S.sk (S.sk (S.o q.pt (S.end (hK _ ?_)))))))))))))))))); clear hK K; refine Ev.ct ?_; refine Ev.sr fun K hK => S.o q.as (S.end (hK _ ?_)); clear hK K; refine Ev.ret ?_; refine hR0 _ _ ?_; refine Ev.ret1 ?_; refine ⟨?_, rfl⟩
                first
                 | exact bF (fun h => by have h1 := h.1; omega)
                 | exact bF (fun h => absurd (buns_cut hp h).1.1 ‹_›)
                 | exact bF (fun h => absurd (buns_cut hp h).1.2.1 ‹_›)
                 | exact bF (fun h => by obtain ⟨_, _, h1, h2, h3, h4⟩ := (buns_cut hp h).1; omega)
                 | exact bF (fun h => by have h1 := (tagI_at hp).2 (buns_cut hp h).2; omega)
                 | exact bT ⟨by omega, by rw [← hp]; exact hinv⟩
              · first
              | omega | contradiction
              | refine S.o (q.fa 3 am_fi53_3 am_cl3) (S.o (q.lv am_ag3) (S.o q.lss (S.o q.pf (S.bd q.mv (fun c8 => ?_) (fun c8 => ?_)))))
                · first
                | omega | contradiction
                | refine S.sk (S.sk (S.sk (S.o q.pt (S.o q.mv (S.sk (S.sk (S.sk (S.sk (S.sk (S.sk (S.o q.pt (S.end (hK _ ?_))))))))))))); clear hK K; refine Ev.ct ?_; refine Ev.sr fun K hK => S.o q.as (S.end (hK _ ?_)); clear hK K; refine Ev.ret ?_; refine hR0 _ _ ?_; refine Ev.ret1 ?_; refine ⟨?_, rfl⟩
                  first
                   | exact bF (fun h => by have h1 := h.1; omega)
                   | exact bF (fun h => absurd (buns_cut hp h).1.1 ‹_›)
                   | exact bF (fun h => absurd (buns_cut hp h).1.2.1 ‹_›)
                   | exact bF (fun h => by obtain ⟨_, _, h1, h2, h3, h4⟩ := (buns_cut hp h).1; omega)
                   | exact bF (fun h => by have h1 := (tagI_at hp).2 (buns_cut hp h).2; omega)
                   | exact bT ⟨by omega, by rw [← hp]; exact hinv⟩
                · first
                | omega | contradiction
                | refine S.o (q.fa 3 am_fi53_3 am_cl3) (S.o (q.lv am_ag3) (S.o q.gtr (S.o q.pf (S.bd q.mv (fun c9 => ?_) (fun c9 => ?_)))))
                  · first
                  | omega | contradiction
                  | refine S.sk (S.sk (S.sk (S.sk (S.sk (S.sk (S.o q.pt (S.end (hK _ ?_)))))))); clear hK K; refine Ev.ct ?_; refine Ev.sr fun K hK => S.o q.as (S.end (hK _ ?_)); clear hK K; refine Ev.ret ?_; refine hR0 _ _ ?_; refine Ev.ret1 ?_; refine ⟨?_, rfl⟩
                    first
                     | exact bF (fun h => by have h1 := h.1; omega)
                     | exact bF (fun h => absurd (buns_cut hp h).1.1 ‹_›)
                     | exact bF (fun h => absurd (buns_cut hp h).1.2.1 ‹_›)
                     | exact bF (fun h => by obtain ⟨_, _, h1, h2, h3, h4⟩ := (buns_cut hp h).1; omega)
                     | exact bF (fun h => by have h1 := (tagI_at hp).2 (buns_cut hp h).2; omega)
                     | exact bT ⟨by omega, by rw [← hp]; exact hinv⟩
                  · first
                  | omega | contradiction
                  | refine S.o q.mv (S.o (q.fa 0 am_fi53_0 am_cl9) (S.o (q.lv am_ag9) (S.c0 (hF := rBfind_fun _ _ (by omega)) (h := S.o q.mv (S.o q.neq (S.o q.pf (S.end (hK _ ?_)))))))); clear hK K; refine Ev.cn (fun c10 => ?_) (fun c10 => ?_)
                    · first
                    | omega | contradiction
                    | refine Ev.sr fun K hK => S.o q.as (S.end (hK _ ?_)); clear hK K; refine Ev.ret ?_; refine hR0 _ _ ?_; refine Ev.ret1 ?_; refine ⟨?_, rfl⟩
                      first
                       | exact bF (fun h => by have h1 := h.1; omega)
                       | exact bF (fun h => absurd (buns_cut hp h).1.1 ‹_›)
                       | exact bF (fun h => absurd (buns_cut hp h).1.2.1 ‹_›)
                       | exact bF (fun h => by obtain ⟨_, _, h1, h2, h3, h4⟩ := (buns_cut hp h).1; omega)
                       | exact bF (fun h => by have h1 := (tagI_at hp).2 (buns_cut hp h).2; omega)
                       | exact bT ⟨by omega, by rw [← hp]; exact hinv⟩
                    · first
                    | omega | contradiction
                    | refine Ev.skip ?_; show Ev _ _ _ _; refine Ev.region_S fun K hK => S.o q.mv (S.o q.add (S.o q.as (S.end (hK _ ?_)))); clear hK K; refine hR0 _ _ ?_; refine roundU [] [0] ⟨(pre ++ [s], suf), by rw [← hp]; simp, ?_⟩ ?_ keep_n (slots_c (he := (by first | rfl | (simp; done) | (congr 2; omega))) (h := trivial)) (.c .n); exact buns_snoc hinv ⟨‹_›, ‹_›, by omega, by omega, by omega, by omega⟩ ((tagI_at hp).1 (by omega)); all_goals (dsimp only; simp only [List.length_cons]; omega)
      · first | omega | contradiction | (exfalso; simp at *; done)
def shortB (l : List Bundle) (most : Int) : Prop := ¬ (((l.length : Int) > most ∧ l.length ≤ 1000) ∨ l.length > 1003) ∧ ∀ b ∈ l, b.tag.length ≤ 60 ∧ b.mark.length ≤ 60
instance (l most) : Decidable (shortB l most) := by unfold shortB; infer_instance
theorem short_w {l : List Bundle} {most : Int} (h : shortB l most) : bunW l ∧ l.length ≤ 1003 := ⟨fun b hb => by
  have := h.2 b hb
  exact ⟨by omega, by omega⟩, by have := h.1; omega⟩
theorem short_fun (l : List Bundle) (most : Int) (hlen : l.length ≤ 140737488355328) : Fun Tryz.prog 20 [.sh 4 (l.map Bundle.c), .lit (.int .i64 most)] (Ret (.lit (.bool (decide (shortB l most)))) []) := by
  refine Fun.of (nt := 42) (rs := [.tmp 4]) Tryz.func20 rfl rfl rfl rfl rfl ?_; refine Ev.sr fun K hK => S.o q.as (S.end (hK _ ?_)); clear hK K; refine Ev.seq ?_; refine Ev.sr fun K hK => S.o q.mv (S.o (q.lens am_el27) (S.o q.mv (S.o q.gtr (S.bd q.mv (fun c1 => ?_) (fun c1 => ?_)))))
  · first
  | omega | contradiction
  | refine S.o q.mv (S.o (q.lens am_el27) (S.o q.leq (S.o q.pt (S.bd q.mv (fun c2 => ?_) (fun c2 => ?_)))))
    · first
    | omega | contradiction
    | refine S.sk (S.sk (S.sk (S.o q.pt (S.end (hK _ ?_))))); clear hK K; refine Ev.ct ?_; refine Ev.sr fun K hK => S.o q.as (S.end (hK _ ?_)); clear hK K; refine Ev.ret ?_; refine Ev.ret1 ?_; refine ⟨?_, rfl⟩
      first
       | exact bF (fun h => by have h1 := h.1; omega)
       | exact bF (fun h => by have h1 := h.2 s (by rw [← hp]; simp); omega)
       | exact bT ⟨by omega, by rw [← hp]; exact hinv⟩
    · first
    | omega | contradiction
    | refine S.o q.mv (S.o (q.lens am_el27) (S.o q.gtr (S.o q.pf (S.end (hK _ ?_))))); clear hK K; refine Ev.cd (fun c3 => ?_) (fun c3 => ?_)
      · first
      | omega | contradiction
      | refine Ev.sr fun K hK => S.o q.as (S.end (hK _ ?_)); clear hK K; refine Ev.ret ?_; refine Ev.ret1 ?_; refine ⟨?_, rfl⟩
        first
         | exact bF (fun h => by have h1 := h.1; omega)
         | exact bF (fun h => by have h1 := h.2 s (by rw [← hp]; simp); omega)
         | exact bT ⟨by omega, by rw [← hp]; exact hinv⟩
      · first
      | omega | contradiction
      | refine Ev.skip ?_; show Ev _ _ _ _; refine Ev.seq ?_; refine Ev.sr fun K hK => S.o q.as (S.end (hK _ ?_)); clear hK K; refine Ev.block ?_; refine Ev.loopU (ι := {q : List Bundle × List Bundle // q.1 ++ q.2 = l ∧ ∀ b ∈ q.1, b.tag.length ≤ 60 ∧ b.mark.length ≤ 60}) [] [0] (fun ⟨(pre, suf), _⟩ => [(5, .lit (.int .i64 ((pre.length : Int))))]) (fun ⟨(pre, suf), _⟩ => []) (fun ⟨(pre, suf), _⟩ => suf.length) ⟨([], l), rfl, fun x hx => by simp at hx⟩ (.c .n) keep_n (slots_c (he := (by first | rfl | (simp; done) | (congr 2; omega))) (h := trivial)) ?_; rintro ⟨⟨pre, suf⟩, hp, hinv⟩ R0 hR0; dsimp only [List.cons_append, List.nil_append, List.length_cons, List.length_nil]
        simp only at hp hinv
        have hpl : pre.length + suf.length = (l).length := by rw [← hp, List.length_append]
        rcases suf with _ | ⟨s, suf⟩
        · rw [List.append_nil] at hp; simp only [List.length_nil] at hpl; refine Ev.seq ?_; refine Ev.sr fun K hK => S.o q.mv (S.o q.mv (S.o (q.lens am_el27) (S.o q.lss (S.end (hK _ ?_))))); clear hK K; refine Ev.cd (fun c4 => ?_) (fun c4 => ?_)
          · first | omega | contradiction | (exfalso; simp at *; done)
          · first
          | omega | contradiction
          | refine Ev.exit ?_; refine hR0 _ _ ?_; show Ev _ _ _ _; refine Ev.sr fun K hK => S.o q.as (S.end (hK _ ?_)); clear hK K; refine Ev.ret ?_; refine Ev.ret1 ?_; refine ⟨?_, rfl⟩
            first
             | exact bF (fun h => by have h1 := h.1; omega)
             | exact bF (fun h => by have h1 := h.2 s (by rw [← hp]; simp); omega)
             | exact bT ⟨by omega, by rw [← hp]; exact hinv⟩
        · simp only [List.length_cons] at hpl
          have hidx : l[pre.length]? = some s := by rw [← hp]; simp
          refine Ev.seq ?_; refine Ev.sr fun K hK => S.o q.mv (S.o q.mv (S.o (q.lens am_el27) (S.o q.lss (S.end (hK _ ?_))))); clear hK K; refine Ev.cd (fun c5 => ?_) (fun c5 => ?_)
          · first
          | omega | contradiction
          | refine Ev.skip ?_; show Ev _ _ _ _; refine Ev.seq ?_; refine Ev.block ?_; refine Ev.sr fun K hK => S.o q.mv (S.o q.mv (S.o (q.ix am_el27 am_cl53 (hl := (by first | exact ati hidx (by omega) | exact atig (by omega)))) (S.o (q.fs 0 am_fi53_0 am_cl9) (S.o (q.ls am_ag9) (S.o (q.slen am_el9 am_un9) (S.o q.gtr (S.bd q.mv (fun c6 => ?_) (fun c6 => ?_))))))))
            · first
            | omega | contradiction
            | refine S.sk (S.sk (S.sk (S.sk (S.sk (S.sk (S.sk (S.o q.pt (S.end (hK _ ?_))))))))); clear hK K; refine Ev.ct ?_; refine Ev.sr fun K hK => S.o q.as (S.end (hK _ ?_)); clear hK K; refine Ev.ret ?_; refine hR0 _ _ ?_; refine Ev.ret1 ?_; refine ⟨?_, rfl⟩
              first
               | exact bF (fun h => by have h1 := h.1; omega)
               | exact bF (fun h => by have h1 := h.2 s (by rw [← hp]; simp); omega)
               | exact bT ⟨by omega, by rw [← hp]; exact hinv⟩
            · first
            | omega | contradiction
            | refine S.o q.mv (S.o q.mv (S.o (q.ix am_el27 am_cl53 (hl := (by first | exact ati hidx (by omega) | exact atig (by omega)))) (S.o (q.fs 1 am_fi53_1 am_cl9) (S.o (q.ls am_ag9) (S.o (q.slen am_el9 am_un9) (S.o q.gtr (S.o q.pf (S.end (hK _ ?_))))))))); clear hK K; refine Ev.cd (fun c7 => ?_) (fun c7 => ?_)
              · first
              | omega | contradiction
              | refine Ev.sr fun K hK => S.o q.as (S.end (hK _ ?_)); clear hK K; refine Ev.ret ?_; refine hR0 _ _ ?_; refine Ev.ret1 ?_; refine ⟨?_, rfl⟩
                first
                 | exact bF (fun h => by have h1 := h.1; omega)
                 | exact bF (fun h => by have h1 := h.2 s (by rw [← hp]; simp); omega)
                 | exact bT ⟨by omega, by rw [← hp]; exact hinv⟩
              · first
              | omega | contradiction
              | refine Ev.skip ?_; show Ev _ _ _ _; refine Ev.region_S fun K hK => S.o q.mv (S.o q.add (S.o q.as (S.end (hK _ ?_)))); clear hK K; refine hR0 _ _ ?_; refine roundU [] [0] ⟨(pre ++ [s], suf), by rw [← hp]; simp, ?_⟩ ?_ keep_n (slots_c (he := (by first | rfl | (simp; done) | (congr 2; omega))) (h := trivial)) (.c .n)
                intro x hx; simp only [List.mem_append, List.mem_singleton] at hx; rcases hx with hx | rfl
                · exact hinv x hx
                · omega
                all_goals (dsimp only; simp only [List.length_cons]; omega)
          · first | omega | contradiction | (exfalso; simp at *; done)
  · first
  | omega | contradiction
  | refine S.sk (S.sk (S.sk (S.o q.pf (S.o q.mv (S.o q.mv (S.o (q.lens am_el27) (S.o q.gtr (S.o q.pf (S.end (hK _ ?_)))))))))); clear hK K; refine Ev.cd (fun c8 => ?_) (fun c8 => ?_)
    · first
    | omega | contradiction
    | refine Ev.sr fun K hK => S.o q.as (S.end (hK _ ?_)); clear hK K; refine Ev.ret ?_; refine Ev.ret1 ?_; refine ⟨?_, rfl⟩
      first
       | exact bF (fun h => by have h1 := h.1; omega)
       | exact bF (fun h => by have h1 := h.2 s (by rw [← hp]; simp); omega)
       | exact bT ⟨by omega, by rw [← hp]; exact hinv⟩
    · first
    | omega | contradiction
    | refine Ev.skip ?_; show Ev _ _ _ _; refine Ev.seq ?_; refine Ev.sr fun K hK => S.o q.as (S.end (hK _ ?_)); clear hK K; refine Ev.block ?_; refine Ev.loopU (ι := {q : List Bundle × List Bundle // q.1 ++ q.2 = l ∧ ∀ b ∈ q.1, b.tag.length ≤ 60 ∧ b.mark.length ≤ 60}) [] [0] (fun ⟨(pre, suf), _⟩ => [(5, .lit (.int .i64 ((pre.length : Int))))]) (fun ⟨(pre, suf), _⟩ => []) (fun ⟨(pre, suf), _⟩ => suf.length) ⟨([], l), rfl, fun x hx => by simp at hx⟩ (.c .n) keep_n (slots_c (he := (by first | rfl | (simp; done) | (congr 2; omega))) (h := trivial)) ?_; rintro ⟨⟨pre, suf⟩, hp, hinv⟩ R0 hR0; dsimp only [List.cons_append, List.nil_append, List.length_cons, List.length_nil]
      simp only at hp hinv
      have hpl : pre.length + suf.length = (l).length := by rw [← hp, List.length_append]
      rcases suf with _ | ⟨s, suf⟩
      · rw [List.append_nil] at hp; simp only [List.length_nil] at hpl; refine Ev.seq ?_; refine Ev.sr fun K hK => S.o q.mv (S.o q.mv (S.o (q.lens am_el27) (S.o q.lss (S.end (hK _ ?_))))); clear hK K; refine Ev.cd (fun c9 => ?_) (fun c9 => ?_)
        · first | omega | contradiction | (exfalso; simp at *; done)
        · first
        | omega | contradiction
        | refine Ev.exit ?_; refine hR0 _ _ ?_; show Ev _ _ _ _; refine Ev.sr fun K hK => S.o q.as (S.end (hK _ ?_)); clear hK K; refine Ev.ret ?_; refine Ev.ret1 ?_; refine ⟨?_, rfl⟩
          first
           | exact bF (fun h => by have h1 := h.1; omega)
           | exact bF (fun h => by have h1 := h.2 s (by rw [← hp]; simp); omega)
           | exact bT ⟨by omega, by rw [← hp]; exact hinv⟩
      · simp only [List.length_cons] at hpl
        have hidx : l[pre.length]? = some s := by rw [← hp]; simp
        refine Ev.seq ?_; refine Ev.sr fun K hK => S.o q.mv (S.o q.mv (S.o (q.lens am_el27) (S.o q.lss (S.end (hK _ ?_))))); clear hK K; refine Ev.cd (fun c10 => ?_) (fun c10 => ?_)
        · first
        | omega | contradiction
        | refine Ev.skip ?_; show Ev _ _ _ _; refine Ev.seq ?_; refine Ev.block ?_; refine Ev.sr fun K hK => S.o q.mv (S.o q.mv (S.o (q.ix am_el27 am_cl53 (hl := (by first | exact ati hidx (by omega) | exact atig (by omega)))) (S.o (q.fs 0 am_fi53_0 am_cl9) (S.o (q.ls am_ag9) (S.o (q.slen am_el9 am_un9) (S.o q.gtr (S.bd q.mv (fun c11 => ?_) (fun c11 => ?_))))))))
          · first
          | omega | contradiction
          | refine S.sk (S.sk (S.sk (S.sk (S.sk (S.sk (S.sk (S.o q.pt (S.end (hK _ ?_))))))))); clear hK K; refine Ev.ct ?_; refine Ev.sr fun K hK => S.o q.as (S.end (hK _ ?_)); clear hK K; refine Ev.ret ?_; refine hR0 _ _ ?_; refine Ev.ret1 ?_; refine ⟨?_, rfl⟩
            first
             | exact bF (fun h => by have h1 := h.1; omega)
             | exact bF (fun h => by have h1 := h.2 s (by rw [← hp]; simp); omega)
             | exact bT ⟨by omega, by rw [← hp]; exact hinv⟩
          · first
          | omega | contradiction
          | refine S.o q.mv (S.o q.mv (S.o (q.ix am_el27 am_cl53 (hl := (by first | exact ati hidx (by omega) | exact atig (by omega)))) (S.o (q.fs 1 am_fi53_1 am_cl9) (S.o (q.ls am_ag9) (S.o (q.slen am_el9 am_un9) (S.o q.gtr (S.o q.pf (S.end (hK _ ?_))))))))); clear hK K; refine Ev.cd (fun c12 => ?_) (fun c12 => ?_)
            · first
            | omega | contradiction
            | refine Ev.sr fun K hK => S.o q.as (S.end (hK _ ?_)); clear hK K; refine Ev.ret ?_; refine hR0 _ _ ?_; refine Ev.ret1 ?_; refine ⟨?_, rfl⟩
              first
               | exact bF (fun h => by have h1 := h.1; omega)
               | exact bF (fun h => by have h1 := h.2 s (by rw [← hp]; simp); omega)
               | exact bT ⟨by omega, by rw [← hp]; exact hinv⟩
            · first
            | omega | contradiction
            | refine Ev.skip ?_; show Ev _ _ _ _; refine Ev.region_S fun K hK => S.o q.mv (S.o q.add (S.o q.as (S.end (hK _ ?_)))); clear hK K; refine hR0 _ _ ?_; refine roundU [] [0] ⟨(pre ++ [s], suf), by rw [← hp]; simp, ?_⟩ ?_ keep_n (slots_c (he := (by first | rfl | (simp; done) | (congr 2; omega))) (h := trivial)) (.c .n)
              intro x hx; simp only [List.mem_append, List.mem_singleton] at hx; rcases hx with hx | rfl
              · exact hinv x hx
              · omega
              all_goals (dsimp only; simp only [List.length_cons]; omega)
        · first | omega | contradiction | (exfalso; simp at *; done)
abbrev Fnd := Int × List UInt8
end Go.Proofs.YthpjfkmhpoeojaaGreatDoor
