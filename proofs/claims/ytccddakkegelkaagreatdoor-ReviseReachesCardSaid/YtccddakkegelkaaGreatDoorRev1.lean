/-
  Layer 41: marks and changes.
  Conditions: none.
-/
import Derived.Test.YtccddakkegelkaaGreatDoorSteel
import Derived.Test.YtccddakkegelkaaGreatDoorAmMap
namespace Go.Proofs.YtccddakkegelkaaGreatDoor
open Go Go.AM
set_option linter.unusedSimpArgs false
set_option linter.unusedVariables false
set_option maxRecDepth 100000
theorem indexFuncChg0 (g : FuncId)  (p : Int × List UInt8 → Bool) (hg : ∀ s, Fun Tryz.prog g [.agg (findC s)] (Ret (.lit (.bool (p s))) [])) (l : List (Int × List UInt8)) (hlen : l.length ≤ 140737488355328) :
    Fun Tryz.prog 15 [.sh 2 (l.map findC), .fn (.func g) [] []] (Ret (.lit (.int .i64 (idxP p l 0))) []) := by
  refine Fun.of (nt := 19) (rs := [.tmp 4]) Tryz.func15 rfl rfl rfl rfl rfl ?_
  refine Ev.sr fun K hK => S.o q.as (S.end (hK _ ?_))
  clear hK K
  refine Ev.seq ?_
  refine Ev.sr fun K hK => S.o q.mv (S.o (q.lens am_el25) (S.o q.mv (S.end (hK _ ?_))))
  clear hK K
  refine Ev.block ?_
  refine Ev.loopU (ι := {q : List (Int × List UInt8) × List (Int × List UInt8) // q.1 ++ q.2 = l ∧ ∀ x ∈ q.1, p x = false}) [] [0, 1, 7] (fun ⟨(pre, suf), _⟩ => [(8, .lit (.int .i64 ((pre.length : Int))))]) (fun ⟨(pre, suf), _⟩ => []) (fun ⟨(pre, suf), _⟩ => suf.length) ⟨([], l), rfl, fun x hx => by simp at hx⟩ (.c (.c (.c .n))) keep_n (slots_c (he := (by first | rfl | (simp; done) | (congr 2; omega))) (h := trivial)) ?_
  rintro ⟨⟨pre, suf⟩, hp, hinv⟩ R0 hR0
  dsimp only [List.cons_append, List.nil_append, List.length_cons, List.length_nil]
  simp only at hp hinv
  have hpl : pre.length + suf.length = (l).length := by rw [← hp, List.length_append]
  rcases suf with _ | ⟨s, suf⟩
  · rw [List.append_nil] at hp; subst hp; simp only [List.length_nil] at hpl
    refine Ev.sr fun K hK => S.o q.lss (S.end (hK _ ?_))
    clear hK K
    refine Ev.ud (fun c1 => ?_) (fun c1 => ?_)
    · first
    | (first | omega | contradiction)
    | refine Ev.seq ?_
      refine Ev.block ?_
      refine Ev.sr fun K hK => S.o q.mv (S.o q.as (S.end (hK _ ?_)))
      clear hK K
      refine Ev.sr fun K hK => S.o q.mv (S.o q.mv (S.o q.mv (S.o (q.ix am_el25 am_cl34 (hl := (by first | exact atig (by omega)))) (S.o (q.lsA [_, _] am_ag34 am_cl34) (S.c0 (hF := hg s) (h := S.end (hK _ ?_)))))))
      clear hK K
      refine Ev.c (fun c2 => ?_) (fun c2 => ?_)
      · first
      | (first | omega | contradiction)
      | refine Ev.sr fun K hK => S.o q.mv (S.o q.as (S.end (hK _ ?_)))
        clear hK K
        refine Ev.ret ?_
        refine hR0 _ _ ?_
        refine Ev.ret1 ?_
        refine ⟨?_, rfl⟩
        first | (congr 2; rw [← hp, idxP_append p pre _ 0 hinv, idxP, if_pos ‹_›]; omega) | (congr 2; rw [idxP_none p pre 0 hinv])
      · first
      | (first | omega | contradiction)
      | refine Ev.skip ?_
        show Ev _ _ _ _
        refine Ev.region_S fun K hK => S.o q.add (S.o q.mv (S.end (hK _ ?_)))
        clear hK K
        refine hR0 _ _ ?_
        refine roundU [] [0, 1, 7] ⟨(pre ++ [s], suf), by rw [← hp]; simp, ?_⟩ ?_ keep_n (slots_c (he := (by first | rfl | (simp; done) | (congr 2; omega))) (h := trivial)) (.c (.c (.c .n)))
        intro x hx; simp only [List.mem_append, List.mem_singleton] at hx; rcases hx with hx | rfl
        · exact hinv x hx
        · assumption
        all_goals (dsimp only; simp only [List.length_cons]; omega)
    · first
    | (first | omega | contradiction)
    | refine Ev.exit ?_
      refine hR0 _ _ ?_
      show Ev _ _ _ _
      refine Ev.sr fun K hK => S.o q.as (S.end (hK _ ?_))
      clear hK K
      refine Ev.ret ?_
      refine Ev.ret1 ?_
      refine ⟨?_, rfl⟩
      first | (congr 2; rw [← hp, idxP_append p pre _ 0 hinv, idxP, if_pos ‹_›]; omega) | (congr 2; rw [idxP_none p pre 0 hinv])
  · simp only [List.length_cons] at hpl
    have hidx : (l)[pre.length]? = some s := by rw [← hp]; simp
    refine Ev.sr fun K hK => S.o q.lss (S.end (hK _ ?_))
    clear hK K
    refine Ev.ud (fun c3 => ?_) (fun c3 => ?_)
    · first
    | (first | omega | contradiction)
    | refine Ev.seq ?_
      refine Ev.block ?_
      refine Ev.sr fun K hK => S.o q.mv (S.o q.as (S.end (hK _ ?_)))
      clear hK K
      refine Ev.sr fun K hK => S.o q.mv (S.o q.mv (S.o q.mv (S.o (q.ix am_el25 am_cl34 (hl := (by first | exact ati hidx (by omega) | exact atig (by omega)))) (S.o (q.lsA [_, _] am_ag34 am_cl34) (S.c0 (hF := hg s) (h := S.end (hK _ ?_)))))))
      clear hK K
      refine Ev.c (fun c4 => ?_) (fun c4 => ?_)
      · first
      | (first | omega | contradiction)
      | refine Ev.sr fun K hK => S.o q.mv (S.o q.as (S.end (hK _ ?_)))
        clear hK K
        refine Ev.ret ?_
        refine hR0 _ _ ?_
        refine Ev.ret1 ?_
        refine ⟨?_, rfl⟩
        first | (congr 2; rw [← hp, idxP_append p pre _ 0 hinv, idxP, if_pos ‹_›]; omega) | (congr 2; rw [idxP_none p pre 0 hinv])
      · first
      | (first | omega | contradiction)
      | refine Ev.skip ?_
        show Ev _ _ _ _
        refine Ev.region_S fun K hK => S.o q.add (S.o q.mv (S.end (hK _ ?_)))
        clear hK K
        refine hR0 _ _ ?_
        refine roundU [] [0, 1, 7] ⟨(pre ++ [s], suf), by rw [← hp]; simp, ?_⟩ ?_ keep_n (slots_c (he := (by first | rfl | (simp; done) | (congr 2; omega))) (h := trivial)) (.c (.c (.c .n)))
        intro x hx; simp only [List.mem_append, List.mem_singleton] at hx; rcases hx with hx | rfl
        · exact hinv x hx
        · assumption
        all_goals (dsimp only; simp only [List.length_cons]; omega)
    · first
    | (first | omega | contradiction)
    | refine Ev.exit ?_
      refine hR0 _ _ ?_
      show Ev _ _ _ _
      refine Ev.sr fun K hK => S.o q.as (S.end (hK _ ?_))
      clear hK K
      refine Ev.ret ?_
      refine Ev.ret1 ?_
      refine ⟨?_, rfl⟩
      first | (congr 2; rw [← hp, idxP_append p pre _ 0 hinv, idxP, if_pos ‹_›]; omega) | (congr 2; rw [idxP_none p pre 0 hinv])
theorem containsFuncChg0 (g : FuncId)  (p : Int × List UInt8 → Bool) (hg : ∀ s, Fun Tryz.prog g [.agg (findC s)] (Ret (.lit (.bool (p s))) [])) (l : List (Int × List UInt8)) (hlen : l.length ≤ 140737488355328) :
    Fun Tryz.prog 10 [.sh 2 (l.map findC), .fn (.func g) [] []] (Ret (.lit (.bool (decide (∃ x ∈ l, p x = true)))) []) := by
  have hd : (decide (∃ x ∈ l, p x = true)) = decide (0 ≤ idxP p l 0) := by simp only [idxP_nonneg p l 0 (Int.le_refl _)]
  rw [hd]
  refine Fun.of (nt := 9) (rs := [.tmp 4]) Tryz.func10 rfl rfl rfl rfl rfl ?_
  refine Ev.sr fun K hK => S.o q.as (S.end (hK _ ?_))
  clear hK K
  refine Ev.sr fun K hK => S.o q.mv (S.o q.mv (S.c0 (hF := indexFuncChg0 g  p hg l hlen) (h := S.o q.geq (S.o q.as (S.end (hK _ ?_))))))
  clear hK K
  refine Ev.ret ?_
  refine Ev.ret1 ?_
  refine ⟨?_, rfl⟩
  rfl
theorem indexFuncChg1 (g : FuncId) (c0 : List AV) (p : Int × List UInt8 → Bool) (hg : ∀ s, Fun Tryz.prog g [.agg (findC s), .sadr c0 0] (Ret (.lit (.bool (p s))) [])) (l : List (Int × List UInt8)) (hlen : l.length ≤ 140737488355328) :
    Fun Tryz.prog 15 [.sh 2 (l.map findC), .fn (.func g) [] [.sadr c0 0]] (Ret (.lit (.int .i64 (idxP p l 0))) []) := by
  refine Fun.of (nt := 19) (rs := [.tmp 4]) Tryz.func15 rfl rfl rfl rfl rfl ?_
  refine Ev.sr fun K hK => S.o q.as (S.end (hK _ ?_))
  clear hK K
  refine Ev.seq ?_
  refine Ev.sr fun K hK => S.o q.mv (S.o (q.lens am_el25) (S.o q.mv (S.end (hK _ ?_))))
  clear hK K
  refine Ev.block ?_
  refine Ev.loopU (ι := {q : List (Int × List UInt8) × List (Int × List UInt8) // q.1 ++ q.2 = l ∧ ∀ x ∈ q.1, p x = false}) [] [0, 1, 7] (fun ⟨(pre, suf), _⟩ => [(8, .lit (.int .i64 ((pre.length : Int))))]) (fun ⟨(pre, suf), _⟩ => []) (fun ⟨(pre, suf), _⟩ => suf.length) ⟨([], l), rfl, fun x hx => by simp at hx⟩ (.c (.c (.c .n))) keep_n (slots_c (he := (by first | rfl | (simp; done) | (congr 2; omega))) (h := trivial)) ?_
  rintro ⟨⟨pre, suf⟩, hp, hinv⟩ R0 hR0
  dsimp only [List.cons_append, List.nil_append, List.length_cons, List.length_nil]
  simp only at hp hinv
  have hpl : pre.length + suf.length = (l).length := by rw [← hp, List.length_append]
  rcases suf with _ | ⟨s, suf⟩
  · rw [List.append_nil] at hp; subst hp; simp only [List.length_nil] at hpl
    refine Ev.sr fun K hK => S.o q.lss (S.end (hK _ ?_))
    clear hK K
    refine Ev.ud (fun c1 => ?_) (fun c1 => ?_)
    · first
    | (first | omega | contradiction)
    | refine Ev.seq ?_
      refine Ev.block ?_
      refine Ev.sr fun K hK => S.o q.mv (S.o q.as (S.end (hK _ ?_)))
      clear hK K
      refine Ev.sr fun K hK => S.o q.mv (S.o q.mv (S.o q.mv (S.o (q.ix am_el25 am_cl34 (hl := (by first | exact atig (by omega)))) (S.o (q.lsA [_, _] am_ag34 am_cl34) (S.c0 (hF := hg s) (h := S.end (hK _ ?_)))))))
      clear hK K
      refine Ev.c (fun c2 => ?_) (fun c2 => ?_)
      · first
      | (first | omega | contradiction)
      | refine Ev.sr fun K hK => S.o q.mv (S.o q.as (S.end (hK _ ?_)))
        clear hK K
        refine Ev.ret ?_
        refine hR0 _ _ ?_
        refine Ev.ret1 ?_
        refine ⟨?_, rfl⟩
        first | (congr 2; rw [← hp, idxP_append p pre _ 0 hinv, idxP, if_pos ‹_›]; omega) | (congr 2; rw [idxP_none p pre 0 hinv])
      · first
      | (first | omega | contradiction)
      | refine Ev.skip ?_
        show Ev _ _ _ _
        refine Ev.region_S fun K hK => S.o q.add (S.o q.mv (S.end (hK _ ?_)))
        clear hK K
        refine hR0 _ _ ?_
        refine roundU [] [0, 1, 7] ⟨(pre ++ [s], suf), by rw [← hp]; simp, ?_⟩ ?_ keep_n (slots_c (he := (by first | rfl | (simp; done) | (congr 2; omega))) (h := trivial)) (.c (.c (.c .n)))
        intro x hx; simp only [List.mem_append, List.mem_singleton] at hx; rcases hx with hx | rfl
        · exact hinv x hx
        · assumption
        all_goals (dsimp only; simp only [List.length_cons]; omega)
    · first
    | (first | omega | contradiction)
    | refine Ev.exit ?_
      refine hR0 _ _ ?_
      show Ev _ _ _ _
      refine Ev.sr fun K hK => S.o q.as (S.end (hK _ ?_))
      clear hK K
      refine Ev.ret ?_
      refine Ev.ret1 ?_
      refine ⟨?_, rfl⟩
      first | (congr 2; rw [← hp, idxP_append p pre _ 0 hinv, idxP, if_pos ‹_›]; omega) | (congr 2; rw [idxP_none p pre 0 hinv])
  · simp only [List.length_cons] at hpl
    have hidx : (l)[pre.length]? = some s := by rw [← hp]; simp
    refine Ev.sr fun K hK => S.o q.lss (S.end (hK _ ?_))
    clear hK K
    refine Ev.ud (fun c3 => ?_) (fun c3 => ?_)
    · first
    | (first | omega | contradiction)
    | refine Ev.seq ?_
      refine Ev.block ?_
      refine Ev.sr fun K hK => S.o q.mv (S.o q.as (S.end (hK _ ?_)))
      clear hK K
      refine Ev.sr fun K hK => S.o q.mv (S.o q.mv (S.o q.mv (S.o (q.ix am_el25 am_cl34 (hl := (by first | exact ati hidx (by omega) | exact atig (by omega)))) (S.o (q.lsA [_, _] am_ag34 am_cl34) (S.c0 (hF := hg s) (h := S.end (hK _ ?_)))))))
      clear hK K
      refine Ev.c (fun c4 => ?_) (fun c4 => ?_)
      · first
      | (first | omega | contradiction)
      | refine Ev.sr fun K hK => S.o q.mv (S.o q.as (S.end (hK _ ?_)))
        clear hK K
        refine Ev.ret ?_
        refine hR0 _ _ ?_
        refine Ev.ret1 ?_
        refine ⟨?_, rfl⟩
        first | (congr 2; rw [← hp, idxP_append p pre _ 0 hinv, idxP, if_pos ‹_›]; omega) | (congr 2; rw [idxP_none p pre 0 hinv])
      · first
      | (first | omega | contradiction)
      | refine Ev.skip ?_
        show Ev _ _ _ _
        refine Ev.region_S fun K hK => S.o q.add (S.o q.mv (S.end (hK _ ?_)))
        clear hK K
        refine hR0 _ _ ?_
        refine roundU [] [0, 1, 7] ⟨(pre ++ [s], suf), by rw [← hp]; simp, ?_⟩ ?_ keep_n (slots_c (he := (by first | rfl | (simp; done) | (congr 2; omega))) (h := trivial)) (.c (.c (.c .n)))
        intro x hx; simp only [List.mem_append, List.mem_singleton] at hx; rcases hx with hx | rfl
        · exact hinv x hx
        · assumption
        all_goals (dsimp only; simp only [List.length_cons]; omega)
    · first
    | (first | omega | contradiction)
    | refine Ev.exit ?_
      refine hR0 _ _ ?_
      show Ev _ _ _ _
      refine Ev.sr fun K hK => S.o q.as (S.end (hK _ ?_))
      clear hK K
      refine Ev.ret ?_
      refine Ev.ret1 ?_
      refine ⟨?_, rfl⟩
      first | (congr 2; rw [← hp, idxP_append p pre _ 0 hinv, idxP, if_pos ‹_›]; omega) | (congr 2; rw [idxP_none p pre 0 hinv])
abbrev Chg := Int × List UInt8
theorem find1_fun (mk : List UInt8) (b : Bar) : Fun Tryz.prog 52 [.agg b.c, .sadr [.lit (str mk)] 0] (Ret (.lit (.bool (decide (b.mark = mk)))) []) := by
  refine Fun.of (nt := 8) (rs := [.tmp 3]) Tryz.func52 rfl rfl rfl rfl rfl ?_
  refine Ev.sr fun K hK => S.nn (q.bx [_, _, _, _, _] true) (S.o q.as (S.end (hK _ ?_)))
  clear hK K
  refine Ev.sr fun K hK => S.o (q.fa 0 am_fi44_0 am_cl9) (S.o (q.lv am_ag9) (S.o (q.ls am_ag9) (S.o q.seqs (S.o q.as (S.end (hK _ ?_))))))
  clear hK K
  refine Ev.ret ?_
  refine Ev.ret1 ?_
  refine ⟨?_, rfl⟩
  rfl
theorem find_fun (l : List Bar) (mk : List UInt8) (hlen : l.length ≤ 140737488355328) : Fun Tryz.prog 30 [.sh 5 (l.map Bar.c), .lit (str mk)] (Ret (.lit (.int .i64 (markI l mk))) []) := by
  refine Fun.of (nt := 8) (rs := [.tmp 4]) Tryz.func30 rfl rfl rfl rfl rfl ?_
  refine Ev.sr fun K hK => S.nn (q.bx [_] true) (S.o q.as (S.end (hK _ ?_)))
  clear hK K
  refine Ev.sr fun K hK => S.o q.mv (S.o q.mf (S.c0 (hF := indexFuncBar1 _ _ _ (find1_fun mk) l (by omega)) (h := S.o q.as (S.end (hK _ ?_)))))
  clear hK K
  refine Ev.ret ?_
  refine Ev.ret1 ?_
  refine ⟨?_, rfl⟩
  rfl

def chgI (l : List Chg) (mk : List UInt8) : Int := idxP (fun c => decide (c.2 = mk)) l 0
/-- The kind of a mark's change, 0 if there is none. -/
def ofK : List Chg → List UInt8 → Int
  | [], _ => 0
  | c :: l, mk => if c.2 = mk then c.1 else ofK l mk
theorem ofK_none {mk : List UInt8} : ∀ (l : List Chg) (k : Int), 0 ≤ k → idxP (fun c : Chg => decide (c.2 = mk)) l k < 0 → ofK l mk = 0
  | [], _, _, _ => rfl
  | c :: l, k, hk, h => by
    rw [idxP] at h
    rw [ofK]
    split at h
    · omega
    · rename_i hc
      rw [if_neg (by simpa using hc)]
      exact ofK_none l (k + 1) (by omega) h
theorem ofK_some {mk : List UInt8} : ∀ (l : List Chg) (k : Int), 0 ≤ k → 0 ≤ idxP (fun c : Chg => decide (c.2 = mk)) l k → k ≤ idxP (fun c : Chg => decide (c.2 = mk)) l k ∧ l[(idxP (fun c : Chg => decide (c.2 = mk)) l k - k).toNat]? = some (ofK l mk, mk)
  | [], _, _, h => by simp [idxP] at h
  | c :: l, k, hk, h => by
    rw [idxP] at h ⊢
    rw [ofK]
    split
    · rename_i hc
      have hc' : c.2 = mk := by simpa using hc
      rw [if_pos hc']
      refine ⟨Int.le_refl _, ?_⟩
      rw [Int.sub_self]
      simp [← hc']
    · rename_i hc
      rw [if_neg hc] at h
      rw [if_neg (by simpa using hc)]
      obtain ⟨h1, h2⟩ := ofK_some l (k + 1) (by omega) h
      refine ⟨by omega, ?_⟩
      rw [show (idxP (fun c : Chg => decide (c.2 = mk)) l (k + 1) - k).toNat = (idxP (fun c : Chg => decide (c.2 = mk)) l (k + 1) - (k + 1)).toNat + 1 by omega]
      simpa using h2
theorem of1_fun (mk : List UInt8) (c : Chg) : Fun Tryz.prog 49 [.agg (findC c), .sadr [.lit (str mk)] 0] (Ret (.lit (.bool (decide (c.2 = mk)))) []) := by
  refine Fun.of (nt := 8) (rs := [.tmp 3]) Tryz.func49 rfl rfl rfl rfl rfl ?_
  refine Ev.sr fun K hK => S.nn (q.bx [_, _] true) (S.o q.as (S.end (hK _ ?_)))
  clear hK K
  refine Ev.sr fun K hK => S.o (q.fa 1 am_fi34_1 am_cl9) (S.o (q.lv am_ag9) (S.o (q.ls am_ag9) (S.o q.seqs (S.o q.as (S.end (hK _ ?_))))))
  clear hK K
  refine Ev.ret ?_
  refine Ev.ret1 ?_
  refine ⟨?_, rfl⟩
  rfl
theorem of_fun (l : List Chg) (mk : List UInt8) (hlen : l.length ≤ 140737488355328) : Fun Tryz.prog 28 [.sh 2 (l.map findC), .lit (str mk)] (Ret (.lit (.int .i64 (ofK l mk))) []) := by
  refine Fun.of (nt := 16) (rs := [.tmp 4]) Tryz.func28 rfl rfl rfl rfl rfl ?_
  refine Ev.sr fun K hK => S.nn (q.bx [_] true) (S.o q.as (S.end (hK _ ?_)))
  clear hK K
  refine Ev.sr fun K hK => S.o q.mv (S.o q.mf (S.c0 (hF := indexFuncChg1 _ _ (fun c : Chg => decide (c.2 = mk)) (of1_fun mk) l (by omega)) (h := S.o q.as (S.end (hK _ ?_)))))
  clear hK K
  refine Ev.seq ?_
  refine Ev.sr fun K hK => S.o q.mv (S.o q.lss (S.end (hK _ ?_)))
  clear hK K
  refine Ev.cd (fun c1 => ?_) (fun c1 => ?_)
  · first
  | (first | omega | contradiction)
  | refine Ev.sr fun K hK => S.o q.as (S.end (hK _ ?_))
    clear hK K
    refine Ev.ret ?_
    refine Ev.ret1 ?_
    refine ⟨?_, rfl⟩
    first | rfl | exact iE (ofK_none l 0 (by omega) ‹_›).symm
  · first
  | (first | omega | contradiction)
  | refine Ev.skip ?_
    show Ev _ _ _ _
    obtain ⟨hk0, hk1⟩ := ofK_some (mk := mk) l 0 (by omega) (by omega)
    rw [Int.sub_zero] at hk1
    refine Ev.sr fun K hK => S.o q.mv (S.o q.mv (S.o (q.ix am_el25 am_cl34 (hl := (by first | exact ati hk1 (by omega) | exact atig (by omega)))) (S.o (q.fs 0 am_fi34_0 am_cl3) (S.o (q.ls am_ag3) (S.o q.as (S.end (hK _ ?_)))))))
    clear hK K
    refine Ev.ret ?_
    refine Ev.ret1 ?_
    refine ⟨?_, rfl⟩
    first | rfl | exact iE (ofK_none l 0 (by omega) ‹_›).symm

def okChg (c : Chg) : Prop := 1 ≤ c.1 ∧ c.1 ≤ 4 ∧ IsName c.2
instance (c) : Decidable (okChg c) := by unfold okChg; infer_instance
def okChgs (l : List Chg) : Prop := l.length ≤ 120 ∧ (∀ c ∈ l, okChg c) ∧ l.Pairwise (fun a b => a.2 ≠ b.2)
instance (l) : Decidable (okChgs l) := by unfold okChgs; infer_instance
def chgW (l : List Chg) : Prop := ∀ c ∈ l, c.2.length ≤ 140737488355328
def marksM (l : List Chg) : List (List UInt8 × Bool) := l.map fun c => (c.2, true)
theorem marks_no {l : List Chg} {k : List UInt8} (h : (mget (marksM l) k).getD false = false) : ∀ a ∈ l, a.2 ≠ k := by
  intro a ha e
  have h1 : k ∈ (marksM l).map (·.1) := by simp only [marksM, List.map_map, List.mem_map]; exact ⟨a, ha, e⟩
  obtain ⟨v, hv⟩ := Option.isSome_iff_exists.1 ((mget_isSome _ _).2 h1)
  have h2 := mget_mem hv
  simp only [marksM, List.mem_map, Prod.mk.injEq] at h2
  obtain ⟨_, _, _, rfl⟩ := h2
  rw [hv] at h
  simp at h
theorem marks_yes {l : List Chg} {k : List UInt8} (h : (mget (marksM l) k).getD false = true) : ∃ a ∈ l, a.2 = k := by
  cases hm : mget (marksM l) k with
  | none => rw [hm] at h; simp at h
  | some v =>
    have h2 := mget_mem hm
    simp only [marksM, List.mem_map, Prod.mk.injEq] at h2
    obtain ⟨a, ha, e, _⟩ := h2
    exact ⟨a, ha, e⟩
theorem marks_snoc {l : List Chg} {c : Chg} (h : (mget (marksM l) c.2).getD false = false) : mput (marksM l) c.2 true = marksM (l ++ [c]) := by
  have hn : mget (marksM l) c.2 = none := by
    cases hm : mget (marksM l) c.2 with
    | none => rfl
    | some v =>
      have h2 := mget_mem hm
      simp only [marksM, List.mem_map, Prod.mk.injEq] at h2
      obtain ⟨_, _, _, rfl⟩ := h2
      rw [hm] at h
      simp at h
  rw [mput_none true hn]
  simp [marksM]
theorem chg_cut {pre suf l : List Chg} {s : Chg} (hp : pre ++ s :: suf = l) (h : okChgs l) : okChg s ∧ ∀ a ∈ pre, a.2 ≠ s.2 := by
  obtain ⟨h1, h2, h3⟩ := h
  refine ⟨h2 s (by rw [← hp]; simp), fun a ha => ?_⟩
  rw [← hp, List.pairwise_append] at h3
  exact h3.2.2 a ha s (by simp)
theorem chg_snoc {pre : List Chg} {s : Chg} (h : (∀ c ∈ pre, okChg c) ∧ pre.Pairwise (fun a b => a.2 ≠ b.2)) (h1 : okChg s) (h2 : ∀ a ∈ pre, a.2 ≠ s.2) :
    (∀ c ∈ pre ++ [s], okChg c) ∧ (pre ++ [s]).Pairwise (fun a b => a.2 ≠ b.2) := by
  refine ⟨fun b hb => ?_, List.pairwise_append.2 ⟨h.2, by simp, fun a ha b hb => ?_⟩⟩
  · rcases List.mem_append.1 hb with hb | hb
    · exact h.1 b hb
    · simp at hb; subst hb; exact h1
  · simp at hb; subst hb
    exact h2 a ha
theorem rvalid_chg (l : List Chg) (hlen : l.length ≤ 140737488355328) (hw : chgW l) : Fun Tryz.prog 26 [.sh 2 (l.map findC)] (Ret (.lit (.bool (decide (okChgs l)))) []) := by
  refine Fun.of (nt := 40) (rs := [.tmp 2]) Tryz.func26 rfl rfl rfl rfl rfl ?_
  refine Ev.sr fun K hK => S.o q.as (S.end (hK _ ?_))
  clear hK K
  refine Ev.seq ?_
  refine Ev.sr fun K hK => S.o q.mv (S.o (q.lens am_el25) (S.o q.gtr (S.end (hK _ ?_))))
  clear hK K
  refine Ev.cd (fun c1 => ?_) (fun c1 => ?_)
  · first
  | (first | omega | contradiction)
  | refine Ev.sr fun K hK => S.o q.as (S.end (hK _ ?_))
    clear hK K
    refine Ev.ret ?_
    refine Ev.ret1 ?_
    refine ⟨?_, rfl⟩
    first
     | exact bF (fun h => by have h1 := h.1; omega)
     | exact bF (fun h => by have h1 := (chg_cut hp h).1.1; have h2 := (chg_cut hp h).1.2.1; omega)
     | exact bF (fun h => absurd (chg_cut hp h).1.2.2 ‹_›)
     | exact bF (fun h => by obtain ⟨a, ha, e⟩ := marks_yes ‹_›; exact (chg_cut hp h).2 a ha e)
     | exact bT ⟨by omega, by rw [← hp]; exact hinv⟩
  · first
  | (first | omega | contradiction)
  | refine Ev.skip ?_
    show Ev _ _ _ _
    refine Ev.sr fun K hK => S.nn (v := .hd 0) (o := ⟨true, 82, 3, ([] : List (List UInt8 × Bool)).map (rowK (str) (Value.bool)), true⟩) (q.mm am_mt82) (S.o q.as (S.end (hK _ ?_)))
    clear hK K
    refine Ev.seq ?_
    refine Ev.sr fun K hK => S.o q.mv (S.o (q.lens am_el25) (S.o q.mv (S.end (hK _ ?_))))
    clear hK K
    refine Ev.block ?_
    refine Ev.loopU (ι := {q : List Chg × List Chg // q.1 ++ q.2 = l ∧ (∀ c ∈ q.1, okChg c) ∧ q.1.Pairwise (fun a b => a.2 ≠ b.2)}) [0] [3, 10, 11] (fun ⟨(pre, suf), _⟩ => [(12, .lit (.int .i64 ((pre.length : Int))))]) (fun ⟨(pre, suf), _⟩ => [(0, ⟨true, 82, 3, (marksM pre).map (rowK (str) (Value.bool)), true⟩)]) (fun ⟨(pre, suf), _⟩ => suf.length) ⟨([], l), rfl, ⟨fun b hb => by simp at hb, by simp⟩⟩ (.c (.c (.c .n))) (keep_c (he := (by first | rfl | (rw [marks_snoc ‹_›]))) (h := keep_n)) (slots_c (he := (by first | rfl | (congr 2; simp; done))) (h := trivial)) ?_
    rintro ⟨⟨pre, suf⟩, hp, hinv⟩ R0 hR0
    dsimp only [List.cons_append, List.nil_append, List.length_cons, List.length_nil]
    simp only at hp hinv
    have hpl : pre.length + suf.length = (l).length := by rw [← hp, List.length_append]
    rcases suf with _ | ⟨s, suf⟩
    · rw [List.append_nil] at hp; simp only [List.length_nil] at hpl
      refine Ev.sr fun K hK => S.o q.lss (S.end (hK _ ?_))
      clear hK K
      refine Ev.ud (fun c2 => ?_) (fun c2 => ?_)
      · first
      | (first | omega | contradiction)
      | refine Ev.seq ?_
        refine Ev.block ?_
        refine Ev.sr fun K hK => S.o (q.ix am_el25 am_cl34 (hl := (by first | exact atig (by omega)))) (S.o (q.lsA [_, _] am_ag34 am_cl34) (S.nn (q.al am_ze34) (S.sv [_, _] true [_] am_in34 am_cl34 (h := S.end (hK _ ?_)))))
        clear hK K
        refine Ev.seq ?_
        refine Ev.sr fun K hK => S.o (q.fa 0 am_fi34_0 am_cl3) (S.o (q.lv am_ag3) (S.o q.lss (S.bd q.mv (fun c3 => ?_) (fun c3 => ?_))))
        · first
        | (first | omega | contradiction)
        | refine S.sk (S.sk (S.sk (S.o q.pt (S.o q.mv (S.sk (S.sk (S.sk (S.sk (S.o q.pt (S.o q.mv (S.sk (S.sk (S.sk (S.sk (S.o q.pt (S.end (hK _ ?_)))))))))))))))))
          clear hK K
          refine Ev.ct ?_
          refine Ev.sr fun K hK => S.o q.as (S.end (hK _ ?_))
          clear hK K
          refine Ev.ret ?_
          refine hR0 _ _ ?_
          refine Ev.ret1 ?_
          refine ⟨?_, rfl⟩
          first
           | exact bF (fun h => by have h1 := h.1; omega)
           | exact bF (fun h => by have h1 := (chg_cut hp h).1.1; have h2 := (chg_cut hp h).1.2.1; omega)
           | exact bF (fun h => absurd (chg_cut hp h).1.2.2 ‹_›)
           | exact bF (fun h => by obtain ⟨a, ha, e⟩ := marks_yes ‹_›; exact (chg_cut hp h).2 a ha e)
           | exact bT ⟨by omega, by rw [← hp]; exact hinv⟩
        · first
        | (first | omega | contradiction)
        | refine S.o (q.fa 0 am_fi34_0 am_cl3) (S.o (q.lv am_ag3) (S.o q.gtr (S.o q.pf (S.bd q.mv (fun c4 => ?_) (fun c4 => ?_)))))
          · first
          | (first | omega | contradiction)
          | refine S.sk (S.sk (S.sk (S.sk (S.o q.pt (S.o q.mv (S.sk (S.sk (S.sk (S.sk (S.o q.pt (S.end (hK _ ?_))))))))))))
            clear hK K
            refine Ev.ct ?_
            refine Ev.sr fun K hK => S.o q.as (S.end (hK _ ?_))
            clear hK K
            refine Ev.ret ?_
            refine hR0 _ _ ?_
            refine Ev.ret1 ?_
            refine ⟨?_, rfl⟩
            first
             | exact bF (fun h => by have h1 := h.1; omega)
             | exact bF (fun h => by have h1 := (chg_cut hp h).1.1; have h2 := (chg_cut hp h).1.2.1; omega)
             | exact bF (fun h => absurd (chg_cut hp h).1.2.2 ‹_›)
             | exact bF (fun h => by obtain ⟨a, ha, e⟩ := marks_yes ‹_›; exact (chg_cut hp h).2 a ha e)
             | exact bT ⟨by omega, by rw [← hp]; exact hinv⟩
          · first
          | (first | omega | contradiction)
          | refine S.o (q.fa 1 am_fi34_1 am_cl9) (S.o (q.lv am_ag9) (S.c0 (hF := isName_fun _ (by omega)) (h := S.o q.not (S.o q.pf (S.bn q.mv (fun c5 => ?_) (fun c5 => ?_))))))
            · first
            | (first | omega | contradiction)
            | refine S.sk (S.sk (S.sk (S.sk (S.o q.pt (S.end (hK _ ?_))))))
              clear hK K
              refine Ev.ct ?_
              refine Ev.sr fun K hK => S.o q.as (S.end (hK _ ?_))
              clear hK K
              refine Ev.ret ?_
              refine hR0 _ _ ?_
              refine Ev.ret1 ?_
              refine ⟨?_, rfl⟩
              first
               | exact bF (fun h => by have h1 := h.1; omega)
               | exact bF (fun h => by have h1 := (chg_cut hp h).1.1; have h2 := (chg_cut hp h).1.2.1; omega)
               | exact bF (fun h => absurd (chg_cut hp h).1.2.2 ‹_›)
               | exact bF (fun h => by obtain ⟨a, ha, e⟩ := marks_yes ‹_›; exact (chg_cut hp h).2 a ha e)
               | exact bT ⟨by omega, by rw [← hp]; exact hinv⟩
            · first
            | (first | omega | contradiction)
            | refine S.o q.mv (S.o (q.fa 1 am_fi34_1 am_cl9) (S.o (q.lv am_ag9) (S.o (q.lk (vv := (Value.bool)) klS am_mt82) (S.o q.pf (S.end (hK _ ?_))))))
              clear hK K
              refine Ev.c (fun c6 => ?_) (fun c6 => ?_)
              · first
              | (first | omega | contradiction)
              | refine Ev.sr fun K hK => S.o q.as (S.end (hK _ ?_))
                clear hK K
                refine Ev.ret ?_
                refine hR0 _ _ ?_
                refine Ev.ret1 ?_
                refine ⟨?_, rfl⟩
                first
                 | exact bF (fun h => by have h1 := h.1; omega)
                 | exact bF (fun h => by have h1 := (chg_cut hp h).1.1; have h2 := (chg_cut hp h).1.2.1; omega)
                 | exact bF (fun h => absurd (chg_cut hp h).1.2.2 ‹_›)
                 | exact bF (fun h => by obtain ⟨a, ha, e⟩ := marks_yes ‹_›; exact (chg_cut hp h).2 a ha e)
                 | exact bT ⟨by omega, by rw [← hp]; exact hinv⟩
              · first
              | (first | omega | contradiction)
              | refine Ev.skip ?_
                show Ev _ _ _ _
                refine Ev.region_S fun K hK => S.o q.mv (S.o (q.fa 1 am_fi34_1 am_cl9) (S.o (q.lv am_ag9) (S.mu (vv := (Value.bool)) [_] klS am_mt82 (fun _ => rfl) (hn := S.end (hK _ ?_)))))
                clear hK K
                show Ev _ _ _ _
                refine Ev.region_S fun K hK => S.o q.add (S.o q.mv (S.end (hK _ ?_)))
                clear hK K
                refine hR0 _ _ ?_
                refine roundU [0] [3, 10, 11] ⟨(pre ++ [s], suf), by rw [← hp]; simp, ?_⟩ ?_ (keep_c (he := (by first | rfl | (rw [marks_snoc ‹_›]))) (h := keep_n)) (slots_c (he := (by first | rfl | (congr 2; simp; done))) (h := trivial)) (.c (.c (.c .n)))
                exact chg_snoc hinv ⟨by omega, by omega, ‹_›⟩ (marks_no ‹_›)
                all_goals (dsimp only; simp only [List.length_cons]; omega)
      · first
      | (first | omega | contradiction)
      | refine Ev.exit ?_
        refine hR0 _ _ ?_
        show Ev _ _ _ _
        refine Ev.sr fun K hK => S.o q.as (S.end (hK _ ?_))
        clear hK K
        refine Ev.ret ?_
        refine Ev.ret1 ?_
        refine ⟨?_, rfl⟩
        first
         | exact bF (fun h => by have h1 := h.1; omega)
         | exact bF (fun h => by have h1 := (chg_cut hp h).1.1; have h2 := (chg_cut hp h).1.2.1; omega)
         | exact bF (fun h => absurd (chg_cut hp h).1.2.2 ‹_›)
         | exact bF (fun h => by obtain ⟨a, ha, e⟩ := marks_yes ‹_›; exact (chg_cut hp h).2 a ha e)
         | exact bT ⟨by omega, by rw [← hp]; exact hinv⟩
    · simp only [List.length_cons] at hpl
      have hidx : l[pre.length]? = some s := by rw [← hp]; simp
      have hsw : s.2.length ≤ 140737488355328 := hw s (by rw [← hp]; simp)
      refine Ev.sr fun K hK => S.o q.lss (S.end (hK _ ?_))
      clear hK K
      refine Ev.ud (fun c7 => ?_) (fun c7 => ?_)
      · first
      | (first | omega | contradiction)
      | refine Ev.seq ?_
        refine Ev.block ?_
        refine Ev.sr fun K hK => S.o (q.ix am_el25 am_cl34 (hl := (by first | exact ati hidx (by omega) | exact atig (by omega)))) (S.o (q.lsA [_, _] am_ag34 am_cl34) (S.nn (q.al am_ze34) (S.sv [_, _] true [_] am_in34 am_cl34 (h := S.end (hK _ ?_)))))
        clear hK K
        refine Ev.seq ?_
        refine Ev.sr fun K hK => S.o (q.fa 0 am_fi34_0 am_cl3) (S.o (q.lv am_ag3) (S.o q.lss (S.bd q.mv (fun c8 => ?_) (fun c8 => ?_))))
        · first
        | (first | omega | contradiction)
        | refine S.sk (S.sk (S.sk (S.o q.pt (S.o q.mv (S.sk (S.sk (S.sk (S.sk (S.o q.pt (S.o q.mv (S.sk (S.sk (S.sk (S.sk (S.o q.pt (S.end (hK _ ?_)))))))))))))))))
          clear hK K
          refine Ev.ct ?_
          refine Ev.sr fun K hK => S.o q.as (S.end (hK _ ?_))
          clear hK K
          refine Ev.ret ?_
          refine hR0 _ _ ?_
          refine Ev.ret1 ?_
          refine ⟨?_, rfl⟩
          first
           | exact bF (fun h => by have h1 := h.1; omega)
           | exact bF (fun h => by have h1 := (chg_cut hp h).1.1; have h2 := (chg_cut hp h).1.2.1; omega)
           | exact bF (fun h => absurd (chg_cut hp h).1.2.2 ‹_›)
           | exact bF (fun h => by obtain ⟨a, ha, e⟩ := marks_yes ‹_›; exact (chg_cut hp h).2 a ha e)
           | exact bT ⟨by omega, by rw [← hp]; exact hinv⟩
        · first
        | (first | omega | contradiction)
        | refine S.o (q.fa 0 am_fi34_0 am_cl3) (S.o (q.lv am_ag3) (S.o q.gtr (S.o q.pf (S.bd q.mv (fun c9 => ?_) (fun c9 => ?_)))))
          · first
          | (first | omega | contradiction)
          | refine S.sk (S.sk (S.sk (S.sk (S.o q.pt (S.o q.mv (S.sk (S.sk (S.sk (S.sk (S.o q.pt (S.end (hK _ ?_))))))))))))
            clear hK K
            refine Ev.ct ?_
            refine Ev.sr fun K hK => S.o q.as (S.end (hK _ ?_))
            clear hK K
            refine Ev.ret ?_
            refine hR0 _ _ ?_
            refine Ev.ret1 ?_
            refine ⟨?_, rfl⟩
            first
             | exact bF (fun h => by have h1 := h.1; omega)
             | exact bF (fun h => by have h1 := (chg_cut hp h).1.1; have h2 := (chg_cut hp h).1.2.1; omega)
             | exact bF (fun h => absurd (chg_cut hp h).1.2.2 ‹_›)
             | exact bF (fun h => by obtain ⟨a, ha, e⟩ := marks_yes ‹_›; exact (chg_cut hp h).2 a ha e)
             | exact bT ⟨by omega, by rw [← hp]; exact hinv⟩
          · first
          | (first | omega | contradiction)
          | refine S.o (q.fa 1 am_fi34_1 am_cl9) (S.o (q.lv am_ag9) (S.c0 (hF := isName_fun _ (by omega)) (h := S.o q.not (S.o q.pf (S.bn q.mv (fun c10 => ?_) (fun c10 => ?_))))))
            · first
            | (first | omega | contradiction)
            | refine S.sk (S.sk (S.sk (S.sk (S.o q.pt (S.end (hK _ ?_))))))
              clear hK K
              refine Ev.ct ?_
              refine Ev.sr fun K hK => S.o q.as (S.end (hK _ ?_))
              clear hK K
              refine Ev.ret ?_
              refine hR0 _ _ ?_
              refine Ev.ret1 ?_
              refine ⟨?_, rfl⟩
              first
               | exact bF (fun h => by have h1 := h.1; omega)
               | exact bF (fun h => by have h1 := (chg_cut hp h).1.1; have h2 := (chg_cut hp h).1.2.1; omega)
               | exact bF (fun h => absurd (chg_cut hp h).1.2.2 ‹_›)
               | exact bF (fun h => by obtain ⟨a, ha, e⟩ := marks_yes ‹_›; exact (chg_cut hp h).2 a ha e)
               | exact bT ⟨by omega, by rw [← hp]; exact hinv⟩
            · first
            | (first | omega | contradiction)
            | refine S.o q.mv (S.o (q.fa 1 am_fi34_1 am_cl9) (S.o (q.lv am_ag9) (S.o (q.lk (vv := (Value.bool)) klS am_mt82) (S.o q.pf (S.end (hK _ ?_))))))
              clear hK K
              refine Ev.c (fun c11 => ?_) (fun c11 => ?_)
              · first
              | (first | omega | contradiction)
              | refine Ev.sr fun K hK => S.o q.as (S.end (hK _ ?_))
                clear hK K
                refine Ev.ret ?_
                refine hR0 _ _ ?_
                refine Ev.ret1 ?_
                refine ⟨?_, rfl⟩
                first
                 | exact bF (fun h => by have h1 := h.1; omega)
                 | exact bF (fun h => by have h1 := (chg_cut hp h).1.1; have h2 := (chg_cut hp h).1.2.1; omega)
                 | exact bF (fun h => absurd (chg_cut hp h).1.2.2 ‹_›)
                 | exact bF (fun h => by obtain ⟨a, ha, e⟩ := marks_yes ‹_›; exact (chg_cut hp h).2 a ha e)
                 | exact bT ⟨by omega, by rw [← hp]; exact hinv⟩
              · first
              | (first | omega | contradiction)
              | refine Ev.skip ?_
                show Ev _ _ _ _
                refine Ev.region_S fun K hK => S.o q.mv (S.o (q.fa 1 am_fi34_1 am_cl9) (S.o (q.lv am_ag9) (S.mu (vv := (Value.bool)) [_] klS am_mt82 (fun _ => rfl) (hn := S.end (hK _ ?_)))))
                clear hK K
                show Ev _ _ _ _
                refine Ev.region_S fun K hK => S.o q.add (S.o q.mv (S.end (hK _ ?_)))
                clear hK K
                refine hR0 _ _ ?_
                refine roundU [0] [3, 10, 11] ⟨(pre ++ [s], suf), by rw [← hp]; simp, ?_⟩ ?_ (keep_c (he := (by first | rfl | (rw [marks_snoc ‹_›]))) (h := keep_n)) (slots_c (he := (by first | rfl | (congr 2; simp; done))) (h := trivial)) (.c (.c (.c .n)))
                exact chg_snoc hinv ⟨by omega, by omega, ‹_›⟩ (marks_no ‹_›)
                all_goals (dsimp only; simp only [List.length_cons]; omega)
      · first
      | (first | omega | contradiction)
      | refine Ev.exit ?_
        refine hR0 _ _ ?_
        show Ev _ _ _ _
        refine Ev.sr fun K hK => S.o q.as (S.end (hK _ ?_))
        clear hK K
        refine Ev.ret ?_
        refine Ev.ret1 ?_
        refine ⟨?_, rfl⟩
        first
         | exact bF (fun h => by have h1 := h.1; omega)
         | exact bF (fun h => by have h1 := (chg_cut hp h).1.1; have h2 := (chg_cut hp h).1.2.1; omega)
         | exact bF (fun h => absurd (chg_cut hp h).1.2.2 ‹_›)
         | exact bF (fun h => by obtain ⟨a, ha, e⟩ := marks_yes ‹_›; exact (chg_cut hp h).2 a ha e)
         | exact bT ⟨by omega, by rw [← hp]; exact hinv⟩
end Go.Proofs.YtccddakkegelkaaGreatDoor
