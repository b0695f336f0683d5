/-
  strings.Cut and strings.Split at one byte.
  Conditions: none.
-/
import Derived.Test.YtnbjmckhongidaaGreatDoorAmStrs
import Derived.Test.YtnbjmckhongidaaGreatDoorAmRes
import Derived.Test.YtnbjmckhongidaaGreatDoorBase
import Derived.Test.YtnbjmckhongidaaGreatDoorAmOwn
import Derived.Test.YtnbjmckhongidaaGreatDoorAmDel
import Derived.Shelf.Lay
import Derived.Ground.NamesProg
namespace Go.Proofs.YtnbjmckhongidaaGreatDoor
open Go Go.AM
set_option linter.unusedSimpArgs false
set_option linter.unusedVariables false
set_option maxRecDepth 100000
set_option maxHeartbeats 1000000

/-- What stands between the bytes c; with sv = 1 each piece but the last one keeps its c. -/
def splitG (sv : Nat) (c : UInt8) : List UInt8 → List (List UInt8)
  | [] => [[]]
  | b :: l => if b = c then (if sv = 1 then [b] else []) :: splitG sv c l else match splitG sv c l with
    | [] => [[b]]
    | w :: ws => (b :: w) :: ws
theorem splitG_ne (sv : Nat) (c : UInt8) : ∀ l, splitG sv c l ≠ []
  | [] => by simp [splitG]
  | b :: l => by
    rw [splitG]
    split
    · simp
    · split <;> simp
theorem splitG_len (sv : Nat) (c : UInt8) : ∀ l, (splitG sv c l).length = Go.Lib.countByte l c + 1
  | [] => rfl
  | b :: l => by
    have ih := splitG_len sv c l
    unfold Go.Lib.countByte at ih ⊢
    rw [splitG]
    by_cases h : b = c
    · subst h
      rw [if_pos rfl, List.length_cons, ih, List.count_cons_self]
    · rw [if_neg h, List.count_cons_of_ne (fun e => h e)]
      rcases hs : splitG sv c l with _ | ⟨w, ws⟩
      · exact absurd hs (splitG_ne sv c l)
      · rw [hs] at ih
        exact ih
theorem index_facts (c : UInt8) : ∀ l, (Go.Lib.indexByte l c = -1 ∧ c ∉ l) ∨ ∃ m : Nat, Go.Lib.indexByte l c = m ∧ m < l.length ∧ l = l.take m ++ c :: l.drop (m + 1) ∧ c ∉ l.take m ∧ l[m]? = some c
  | [] => .inl ⟨rfl, by simp⟩
  | b :: l => by
    rw [Go.Lib.indexByte]
    by_cases h : b = c
    · subst h
      exact .inr ⟨0, by simp, by simp, by simp, by simp, rfl⟩
    · rw [if_neg (by simpa using h)]
      rcases index_facts c l with ⟨h1, h2⟩ | ⟨m, h1, h2, h3, h4, h5⟩
      · exact .inl ⟨by simp [h1], by simp [h2, Ne.symm h]⟩
      · refine .inr ⟨m + 1, ?_, by simp [h2], ?_, by simp [h4, Ne.symm h], by simpa using h5⟩
        · rw [h1, if_neg (by simp <;> omega)]; omega
        · rw [List.take_succ_cons, List.cons_append, List.drop_succ_cons, ← h3]
theorem splitG_no (sv : Nat) {c : UInt8} : ∀ {l}, c ∉ l → splitG sv c l = [l]
  | [], _ => rfl
  | b :: l, h => by
    simp only [List.mem_cons, not_or] at h
    rw [splitG, if_neg (fun e => h.1 e.symm), splitG_no sv h.2]
theorem splitG_app (sv : Nat) {c : UInt8} : ∀ {a : List UInt8} (r : List UInt8), c ∉ a → splitG sv c (a ++ c :: r) = (a ++ if sv = 1 then [c] else []) :: splitG sv c r
  | [], r, _ => by simp [splitG]
  | b :: a, r, h => by
    simp only [List.mem_cons, not_or] at h
    rw [List.cons_append, splitG, if_neg (fun e => h.1 e.symm), splitG_app sv r h.2]
    rfl
theorem split_step {sv : Nat} {c : UInt8} {l : List UInt8} {m : Nat} (hs : sv ≤ 1) (h : Go.Lib.indexByte l c = m) : m < l.length ∧ splitG sv c l = l.take (m + sv) :: splitG sv c (l.drop (m + 1)) := by
  rcases index_facts c l with ⟨h1, _⟩ | ⟨m', h1, h2, h3, h4, h5⟩
  · rw [h1] at h; omega
  · have e : m' = m := by omega
    subst e
    refine ⟨h2, ?_⟩
    conv => lhs; rw [h3]
    rw [splitG_app sv _ h4]
    congr 1
    by_cases e1 : sv = 1
    · subst e1
      rw [if_pos rfl, List.take_add_one, h5]
      rfl
    · rw [if_neg e1, show sv = 0 by omega]; simp
theorem split_stop {sv : Nat} {c : UInt8} {l : List UInt8} (h : Go.Lib.indexByte l c < 0) : splitG sv c l = [l] := by
  rcases index_facts c l with ⟨_, h1⟩ | ⟨m, h1, _⟩
  · exact splitG_no sv h1
  · omega
theorem split_one {sv : Nat} {c : UInt8} {l : List UInt8} (h : (splitG sv c l).length = 1) : splitG sv c l = [l] := by
  rw [splitG_len] at h
  refine splitG_no sv ?_
  rw [← List.count_eq_zero]
  unfold Go.Lib.countByte at h
  omega
theorem fill_set {T : Type} (d : List T) (z x : T) (k : Nat) (i : Int) (hi : i = d.length) : (d ++ List.replicate (k + 1) z).set i.toNat x = (d ++ [x]) ++ List.replicate k z := by
  subst hi
  simp [List.replicate_succ]
/-- What stands ahead of the first byte c, and behind it. -/
def cutB (c : UInt8) (l : List UInt8) : List UInt8 × List UInt8 × Bool := if Go.Lib.indexByte l c < 0 then (l, [], false) else (l.take (Go.Lib.indexByte l c).toNat, l.drop ((Go.Lib.indexByte l c).toNat + 1), true)
theorem cutB_app {c : UInt8} {a r : List UInt8} (h : c ∉ a) : cutB c (a ++ c :: r) = (a, r, true) := by
  have e : Go.Lib.indexByte (a ++ c :: r) c = a.length := by
    rcases index_facts c (a ++ c :: r) with ⟨_, h1⟩ | ⟨m, h1, h2, h3, h4, h5⟩
    · exact absurd (by simp) h1
    · rw [h1]
      rcases Nat.lt_trichotomy m a.length with hm | hm | hm
      · exfalso
        rw [List.getElem?_append_left hm] at h5
        exact h (List.mem_of_getElem? h5)
      · rw [hm]
      · exfalso
        refine h4 ?_
        rw [List.take_append]
        simp only [List.mem_append]
        right
        rw [show m - a.length = (m - a.length - 1) + 1 by omega, List.take_succ_cons]
        simp
  rw [cutB, e, if_neg (by omega)]
  simp
theorem cutB_no {c : UInt8} {l : List UInt8} (h : c ∉ l) : cutB c l = (l, [], false) := by
  rcases index_facts c l with ⟨h1, _⟩ | ⟨m, h1, h2, h3, h4⟩
  · rw [cutB, h1, if_pos (by omega)]
  · exact absurd (by rw [h3]; simp) h


open Go.Shelf in
shelf_lay Lays.n219 Nm 219 at Tryz as lays219
theorem cutL_fun (l : List UInt8) (c : UInt8) (hl : l.length ≤ 1000000000) : Fun Tryz.prog 38 [.lit (str l), .lit (str [c])] (Ret (.tup [.lit (str (cutB c l).1), .lit (str (cutB c l).2.1), .lit (.bool (cutB c l).2.2)]) []) := by
  have hc1 : (([c] : List UInt8).length : Int) = 1 := rfl
  have hge := Go.Lib.indexByte_ge l c
  have hlt : Go.Lib.indexByte l c < l.length := by
    rcases index_facts c l with ⟨h1, _⟩ | ⟨m, h1, h2, _⟩ <;> omega
  unfold cutB
  refine Fun.of (nt := 23) (rs := [.tmp 4, .tmp 5, .tmp 6]) Tryz.func38 rfl rfl rfl rfl rfl ?_
  refine Ev.sr fun K hK => S.o q.as (S.o q.as (S.o q.as (S.end (hK _ ?_))))
  clear hK K
  refine Ev.seq ?_
  refine Ev.sr fun K hK => S.o q.mv (S.o q.mv (S.c0 (hF := indexl_F lays219 ⟨_, Tryz.func53, rfl, rfl⟩ l c) (h := S.o q.as (S.end (hK _ ?_)))))
  clear hK K
  refine Ev.sr fun K hK => S.o q.mv (S.o q.geq (S.end (hK _ ?_)))
  clear hK K
  refine Ev.cd (fun c1 => ?_) (fun c1 => ?_)
  · first
  | (first | omega | contradiction)
  | refine Ev.weaken (Wk.forget [4, 5]) ?_
    rw [if_neg (show ¬ Go.Lib.indexByte l c < 0 by omega)]
    refine Ev.sm (tbs [(0, 0), (0, 0), (2, 3), (0, 0), (0, 0), (0, 0), (6, 32), (7, 112), (8, 248), (3, 7), (10, 1023), (11, 2047)]) 10 fun K hK => M.o q.mv (M.o q.mv (M.o (q.slhi am_el9 am_un9) (M.o q.mv (M.o q.mv (M.o q.mv (M.o (q.slen am_el9 am_un9) (M.o q.add (M.o (q.sllo am_el9 am_un9) (M.o q.as (M.end [] (h := S.o q.as (S.o q.as (S.end (hK _ ?_))))))))))))))
    clear hK K
    refine Ev.ret ?_
    refine Ev.ret3 ?_
    refine ⟨?_, rfl⟩
    first | rfl | (simp only [hc1]; rw [show (Go.Lib.indexByte l c + 1).toNat = (Go.Lib.indexByte l c).toNat + 1 by omega])
  · first
  | (first | omega | contradiction)
  | refine Ev.skip ?_
    show Ev _ _ _ _
    rw [if_pos (show Go.Lib.indexByte l c < 0 by omega)]
    refine Ev.sr fun K hK => S.o q.mv (S.o q.as (S.o q.as (S.o q.as (S.end (hK _ ?_)))))
    clear hK K
    refine Ev.ret ?_
    refine Ev.ret3 ?_
    refine ⟨?_, rfl⟩
    first | rfl | (simp only [hc1]; rw [show (Go.Lib.indexByte l c + 1).toNat = (Go.Lib.indexByte l c).toNat + 1 by omega])
theorem strCut_fun (l : List UInt8) (c : UInt8) (hl : l.length ≤ 1000000000) : Fun Tryz.prog 23 [.lit (str l), .lit (str [c])] (Ret (.tup [.lit (str (cutB c l).1), .lit (str (cutB c l).2.1), .lit (.bool (cutB c l).2.2)]) []) := by
  refine Fun.of (nt := 13) (rs := [.tmp 4, .tmp 5, .tmp 6]) Tryz.func23 rfl rfl rfl rfl rfl ?_
  refine Ev.sr fun K hK => S.o q.as (S.o q.as (S.o q.as (S.end (hK _ ?_))))
  clear hK K
  refine Ev.sr fun K hK => S.o q.mv (S.o q.mv (S.c0 (hF := cutL_fun l c hl) (h := S.o q.ex (S.o q.ex (S.o q.ex (S.o q.as (S.o q.as (S.o q.as (S.end (hK _ ?_))))))))))
  clear hK K
  refine Ev.ret ?_
  refine Ev.ret3 ?_
  refine ⟨?_, rfl⟩
  rfl

open Go.Shelf in
shelf_lay Lays.n143 Nm 143 at Tryz as lays143
open Go.Shelf in
shelf_lay Lays.n138 Nm 138 at Tryz as lays138
theorem genSplit_fun (l : List UInt8) (c : UInt8) (sv : Nat) (hsv : sv ≤ 1) (hl : l.length ≤ 900000) : Fun Tryz.prog 54 [.lit (str l), .lit (str [c]), .lit (.int .i64 (sv : Int)), .lit (.int .i64 (-1))] (Ret (.sh 1 ((splitG sv c l).map strC)) []) := by
  have hc1 : (([c] : List UInt8).length : Int) = 1 := rfl
  have hN := splitG_len sv c l
  have hc : Go.Lib.countByte l c ≤ l.length := List.count_le_length
  have hmin : min ((Go.Lib.countByte l c : Nat) + 1 : Int) ((l.length : Int) + 1) = (((splitG sv c l).length : Nat) : Int) := by omega
  refine Fun.of (nt := 66) (rs := [.tmp 8]) Tryz.func54 rfl rfl rfl rfl rfl ?_
  refine Ev.sr fun K hK => S.o q.as (S.end (hK _ ?_))
  clear hK K
  refine Ev.seq ?_
  refine Ev.sr fun K hK => S.o q.mv (S.o q.eql (S.end (hK _ ?_)))
  clear hK K
  refine Ev.cd (fun c1 => ?_) (fun c1 => ?_)
  · first
  | (first | omega | contradiction)
  | refine Ev.sr fun K hK => S.o q.as (S.end (hK _ ?_))
    clear hK K
    refine Ev.weaken (Wk.nsh strC 8 1) ?_
    refine Ev.ret ?_
    refine Ev.ret1 ?_
    refine ⟨?_, rfl⟩
    (rw [fill_set _ _ _ 0 _ rfl, ← hd, hone]; simp)
  · first
  | (first | omega | contradiction)
  | refine Ev.skip ?_
    show Ev _ _ _ _
    refine Ev.seq ?_
    refine Ev.sr fun K hK => S.o q.mv (S.o q.seqs (S.end (hK _ ?_)))
    clear hK K
    refine Ev.cd (fun c2 => ?_) (fun c2 => ?_)
    · first
    | (first | omega | contradiction)
    | contradiction
    · first
    | (first | omega | contradiction)
    | refine Ev.skip ?_
      show Ev _ _ _ _
      refine Ev.seq ?_
      refine Ev.sr fun K hK => S.o q.mv (S.o q.lss (S.end (hK _ ?_)))
      clear hK K
      refine Ev.cd (fun c3 => ?_) (fun c3 => ?_)
      · first
      | (first | omega | contradiction)
      | refine Ev.region_S fun K hK => S.o q.mv (S.o q.mv (S.c0 (hF := count1_F lays138 ⟨_, Tryz.func74, rfl, rfl⟩ l c) (h := S.o q.add (S.o q.as (S.end (hK _ ?_))))))
        clear hK K
        show Ev _ _ _ _
        refine Ev.sr fun K hK => S.o q.mv (S.o q.mv (S.o (q.slen am_el9 am_un9) (S.o q.add (S.o q.min (S.o q.as (S.end (hK _ ?_)))))))
        clear hK K
        rw [hmin]
        refine Ev.sr fun K hK => S.o q.mv (S.mkf (f := strC) (([] : List UInt8)) am_el57 am_ze9 am_cl9 am_by9 (h := S.o q.as (S.end (hK _ ?_))))
        clear hK K
        refine Ev.sr fun K hK => S.o q.mv (S.o q.sub (S.o q.as (S.end (hK _ ?_))))
        clear hK K
        refine Ev.sr fun K hK => S.o q.as (S.end (hK _ ?_))
        clear hK K
        refine Ev.seq ?_
        refine Ev.block ?_
        refine Ev.loopU (ι := {q : List (List UInt8) × List UInt8 // q.1 ++ splitG sv c q.2 = splitG sv c l ∧ q.2.length ≤ l.length}) [0] [1, 2, 3, 8] (fun ⟨(d, r), _⟩ => [(10, .lit (.int .i64 ((d.length : Int)))), (0, .lit (str (r))), (9, .als 0 0 (d ++ List.replicate ((splitG sv c l).length - d.length) ([] : List UInt8)).length)]) (fun ⟨(d, r), _⟩ => [(0, ⟨true, 9, 1, (d ++ List.replicate ((splitG sv c l).length - d.length) ([] : List UInt8)).map strC, true⟩)]) (fun ⟨(d, r), _⟩ => (splitG sv c l).length - d.length) ⟨([], l), rfl, Nat.le_refl _⟩ (.c (.c (.c (.c .n)))) (keep_c (he := (by first | rfl | (rw [fill_set _ _ _ _ _ rfl, show (splitG sv c l).length - (d ++ [r.take (Go.Lib.indexByte r c + (sv : Int)).toNat]).length = K by simp only [List.length_append, List.length_singleton]; omega]; done) | (simp; done))) (h := keep_n)) (slots_c (he := (by first | rfl | (simp; done))) (h := (slots_c (he := (by first | rfl | skip)) (h := (slots_c (he := (by first | rfl | (congr 1; simp; omega))) (h := trivial)))))) ?_
        rintro ⟨⟨d, r⟩, hd, hrl⟩ R0 hR0
        dsimp only [List.cons_append, List.nil_append, List.length_cons, List.length_nil]
        simp only at hd hrl
        have hdl : d.length + (splitG sv c r).length = (splitG sv c l).length := by rw [← hd, List.length_append]
        have hrp : 0 < (splitG sv c r).length := List.length_pos_iff.2 (splitG_ne sv c r)
        obtain ⟨K, hK⟩ : ∃ K, (splitG sv c l).length - d.length = K + 1 := ⟨(splitG sv c l).length - d.length - 1, by omega⟩
        rw [hK]
        have hrow : (d ++ List.replicate (K + 1) ([] : List UInt8)).length = (splitG sv c l).length := by rw [List.length_append, List.length_replicate]; omega
        have hil : Go.Lib.indexByte r c < r.length := by rcases index_facts c r with ⟨h1, _⟩ | ⟨m, h1, h2, _⟩ <;> omega
        have htk : (r.take (Go.Lib.indexByte r c + (sv : Int)).toNat).length ≤ r.length := by rw [List.length_take]; omega
        have hig := Go.Lib.indexByte_ge r c
        by_cases hlt : (d.length : Int) < ((splitG sv c l).length : Int) - 1
        rotate_left
        · have hone := split_one (sv := sv) (c := c) (l := r) (by omega)
          obtain rfl : K = 0 := by omega
          refine Ev.seq ?_
          refine Ev.sr fun K hK => S.o q.mv (S.o q.mv (S.o q.lss (S.end (hK _ ?_))))
          clear hK K
          refine Ev.cd (fun c4 => ?_) (fun c4 => ?_)
          · first | omega | contradiction
          · first
          | (first | omega | contradiction)
          | refine Ev.exit ?_
            refine hR0 _ _ ?_
            show Ev _ _ _ _
            refine Ev.sr fun K hK => S.o q.mv (S.o q.mv (S.o q.mv (S.o (q.ia am_el57 am_cl9) (S.sx _ [] am_in9 am_cl9 (hl := (by first | exact at_g (by omega))) (h := S.end (hK _ ?_))))))
            clear hK K
            refine Ev.sr fun K hK => S.o q.mv (S.o q.mv (S.o q.add (S.o (q.sl am_el57 am_cl9) (S.o q.as (S.end (hK _ ?_))))))
            clear hK K
            refine Ev.weaken (Wk.frz 8 [] (hm := (by rw [List.length_set]; omega))) ?_
            refine Ev.ret ?_
            refine Ev.ret1 ?_
            refine ⟨?_, rfl⟩
            (rw [fill_set _ _ _ 0 _ rfl, ← hd, hone]; simp)
        · have hi0 : 0 ≤ Go.Lib.indexByte r c := by
            rcases Int.lt_or_le (Go.Lib.indexByte r c) 0 with h | h
            · rw [split_stop (sv := sv) h] at hdl
              simp only [List.length_singleton] at hdl
              omega
            · exact h
          refine Ev.seq ?_
          refine Ev.sr fun K hK => S.o q.mv (S.o q.mv (S.o q.lss (S.end (hK _ ?_))))
          clear hK K
          refine Ev.cd (fun c5 => ?_) (fun c5 => ?_)
          · first
          | (first | omega | contradiction)
          | refine Ev.skip ?_
            show Ev _ _ _ _
            refine Ev.block ?_
            refine Ev.sr fun K hK => S.o q.mv (S.o q.mv (S.c0 (hF := index1_F lays143 ⟨_, Tryz.func75, rfl, rfl⟩ _ c) (h := S.o q.as (S.end (hK _ ?_)))))
            clear hK K
            refine Ev.seq ?_
            refine Ev.sr fun K hK => S.o q.mv (S.o q.lss (S.end (hK _ ?_)))
            clear hK K
            refine Ev.cd (fun c6 => ?_) (fun c6 => ?_)
            · first
            | (first | omega | contradiction)
            | refine Ev.exit ?_
              refine hR0 _ _ ?_
              show Ev _ _ _ _
              refine Ev.sr fun K hK => S.o q.mv (S.o q.mv (S.o q.mv (S.o (q.ia am_el57 am_cl9) (S.sx _ [] am_in9 am_cl9 (hl := (by first | exact at_g (by omega))) (h := S.end (hK _ ?_))))))
              clear hK K
              refine Ev.sr fun K hK => S.o q.mv (S.o q.mv (S.o q.add (S.o (q.sl am_el57 am_cl9) (S.o q.as (S.end (hK _ ?_))))))
              clear hK K
              refine Ev.weaken (Wk.frz 8 [] (hm := (by rw [List.length_set]; omega))) ?_
              refine Ev.ret ?_
              refine Ev.ret1 ?_
              refine ⟨?_, rfl⟩
              (rw [fill_set _ _ _ 0 _ rfl, ← hd, hone]; simp)
            · first
            | (first | omega | contradiction)
            | refine Ev.skip ?_
              show Ev _ _ _ _
              refine Ev.sr fun K hK => S.o q.mv (S.o q.mv (S.o q.mv (S.o q.mv (S.o q.mv (S.o q.add (S.o (q.slhi am_el9 am_un9) (S.o (q.ia am_el57 am_cl9) (S.sx _ [] am_in9 am_cl9 (hl := (by first | exact at_g (by omega))) (h := S.end (hK _ ?_))))))))))
              clear hK K
              refine Ev.sr fun K hK => S.o q.mv (S.o q.mv (S.o q.mv (S.o (q.slen am_el9 am_un9) (S.o q.add (S.o (q.sllo am_el9 am_un9) (S.o q.as (S.end (hK _ ?_))))))))
              clear hK K
              refine Ev.region_S fun K hK => S.o q.mv (S.o q.add (S.o q.as (S.end (hK _ ?_))))
              clear hK K
              refine hR0 _ _ ?_
              refine roundU [0] [1, 2, 3, 8] ⟨(d ++ [r.take (Go.Lib.indexByte r c + (sv : Int)).toNat], r.drop (Go.Lib.indexByte r c + (([c] : List UInt8).length : Int)).toNat), ?_⟩ ?_ (keep_c (he := (by first | rfl | (rw [fill_set _ _ _ _ _ rfl, show (splitG sv c l).length - (d ++ [r.take (Go.Lib.indexByte r c + (sv : Int)).toNat]).length = K by simp only [List.length_append, List.length_singleton]; omega]; done) | (simp; done))) (h := keep_n)) (slots_c (he := (by first | rfl | (simp; done))) (h := (slots_c (he := (by first | rfl | skip)) (h := (slots_c (he := (by first | rfl | (congr 1; simp; omega))) (h := trivial)))))) (.c (.c (.c (.c .n))))
              obtain ⟨m, hm⟩ := Int.eq_ofNat_of_zero_le (show 0 ≤ Go.Lib.indexByte r c by omega)
              obtain ⟨g1, g2⟩ := split_step (sv := sv) hsv hm
              refine ⟨?_, by dsimp only; rw [List.length_drop]; omega⟩
              dsimp only
              rw [hc1, hm, show ((m : Int) + (sv : Int)).toNat = m + sv by omega, show ((m : Int) + 1).toNat = m + 1 by omega, List.append_assoc, ← hd, g2]
              rfl
              all_goals (dsimp only; simp only [List.length_append, List.length_singleton]; omega)
          · first | omega | contradiction
      · first
      | (first | omega | contradiction)
      | refine Ev.skip ?_
        show Ev _ _ _ _
        refine Ev.sr fun K hK => S.o q.mv (S.o q.mv (S.o (q.slen am_el9 am_un9) (S.o q.add (S.o q.min (S.o q.as (S.end (hK _ ?_)))))))
        clear hK K
        rw [hmin]
        refine Ev.sr fun K hK => S.o q.mv (S.mkf (f := strC) (([] : List UInt8)) am_el57 am_ze9 am_cl9 am_by9 (h := S.o q.as (S.end (hK _ ?_))))
        clear hK K
        refine Ev.sr fun K hK => S.o q.mv (S.o q.sub (S.o q.as (S.end (hK _ ?_))))
        clear hK K
        refine Ev.sr fun K hK => S.o q.as (S.end (hK _ ?_))
        clear hK K
        refine Ev.seq ?_
        refine Ev.block ?_
        refine Ev.loopU (ι := {q : List (List UInt8) × List UInt8 // q.1 ++ splitG sv c q.2 = splitG sv c l ∧ q.2.length ≤ l.length}) [0] [1, 2, 3, 8] (fun ⟨(d, r), _⟩ => [(10, .lit (.int .i64 ((d.length : Int)))), (0, .lit (str (r))), (9, .als 0 0 (d ++ List.replicate ((splitG sv c l).length - d.length) ([] : List UInt8)).length)]) (fun ⟨(d, r), _⟩ => [(0, ⟨true, 9, 1, (d ++ List.replicate ((splitG sv c l).length - d.length) ([] : List UInt8)).map strC, true⟩)]) (fun ⟨(d, r), _⟩ => (splitG sv c l).length - d.length) ⟨([], l), rfl, Nat.le_refl _⟩ (.c (.c (.c (.c .n)))) (keep_c (he := (by first | rfl | (rw [fill_set _ _ _ _ _ rfl, show (splitG sv c l).length - (d ++ [r.take (Go.Lib.indexByte r c + (sv : Int)).toNat]).length = K by simp only [List.length_append, List.length_singleton]; omega]; done) | (simp; done))) (h := keep_n)) (slots_c (he := (by first | rfl | (simp; done))) (h := (slots_c (he := (by first | rfl | skip)) (h := (slots_c (he := (by first | rfl | (congr 1; simp; omega))) (h := trivial)))))) ?_
        rintro ⟨⟨d, r⟩, hd, hrl⟩ R0 hR0
        dsimp only [List.cons_append, List.nil_append, List.length_cons, List.length_nil]
        simp only at hd hrl
        have hdl : d.length + (splitG sv c r).length = (splitG sv c l).length := by rw [← hd, List.length_append]
        have hrp : 0 < (splitG sv c r).length := List.length_pos_iff.2 (splitG_ne sv c r)
        obtain ⟨K, hK⟩ : ∃ K, (splitG sv c l).length - d.length = K + 1 := ⟨(splitG sv c l).length - d.length - 1, by omega⟩
        rw [hK]
        have hrow : (d ++ List.replicate (K + 1) ([] : List UInt8)).length = (splitG sv c l).length := by rw [List.length_append, List.length_replicate]; omega
        have hil : Go.Lib.indexByte r c < r.length := by rcases index_facts c r with ⟨h1, _⟩ | ⟨m, h1, h2, _⟩ <;> omega
        have htk : (r.take (Go.Lib.indexByte r c + (sv : Int)).toNat).length ≤ r.length := by rw [List.length_take]; omega
        have hig := Go.Lib.indexByte_ge r c
        by_cases hlt : (d.length : Int) < ((splitG sv c l).length : Int) - 1
        rotate_left
        · have hone := split_one (sv := sv) (c := c) (l := r) (by omega)
          obtain rfl : K = 0 := by omega
          refine Ev.seq ?_
          refine Ev.sr fun K hK => S.o q.mv (S.o q.mv (S.o q.lss (S.end (hK _ ?_))))
          clear hK K
          refine Ev.cd (fun c7 => ?_) (fun c7 => ?_)
          · first | omega | contradiction
          · first
          | (first | omega | contradiction)
          | refine Ev.exit ?_
            refine hR0 _ _ ?_
            show Ev _ _ _ _
            refine Ev.sr fun K hK => S.o q.mv (S.o q.mv (S.o q.mv (S.o (q.ia am_el57 am_cl9) (S.sx _ [] am_in9 am_cl9 (hl := (by first | exact at_g (by omega))) (h := S.end (hK _ ?_))))))
            clear hK K
            refine Ev.sr fun K hK => S.o q.mv (S.o q.mv (S.o q.add (S.o (q.sl am_el57 am_cl9) (S.o q.as (S.end (hK _ ?_))))))
            clear hK K
            refine Ev.weaken (Wk.frz 8 [] (hm := (by rw [List.length_set]; omega))) ?_
            refine Ev.ret ?_
            refine Ev.ret1 ?_
            refine ⟨?_, rfl⟩
            (rw [fill_set _ _ _ 0 _ rfl, ← hd, hone]; simp)
        · have hi0 : 0 ≤ Go.Lib.indexByte r c := by
            rcases Int.lt_or_le (Go.Lib.indexByte r c) 0 with h | h
            · rw [split_stop (sv := sv) h] at hdl
              simp only [List.length_singleton] at hdl
              omega
            · exact h
          refine Ev.seq ?_
          refine Ev.sr fun K hK => S.o q.mv (S.o q.mv (S.o q.lss (S.end (hK _ ?_))))
          clear hK K
          refine Ev.cd (fun c8 => ?_) (fun c8 => ?_)
          · first
          | (first | omega | contradiction)
          | refine Ev.skip ?_
            show Ev _ _ _ _
            refine Ev.block ?_
            refine Ev.sr fun K hK => S.o q.mv (S.o q.mv (S.c0 (hF := index1_F lays143 ⟨_, Tryz.func75, rfl, rfl⟩ _ c) (h := S.o q.as (S.end (hK _ ?_)))))
            clear hK K
            refine Ev.seq ?_
            refine Ev.sr fun K hK => S.o q.mv (S.o q.lss (S.end (hK _ ?_)))
            clear hK K
            refine Ev.cd (fun c9 => ?_) (fun c9 => ?_)
            · first
            | (first | omega | contradiction)
            | refine Ev.exit ?_
              refine hR0 _ _ ?_
              show Ev _ _ _ _
              refine Ev.sr fun K hK => S.o q.mv (S.o q.mv (S.o q.mv (S.o (q.ia am_el57 am_cl9) (S.sx _ [] am_in9 am_cl9 (hl := (by first | exact at_g (by omega))) (h := S.end (hK _ ?_))))))
              clear hK K
              refine Ev.sr fun K hK => S.o q.mv (S.o q.mv (S.o q.add (S.o (q.sl am_el57 am_cl9) (S.o q.as (S.end (hK _ ?_))))))
              clear hK K
              refine Ev.weaken (Wk.frz 8 [] (hm := (by rw [List.length_set]; omega))) ?_
              refine Ev.ret ?_
              refine Ev.ret1 ?_
              refine ⟨?_, rfl⟩
              (rw [fill_set _ _ _ 0 _ rfl, ← hd, hone]; simp)
            · first
            | (first | omega | contradiction)
            | refine Ev.skip ?_
              show Ev _ _ _ _
              refine Ev.sr fun K hK => S.o q.mv (S.o q.mv (S.o q.mv (S.o q.mv (S.o q.mv (S.o q.add (S.o (q.slhi am_el9 am_un9) (S.o (q.ia am_el57 am_cl9) (S.sx _ [] am_in9 am_cl9 (hl := (by first | exact at_g (by omega))) (h := S.end (hK _ ?_))))))))))
              clear hK K
              refine Ev.sr fun K hK => S.o q.mv (S.o q.mv (S.o q.mv (S.o (q.slen am_el9 am_un9) (S.o q.add (S.o (q.sllo am_el9 am_un9) (S.o q.as (S.end (hK _ ?_))))))))
              clear hK K
              refine Ev.region_S fun K hK => S.o q.mv (S.o q.add (S.o q.as (S.end (hK _ ?_))))
              clear hK K
              refine hR0 _ _ ?_
              refine roundU [0] [1, 2, 3, 8] ⟨(d ++ [r.take (Go.Lib.indexByte r c + (sv : Int)).toNat], r.drop (Go.Lib.indexByte r c + (([c] : List UInt8).length : Int)).toNat), ?_⟩ ?_ (keep_c (he := (by first | rfl | (rw [fill_set _ _ _ _ _ rfl, show (splitG sv c l).length - (d ++ [r.take (Go.Lib.indexByte r c + (sv : Int)).toNat]).length = K by simp only [List.length_append, List.length_singleton]; omega]; done) | (simp; done))) (h := keep_n)) (slots_c (he := (by first | rfl | (simp; done))) (h := (slots_c (he := (by first | rfl | skip)) (h := (slots_c (he := (by first | rfl | (congr 1; simp; omega))) (h := trivial)))))) (.c (.c (.c (.c .n))))
              obtain ⟨m, hm⟩ := Int.eq_ofNat_of_zero_le (show 0 ≤ Go.Lib.indexByte r c by omega)
              obtain ⟨g1, g2⟩ := split_step (sv := sv) hsv hm
              refine ⟨?_, by dsimp only; rw [List.length_drop]; omega⟩
              dsimp only
              rw [hc1, hm, show ((m : Int) + (sv : Int)).toNat = m + sv by omega, show ((m : Int) + 1).toNat = m + 1 by omega, List.append_assoc, ← hd, g2]
              rfl
              all_goals (dsimp only; simp only [List.length_append, List.length_singleton]; omega)
          · first | omega | contradiction
theorem split_fun (l : List UInt8) (c : UInt8) (hl : l.length ≤ 900000) : Fun Tryz.prog 39 [.lit (str l), .lit (str [c])] (Ret (.sh 1 ((splitG 0 c l).map strC)) []) := by
  refine Fun.of (nt := 8) (rs := [.tmp 4]) Tryz.func39 rfl rfl rfl rfl rfl ?_
  refine Ev.sr fun K hK => S.o q.as (S.end (hK _ ?_))
  clear hK K
  refine Ev.sr fun K hK => S.o q.mv (S.o q.mv (S.c0 (hF := genSplit_fun l c 0 (by decide) hl) (h := S.o q.as (S.end (hK _ ?_)))))
  clear hK K
  refine Ev.ret ?_
  refine Ev.ret1 ?_
  refine ⟨?_, rfl⟩
  rfl
end Go.Proofs.YtnbjmckhongidaaGreatDoor
