/-
  Revisions: the texts of lines, sorted.
  Conditions: none.
-/
import Derived.Test.YtccddakkegelkaaGreatDoorNum
import Derived.Test.YtccddakkegelkaaGreatDoorAmSortS
import Derived.Shelf.Lay
import Derived.Ground.NamesProg
import Derived.Test.YtccddakkegelkaaGreatDoorRev17a
import Derived.Test.YtccddakkegelkaaGreatDoorRev7
import Derived.Test.YtccddakkegelkaaGreatDoorAmDel
namespace Go.Proofs.YtccddakkegelkaaGreatDoor
open Go Go.AM
set_option linter.unusedSimpArgs false
set_option linter.unusedVariables false
set_option maxRecDepth 100000
set_option maxHeartbeats 1000000

theorem word_all : ∀ {l : List UInt8}, wordN l = l.length → ∀ x ∈ l, IsW (x.toNat : Int)
  | [], _, x, hx => by cases hx
  | c :: l, h, x, hx => by
    rw [wordN, List.length_cons] at h
    split at h
    · rename_i hc
      rcases List.mem_cons.1 hx with rfl | hx
      · exact hc
      · exact word_all (by omega) x hx
    · omega
theorem name_no {s : List UInt8} (h : IsName s) : (10 : UInt8) ∉ s := by
  have ha := word_all h.2.2.2
  intro hm
  have := ha _ hm
  revert this; decide
theorem dec_digs : ∀ (u : Nat), ∀ x ∈ Go.Lib.decDigits u, 48 ≤ x.toNat ∧ x.toNat ≤ 57 := by
  intro u
  induction u using Nat.strongRecOn with
  | _ u ih =>
    intro x hx
    have hb : ∀ k : Nat, k < 10 → (UInt8.ofNat (48 + k)).toNat = 48 + k := fun k hk => by rw [UInt8.toNat_ofNat']; omega
    rw [Go.Lib.decDigits] at hx
    split at hx
    · rename_i h
      rw [List.mem_singleton] at hx
      subst hx
      rw [hb u h]; omega
    · rename_i h
      simp only [List.mem_append, List.mem_singleton] at hx
      rcases hx with hx | rfl
      · exact ih (u / 10) (by omega) x hx
      · rw [hb _ (Nat.mod_lt _ (by decide))]; omega
theorem itoa_no (n : Int) : (10 : UInt8) ∉ Go.Lib.itoa n := by
  intro hm
  have ha : (10 : UInt8) = 45 ∨ (48 ≤ (10 : UInt8).toNat ∧ (10 : UInt8).toNat ≤ 57) := by
    unfold Go.Lib.itoa at hm
    split at hm
    · rcases List.mem_cons.1 hm with h | h
      · exact .inl h
      · exact .inr (dec_digs _ _ h)
    · exact .inr (dec_digs _ _ hm)
  revert ha; decide
theorem line_no {b : Bar} (h : okBar b) : (10 : UInt8) ∉ joinS [32] (lineW b) := by
  have hw : ∀ w ∈ lineW b, (10 : UInt8) ∉ w := by
    intro w hw
    simp only [lineW, lineH, List.mem_append, List.mem_cons, List.not_mem_nil, or_false, List.mem_map] at hw
    rcases hw with (rfl | rfl | rfl | rfl) | ⟨d, _, rfl⟩
    · exact name_no h.1
    · exact itoa_no _
    · exact itoa_no _
    · unfold code2
      split
      · simp only [List.mem_append, List.mem_singleton, not_or]
        exact ⟨by decide, itoa_no _⟩
      · exact itoa_no _
    · exact itoa_no _
  have hs : ∀ l : List (List UInt8), (∀ w ∈ l, (10 : UInt8) ∉ w) → (10 : UInt8) ∉ sepcat [32] l := by
    intro l hl hm
    simp only [sepcat, List.mem_flatten, List.mem_map] at hm
    obtain ⟨w, ⟨y, hy, rfl⟩, hm⟩ := hm
    rcases List.mem_append.1 hm with hm | hm
    · revert hm; decide
    · exact hl y hy hm
  rcases hlw : lineW b with _ | ⟨x, l⟩
  · simp [joinS]
  · rw [hlw] at hw
    rw [joinS]
    simp only [List.mem_append, not_or]
    exact ⟨hw x (by simp), hs l fun w hwl => hw w (by simp [hwl])⟩
theorem split_lines : ∀ {l : List Bar}, (∀ b ∈ l, okBar b) → splitG 1 10 (sTextP l) = l.map sLineT ++ [[]]
  | [], _ => rfl
  | b :: l, h => by
    have e : sTextP (b :: l) = joinS [32] (lineW b) ++ 10 :: sTextP l := by simp [sTextP, sLineT]
    rw [e, splitG_app 1 _ (line_no (h b (by simp))), split_lines fun x hx => h x (by simp [hx])]
    simp [sLineT]
/-- The lines' texts, sorted, behind one another. -/
def sortedT (l : List Bar) : List UInt8 := ((splitG 1 10 (sTextV l)).mergeSort fun x y => decide (x ≤ y)).flatten
theorem sort_perm {l m : List (List UInt8)} (h : l.Perm m) : (l.mergeSort fun x y => decide (x ≤ y)) = m.mergeSort fun x y => decide (x ≤ y) := by
  have hs : ∀ l : List (List UInt8), (l.mergeSort fun x y => decide (x ≤ y)).Pairwise fun x y => x ≤ y := fun l => by
    have := List.pairwise_mergeSort (le := fun x y : List UInt8 => decide (x ≤ y)) (fun a b c h1 h2 => by rw [decide_eq_true_eq] at *; exact List.le_trans h1 h2) (fun a b => by rw [Bool.or_eq_true, decide_eq_true_eq, decide_eq_true_eq]; exact List.le_total a b) l
    exact this.imp fun h => by simpa using h
  exact (((List.mergeSort_perm _ _).trans h).trans (List.mergeSort_perm _ _).symm).eq_of_pairwise (fun a b _ _ h1 h2 => List.le_antisymm h1 h2) (hs l) (hs m)
theorem sorted_perm {l m : List Bar} (h : l.Perm m) (hl : okSched l) (hm : okSched m) : sortedT l = sortedT m := by
  unfold sortedT
  rw [show sTextV l = sTextP l from if_pos hl, show sTextV m = sTextP m from if_pos hm, split_lines hl.2.1, split_lines hm.2.1, sort_perm ((h.map _).append_right _)]

end Go.Proofs.YtccddakkegelkaaGreatDoor
namespace Go.Proofs.YtccddakkegelkaaGreatDoor
open Go Go.AM
set_option linter.unusedSimpArgs false
set_option linter.unusedVariables false
set_option maxRecDepth 100000
set_option maxHeartbeats 2000000

theorem lenS_flat (l : List (List UInt8)) : lenS l = (l.flatten.length : Int) := by
  induction l with
  | nil => rfl
  | cons x l ih => simp only [lenS, List.map_cons, List.sum_cons, List.flatten_cons, List.length_append] at ih ⊢; omega
theorem flatS_snoc (l : List (List UInt8)) (x : List UInt8) : (l ++ [x]).flatten = l.flatten ++ x := by simp
theorem join0_fun (xs : List (List UInt8)) (h2 : xs.length ≤ 1000) (he : ∀ x ∈ xs, x.length ≤ 1000000) (hpos : 2 ≤ xs.length → 0 < xs.flatten.length) : Fun Tryz.prog 34 [.sh 1 (xs.map strC), .lit (str [])] (Ret (.lit (str xs.flatten)) []) := by
  have hone : (([] : List UInt8).length : Int) = 0 := rfl
  refine Fun.of (nt := 75) (rs := [.tmp 4]) Tryz.func34 rfl rfl rfl rfl rfl ?_
  refine Ev.sr fun K hK => S.o q.as (S.end (hK _ ?_))
  clear hK K
  refine Ev.seq ?_
  refine Ev.sr fun K hK => S.o q.mv (S.o (q.lens am_el61) (S.end (hK _ ?_)))
  clear hK K
  refine Ev.block ?_
  refine Ev.sr fun K hK => S.o q.eql (S.o q.as (S.end (hK _ ?_)))
  clear hK K
  refine Ev.cd (fun c1 => ?_) (fun c1 => ?_)
  · first
  | (first | omega | contradiction)
  | obtain rfl : xs = [] := List.eq_nil_of_length_eq_zero (by omega)
    refine Ev.sr fun K hK => S.o q.as (S.end (hK _ ?_))
    clear hK K
    refine Ev.ret ?_
    refine Ev.ret1 ?_
    refine ⟨?_, rfl⟩
    first | rfl | (simp only [List.flatten_cons, List.flatten_nil, List.append_nil]; done)
  · first
  | (first | omega | contradiction)
  | refine Ev.sr fun K hK => S.o q.eql (S.o q.as (S.end (hK _ ?_)))
    clear hK K
    refine Ev.cd (fun c2 => ?_) (fun c2 => ?_)
    · first
    | (first | omega | contradiction)
    | obtain ⟨x0, rfl⟩ : ∃ x0, xs = [x0] := List.length_eq_one_iff.1 (by omega)
      have hx0 : [x0][0]? = some x0 := rfl
      refine Ev.sr fun K hK => S.o q.mv (S.o (q.ix am_el61 am_cl9 (hl := (by first | exact ati hx0 (by omega) | exact atig (by omega)))) (S.o (q.ls am_ag9) (S.o q.as (S.end (hK _ ?_)))))
      clear hK K
      refine Ev.ret ?_
      refine Ev.ret1 ?_
      refine ⟨?_, rfl⟩
      first | rfl | (simp only [List.flatten_cons, List.flatten_nil, List.append_nil]; done)
    · first
    | (first | omega | contradiction)
    | refine Ev.skip ?_
      show Ev _ _ _ _
      obtain ⟨x0, r, rfl⟩ : ∃ x0 r, xs = x0 :: r := by
        cases xs with
        | nil => simp at *
        | cons x r => exact ⟨x, r, rfl⟩
      have hx0 : (x0 :: r)[0]? = some x0 := rfl
      have hrl : ((x0 :: r).length : Int) = r.length + 1 := by simp
      have hrn : 1 ≤ r.length := by omega
      have hxl := he x0 (by simp)
      have hfl := hpos (by omega)
      have hfe := lenS_flat (x0 :: r)
      refine Ev.sr fun K hK => S.o q.as (S.end (hK _ ?_))
      clear hK K
      refine Ev.seq ?_
      refine Ev.sr fun K hK => S.o q.mv (S.o (q.slen am_el9 am_un9) (S.o q.gtr (S.end (hK _ ?_))))
      clear hK K
      refine Ev.cd (fun c3 => ?_) (fun c3 => ?_)
      · first
      | (first | omega | contradiction)
      | refine Ev.seq ?_
        (simp only [hone] at *; omega)
      · first
      | (first | omega | contradiction)
      | refine Ev.skip ?_
        show Ev _ _ _ _
        refine Ev.seq ?_
        refine Ev.sr fun K hK => S.o q.mv (S.o (q.lens am_el61) (S.o q.mv (S.end (hK _ ?_))))
        clear hK K
        refine Ev.block ?_
        refine Ev.loopU (ι := {p : List (List UInt8) × List (List UInt8) // p.1 ++ p.2 = (x0 :: r) ∧ True}) [] [0, 1, 4, 39, 40] (fun ⟨(pre, suf), _⟩ => [(41, .lit (.int .i64 ((pre.length : Int)))), (5, .lit (.int .i64 (lenS pre)))]) (fun ⟨(pre, suf), _⟩ => []) (fun ⟨(pre, suf), _⟩ => suf.length) ⟨([], (x0 :: r)), rfl, trivial⟩ (.c (.c (.c (.c (.c .n))))) keep_n (slots_c (he := (by first | rfl | (congr 2; simp; done))) (h := (slots_c (he := (by first | rfl | exact iE (lenS_snoc _ _).symm | exact iE (by rw [lenS_snoc]; omega))) (h := trivial)))) ?_
        rintro ⟨⟨pre, suf⟩, hp, hinv⟩ R1 hR1
        dsimp only [List.cons_append, List.nil_append, List.length_cons, List.length_nil]
        simp only at hp hinv
        have hpl : pre.length + suf.length = ((x0 :: r)).length := by rw [← hp, List.length_append]
        rcases suf with _ | ⟨s, suf⟩
        · rw [List.append_nil] at hp; subst hp; simp only [List.length_nil] at hpl
          obtain ⟨l1, l2⟩ := lenS_bd (x0 :: r) he
          refine Ev.sr fun K hK => S.o q.lss (S.end (hK _ ?_))
          clear hK K
          refine Ev.ud (fun c4 => ?_) (fun c4 => ?_)
          · first | omega | contradiction
          · first
          | (first | omega | contradiction)
          | refine Ev.exit ?_
            refine hR1 _ _ ?_
            show Ev _ _ _ _
            refine Ev.sr fun K hK => S.nn (q.al am_ze70) (S.end (hK _ ?_))
            clear hK K
            refine Ev.sr fun K hK => S.o q.mv (S.cR [0] 2 [_, _] (hob := (keep_c (he := rfl) (h := keep_n))) (hF := grow0_fun (by omega) (by omega)) (hn' := belowL rfl rfl) (h := S.end (hK _ ?_)))
            clear hK K
            refine Ev.sr fun K hK => S.o q.mv (S.o (q.ix am_el61 am_cl9 (hl := (by first | exact ati hx0 (by omega) | exact atig (by omega)))) (S.o (q.ls am_ag9) (S.cR [0, 1] 3 [_, _] (hob := (keep_d (he := rfl) (h := (keep_c (he := rfl) (h := keep_n))))) (hF := writeUsed_fun ([]) _ (by simp only [List.length_nil]; omega)) (hn' := belowL rfl rfl) (h := S.end (hK _ ?_)))))
            clear hK K
            refine Ev.seq ?_
            refine Ev.sr fun K hK => S.o q.mv (S.o (q.sh am_el61 am_cl9) ?_)
            rw [tail_eq]
            refine S.o (q.lens am_el61) (S.o q.mv (S.end (hK _ ?_)))
            clear hK K
            refine Ev.block ?_
            refine Ev.loopU (ι := {p : List (List UInt8) × List (List UInt8) // p.1 ++ p.2 = r ∧ True}) [0, 2] [0, 1, 4, 5, 8, 39, 40, 41, 42, 56, 58, 59, 60, 62, 63, 64] (fun ⟨(pre, suf), _⟩ => [(65, .lit (.int .i64 ((pre.length : Int))))]) (fun ⟨(pre, suf), _⟩ => [(0, ⟨false, 70, 2, [[bp (true) 0, .als 1 0 (x0 ++ pre.flatten).length]], false⟩), (1, ⟨true, 5, 1, (x0 ++ pre.flatten).map byteC, true⟩)]) (fun ⟨(pre, suf), _⟩ => suf.length) ⟨([], r), rfl, trivial⟩ (.c (.c (.c (.c (.c (.c (.c (.c (.c (.c (.c (.c (.c (.c (.c (.c .n)))))))))))))))) (keep_d (hr := (by first | exact rfl | exact bp_ren rfl rfl)) (he := (by first | rfl | (simp only [flatS_snoc, List.append_assoc, List.append_nil]; done) | (simp only [flatS_snoc, List.append_assoc, List.append_nil] <;> rfl) | (simp only [List.flatten_nil, List.append_nil, List.nil_append]; done) | (simp only [List.flatten_nil, List.append_nil, List.nil_append] <;> rfl))) (h := (keep_c (he := (by first | rfl | (simp only [flatS_snoc, List.append_assoc, List.append_nil]; done) | (simp only [flatS_snoc, List.append_assoc, List.append_nil] <;> rfl) | (simp only [List.flatten_nil, List.append_nil, List.nil_append]; done) | (simp only [List.flatten_nil, List.append_nil, List.nil_append] <;> rfl))) (h := keep_n)))) (slots_c (he := (by first | rfl | (congr 2; simp; done))) (h := trivial)) ?_
            rintro ⟨⟨pre, suf⟩, hp, hinv⟩ R3 hR3
            dsimp only [List.cons_append, List.nil_append, List.length_cons, List.length_nil]
            simp only at hp hinv
            have hpl : pre.length + suf.length = (r).length := by rw [← hp, List.length_append]
            rcases suf with _ | ⟨s, suf⟩
            · rw [List.append_nil] at hp; subst pre; simp only [List.length_nil] at hpl
              refine Ev.sr fun K hK => S.o q.lss (S.end (hK _ ?_))
              clear hK K
              refine Ev.ud (fun c5 => ?_) (fun c5 => ?_)
              · first | omega | contradiction
              · first
              | (first | omega | contradiction)
              | refine Ev.exit ?_
                refine hR3 _ _ ?_
                show Ev _ _ _ _
                refine Ev.sr fun K hK => S.cR [0, 1] 2 [_] (hob := (keep_d (he := rfl) (h := (keep_c (he := rfl) (h := keep_n))))) (hF := string_fun _ (by rw [← List.flatten_cons]; omega)) (hn' := belowL rfl rfl) (h := S.o q.as (S.end (hK _ ?_)))
                clear hK K
                refine Ev.ret ?_
                refine Ev.ret1 ?_
                refine ⟨?_, rfl⟩
                first | rfl | (simp only [List.flatten_cons, List.flatten_nil, List.append_nil]; done)
            · simp only [List.length_cons] at hpl
              have hidx : (r)[pre.length]? = some s := by rw [← hp]; simp
              have hs := he s (by rw [← hp]; simp)
              have hsc := lenS_flat pre
              obtain ⟨l1, l2⟩ := lenS_bd pre (fun x hx => he x (by rw [← hp]; simp [hx]))
              refine Ev.sr fun K hK => S.o q.lss (S.end (hK _ ?_))
              clear hK K
              refine Ev.ud (fun c6 => ?_) (fun c6 => ?_)
              · first
              | (first | omega | contradiction)
              | refine Ev.seq ?_
                refine Ev.block ?_
                refine Ev.sr fun K hK => S.o (q.ix am_el61 am_cl9 (hl := (by first | exact ati hx0 (by omega) | exact ati hidx (by omega) | exact atig (by omega)))) (S.o (q.ls am_ag9) (S.o q.as (S.end (hK _ ?_))))
                clear hK K
                refine Ev.sr fun K hK => S.o q.mv (S.cR [0, 1] 3 [_, _] (hob := (keep_d (he := rfl) (h := (keep_c (he := rfl) (h := keep_n))))) (hF := writeUsed_fun (x0 ++ pre.flatten) _ (by simp only [List.length_append, List.length_nil]; omega)) (hn' := belowL rfl rfl) (h := S.end (hK _ ?_)))
                clear hK K
                refine Ev.region_S fun K hK => S.o q.mv (S.cR [0, 2] 4 [_, _] (hob := (keep_d (he := rfl) (h := (keep_c (he := rfl) (h := keep_n))))) (hF := writeUsed_fun ((x0 ++ pre.flatten) ++ []) _ (by simp only [List.length_append, List.length_nil]; omega)) (hn' := belowL rfl rfl) (h := S.end (hK _ ?_)))
                clear hK K
                show Ev _ _ _ _
                refine Ev.region_S fun K hK => S.o q.add (S.o q.mv (S.end (hK _ ?_)))
                clear hK K
                refine hR3 _ _ ?_
                refine roundU [0, 3] [0, 1, 4, 5, 8, 39, 40, 41, 42, 56, 58, 59, 60, 62, 63, 64] ⟨(pre ++ [s], suf), by rw [← hp]; simp, ?_⟩ ?_ (keep_d (hr := (by first | exact rfl | exact bp_ren rfl rfl)) (he := (by first | rfl | (simp only [flatS_snoc, List.append_assoc, List.append_nil]; done) | (simp only [flatS_snoc, List.append_assoc, List.append_nil] <;> rfl) | (simp only [List.flatten_nil, List.append_nil, List.nil_append]; done) | (simp only [List.flatten_nil, List.append_nil, List.nil_append] <;> rfl))) (h := (keep_c (he := (by first | rfl | (simp only [flatS_snoc, List.append_assoc, List.append_nil]; done) | (simp only [flatS_snoc, List.append_assoc, List.append_nil] <;> rfl) | (simp only [List.flatten_nil, List.append_nil, List.nil_append]; done) | (simp only [List.flatten_nil, List.append_nil, List.nil_append] <;> rfl))) (h := keep_n)))) (slots_c (he := (by first | rfl | (congr 2; simp; done))) (h := trivial)) (.c (.c (.c (.c (.c (.c (.c (.c (.c (.c (.c (.c (.c (.c (.c (.c .n))))))))))))))))
                trivial
                all_goals (dsimp only; simp only [List.length_cons]; omega)
              · first | omega | contradiction
        · simp only [List.length_cons] at hpl
          have hidx : ((x0 :: r))[pre.length]? = some s := by rw [← hp]; simp
          have hs := he s (by rw [← hp]; simp)
          obtain ⟨l1, l2⟩ := lenS_bd pre (fun x hx => he x (by rw [← hp]; simp [hx]))
          refine Ev.sr fun K hK => S.o q.lss (S.end (hK _ ?_))
          clear hK K
          refine Ev.ud (fun c7 => ?_) (fun c7 => ?_)
          · first
          | (first | omega | contradiction)
          | refine Ev.seq ?_
            refine Ev.block ?_
            refine Ev.sr fun K hK => S.o (q.ix am_el61 am_cl9 (hl := (by first | exact ati hx0 (by omega) | exact ati hidx (by omega) | exact atig (by omega)))) (S.o (q.ls am_ag9) (S.o q.as (S.end (hK _ ?_))))
            clear hK K
            refine Ev.seq ?_
            refine Ev.sr fun K hK => S.o q.mv (S.o (q.slen am_el9 am_un9) (S.o q.mv (S.o q.sub (S.o q.gtr (S.end (hK _ ?_))))))
            clear hK K
            refine Ev.cd (fun c8 => ?_) (fun c8 => ?_)
            · first
            | (first | omega | contradiction)
            | omega
            · first
            | (first | omega | contradiction)
            | refine Ev.skip ?_
              show Ev _ _ _ _
              refine Ev.region_S fun K hK => S.o q.mv (S.o q.mv (S.o (q.slen am_el9 am_un9) (S.o q.add (S.o q.as (S.end (hK _ ?_))))))
              clear hK K
              show Ev _ _ _ _
              refine Ev.region_S fun K hK => S.o q.add (S.o q.mv (S.end (hK _ ?_)))
              clear hK K
              refine hR1 _ _ ?_
              refine roundU [] [0, 1, 4, 39, 40] ⟨(pre ++ [s], suf), by rw [← hp]; simp, ?_⟩ ?_ keep_n (slots_c (he := (by first | rfl | (congr 2; simp; done))) (h := (slots_c (he := (by first | rfl | exact iE (lenS_snoc _ _).symm | exact iE (by rw [lenS_snoc]; omega))) (h := trivial)))) (.c (.c (.c (.c (.c .n)))))
              trivial
              all_goals (dsimp only; simp only [List.length_cons]; omega)
          · first | omega | contradiction
end Go.Proofs.YtccddakkegelkaaGreatDoor
namespace Go.Proofs.YtccddakkegelkaaGreatDoor
open Go Go.AM
set_option linter.unusedSimpArgs false
set_option linter.unusedVariables false
set_option maxRecDepth 100000
set_option maxHeartbeats 2000000

theorem word_fine {b : Bar} (h : okBar b) : ∀ x ∈ lineW b, x.length ≤ 22 := by
  have h1 := isName_len h.1
  have h2 := size_bd h.2.1
  have h3 := h.2.2.1
  have h4 := h.2.2.2.1
  have h5 := okBar_code h
  intro x hx
  simp only [lineW, lineH, List.mem_append, List.mem_cons, List.not_mem_nil, or_false, List.mem_map] at hx
  rcases hx with (rfl | rfl | rfl | rfl) | ⟨d, hd, rfl⟩
  · omega
  · have := itoa_len (N := b.size) (by omega) (by omega); omega
  · have := itoa_len (N := b.count) (by omega) (by omega); omega
  · have := itoa_len (N := b.code) (by omega) (by omega)
    unfold code2
    split
    · simp only [List.length_append, List.length_cons, List.length_nil]; omega
    · omega
  · have h8 := dims_in h.2.2.2.2.2.2 hd
    have := itoa_len (N := d) (by omega) (by omega); omega
theorem sep_fine : ∀ l : List (List UInt8), (∀ x ∈ l, x.length ≤ 22) → (sepcat [32] l).length ≤ 23 * l.length := by
  refine snoc_ind (fun _ => by simp [sepcat]) ?_
  intro l s ih h
  have := ih fun b hb => h b (by simp [hb])
  have := h s (by simp)
  rw [sepcat_snoc, List.length_append, List.length_append, List.length_append, List.length_singleton, List.length_singleton, Nat.mul_add]
  omega
theorem line_fine {b : Bar} (h : okBar b) : (sLineT b).length ≤ 300 ∧ 0 < (sLineT b).length := by
  have h1 := word_fine h
  have h2 := (lineW_el h).1
  rw [sLineT, List.length_append, List.length_singleton]
  rcases hlw : lineW b with _ | ⟨x, l⟩
  · simp [joinS]
  · rw [hlw] at h1 h2
    have h3 := sep_fine l fun w hw => h1 w (by simp [hw])
    have h4 := h1 x (by simp)
    rw [List.length_cons] at h2
    rw [joinS, List.length_append]
    omega
theorem text_fine : ∀ l : List Bar, (∀ c ∈ l, okBar c) → (sTextP l).length ≤ 300 * l.length := by
  refine snoc_ind (fun _ => by simp [sTextP]) ?_
  intro l s ih h
  have := ih fun b hb => h b (by simp [hb])
  have := (line_fine (h s (by simp))).1
  rw [sTextP_snoc, List.length_append, List.length_append, List.length_singleton, Nat.mul_add]
  omega
/-- What the walk asks of the lines' texts. -/
structure SortOk (l : List Bar) (V : List (List UInt8)) : Prop where
  text : (sTextV l).length ≤ 900000
  err : sTextE l = 0
  len : V.length = (splitG 1 10 (sTextV l)).length
  few : V.length ≤ 1000
  el : ∀ x ∈ V, x.length ≤ 1000000
  pos : 2 ≤ V.length → 0 < V.flatten.length
  flat : V.flatten = sortedT l
theorem sort_ok {l : List Bar} (h : okSched l) : SortOk l ((splitG 1 10 (sTextV l)).mergeSort fun x y => decide (x ≤ y)) := by
  have e : sTextV l = sTextP l := if_pos h
  have hs := split_lines h.2.1
  have hl := h.1
  have ht := text_fine l h.2.1
  have hm : ∀ x, x ∈ ((splitG 1 10 (sTextV l)).mergeSort fun x y => decide (x ≤ y)) ↔ x ∈ l.map sLineT ++ [[]] := fun x => by rw [List.mem_mergeSort, e, hs]
  have hn : (splitG 1 10 (sTextV l)).length = l.length + 1 := by rw [e, hs]; simp
  refine ⟨by rw [e]; omega, if_pos h, List.length_mergeSort _, by rw [List.length_mergeSort]; omega, fun x hx => ?_, fun h2 => ?_, rfl⟩
  · have hx := (hm x).1 hx
    simp only [List.mem_append, List.mem_map, List.mem_singleton] at hx
    rcases hx with ⟨b, hb, rfl⟩ | rfl
    · have := (line_fine (h.2.1 b hb)).1; omega
    · simp
  · rw [List.length_mergeSort, hn] at h2
    obtain ⟨b, hb⟩ : ∃ b, b ∈ l := by
      cases l with
      | nil => simp at h2
      | cons b l => exact ⟨b, by simp⟩
    rcases Nat.eq_zero_or_pos ((splitG 1 10 (sTextV l)).mergeSort fun x y => decide (x ≤ y)).flatten.length with h0 | h0
    · have h3 := List.flatten_eq_nil_iff.1 (List.eq_nil_of_length_eq_zero h0) (sLineT b) ((hm _).2 (by simp only [List.mem_append, List.mem_map]; exact .inl ⟨b, hb, rfl⟩))
      have h4 := (line_fine (h.2.1 b hb)).2
      rw [h3] at h4
      simp at h4
    · exact h0
open Go.Shelf in
shelf_lay Lays.n190 Nm 190 at Tryz as lays190
theorem sortS2 (l : List (List UInt8)) (n : Nat) (hn : n = l.length) (hl : l.length ≤ 1000000) : FunR Tryz.prog 33 [.als 0 0 n] [(0, ⟨true, 9, 1, l.map strC, true⟩)] 1 (Ret (.tup []) [(0, ⟨true, 9, 1, (l.mergeSort fun x y => decide (x ≤ y)).map strC, true⟩)]) := by
  subst hn
  exact (sortS_R lays190 ⟨_, Tryz.func33, rfl, rfl⟩ l hl).mono fun v objs ⟨l', h, h1, h2⟩ => by subst h; exact ⟨h1, h2⟩
theorem sorted_fun (l : List Bar) (h : okSched l) (hw : schedW l) : Fun Tryz.prog 9 [.sh 5 (l.map Bar.c)] (Ret (.lit (str (sortedT l))) []) := by
  have hl := h.1
  obtain ⟨V, hV⟩ : ∃ V, ((splitG 1 10 (sTextV l)).mergeSort fun x y => decide (x ≤ y)) = V := ⟨_, rfl⟩
  have hS := sort_ok h
  rw [hV] at hS
  obtain ⟨s1, s2, s3, s4, s5, s6, s7⟩ := hS
  refine Fun.of (nt := 17) (rs := [.tmp 2]) Tryz.func9 rfl rfl rfl rfl rfl ?_
  refine Ev.sr fun K hK => S.o q.as (S.end (hK _ ?_))
  clear hK K
  refine Ev.sr fun K hK => S.o q.mv (S.c0 (hF := sText_fun l (by omega) hw) (h := S.o q.mv (S.o q.ex (S.o q.ex (S.o q.as (S.o q.as (S.end (hK _ ?_))))))))
  clear hK K
  refine Ev.sr fun K hK => S.o q.mv (S.c1 (hF := splitAfterO_fun _ 10 s1) (h := S.o q.as (S.end (hK _ ?_))))
  clear hK K
  refine Ev.sr fun K hK => S.o q.mv (S.cR [0] _ [_] (hob := (keep_c (he := rfl) (h := keep_n))) (hF := hV ▸ sortS2 (splitG 1 10 (sTextV l)) _ rfl (by omega)) (hn' := below1 (by decide)) (h := S.end (hK _ ?_)))
  clear hK K
  refine Ev.sr fun K hK => S.o q.mv ?_
  refine SeqL.weaken (Wk.frzl (f := strC) V 15 [] (hm := s3)) ?_
  refine S.c0 (hF := join0_fun V s4 s5 s6) (h := S.o q.as (S.end (hK _ ?_)))
  clear hK K
  refine Ev.ret ?_
  refine Ev.ret1 ?_
  refine ⟨?_, rfl⟩
  first | rfl | (rw [s7]; done)
end Go.Proofs.YtccddakkegelkaaGreatDoor
namespace Go.Proofs.YtccddakkegelkaaGreatDoor
open Go Go.AM
set_option linter.unusedSimpArgs false
set_option linter.unusedVariables false
set_option maxRecDepth 100000
set_option maxHeartbeats 2000000
theorem cloneChg_fun (l : List (Chg)) (hlen : l.length ≤ 1000000) : Fun Tryz.prog 13 [.sh 2 (l.map findC)] (Ret (.als 0 0 l.length) [(0, ⟨true, 34, 2, l.map findC, true⟩)]) := by
  refine Fun.of (nt := 8) (rs := [.tmp 2]) Tryz.func13 rfl rfl rfl rfl rfl ?_
  refine Ev.sr fun K hK => S.o q.as (S.end (hK _ ?_))
  clear hK K
  refine Ev.seq ?_
  refine Ev.sr fun K hK => S.o q.mv (S.eqn am_el25 (fun c1 c2 => (S.end (hK _ ?_))))
  clear hK K
  refine Ev.c (fun c3 => ?_) (fun c3 => ?_)
  · first
  | (first | omega | contradiction)
  | refine Ev.sr fun K hK => S.o q.as (S.end (hK _ ?_))
    clear hK K
    refine Ev.weaken (Wk.nown findC 2 34 2) ?_
    refine Ev.ret ?_
    refine Ev.own1 ?_
    refine ⟨?_, ?_⟩
    all_goals first
     | rfl
     | (rw [List.map_eq_nil_iff.1 (c2 c3)]; done) | (rw [List.map_eq_nil_iff.1 (c2 c3)] <;> rfl)
     | (congr 1; simp; done)
     | (simp; done)
  · first
  | (first | omega | contradiction)
  | refine Ev.skip ?_
    show Ev _ _ _ _
    refine Ev.sr fun K hK => S.nn (v := .als 0 0 ([] : List (Chg)).length) (o := ⟨true, 34, 2, ([] : List (Chg)).map findC, true⟩) (q.bs [] true am_el25 am_ze34 am_cl34) (S.o q.mv (S.ap' [] am_el25 am_ze34 am_cl34 am_by34 (hh := head_own') (hr := rows_sh) (h := S.o q.as (S.end (hK _ ?_)))))
    clear hK K
    refine Ev.ret ?_
    refine Ev.own1 ?_
    refine ⟨?_, ?_⟩
    all_goals first
     | rfl
     | (rw [List.map_eq_nil_iff.1 (c2 c3)]; done) | (rw [List.map_eq_nil_iff.1 (c2 c3)] <;> rfl)
     | (congr 1; simp; done)
     | (simp; done)
theorem deleteChg_R (l : List (Chg)) (i j : Int) (h0 : 0 ≤ i) (h1 : i < j) (h2 : j ≤ l.length) (hl : l.length ≤ 1000000) : FunR Tryz.prog 12 [.als 0 0 l.length, .lit (.int .i64 i), .lit (.int .i64 j)] [(0, ⟨true, 34, 2, l.map findC, true⟩)] 1
    (Ret (.als 1 0 (l.take i.toNat ++ l.drop j.toNat).length) [(1, ⟨true, 34, 2, (l.take i.toNat ++ l.drop j.toNat).map findC, true⟩)]) := by
  refine FunR.of (nt := 33) (rs := [.tmp 6]) Tryz.func12 rfl rfl rfl rfl rfl ?_
  refine Ev.sr fun K hK => S.o q.as (S.end (hK _ ?_))
  clear hK K
  refine Ev.sr fun K hK => S.o q.mv (S.o q.mv (S.o q.mv (S.o q.mv (S.o (q.lena am_el25) (S.sl3 am_el25 am_cl34 (h := S.end (hK _ ?_)))))))
  clear hK K
  refine Ev.seq ?_
  refine Ev.sr fun K hK => S.o q.mv (S.o q.mv (S.o q.eql (S.end (hK _ ?_))))
  clear hK K
  refine Ev.cd (fun c1 => ?_) (fun c1 => ?_)
  · first
  | (first | omega | contradiction)
  | refine Ev.sr fun K hK => S.o q.mv (S.o q.as (S.end (hK _ ?_)))
    clear hK K
    refine Ev.ret ?_
    refine Ev.rr1 [0, 0] (keepR_c (h := (keepR_c (h := keepR_n)))) (leadsB rfl) ?_
    refine ⟨?_, ?_⟩
    all_goals first
     | (refine congrArg (fun q : List (Chg) => AV.als 1 0 q.length) ?_; exact del_rows (by omega) (by omega) (by omega) (by omega) (by omega) (by omega) (by omega))
     | (refine congrArg (fun q : List (Chg) => [(1, (⟨true, 34, 2, q.map findC, true⟩ : AM.Obj))]) ?_; exact del_rows (by omega) (by omega) (by omega) (by omega) (by omega) (by omega) (by omega))
  · first
  | (first | omega | contradiction)
  | refine Ev.skip ?_
    show Ev _ _ _ _
    refine Ev.sr fun K hK => S.o q.mv (S.o (q.lena am_el25) (S.o q.as (S.end (hK _ ?_))))
    clear hK K
    refine Ev.sm (tbs [(0, 0), (0, 0), (2, 3), (0, 0), (0, 0), (5, 24), (6, 63), (7, 127)]) 6 fun K hK => M.o q.mv (M.o q.mv (M.o (q.sl am_el25 am_cl34) (M.o q.mv (M.o q.mv (M.o (q.sl am_el25 am_cl34) (M.end [_] (h := S.apd [] am_el25 am_ze34 am_cl34 (h := S.o q.as (S.end (hK _ ?_))))))))))
    clear hK K
    refine Ev.sr fun K hK => S.o q.mv (S.o q.mv (S.o (q.lena am_el25) (S.o q.mv (S.slx am_el25 am_cl34 (h := S.clr (((0, []) : Chg)) [] am_el25 am_ze34 am_cl34 (h := S.end (hK _ ?_)))))))
    clear hK K
    refine Ev.weaken (Wk.cut 0 [] am_ze34 am_cl34) ?_
    refine Ev.sr fun K hK => S.o q.mv (S.o q.as (S.end (hK _ ?_)))
    clear hK K
    refine Ev.ret ?_
    refine Ev.rr1 [0, 25] (keepR_g (h := (keepR_c (h := keepR_n)))) (leadsB rfl) ?_
    refine ⟨?_, ?_⟩
    all_goals first
     | (refine congrArg (fun q : List (Chg) => AV.als 1 0 q.length) ?_; exact del_rows (by omega) (by omega) (by omega) (by omega) (by omega) (by omega) (by omega))
     | (refine congrArg (fun q : List (Chg) => [(1, (⟨true, 34, 2, q.map findC, true⟩ : AM.Obj))]) ?_; exact del_rows (by omega) (by omega) (by omega) (by omega) (by omega) (by omega) (by omega))

theorem applyOk_fun {a b m : List Bar} {l : List Chg} {e : Int} (hv : appV a b l = m) (he : appE a b l = e) (ha : okSched a) (hb : okSched b) (hl : l.length ≤ 140737488355328) (hwa : schedW a) (hwb : schedW b) (hwl : chgW l) : Fun Tryz.prog 8 [.sh 5 (a.map Bar.c), .sh 5 (b.map Bar.c), .sh 2 (l.map findC)] (Ret (.tup [.sh 5 (m.map Bar.c), .lit (.int .i64 e)]) []) := by
  have h := Apply_fun a b l (by have := ha.1; omega) (by have := hb.1; omega) hl hwa hwb hwl
  rw [hv, he] at h
  exact h
theorem joinOk_fun {l m j : List Chg} {e : Int} (hv : joinV l m = j) (he : joinE l m = e) (hl : l.length ≤ 140737488355328) (hm : m.length ≤ 140737488355328) (hwl : chgW l) (hwm : chgW m) : Fun Tryz.prog 14 [.sh 2 (l.map findC), .sh 2 (m.map findC)] (Ret (.tup [.sh 2 (j.map findC), .lit (.int .i64 e)]) []) := by
  have h := Join_fun l m hl hm hwl hwm
  rw [hv, he] at h
  exact h
theorem sortedT_fun {l : List Bar} {T : List UInt8} (hT : sortedT l = T) (h : okSched l) (hw : schedW l) : Fun Tryz.prog 9 [.sh 5 (l.map Bar.c)] (Ret (.lit (str T)) []) := hT ▸ sorted_fun l h hw
theorem okChgs_w {l : List Chg} (h : okChgs l) : chgW l := fun c hc => by have := isName_len (h.2.1 c hc).2.2; omega

end Go.Proofs.YtccddakkegelkaaGreatDoor
