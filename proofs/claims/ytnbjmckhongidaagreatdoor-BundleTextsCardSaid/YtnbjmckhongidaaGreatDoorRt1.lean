/-
  The reference: integers.
  Conditions: none.
-/
import Derived.Test.YtnbjmckhongidaaGreatDoorBr2
import Derived.Test.YtnbjmckhongidaaGreatDoorSt1
import Derived.Test.YtnbjmckhongidaaGreatDoorMk4
import Derived.Test.YtnbjmckhongidaaGreatDoorDig
namespace Go.Proofs.YtnbjmckhongidaaGreatDoor
open Go Go.AM
set_option linter.unusedSimpArgs false
set_option linter.unusedVariables false
set_option maxRecDepth 100000
set_option maxHeartbeats 1000000
theorem numV_snoc {w : List UInt8} {b : UInt8} (h : allDig w) (hb : 48 ≤ b.toNat ∧ b.toNat ≤ 57) : numV (w ++ [b]) = 10 * numV w + ((b.toNat : Int) - 48) := by
  obtain ⟨m, h1, _⟩ := dec_some w 0 h
  rw [numV, numV, dec_snoc, h1, Option.bind_some, dig_val hb, Option.map_some, Option.getD_some, Option.getD_some]
  omega
theorem allDig_snoc {w : List UInt8} {b : UInt8} (h : allDig w) (hb : 48 ≤ b.toNat ∧ b.toNat ≤ 57) : allDig (w ++ [b]) := by
  intro x hx
  simp only [List.mem_append, List.mem_singleton] at hx
  rcases hx with hx | rfl
  · exact h x hx
  · exact hb
theorem num15_z {w : List UInt8} (h1 : ((w[(0 : Int).toNat]!.toNat : Nat) : Int) = 48) (h2 : (1 : Int) < w.length) : ¬ numOk15 w := fun h => by
  have h3 := (atig (l := w) (i := 0) ⟨by decide, by omega⟩).2
  refine h.2.2 ⟨by omega, ?_⟩
  rw [show w[0]? = w[(0 : Int).toNat]? from rfl, h3, u8_of (show (w[(0 : Int).toNat]!).toNat = 48 by omega)]
  rfl
theorem num15_y {w : List UInt8} (h1 : digW w) (h2 : w.length ≤ 15) (h3 : ¬ (1 : Int) < w.length ∨ ¬ ((w[(0 : Int).toNat]!.toNat : Nat) : Int) = 48) : numOk15 w := ⟨h1, h2, fun h => by
  rcases h3 with h3 | h3
  · omega
  · have h4 := (atig (l := w) (i := 0) ⟨by decide, by omega⟩).2
    rw [show w[(0 : Int).toNat]? = w[0]? from rfl, h.2] at h4
    simp only [Option.some.injEq] at h4
    rw [← h4] at h3
    exact h3 rfl⟩
theorem rint_fun (w : List UInt8) (hw : w.length ≤ 1000000) : Fun Tryz.prog 26 [.lit (str w)] (Ret (.tup [.lit (.int .i64 (if numOk15 w then numV w else 0)), .lit (.bool (decide (numOk15 w)))]) []) := by
  have hx0 : 0 < w.length → ∃ c, w[0]? = some c := fun h => ⟨_, List.getElem?_eq_getElem h⟩
  refine Fun.of (nt := 49) (rs := [.tmp 2, .tmp 3]) Tryz.func26 rfl rfl rfl rfl rfl ?_
  refine Ev.sr fun K hK => S.o q.as (S.o q.as (S.end (hK _ ?_)))
  clear hK K
  refine Ev.seq ?_
  refine Ev.sr fun K hK => S.o q.mv (S.o (q.slen am_el9 am_un9) (S.o q.lss (S.bd q.mv (fun c1 => ?_) (fun c1 => ?_))))
  · first
  | (first | omega | contradiction)
  | refine S.sk (S.sk (S.sk (S.o q.pt (S.o q.mv (S.sk (S.sk (S.sk (S.sk (S.sk (S.sk (S.sk (S.sk (S.o q.pt (S.end (hK _ ?_)))))))))))))))
    clear hK K
    refine Ev.ct ?_
    have hno : ¬ numOk15 w := by first | exact (fun h => by have := h.1.1; omega) | exact (fun h => by have := h.2.1; omega) | exact num15_z ‹_› ‹_›
    refine Ev.sr fun K hK => S.o q.as (S.o q.as (S.end (hK _ ?_)))
    clear hK K
    refine Ev.ret ?_
    refine Ev.ret2 ?_
    refine ⟨?_, rfl⟩
    first | (rw [if_neg hno, decide_eq_false hno]; done) | (rw [if_pos hok, decide_eq_true hok]; done)
  · first
  | (first | omega | contradiction)
  | refine S.o q.mv (S.o (q.slen am_el9 am_un9) (S.o q.gtr (S.o q.pf (S.bd q.mv (fun c2 => ?_) (fun c2 => ?_)))))
    · first
    | (first | omega | contradiction)
    | refine S.sk (S.sk (S.sk (S.sk (S.sk (S.sk (S.sk (S.sk (S.o q.pt (S.end (hK _ ?_))))))))))
      clear hK K
      refine Ev.ct ?_
      have hno : ¬ numOk15 w := by first | exact (fun h => by have := h.1.1; omega) | exact (fun h => by have := h.2.1; omega) | exact num15_z ‹_› ‹_›
      refine Ev.sr fun K hK => S.o q.as (S.o q.as (S.end (hK _ ?_)))
      clear hK K
      refine Ev.ret ?_
      refine Ev.ret2 ?_
      refine ⟨?_, rfl⟩
      first | (rw [if_neg hno, decide_eq_false hno]; done) | (rw [if_pos hok, decide_eq_true hok]; done)
    · first
    | (first | omega | contradiction)
    | refine S.o q.mv (S.o (q.slen am_el9 am_un9) (S.o q.gtr (S.bd q.mv (fun c3 => ?_) (fun c3 => ?_))))
      · first
      | (first | omega | contradiction)
      | refine S.o q.mv (S.o (q.six am_un9 (hl := (by first | exact atig (by omega)))) (S.o q.eql (S.o q.pt (S.o q.pf (S.end (hK _ ?_))))))
        clear hK K
        refine Ev.cd (fun c4 => ?_) (fun c4 => ?_)
        · first
        | (first | omega | contradiction)
        | have hno : ¬ numOk15 w := by first | exact (fun h => by have := h.1.1; omega) | exact (fun h => by have := h.2.1; omega) | exact num15_z ‹_› ‹_›
          refine Ev.sr fun K hK => S.o q.as (S.o q.as (S.end (hK _ ?_)))
          clear hK K
          refine Ev.ret ?_
          refine Ev.ret2 ?_
          refine ⟨?_, rfl⟩
          first | (rw [if_neg hno, decide_eq_false hno]; done) | (rw [if_pos hok, decide_eq_true hok]; done)
        · first
        | (first | omega | contradiction)
        | refine Ev.skip ?_
          show Ev _ _ _ _
          have hz : ¬ (1 : Int) < w.length ∨ ¬ ((w[(0 : Int).toNat]!.toNat : Nat) : Int) = 48 := by first | exact .inl (by omega) | exact .inr ‹_›
          have hl1 : 1 ≤ w.length := by omega
          have hl2 : w.length ≤ 15 := by omega
          refine Ev.sr fun K hK => S.o q.as (S.end (hK _ ?_))
          clear hK K
          refine Ev.seq ?_
          refine Ev.sr fun K hK => S.o q.as (S.end (hK _ ?_))
          clear hK K
          refine Ev.block ?_
          refine Ev.loopU (ι := {q : List UInt8 × List UInt8 // q.1 ++ q.2 = w ∧ allDig q.1}) [] [0] (fun ⟨(pre, suf), _⟩ => [(5, .lit (.int .i64 ((pre.length : Int)))), (4, .lit (.int .i64 (numV pre)))]) (fun ⟨(pre, suf), _⟩ => []) (fun ⟨(pre, suf), _⟩ => suf.length) ⟨([], w), rfl, fun x hx => by cases hx⟩ (.c .n) keep_n (slots_c (he := (by first | rfl | (congr 2; simp; done))) (h := (slots_c (he := (by first | rfl | exact iE (numV_snoc hinv hsd).symm)) (h := trivial)))) ?_
          rintro ⟨⟨pre, suf⟩, hp, hinv⟩ R0 hR0
          dsimp only [List.cons_append, List.nil_append, List.length_cons, List.length_nil]
          simp only at hp hinv
          have hpl : pre.length + suf.length = (w).length := by rw [← hp, List.length_append]
          rcases suf with _ | ⟨s, suf⟩
          · rw [List.append_nil] at hp; subst pre; simp only [List.length_nil] at hpl
            refine Ev.seq ?_
            refine Ev.sr fun K hK => S.o q.mv (S.o q.mv (S.o (q.slen am_el9 am_un9) (S.o q.lss (S.end (hK _ ?_)))))
            clear hK K
            refine Ev.cd (fun c5 => ?_) (fun c5 => ?_)
            · first | omega | contradiction
            · first
            | (first | omega | contradiction)
            | refine Ev.exit ?_
              refine hR0 _ _ ?_
              show Ev _ _ _ _
              have hok : numOk15 w := num15_y ⟨by omega, hinv⟩ hl2 hz
              refine Ev.sr fun K hK => S.o q.mv (S.o q.as (S.o q.as (S.end (hK _ ?_))))
              clear hK K
              refine Ev.ret ?_
              refine Ev.ret2 ?_
              refine ⟨?_, rfl⟩
              first | (rw [if_neg hno, decide_eq_false hno]; done) | (rw [if_pos hok, decide_eq_true hok]; done)
          · simp only [List.length_cons] at hpl
            have hidx : (w)[pre.length]? = some s := by rw [← hp]; simp
            refine Ev.seq ?_
            refine Ev.sr fun K hK => S.o q.mv (S.o q.mv (S.o (q.slen am_el9 am_un9) (S.o q.lss (S.end (hK _ ?_)))))
            clear hK K
            refine Ev.cd (fun c6 => ?_) (fun c6 => ?_)
            · first
            | (first | omega | contradiction)
            | refine Ev.skip ?_
              show Ev _ _ _ _
              refine Ev.seq ?_
              refine Ev.block ?_
              refine Ev.seq ?_
              refine Ev.sr fun K hK => S.o q.mv (S.o q.mv (S.o (q.six am_un9 (hl := (by first | exact ati hidx (by omega) | exact atig (by omega)))) (S.o q.lss (S.bd q.mv (fun c7 => ?_) (fun c7 => ?_)))))
              · first
              | (first | omega | contradiction)
              | refine S.sk (S.sk (S.sk (S.sk (S.o q.pt (S.end (hK _ ?_))))))
                clear hK K
                refine Ev.ct ?_
                have hno : ¬ numOk15 w := fun h => by
                  have h1 := h.1.2 s (List.mem_of_getElem? hidx)
                  omega
                refine Ev.sr fun K hK => S.o q.as (S.o q.as (S.end (hK _ ?_)))
                clear hK K
                refine Ev.ret ?_
                refine hR0 _ _ ?_
                refine Ev.ret2 ?_
                refine ⟨?_, rfl⟩
                first | (rw [if_neg hno, decide_eq_false hno]; done) | (rw [if_pos hok, decide_eq_true hok]; done)
              · first
              | (first | omega | contradiction)
              | refine S.o q.mv (S.o q.mv (S.o (q.six am_un9 (hl := (by first | exact ati hidx (by omega) | exact atig (by omega)))) (S.o q.gtr (S.o q.pf (S.end (hK _ ?_))))))
                clear hK K
                refine Ev.cd (fun c8 => ?_) (fun c8 => ?_)
                · first
                | (first | omega | contradiction)
                | have hno : ¬ numOk15 w := fun h => by
                    have h1 := h.1.2 s (List.mem_of_getElem? hidx)
                    omega
                  refine Ev.sr fun K hK => S.o q.as (S.o q.as (S.end (hK _ ?_)))
                  clear hK K
                  refine Ev.ret ?_
                  refine hR0 _ _ ?_
                  refine Ev.ret2 ?_
                  refine ⟨?_, rfl⟩
                  first | (rw [if_neg hno, decide_eq_false hno]; done) | (rw [if_pos hok, decide_eq_true hok]; done)
                · first
                | (first | omega | contradiction)
                | refine Ev.skip ?_
                  show Ev _ _ _ _
                  have hsd : 48 ≤ s.toNat ∧ s.toNat ≤ 57 := by omega
                  obtain ⟨v1, v2⟩ := numV_bd15 hinv (by omega)
                  refine Ev.region_S fun K hK => S.o q.mv (S.o q.mul (S.o q.mv (S.o q.mv (S.o (q.six am_un9 (hl := (by first | exact ati hidx (by omega) | exact atig (by omega)))) (S.o q.subb (S.o (q.cvi am_un3 am_us5) (S.o q.add (S.o q.as (S.end (hK _ ?_))))))))))
                  clear hK K
                  show Ev _ _ _ _
                  refine Ev.region_S fun K hK => S.o q.mv (S.o q.add (S.o q.as (S.end (hK _ ?_))))
                  clear hK K
                  refine hR0 _ _ ?_
                  refine roundU [] [0] ⟨(pre ++ [s], suf), by rw [← hp]; simp, ?_⟩ ?_ keep_n (slots_c (he := (by first | rfl | (congr 2; simp; done))) (h := (slots_c (he := (by first | rfl | exact iE (numV_snoc hinv hsd).symm)) (h := trivial)))) (.c .n)
                  exact allDig_snoc hinv hsd
                  all_goals (dsimp only; simp only [List.length_cons]; omega)
            · first | omega | contradiction
      · first
      | (first | omega | contradiction)
      | refine S.sk (S.sk (S.sk (S.o q.pf (S.o q.pf (S.end (hK _ ?_))))))
        clear hK K
        refine Ev.cf ?_
        refine Ev.skip ?_
        show Ev _ _ _ _
        have hz : ¬ (1 : Int) < w.length ∨ ¬ ((w[(0 : Int).toNat]!.toNat : Nat) : Int) = 48 := by first | exact .inl (by omega) | exact .inr ‹_›
        have hl1 : 1 ≤ w.length := by omega
        have hl2 : w.length ≤ 15 := by omega
        refine Ev.sr fun K hK => S.o q.as (S.end (hK _ ?_))
        clear hK K
        refine Ev.seq ?_
        refine Ev.sr fun K hK => S.o q.as (S.end (hK _ ?_))
        clear hK K
        refine Ev.block ?_
        refine Ev.loopU (ι := {q : List UInt8 × List UInt8 // q.1 ++ q.2 = w ∧ allDig q.1}) [] [0] (fun ⟨(pre, suf), _⟩ => [(5, .lit (.int .i64 ((pre.length : Int)))), (4, .lit (.int .i64 (numV pre)))]) (fun ⟨(pre, suf), _⟩ => []) (fun ⟨(pre, suf), _⟩ => suf.length) ⟨([], w), rfl, fun x hx => by cases hx⟩ (.c .n) keep_n (slots_c (he := (by first | rfl | (congr 2; simp; done))) (h := (slots_c (he := (by first | rfl | exact iE (numV_snoc hinv hsd).symm)) (h := trivial)))) ?_
        rintro ⟨⟨pre, suf⟩, hp, hinv⟩ R0 hR0
        dsimp only [List.cons_append, List.nil_append, List.length_cons, List.length_nil]
        simp only at hp hinv
        have hpl : pre.length + suf.length = (w).length := by rw [← hp, List.length_append]
        rcases suf with _ | ⟨s, suf⟩
        · rw [List.append_nil] at hp; subst pre; simp only [List.length_nil] at hpl
          refine Ev.seq ?_
          refine Ev.sr fun K hK => S.o q.mv (S.o q.mv (S.o (q.slen am_el9 am_un9) (S.o q.lss (S.end (hK _ ?_)))))
          clear hK K
          refine Ev.cd (fun c9 => ?_) (fun c9 => ?_)
          · first | omega | contradiction
          · first
          | (first | omega | contradiction)
          | refine Ev.exit ?_
            refine hR0 _ _ ?_
            show Ev _ _ _ _
            have hok : numOk15 w := num15_y ⟨by omega, hinv⟩ hl2 hz
            refine Ev.sr fun K hK => S.o q.mv (S.o q.as (S.o q.as (S.end (hK _ ?_))))
            clear hK K
            refine Ev.ret ?_
            refine Ev.ret2 ?_
            refine ⟨?_, rfl⟩
            first | (rw [if_neg hno, decide_eq_false hno]; done) | (rw [if_pos hok, decide_eq_true hok]; done)
        · simp only [List.length_cons] at hpl
          have hidx : (w)[pre.length]? = some s := by rw [← hp]; simp
          refine Ev.seq ?_
          refine Ev.sr fun K hK => S.o q.mv (S.o q.mv (S.o (q.slen am_el9 am_un9) (S.o q.lss (S.end (hK _ ?_)))))
          clear hK K
          refine Ev.cd (fun c10 => ?_) (fun c10 => ?_)
          · first
          | (first | omega | contradiction)
          | refine Ev.skip ?_
            show Ev _ _ _ _
            refine Ev.seq ?_
            refine Ev.block ?_
            refine Ev.seq ?_
            refine Ev.sr fun K hK => S.o q.mv (S.o q.mv (S.o (q.six am_un9 (hl := (by first | exact ati hidx (by omega) | exact atig (by omega)))) (S.o q.lss (S.bd q.mv (fun c11 => ?_) (fun c11 => ?_)))))
            · first
            | (first | omega | contradiction)
            | refine S.sk (S.sk (S.sk (S.sk (S.o q.pt (S.end (hK _ ?_))))))
              clear hK K
              refine Ev.ct ?_
              have hno : ¬ numOk15 w := fun h => by
                have h1 := h.1.2 s (List.mem_of_getElem? hidx)
                omega
              refine Ev.sr fun K hK => S.o q.as (S.o q.as (S.end (hK _ ?_)))
              clear hK K
              refine Ev.ret ?_
              refine hR0 _ _ ?_
              refine Ev.ret2 ?_
              refine ⟨?_, rfl⟩
              first | (rw [if_neg hno, decide_eq_false hno]; done) | (rw [if_pos hok, decide_eq_true hok]; done)
            · first
            | (first | omega | contradiction)
            | refine S.o q.mv (S.o q.mv (S.o (q.six am_un9 (hl := (by first | exact ati hidx (by omega) | exact atig (by omega)))) (S.o q.gtr (S.o q.pf (S.end (hK _ ?_))))))
              clear hK K
              refine Ev.cd (fun c12 => ?_) (fun c12 => ?_)
              · first
              | (first | omega | contradiction)
              | have hno : ¬ numOk15 w := fun h => by
                  have h1 := h.1.2 s (List.mem_of_getElem? hidx)
                  omega
                refine Ev.sr fun K hK => S.o q.as (S.o q.as (S.end (hK _ ?_)))
                clear hK K
                refine Ev.ret ?_
                refine hR0 _ _ ?_
                refine Ev.ret2 ?_
                refine ⟨?_, rfl⟩
                first | (rw [if_neg hno, decide_eq_false hno]; done) | (rw [if_pos hok, decide_eq_true hok]; done)
              · first
              | (first | omega | contradiction)
              | refine Ev.skip ?_
                show Ev _ _ _ _
                have hsd : 48 ≤ s.toNat ∧ s.toNat ≤ 57 := by omega
                obtain ⟨v1, v2⟩ := numV_bd15 hinv (by omega)
                refine Ev.region_S fun K hK => S.o q.mv (S.o q.mul (S.o q.mv (S.o q.mv (S.o (q.six am_un9 (hl := (by first | exact ati hidx (by omega) | exact atig (by omega)))) (S.o q.subb (S.o (q.cvi am_un3 am_us5) (S.o q.add (S.o q.as (S.end (hK _ ?_))))))))))
                clear hK K
                show Ev _ _ _ _
                refine Ev.region_S fun K hK => S.o q.mv (S.o q.add (S.o q.as (S.end (hK _ ?_))))
                clear hK K
                refine hR0 _ _ ?_
                refine roundU [] [0] ⟨(pre ++ [s], suf), by rw [← hp]; simp, ?_⟩ ?_ keep_n (slots_c (he := (by first | rfl | (congr 2; simp; done))) (h := (slots_c (he := (by first | rfl | exact iE (numV_snoc hinv hsd).symm)) (h := trivial)))) (.c .n)
                exact allDig_snoc hinv hsd
                all_goals (dsimp only; simp only [List.length_cons]; omega)
          · first | omega | contradiction

theorem words_len (z : List UInt8) (hz : z.length ≤ 262144) (h4 : ¬ (splitG 0 32 z).length = 4) : Fun Tryz.prog 25 [.lit (str z)] (Ret (.sh 1 ((splitG 0 32 z).map strC)) []) := words_fun z hz
theorem words_four {z t m a c : List UInt8} (hz : z.length ≤ 262144) (h : splitG 0 32 z = [t, m, a, c]) : Fun Tryz.prog 25 [.lit (str z)] (Ret (.sh 1 ([t, m, a, c].map strC)) []) := by
  have := words_fun z hz
  rwa [h] at this
theorem rint_yes (w : List UInt8) (hw : w.length ≤ 1000000) (h : numOk15 w) : Fun Tryz.prog 26 [.lit (str w)] (Ret (.tup [.lit (.int .i64 (numV w)), .lit (.bool true)]) []) := by
  have := rint_fun w hw
  rwa [if_pos h, decide_eq_true h] at this
theorem rint_no (w : List UInt8) (hw : w.length ≤ 1000000) (h : ¬ numOk15 w) : Fun Tryz.prog 26 [.lit (str w)] (Ret (.tup [.lit (.int .i64 0), .lit (.bool false)]) []) := by
  have := rint_fun w hw
  rwa [if_neg h, decide_eq_false h] at this

end Go.Proofs.YtnbjmckhongidaaGreatDoor
namespace Go.Proofs.YtnbjmckhongidaaGreatDoor
open Go Go.AM
set_option linter.unusedSimpArgs false
set_option linter.unusedVariables false
set_option maxRecDepth 100000
set_option maxHeartbeats 2000000
theorem four_or (z : List UInt8) : (∃ t m a c, splitG 0 32 z = [t, m, a, c] ∧ [t, m, a, c][0]? = some t ∧ [t, m, a, c][1]? = some m ∧ [t, m, a, c][2]? = some a ∧ [t, m, a, c][3]? = some c ∧ t.length ≤ z.length ∧ m.length ≤ z.length ∧ a.length ≤ z.length ∧ c.length ≤ z.length) ∨ ¬ (splitG 0 32 z).length = 4 := by
  by_cases h : (splitG 0 32 z).length = 4
  · obtain ⟨t, m, a, c, h⟩ := four h
    have hl : ∀ w ∈ [t, m, a, c], w.length ≤ z.length := fun w hw => split_le w (by rw [h]; exact hw)
    exact .inl ⟨t, m, a, c, h, rfl, rfl, rfl, rfl, hl t (by simp), hl m (by simp), hl a (by simp), hl c (by simp)⟩
  · exact .inr h
theorem inner3 (z : List UInt8) (i : Nat) : ¬ i < z.length ∨ (i < z.length ∧ (((z[(i : Int).toNat]!).toNat : Nat) : Int) = 10) ∨ (i < z.length ∧ ¬ (((z[(i : Int).toNat]!).toNat : Nat) : Int) = 10) := by
  by_cases h1 : i < z.length
  · by_cases h2 : (((z[(i : Int).toNat]!).toNat : Nat) : Int) = 10
    · exact .inr (.inl ⟨h1, h2⟩)
    · exact .inr (.inr ⟨h1, h2⟩)
  · exact .inl h1
theorem readB_no {s t m a c : List UInt8} (hs : splitG 0 32 s = [t, m, a, c]) (h : ¬ lineOk t m a c) : readB s = none := by
  unfold readB; rw [hs]; exact if_neg h
/-- The bars so far, where the line begins, and the place. -/
structure ParI (z : List UInt8) (bs : List Bundle) (fr i : Nat) : Prop where
  a : fr ≤ i
  b : i ≤ z.length
  c : readL (splitG 0 10 (z.drop fr)) bs = readR z
  d : (10 : UInt8) ∉ (z.drop fr).take (i - fr)
  e : bs.length ≤ fr
  f : bunW bs
theorem parI_0 (z : List UInt8) : ParI z [] 0 0 := ⟨Nat.le_refl _, Nat.zero_le _, rfl, by simp, Nat.le_refl _, fun x hx => by cases hx⟩
def lineAt (z : List UInt8) (fr i : Nat) : List UInt8 := (z.take i).drop fr
theorem parI_on {z : List UInt8} {bs : List Bundle} {fr i : Nat} {c : UInt8} (h : ParI z bs fr i) (hi : z[i]? = some c) (hc : c ≠ 10) : ParI z bs fr (i + 1) := by
  have hil := (List.getElem?_eq_some_iff.1 hi).1
  have hk : (z.drop fr)[i - fr]? = some c := by rw [List.getElem?_drop, show fr + (i - fr) = i by have := h.a; omega]; exact hi
  refine ⟨by have := h.a; omega, by omega, h.c, ?_, h.e, h.f⟩
  rw [show i + 1 - fr = (i - fr) + 1 by have := h.a; omega, List.take_add_one, hk]
  simp only [Option.toList_some, List.mem_append, List.mem_singleton, not_or]
  exact ⟨h.d, fun e => hc e.symm⟩
theorem parI_step {z : List UInt8} {bs : List Bundle} {fr i : Nat} (h : ParI z bs fr i) (hi : z[i]? = some 10) : splitG 0 10 (z.drop fr) = lineAt z fr i :: splitG 0 10 (z.drop (i + 1)) := by
  have hk : (z.drop fr)[i - fr]? = some 10 := by rw [List.getElem?_drop, show fr + (i - fr) = i by have := h.a; omega]; exact hi
  rw [split_at hk h.d, List.drop_drop, show fr + (i - fr + 1) = i + 1 by have := h.a; omega, lineAt, take_drop_eq]
theorem parI_cut {z : List UInt8} {bs : List Bundle} {fr i : Nat} {x : Bundle} (h : ParI z bs fr i) (hi : z[i]? = some 10) (hx : readB (lineAt z fr i) = some x) (hz : z.length ≤ 262144) : ParI z (bs ++ [x]) (i + 1) (i + 1) := by
  have hil := (List.getElem?_eq_some_iff.1 hi).1
  have hc := h.c
  have hne := splitG_ne 0 10 (z.drop (i + 1))
  rw [parI_step h hi, readL, if_neg (fun h => hne h.2), if_neg hne, hx] at hc
  refine ⟨Nat.le_refl _, by omega, hc, by simp, by have := h.e; have := h.a; simp only [List.length_append, List.length_singleton]; omega, fun y hy => ?_⟩
  simp only [List.mem_append, List.mem_singleton] at hy
  rcases hy with hy | rfl
  · exact h.f y hy
  · exact readB_w hx
theorem parI_bad {z : List UInt8} {bs : List Bundle} {fr i : Nat} (h : ParI z bs fr i) (hi : z[i]? = some 10) (hx : readB (lineAt z fr i) = none) : readR z = ([], (bs.length : Int) + 1) := by
  have hc := h.c
  have hne := splitG_ne 0 10 (z.drop (i + 1))
  rw [parI_step h hi, readL, if_neg (fun h => hne h.2), if_neg hne, hx] at hc
  exact hc.symm
theorem parI_last {z : List UInt8} {bs : List Bundle} {fr i : Nat} (h : ParI z bs fr i) (hi : i = z.length) : splitG 0 10 (z.drop fr) = [z.drop fr] := by
  have hd := h.d
  rw [hi, List.take_of_length_le (by simp)] at hd
  exact splitG_no 0 hd
theorem parI_end1 {z : List UInt8} {bs : List Bundle} {fr i : Nat} (h : ParI z bs fr i) (hi : i = z.length) (hf : fr < z.length) : readR z = ([], (bs.length : Int) + 1) := by
  have hc := h.c
  have hne : z.drop fr ≠ [] := fun e => by have := congrArg List.length e; simp at this; omega
  rw [parI_last h hi, readL, if_neg (fun h => hne h.1), if_pos rfl] at hc
  exact hc.symm
theorem parI_end2 {z : List UInt8} {bs : List Bundle} {fr i : Nat} (h : ParI z bs fr i) (hi : i = z.length) (hf : ¬ fr < z.length) : readR z = (bs, 0) := by
  have hc := h.c
  have he : z.drop fr = [] := List.drop_of_length_le (by omega)
  rw [parI_last h hi, he, readL, if_pos ⟨rfl, rfl⟩] at hc
  exact hc.symm
theorem at10 {z : List UInt8} {i : Nat} (hi : i < z.length) : (((z[(i : Int).toNat]!).toNat : Nat) : Int) = 10 ↔ z[i]? = some 10 := by
  have h3 := (atig (l := z) (i := (i : Int)) ⟨by omega, by omega⟩).2
  rw [Int.toNat_natCast] at h3 ⊢
  constructor
  · intro h
    rw [h3, u8_of (show (z[i]!).toNat = 10 by omega)]; rfl
  · intro h
    rw [h3] at h
    rw [Option.some.inj h]; rfl
theorem rParse_fun (z : List UInt8) (hz : z.length ≤ 140737488355328) : Fun Tryz.prog 10 [.lit (str z)] (Ret (.tup [.sh 4 ((parseV z).map Bundle.c), .agg [.lit (.int .i64 (parseL z)), .lit (.int .i64 (parseC z))], .lit (.int .i64 (parseE z))]) []) := by
  refine Fun.of (nt := 110) (rs := [.tmp 2, .cell 3 31, .tmp 4]) Tryz.func10 rfl rfl rfl rfl rfl ?_
  refine Ev.sr fun K hK => S.o q.as (S.nn (q.al am_ze31) (S.o q.as (S.end (hK _ ?_))))
  clear hK K
  refine Ev.seq ?_
  refine Ev.sr fun K hK => S.o q.mv (S.o (q.slen am_el9 am_un9) (S.o q.gtr (S.end (hK _ ?_))))
  clear hK K
  refine Ev.cd (fun c1 => ?_) (fun c1 => ?_)
  · first
  | (first | omega | contradiction)
  | obtain ⟨e1, e2, e3, e4⟩ := parse_long (s := z) (by omega)
    rw [e1, e2, e3, e4]
    refine Ev.sr fun K hK => S.o (q.bd [_, _] am_ze31 am_pl31) (S.o q.as (S.sv [_, _] true [] am_in31 am_cl31 (h := S.o q.as (S.end (hK _ ?_)))))
    clear hK K
    refine Ev.weaken (Wk.nsh Bundle.c 2 4) ?_
    refine Ev.ret ?_
    refine Ev.retv3 (res_t (res_c [_, _] am_ag31 am_cl31 (res_t res_n))) ?_
    refine ⟨?_, rfl⟩
    first | rfl | (rw [e1, e2, e3, e4]; done) | (rw [e1, e2, e3, e4] <;> rfl)
  · first
  | (first | omega | contradiction)
  | refine Ev.skip ?_
    show Ev _ _ _ _
    refine Ev.sr fun K hK => S.o q.as (S.end (hK _ ?_))
    clear hK K
    have hz2 : z.length ≤ 262144 := by omega
    refine Ev.sr fun K hK => S.o q.as (S.o q.as (S.end (hK _ ?_)))
    clear hK K
    refine Ev.seq ?_
    refine Ev.block ?_
    refine Ev.weaken (Wk.nown Bundle.c 5 46 4) ?_
    refine Ev.loopU (ι := {q : List Bundle × Nat // ParI z q.1 q.2 q.2}) [1, 0] [0, 3] (fun ⟨(bs, fr), _⟩ => [(6, .lit (.int .i64 (((bs.length : Int) + 1)))), (7, .lit (.int .i64 ((fr : Int)))), (5, .als 0 0 (bs).length)]) (fun ⟨(bs, fr), _⟩ => [(0, ⟨true, 46, 4, (bs).map Bundle.c, true⟩), (1, ⟨false, 31, 2, [[.lit (.int .i64 (0)), .lit (.int .i64 (0))]], true⟩)]) (fun ⟨(bs, fr), _⟩ => z.length - fr) ⟨([], 0), parI_0 z⟩ (.c (.c .n)) (keep_c (he := (by first | rfl | (simp; done))) (h := (keep_c (he := (by first | rfl | (simp; done))) (h := keep_n)))) (slots_c (he := (by first | rfl | (simp; done))) (h := (slots_c (he := (by first | rfl | (simp; done))) (h := (slots_c (he := (by first | rfl | (simp; done))) (h := trivial)))))) ?_
    rintro ⟨⟨bs, fr⟩, hI⟩ R0 hR0
    dsimp only [List.cons_append, List.nil_append, List.length_cons, List.length_nil]
    simp only at hI
    have hIb := hI.b
    have hIe := hI.e
    by_cases hlt : fr < z.length
    rotate_left
    · skip
      refine Ev.seq ?_
      refine Ev.sr fun K hK => S.o q.mv (S.o q.mv (S.o (q.slen am_el9 am_un9) (S.o q.lss (S.end (hK _ ?_)))))
      clear hK K
      refine Ev.cd (fun c2 => ?_) (fun c2 => ?_)
      · first | omega | contradiction
      · first
      | (first | omega | contradiction)
      | refine Ev.exit ?_
        refine hR0 _ _ ?_
        show Ev _ _ _ _
        refine Ev.seq ?_
        refine Ev.weaken (Wk.frz 5 [_]) ?_
        have hr := parI_end2 hI (by omega) (by omega)
        have hbl := hI.e
        have hbw := hI.f
        refine Ev.sr fun K hK => S.o q.mv (S.c0 (hF := rBvalid_fun _ (by omega) (by assumption)) (h := S.o q.not (S.end (hK _ ?_))))
        clear hK K
        refine Ev.cn (fun c3 => ?_) (fun c3 => ?_)
        · first
        | (first | omega | contradiction)
        | obtain ⟨e1, e2, e3, e4⟩ := parse_arg hz2 hr ‹¬ okBuns bs›
          refine Ev.sr fun K hK => S.o (q.bd [_, _] am_ze31 am_pl31) (S.o q.as (S.sv [_, _] true [] am_in31 am_cl31 (h := S.o q.as (S.end (hK _ ?_)))))
          clear hK K
          refine Ev.weaken (Wk.nsh Bundle.c 2 4) ?_
          refine Ev.ret ?_
          refine Ev.retv3 (res_t (res_c [_, _] am_ag31 am_cl31 (res_t res_n))) ?_
          refine ⟨?_, rfl⟩
          first | rfl | (rw [e1, e2, e3, e4]; done) | (rw [e1, e2, e3, e4] <;> rfl)
        · first
        | (first | omega | contradiction)
        | refine Ev.skip ?_
          show Ev _ _ _ _
          obtain ⟨e1, e2, e3, e4⟩ := parse_ok hz2 hr ‹okBuns bs›
          refine Ev.sr fun K hK => S.o q.mv (S.o (q.bd [_, _] am_ze31 am_pl31) (S.o q.as (S.sv [_, _] true [] am_in31 am_cl31 (h := S.o q.as (S.end (hK _ ?_))))))
          clear hK K
          refine Ev.ret ?_
          refine Ev.retv3 (res_t (res_c [_, _] am_ag31 am_cl31 (res_t res_n))) ?_
          refine ⟨?_, rfl⟩
          first | rfl | (rw [e1, e2, e3, e4]; done) | (rw [e1, e2, e3, e4] <;> rfl)
    · skip
      refine Ev.seq ?_
      refine Ev.sr fun K hK => S.o q.mv (S.o q.mv (S.o (q.slen am_el9 am_un9) (S.o q.lss (S.end (hK _ ?_)))))
      clear hK K
      refine Ev.cd (fun c4 => ?_) (fun c4 => ?_)
      · first
      | (first | omega | contradiction)
      | refine Ev.skip ?_
        show Ev _ _ _ _
        refine Ev.block ?_
        refine Ev.sr fun K hK => S.o q.mv (S.o q.as (S.end (hK _ ?_)))
        clear hK K
        refine Ev.seq ?_
        refine Ev.block ?_
        refine Ev.loopU (ι := {i : Nat // ParI z bs fr i}) [0, 1] [0, 3, 6, 7, 19, 20, 21, 22, 23] (fun ⟨i, _⟩ => [(8, .lit (.int .i64 ((i : Int)))), (5, .als 0 0 (bs).length)]) (fun ⟨i, _⟩ => [(0, ⟨true, 46, 4, (bs).map Bundle.c, true⟩), (1, ⟨false, 31, 2, [[.lit (.int .i64 (0)), .lit (.int .i64 (0))]], true⟩)]) (fun ⟨i, _⟩ => z.length - i) ⟨fr, hI⟩ (.c (.c (.c (.c (.c (.c (.c (.c (.c .n))))))))) (keep_c (he := (by first | rfl | (simp; done))) (h := (keep_c (he := (by first | rfl | (simp; done))) (h := keep_n)))) (slots_c (he := (by first | rfl | (simp; done))) (h := (slots_c (he := (by first | rfl | (simp; done) | (congr 2; omega))) (h := trivial)))) ?_
        rintro ⟨i, hJ⟩ R2 hR2
        dsimp only [List.cons_append, List.nil_append, List.length_cons, List.length_nil]
        have hJb := hJ.b
        rcases inner3 z i with hlt2 | ⟨hlt2, h10⟩ | ⟨hlt2, h10⟩
        · skip
          refine Ev.seq ?_
          refine Ev.sr fun K hK => S.o q.mv (S.o q.mv (S.o (q.slen am_el9 am_un9) (S.o q.lss (S.bd q.mv (fun c5 => ?_) (fun c5 => ?_)))))
          · first
          | (first | omega | contradiction)
          | refine S.o q.mv (S.o q.mv (S.o (q.six am_un9 (hl := (by first | exact ati i0 (by omega) | exact ati i1 (by omega) | exact ati i2 (by omega) | exact ati i3 (by omega) | exact atig (by omega)))) (S.o q.neq (S.o q.pt (S.end (hK _ ?_))))))
            clear hK K
            refine Ev.cn (fun c6 => ?_) (fun c6 => ?_)
            · first | omega | contradiction
            · first
            | (first | omega | contradiction)
            | refine Ev.exit ?_
              refine hR2 _ _ ?_
              show Ev _ _ _ _
              have hcd : ¬ (i : Int) = z.length → z[i]? = some 10 := fun hne => by first | exact (at10 ‹i < z.length›).1 ‹_› | (exfalso; omega)
              have hJa := hJ.a
              have hJb := hJ.b
              refine Ev.sr fun K hK => S.o q.mv (S.o q.mv (S.o q.mv (S.o (q.slbo am_el9 am_un9) ?_)))
              have hll : (lineAt z fr i).length ≤ 262144 := (by simp only [lineAt, List.length_drop, List.length_take]; omega)
              have hs1 := splitG_len 0 32 (lineAt z fr i)
              have hs2 : Go.Lib.countByte (lineAt z fr i) 32 ≤ (lineAt z fr i).length := List.count_le_length
              rcases four_or (lineAt z fr i) with ⟨t, m, a, c, hW, i0, i1, i2, i3, htl, hml, hal, hcl⟩ | h4
              · skip
                refine S.c0 (hF := words_four hll hW) (h := S.o q.as (S.end (hK _ ?_)))
                clear hK K
                refine Ev.sr fun K hK => S.o q.mv (S.o (q.bd [_, _] am_ze31 am_pl31) (S.nn (q.al am_ze31) (S.sv [_, _] true [_, _] am_in31 am_cl31 (h := S.end (hK _ ?_)))))
                clear hK K
                refine Ev.seq ?_
                refine Ev.sr fun K hK => S.o q.mv (S.o q.mv (S.o (q.slen am_el9 am_un9) (S.o q.eql (S.bd q.mv (fun c7 => ?_) (fun c7 => ?_)))))
                · first
                | (first | omega | contradiction)
                | refine S.sk (S.sk (S.sk (S.o q.pt (S.o q.mv (S.sk (S.sk (S.sk (S.sk (S.sk (S.o q.pt (S.o q.mv (S.sk (S.sk (S.sk (S.sk (S.sk (S.o q.pt (S.end (hK _ ?_)))))))))))))))))))
                  clear hK K
                  refine Ev.ct ?_
                  obtain ⟨e1, e2, e3, e4⟩ := parse_bad hz2 (x := []) (n := (bs.length : Int) + 1) (by first | exact parI_end1 hJ (by omega) (by omega) | exact parI_bad hJ (hcd (by omega)) (by first | exact (read_short h4).1 | exact readB_no hW (fun h => absurd h.1 ‹_›) | exact readB_no hW (fun h => absurd h.2.1 ‹_›) | exact readB_no hW (fun h => absurd h.2.2.1 hna) | exact readB_no hW (fun h => absurd h.2.2.2 hnc))) (by omega)
                  refine Ev.sm (tbs [(0, 0), (0, 0), (2, 3), (3, 7)]) 2 fun K hK => M.o (q.lvA [_, _] am_ag31 am_cl31) (M.o q.as (M.end [_, _, _] (h := S.sv [_, _] true [_, _] am_in31 am_cl31 (h := S.o q.as (S.end (hK _ ?_))))))
                  clear hK K
                  refine Ev.weaken (Wk.nsh Bundle.c 2 4) ?_
                  refine Ev.ret ?_
                  refine hR0 _ _ ?_
                  refine Ev.retv3 (res_t (res_c [_, _] am_ag31 am_cl31 (res_t res_n))) ?_
                  refine ⟨?_, rfl⟩
                  first | rfl | (rw [e1, e2, e3, e4]; done) | (rw [e1, e2, e3, e4] <;> rfl)
                · first
                | (first | omega | contradiction)
                | refine S.o q.mv (S.o (q.lens am_el57) (S.o q.neq (S.o q.pf (S.bn q.mv (fun c8 => ?_) (fun c8 => ?_)))))
                  · first
                  | (first | omega | contradiction)
                  | refine S.sk (S.sk (S.sk (S.sk (S.sk (S.o q.pt (S.o q.mv (S.sk (S.sk (S.sk (S.sk (S.sk (S.o q.pt (S.end (hK _ ?_))))))))))))))
                    clear hK K
                    refine Ev.ct ?_
                    obtain ⟨e1, e2, e3, e4⟩ := parse_bad hz2 (x := []) (n := (bs.length : Int) + 1) (by first | exact parI_end1 hJ (by omega) (by omega) | exact parI_bad hJ (hcd (by omega)) (by first | exact (read_short h4).1 | exact readB_no hW (fun h => absurd h.1 ‹_›) | exact readB_no hW (fun h => absurd h.2.1 ‹_›) | exact readB_no hW (fun h => absurd h.2.2.1 hna) | exact readB_no hW (fun h => absurd h.2.2.2 hnc))) (by omega)
                    refine Ev.sm (tbs [(0, 0), (0, 0), (2, 3), (3, 7)]) 2 fun K hK => M.o (q.lvA [_, _] am_ag31 am_cl31) (M.o q.as (M.end [_, _, _] (h := S.sv [_, _] true [_, _] am_in31 am_cl31 (h := S.o q.as (S.end (hK _ ?_))))))
                    clear hK K
                    refine Ev.weaken (Wk.nsh Bundle.c 2 4) ?_
                    refine Ev.ret ?_
                    refine hR0 _ _ ?_
                    refine Ev.retv3 (res_t (res_c [_, _] am_ag31 am_cl31 (res_t res_n))) ?_
                    refine ⟨?_, rfl⟩
                    first | rfl | (rw [e1, e2, e3, e4]; done) | (rw [e1, e2, e3, e4] <;> rfl)
                  · first
                  | (first | omega | contradiction)
                  | refine S.o q.mv (S.o (q.ix am_el57 am_cl9 (hl := (by first | exact ati i0 (by omega) | exact ati i1 (by omega) | exact ati i2 (by omega) | exact ati i3 (by omega) | exact atig (by omega)))) (S.o (q.ls am_ag9) (S.c0 (hF := risName_fun _ (by omega)) (h := S.o q.not (S.o q.pf (S.bn q.mv (fun c9 => ?_) (fun c9 => ?_)))))))
                    · first
                    | (first | omega | contradiction)
                    | refine S.sk (S.sk (S.sk (S.sk (S.sk (S.o q.pt (S.end (hK _ ?_)))))))
                      clear hK K
                      refine Ev.ct ?_
                      obtain ⟨e1, e2, e3, e4⟩ := parse_bad hz2 (x := []) (n := (bs.length : Int) + 1) (by first | exact parI_end1 hJ (by omega) (by omega) | exact parI_bad hJ (hcd (by omega)) (by first | exact (read_short h4).1 | exact readB_no hW (fun h => absurd h.1 ‹_›) | exact readB_no hW (fun h => absurd h.2.1 ‹_›) | exact readB_no hW (fun h => absurd h.2.2.1 hna) | exact readB_no hW (fun h => absurd h.2.2.2 hnc))) (by omega)
                      refine Ev.sm (tbs [(0, 0), (0, 0), (2, 3), (3, 7)]) 2 fun K hK => M.o (q.lvA [_, _] am_ag31 am_cl31) (M.o q.as (M.end [_, _, _] (h := S.sv [_, _] true [_, _] am_in31 am_cl31 (h := S.o q.as (S.end (hK _ ?_))))))
                      clear hK K
                      refine Ev.weaken (Wk.nsh Bundle.c 2 4) ?_
                      refine Ev.ret ?_
                      refine hR0 _ _ ?_
                      refine Ev.retv3 (res_t (res_c [_, _] am_ag31 am_cl31 (res_t res_n))) ?_
                      refine ⟨?_, rfl⟩
                      first | rfl | (rw [e1, e2, e3, e4]; done) | (rw [e1, e2, e3, e4] <;> rfl)
                    · first
                    | (first | omega | contradiction)
                    | refine S.o q.mv (S.o (q.ix am_el57 am_cl9 (hl := (by first | exact ati i0 (by omega) | exact ati i1 (by omega) | exact ati i2 (by omega) | exact ati i3 (by omega) | exact atig (by omega)))) (S.o (q.ls am_ag9) (S.c0 (hF := risName_fun _ (by omega)) (h := S.o q.not (S.o q.pf (S.end (hK _ ?_)))))))
                      clear hK K
                      refine Ev.cn (fun c10 => ?_) (fun c10 => ?_)
                      · first
                      | (first | omega | contradiction)
                      | obtain ⟨e1, e2, e3, e4⟩ := parse_bad hz2 (x := []) (n := (bs.length : Int) + 1) (by first | exact parI_end1 hJ (by omega) (by omega) | exact parI_bad hJ (hcd (by omega)) (by first | exact (read_short h4).1 | exact readB_no hW (fun h => absurd h.1 ‹_›) | exact readB_no hW (fun h => absurd h.2.1 ‹_›) | exact readB_no hW (fun h => absurd h.2.2.1 hna) | exact readB_no hW (fun h => absurd h.2.2.2 hnc))) (by omega)
                        refine Ev.sm (tbs [(0, 0), (0, 0), (2, 3), (3, 7)]) 2 fun K hK => M.o (q.lvA [_, _] am_ag31 am_cl31) (M.o q.as (M.end [_, _, _] (h := S.sv [_, _] true [_, _] am_in31 am_cl31 (h := S.o q.as (S.end (hK _ ?_))))))
                        clear hK K
                        refine Ev.weaken (Wk.nsh Bundle.c 2 4) ?_
                        refine Ev.ret ?_
                        refine hR0 _ _ ?_
                        refine Ev.retv3 (res_t (res_c [_, _] am_ag31 am_cl31 (res_t res_n))) ?_
                        refine ⟨?_, rfl⟩
                        first | rfl | (rw [e1, e2, e3, e4]; done) | (rw [e1, e2, e3, e4] <;> rfl)
                      · first
                      | (first | omega | contradiction)
                      | refine Ev.skip ?_
                        show Ev _ _ _ _
                        refine Ev.sr fun K hK => S.o q.mv (S.o (q.ix am_el57 am_cl9 (hl := (by first | exact ati i0 (by omega) | exact ati i1 (by omega) | exact ati i2 (by omega) | exact ati i3 (by omega) | exact atig (by omega)))) (S.o (q.ls am_ag9) ?_))
                        by_cases hna : numOk15 a
                        · skip
                          refine S.c0 (hF := rint_yes _ (by omega) hna) (h := S.o q.mv (S.o q.ex (S.o q.ex (S.o q.as (S.o q.as (S.end (hK _ ?_)))))))
                          clear hK K
                          refine Ev.sr fun K hK => S.o q.mv (S.o (q.ix am_el57 am_cl9 (hl := (by first | exact ati i0 (by omega) | exact ati i1 (by omega) | exact ati i2 (by omega) | exact ati i3 (by omega) | exact atig (by omega)))) (S.o (q.ls am_ag9) ?_))
                          by_cases hnc : numOk15 c
                          · skip
                            refine S.c0 (hF := rint_yes _ (by omega) hnc) (h := S.o q.mv (S.o q.ex (S.o q.ex (S.o q.as (S.o q.as (S.end (hK _ ?_)))))))
                            clear hK K
                            refine Ev.seq ?_
                            refine Ev.sr fun K hK => S.o q.mv (S.o q.nott (S.o q.mv (S.o q.mv (S.o q.nott (S.o q.pf (S.end (hK _ ?_)))))))
                            clear hK K
                            refine Ev.cf ?_
                            refine Ev.skip ?_
                            show Ev _ _ _ _
                            have hcd2 := hcd (by omega)
                            have hrd := readB_of hW ⟨‹IsName t›, ‹IsName m›, hna, hnc⟩
                            have hcut := parI_cut hJ hcd2 hrd hz2
                            refine Ev.sm (tbs [(0, 0), (0, 0), (2, 2), (3, 6), (0, 0), (5, 16), (6, 48), (0, 0), (0, 0), (9, 510), (10, 1022), (11, 2047), (12, 4095)]) 11 fun K hK => M.o q.mv (M.o q.mv (M.o (q.ix am_el57 am_cl9 (hl := (by first | exact ati i0 (by omega) | exact ati i1 (by omega) | exact ati i2 (by omega) | exact ati i3 (by omega) | exact atig (by omega)))) (M.o (q.ls am_ag9) (M.o q.mv (M.o (q.ix am_el57 am_cl9 (hl := (by first | exact ati i0 (by omega) | exact ati i1 (by omega) | exact ati i2 (by omega) | exact ati i3 (by omega) | exact atig (by omega)))) (M.o (q.ls am_ag9) (M.o q.mv (M.o q.mv (M.o (q.bd [_, _, _, _] am_ze46 am_pl46) (M.nn [_] (q.bs [[_, _, _, _]] true am_el22 am_ze46 am_cl46) (h := M.end [_, _, _, _] (h := S.ap' [_, _, _] am_el22 am_ze46 am_cl46 am_by46 (hh := head_own') (hr := (rows_lit [(⟨t, m, numV a, numV c⟩ : Bundle)])) (h := S.o q.as (S.end (hK _ ?_)))))))))))))))
                            clear hK K
                            refine Ev.region_S fun K hK => S.o q.mv (S.o q.add (S.o q.mv (S.o q.add (S.o q.as (S.o q.as (S.end (hK _ ?_)))))))
                            clear hK K
                            refine hR0 _ _ ?_
                            refine roundU [47, 1] [0, 3] ⟨(bs ++ [⟨t, m, numV a, numV c⟩], i + 1), hcut⟩ ?_ (keep_c (he := (by first | rfl | (simp; done))) (h := (keep_c (he := (by first | rfl | (simp; done))) (h := keep_n)))) (slots_c (he := (by first | rfl | (simp; done))) (h := (slots_c (he := (by first | rfl | (simp; done))) (h := (slots_c (he := (by first | rfl | (simp; done))) (h := trivial)))))) (.c (.c .n))
                            skip
                            all_goals (dsimp only; omega)
                          · skip
                            refine S.c0 (hF := rint_no _ (by omega) hnc) (h := S.o q.mv (S.o q.ex (S.o q.ex (S.o q.as (S.o q.as (S.end (hK _ ?_)))))))
                            clear hK K
                            refine Ev.seq ?_
                            refine Ev.sr fun K hK => S.o q.mv (S.o q.nott (S.o q.mv (S.o q.mv (S.o q.notf (S.o q.pf (S.end (hK _ ?_)))))))
                            clear hK K
                            refine Ev.ct ?_
                            obtain ⟨e1, e2, e3, e4⟩ := parse_bad hz2 (x := []) (n := (bs.length : Int) + 1) (by first | exact parI_end1 hJ (by omega) (by omega) | exact parI_bad hJ (hcd (by omega)) (by first | exact (read_short h4).1 | exact readB_no hW (fun h => absurd h.1 ‹_›) | exact readB_no hW (fun h => absurd h.2.1 ‹_›) | exact readB_no hW (fun h => absurd h.2.2.1 hna) | exact readB_no hW (fun h => absurd h.2.2.2 hnc))) (by omega)
                            refine Ev.sm (tbs [(0, 0), (0, 0), (2, 3), (3, 7)]) 2 fun K hK => M.o (q.lvA [_, _] am_ag31 am_cl31) (M.o q.as (M.end [_, _, _] (h := S.sv [_, _] true [_, _] am_in31 am_cl31 (h := S.o q.as (S.end (hK _ ?_))))))
                            clear hK K
                            refine Ev.weaken (Wk.nsh Bundle.c 2 4) ?_
                            refine Ev.ret ?_
                            refine hR0 _ _ ?_
                            refine Ev.retv3 (res_t (res_c [_, _] am_ag31 am_cl31 (res_t res_n))) ?_
                            refine ⟨?_, rfl⟩
                            first | rfl | (rw [e1, e2, e3, e4]; done) | (rw [e1, e2, e3, e4] <;> rfl)
                        · skip
                          refine S.c0 (hF := rint_no _ (by omega) hna) (h := S.o q.mv (S.o q.ex (S.o q.ex (S.o q.as (S.o q.as (S.end (hK _ ?_)))))))
                          clear hK K
                          refine Ev.sr fun K hK => S.o q.mv (S.o (q.ix am_el57 am_cl9 (hl := (by first | exact ati i0 (by omega) | exact ati i1 (by omega) | exact ati i2 (by omega) | exact ati i3 (by omega) | exact atig (by omega)))) (S.o (q.ls am_ag9) ?_))
                          by_cases hnc : numOk15 c
                          · skip
                            refine S.c0 (hF := rint_yes _ (by omega) hnc) (h := S.o q.mv (S.o q.ex (S.o q.ex (S.o q.as (S.o q.as (S.end (hK _ ?_)))))))
                            clear hK K
                            refine Ev.seq ?_
                            refine Ev.sr fun K hK => S.o q.mv (S.o q.notf (S.o q.mv (S.sk (S.sk (S.o q.pt (S.end (hK _ ?_)))))))
                            clear hK K
                            refine Ev.ct ?_
                            obtain ⟨e1, e2, e3, e4⟩ := parse_bad hz2 (x := []) (n := (bs.length : Int) + 1) (by first | exact parI_end1 hJ (by omega) (by omega) | exact parI_bad hJ (hcd (by omega)) (by first | exact (read_short h4).1 | exact readB_no hW (fun h => absurd h.1 ‹_›) | exact readB_no hW (fun h => absurd h.2.1 ‹_›) | exact readB_no hW (fun h => absurd h.2.2.1 hna) | exact readB_no hW (fun h => absurd h.2.2.2 hnc))) (by omega)
                            refine Ev.sm (tbs [(0, 0), (0, 0), (2, 3), (3, 7)]) 2 fun K hK => M.o (q.lvA [_, _] am_ag31 am_cl31) (M.o q.as (M.end [_, _, _] (h := S.sv [_, _] true [_, _] am_in31 am_cl31 (h := S.o q.as (S.end (hK _ ?_))))))
                            clear hK K
                            refine Ev.weaken (Wk.nsh Bundle.c 2 4) ?_
                            refine Ev.ret ?_
                            refine hR0 _ _ ?_
                            refine Ev.retv3 (res_t (res_c [_, _] am_ag31 am_cl31 (res_t res_n))) ?_
                            refine ⟨?_, rfl⟩
                            first | rfl | (rw [e1, e2, e3, e4]; done) | (rw [e1, e2, e3, e4] <;> rfl)
                          · skip
                            refine S.c0 (hF := rint_no _ (by omega) hnc) (h := S.o q.mv (S.o q.ex (S.o q.ex (S.o q.as (S.o q.as (S.end (hK _ ?_)))))))
                            clear hK K
                            refine Ev.seq ?_
                            refine Ev.sr fun K hK => S.o q.mv (S.o q.notf (S.o q.mv (S.sk (S.sk (S.o q.pt (S.end (hK _ ?_)))))))
                            clear hK K
                            refine Ev.ct ?_
                            obtain ⟨e1, e2, e3, e4⟩ := parse_bad hz2 (x := []) (n := (bs.length : Int) + 1) (by first | exact parI_end1 hJ (by omega) (by omega) | exact parI_bad hJ (hcd (by omega)) (by first | exact (read_short h4).1 | exact readB_no hW (fun h => absurd h.1 ‹_›) | exact readB_no hW (fun h => absurd h.2.1 ‹_›) | exact readB_no hW (fun h => absurd h.2.2.1 hna) | exact readB_no hW (fun h => absurd h.2.2.2 hnc))) (by omega)
                            refine Ev.sm (tbs [(0, 0), (0, 0), (2, 3), (3, 7)]) 2 fun K hK => M.o (q.lvA [_, _] am_ag31 am_cl31) (M.o q.as (M.end [_, _, _] (h := S.sv [_, _] true [_, _] am_in31 am_cl31 (h := S.o q.as (S.end (hK _ ?_))))))
                            clear hK K
                            refine Ev.weaken (Wk.nsh Bundle.c 2 4) ?_
                            refine Ev.ret ?_
                            refine hR0 _ _ ?_
                            refine Ev.retv3 (res_t (res_c [_, _] am_ag31 am_cl31 (res_t res_n))) ?_
                            refine ⟨?_, rfl⟩
                            first | rfl | (rw [e1, e2, e3, e4]; done) | (rw [e1, e2, e3, e4] <;> rfl)
              · skip
                refine S.c0 (hF := words_len _ hll h4) (h := S.o q.as (S.end (hK _ ?_)))
                clear hK K
                refine Ev.sr fun K hK => S.o q.mv (S.o (q.bd [_, _] am_ze31 am_pl31) (S.nn (q.al am_ze31) (S.sv [_, _] true [_, _] am_in31 am_cl31 (h := S.end (hK _ ?_)))))
                clear hK K
                refine Ev.seq ?_
                refine Ev.sr fun K hK => S.o q.mv (S.o q.mv (S.o (q.slen am_el9 am_un9) (S.o q.eql (S.bd q.mv (fun c11 => ?_) (fun c11 => ?_)))))
                · first
                | (first | omega | contradiction)
                | refine S.sk (S.sk (S.sk (S.o q.pt (S.o q.mv (S.sk (S.sk (S.sk (S.sk (S.sk (S.o q.pt (S.o q.mv (S.sk (S.sk (S.sk (S.sk (S.sk (S.o q.pt (S.end (hK _ ?_)))))))))))))))))))
                  clear hK K
                  refine Ev.ct ?_
                  obtain ⟨e1, e2, e3, e4⟩ := parse_bad hz2 (x := []) (n := (bs.length : Int) + 1) (by first | exact parI_end1 hJ (by omega) (by omega) | exact parI_bad hJ (hcd (by omega)) (by first | exact (read_short h4).1 | exact readB_no hW (fun h => absurd h.1 ‹_›) | exact readB_no hW (fun h => absurd h.2.1 ‹_›) | exact readB_no hW (fun h => absurd h.2.2.1 hna) | exact readB_no hW (fun h => absurd h.2.2.2 hnc))) (by omega)
                  refine Ev.sm (tbs [(0, 0), (0, 0), (2, 3), (3, 7)]) 2 fun K hK => M.o (q.lvA [_, _] am_ag31 am_cl31) (M.o q.as (M.end [_, _, _] (h := S.sv [_, _] true [_, _] am_in31 am_cl31 (h := S.o q.as (S.end (hK _ ?_))))))
                  clear hK K
                  refine Ev.weaken (Wk.nsh Bundle.c 2 4) ?_
                  refine Ev.ret ?_
                  refine hR0 _ _ ?_
                  refine Ev.retv3 (res_t (res_c [_, _] am_ag31 am_cl31 (res_t res_n))) ?_
                  refine ⟨?_, rfl⟩
                  first | rfl | (rw [e1, e2, e3, e4]; done) | (rw [e1, e2, e3, e4] <;> rfl)
                · first
                | (first | omega | contradiction)
                | refine S.o q.mv (S.o (q.lens am_el57) (S.o q.neq (S.o q.pf (S.bn q.mv (fun c12 => ?_) (fun c12 => ?_)))))
                  · first
                  | (first | omega | contradiction)
                  | refine S.sk (S.sk (S.sk (S.sk (S.sk (S.o q.pt (S.o q.mv (S.sk (S.sk (S.sk (S.sk (S.sk (S.o q.pt (S.end (hK _ ?_))))))))))))))
                    clear hK K
                    refine Ev.ct ?_
                    obtain ⟨e1, e2, e3, e4⟩ := parse_bad hz2 (x := []) (n := (bs.length : Int) + 1) (by first | exact parI_end1 hJ (by omega) (by omega) | exact parI_bad hJ (hcd (by omega)) (by first | exact (read_short h4).1 | exact readB_no hW (fun h => absurd h.1 ‹_›) | exact readB_no hW (fun h => absurd h.2.1 ‹_›) | exact readB_no hW (fun h => absurd h.2.2.1 hna) | exact readB_no hW (fun h => absurd h.2.2.2 hnc))) (by omega)
                    refine Ev.sm (tbs [(0, 0), (0, 0), (2, 3), (3, 7)]) 2 fun K hK => M.o (q.lvA [_, _] am_ag31 am_cl31) (M.o q.as (M.end [_, _, _] (h := S.sv [_, _] true [_, _] am_in31 am_cl31 (h := S.o q.as (S.end (hK _ ?_))))))
                    clear hK K
                    refine Ev.weaken (Wk.nsh Bundle.c 2 4) ?_
                    refine Ev.ret ?_
                    refine hR0 _ _ ?_
                    refine Ev.retv3 (res_t (res_c [_, _] am_ag31 am_cl31 (res_t res_n))) ?_
                    refine ⟨?_, rfl⟩
                    first | rfl | (rw [e1, e2, e3, e4]; done) | (rw [e1, e2, e3, e4] <;> rfl)
                  · first
                  | (first | omega | contradiction)
                  | refine S.o q.mv (S.o (q.ix am_el57 am_cl9 (hl := (by first | exact ati i0 (by omega) | exact ati i1 (by omega) | exact ati i2 (by omega) | exact ati i3 (by omega) | exact atig (by omega)))) (S.o (q.ls am_ag9) (S.c0 (hF := risName_fun _ (by omega)) (h := S.o q.not (S.o q.pf (S.bn q.mv (fun c13 => ?_) (fun c13 => ?_)))))))
                    · first
                    | (first | omega | contradiction)
                    | refine S.sk (S.sk (S.sk (S.sk (S.sk (S.o q.pt (S.end (hK _ ?_)))))))
                      clear hK K
                      refine Ev.ct ?_
                      obtain ⟨e1, e2, e3, e4⟩ := parse_bad hz2 (x := []) (n := (bs.length : Int) + 1) (by first | exact parI_end1 hJ (by omega) (by omega) | exact parI_bad hJ (hcd (by omega)) (by first | exact (read_short h4).1 | exact readB_no hW (fun h => absurd h.1 ‹_›) | exact readB_no hW (fun h => absurd h.2.1 ‹_›) | exact readB_no hW (fun h => absurd h.2.2.1 hna) | exact readB_no hW (fun h => absurd h.2.2.2 hnc))) (by omega)
                      refine Ev.sm (tbs [(0, 0), (0, 0), (2, 3), (3, 7)]) 2 fun K hK => M.o (q.lvA [_, _] am_ag31 am_cl31) (M.o q.as (M.end [_, _, _] (h := S.sv [_, _] true [_, _] am_in31 am_cl31 (h := S.o q.as (S.end (hK _ ?_))))))
                      clear hK K
                      refine Ev.weaken (Wk.nsh Bundle.c 2 4) ?_
                      refine Ev.ret ?_
                      refine hR0 _ _ ?_
                      refine Ev.retv3 (res_t (res_c [_, _] am_ag31 am_cl31 (res_t res_n))) ?_
                      refine ⟨?_, rfl⟩
                      first | rfl | (rw [e1, e2, e3, e4]; done) | (rw [e1, e2, e3, e4] <;> rfl)
                    · first
                    | (first | omega | contradiction)
                    | refine S.o q.mv (S.o (q.ix am_el57 am_cl9 (hl := (by first | exact ati i0 (by omega) | exact ati i1 (by omega) | exact ati i2 (by omega) | exact ati i3 (by omega) | exact atig (by omega)))) (S.o (q.ls am_ag9) (S.c0 (hF := risName_fun _ (by omega)) (h := S.o q.not (S.o q.pf (S.end (hK _ ?_)))))))
                      clear hK K
                      refine Ev.cn (fun c14 => ?_) (fun c14 => ?_)
                      · first
                      | (first | omega | contradiction)
                      | obtain ⟨e1, e2, e3, e4⟩ := parse_bad hz2 (x := []) (n := (bs.length : Int) + 1) (by first | exact parI_end1 hJ (by omega) (by omega) | exact parI_bad hJ (hcd (by omega)) (by first | exact (read_short h4).1 | exact readB_no hW (fun h => absurd h.1 ‹_›) | exact readB_no hW (fun h => absurd h.2.1 ‹_›) | exact readB_no hW (fun h => absurd h.2.2.1 hna) | exact readB_no hW (fun h => absurd h.2.2.2 hnc))) (by omega)
                        refine Ev.sm (tbs [(0, 0), (0, 0), (2, 3), (3, 7)]) 2 fun K hK => M.o (q.lvA [_, _] am_ag31 am_cl31) (M.o q.as (M.end [_, _, _] (h := S.sv [_, _] true [_, _] am_in31 am_cl31 (h := S.o q.as (S.end (hK _ ?_))))))
                        clear hK K
                        refine Ev.weaken (Wk.nsh Bundle.c 2 4) ?_
                        refine Ev.ret ?_
                        refine hR0 _ _ ?_
                        refine Ev.retv3 (res_t (res_c [_, _] am_ag31 am_cl31 (res_t res_n))) ?_
                        refine ⟨?_, rfl⟩
                        first | rfl | (rw [e1, e2, e3, e4]; done) | (rw [e1, e2, e3, e4] <;> rfl)
                      · first
                      | (first | omega | contradiction)
                      | refine Ev.skip ?_
                        show Ev _ _ _ _
                        refine Ev.sr fun K hK => S.o q.mv (S.o (q.ix am_el57 am_cl9 (hl := (by first | exact ati i0 (by omega) | exact ati i1 (by omega) | exact ati i2 (by omega) | exact ati i3 (by omega) | exact atig (by omega)))) (S.o (q.ls am_ag9) ?_))
                        by_cases hna : numOk15 a
                        · skip
                          refine S.c0 (hF := rint_yes _ (by omega) hna) (h := S.o q.mv (S.o q.ex (S.o q.ex (S.o q.as (S.o q.as (S.end (hK _ ?_)))))))
                          clear hK K
                          refine Ev.sr fun K hK => S.o q.mv (S.o (q.ix am_el57 am_cl9 (hl := (by first | exact ati i0 (by omega) | exact ati i1 (by omega) | exact ati i2 (by omega) | exact ati i3 (by omega) | exact atig (by omega)))) (S.o (q.ls am_ag9) ?_))
                          by_cases hnc : numOk15 c
                          · skip
                            refine S.c0 (hF := rint_yes _ (by omega) hnc) (h := S.o q.mv (S.o q.ex (S.o q.ex (S.o q.as (S.o q.as (S.end (hK _ ?_)))))))
                            clear hK K
                            refine Ev.seq ?_
                            refine Ev.sr fun K hK => S.o q.mv (S.o q.nott (S.o q.mv (S.o q.mv (S.o q.nott (S.o q.pf (S.end (hK _ ?_)))))))
                            clear hK K
                            refine Ev.cf ?_
                            refine Ev.skip ?_
                            show Ev _ _ _ _
                            have hcd2 := hcd (by omega)
                            have hrd := readB_of hW ⟨‹IsName t›, ‹IsName m›, hna, hnc⟩
                            have hcut := parI_cut hJ hcd2 hrd hz2
                            refine Ev.sm (tbs [(0, 0), (0, 0), (2, 2), (3, 6), (0, 0), (5, 16), (6, 48), (0, 0), (0, 0), (9, 510), (10, 1022), (11, 2047), (12, 4095)]) 11 fun K hK => M.o q.mv (M.o q.mv (M.o (q.ix am_el57 am_cl9 (hl := (by first | exact ati i0 (by omega) | exact ati i1 (by omega) | exact ati i2 (by omega) | exact ati i3 (by omega) | exact atig (by omega)))) (M.o (q.ls am_ag9) (M.o q.mv (M.o (q.ix am_el57 am_cl9 (hl := (by first | exact ati i0 (by omega) | exact ati i1 (by omega) | exact ati i2 (by omega) | exact ati i3 (by omega) | exact atig (by omega)))) (M.o (q.ls am_ag9) (M.o q.mv (M.o q.mv (M.o (q.bd [_, _, _, _] am_ze46 am_pl46) (M.nn [_] (q.bs [[_, _, _, _]] true am_el22 am_ze46 am_cl46) (h := M.end [_, _, _, _] (h := S.ap' [_, _, _] am_el22 am_ze46 am_cl46 am_by46 (hh := head_own') (hr := (rows_lit [(⟨t, m, numV a, numV c⟩ : Bundle)])) (h := S.o q.as (S.end (hK _ ?_)))))))))))))))
                            clear hK K
                            refine Ev.region_S fun K hK => S.o q.mv (S.o q.add (S.o q.mv (S.o q.add (S.o q.as (S.o q.as (S.end (hK _ ?_)))))))
                            clear hK K
                            refine hR0 _ _ ?_
                            refine roundU [47, 1] [0, 3] ⟨(bs ++ [⟨t, m, numV a, numV c⟩], i + 1), hcut⟩ ?_ (keep_c (he := (by first | rfl | (simp; done))) (h := (keep_c (he := (by first | rfl | (simp; done))) (h := keep_n)))) (slots_c (he := (by first | rfl | (simp; done))) (h := (slots_c (he := (by first | rfl | (simp; done))) (h := (slots_c (he := (by first | rfl | (simp; done))) (h := trivial)))))) (.c (.c .n))
                            skip
                            all_goals (dsimp only; omega)
                          · skip
                            refine S.c0 (hF := rint_no _ (by omega) hnc) (h := S.o q.mv (S.o q.ex (S.o q.ex (S.o q.as (S.o q.as (S.end (hK _ ?_)))))))
                            clear hK K
                            refine Ev.seq ?_
                            refine Ev.sr fun K hK => S.o q.mv (S.o q.nott (S.o q.mv (S.o q.mv (S.o q.notf (S.o q.pf (S.end (hK _ ?_)))))))
                            clear hK K
                            refine Ev.ct ?_
                            obtain ⟨e1, e2, e3, e4⟩ := parse_bad hz2 (x := []) (n := (bs.length : Int) + 1) (by first | exact parI_end1 hJ (by omega) (by omega) | exact parI_bad hJ (hcd (by omega)) (by first | exact (read_short h4).1 | exact readB_no hW (fun h => absurd h.1 ‹_›) | exact readB_no hW (fun h => absurd h.2.1 ‹_›) | exact readB_no hW (fun h => absurd h.2.2.1 hna) | exact readB_no hW (fun h => absurd h.2.2.2 hnc))) (by omega)
                            refine Ev.sm (tbs [(0, 0), (0, 0), (2, 3), (3, 7)]) 2 fun K hK => M.o (q.lvA [_, _] am_ag31 am_cl31) (M.o q.as (M.end [_, _, _] (h := S.sv [_, _] true [_, _] am_in31 am_cl31 (h := S.o q.as (S.end (hK _ ?_))))))
                            clear hK K
                            refine Ev.weaken (Wk.nsh Bundle.c 2 4) ?_
                            refine Ev.ret ?_
                            refine hR0 _ _ ?_
                            refine Ev.retv3 (res_t (res_c [_, _] am_ag31 am_cl31 (res_t res_n))) ?_
                            refine ⟨?_, rfl⟩
                            first | rfl | (rw [e1, e2, e3, e4]; done) | (rw [e1, e2, e3, e4] <;> rfl)
                        · skip
                          refine S.c0 (hF := rint_no _ (by omega) hna) (h := S.o q.mv (S.o q.ex (S.o q.ex (S.o q.as (S.o q.as (S.end (hK _ ?_)))))))
                          clear hK K
                          refine Ev.sr fun K hK => S.o q.mv (S.o (q.ix am_el57 am_cl9 (hl := (by first | exact ati i0 (by omega) | exact ati i1 (by omega) | exact ati i2 (by omega) | exact ati i3 (by omega) | exact atig (by omega)))) (S.o (q.ls am_ag9) ?_))
                          by_cases hnc : numOk15 c
                          · skip
                            refine S.c0 (hF := rint_yes _ (by omega) hnc) (h := S.o q.mv (S.o q.ex (S.o q.ex (S.o q.as (S.o q.as (S.end (hK _ ?_)))))))
                            clear hK K
                            refine Ev.seq ?_
                            refine Ev.sr fun K hK => S.o q.mv (S.o q.notf (S.o q.mv (S.sk (S.sk (S.o q.pt (S.end (hK _ ?_)))))))
                            clear hK K
                            refine Ev.ct ?_
                            obtain ⟨e1, e2, e3, e4⟩ := parse_bad hz2 (x := []) (n := (bs.length : Int) + 1) (by first | exact parI_end1 hJ (by omega) (by omega) | exact parI_bad hJ (hcd (by omega)) (by first | exact (read_short h4).1 | exact readB_no hW (fun h => absurd h.1 ‹_›) | exact readB_no hW (fun h => absurd h.2.1 ‹_›) | exact readB_no hW (fun h => absurd h.2.2.1 hna) | exact readB_no hW (fun h => absurd h.2.2.2 hnc))) (by omega)
                            refine Ev.sm (tbs [(0, 0), (0, 0), (2, 3), (3, 7)]) 2 fun K hK => M.o (q.lvA [_, _] am_ag31 am_cl31) (M.o q.as (M.end [_, _, _] (h := S.sv [_, _] true [_, _] am_in31 am_cl31 (h := S.o q.as (S.end (hK _ ?_))))))
                            clear hK K
                            refine Ev.weaken (Wk.nsh Bundle.c 2 4) ?_
                            refine Ev.ret ?_
                            refine hR0 _ _ ?_
                            refine Ev.retv3 (res_t (res_c [_, _] am_ag31 am_cl31 (res_t res_n))) ?_
                            refine ⟨?_, rfl⟩
                            first | rfl | (rw [e1, e2, e3, e4]; done) | (rw [e1, e2, e3, e4] <;> rfl)
                          · skip
                            refine S.c0 (hF := rint_no _ (by omega) hnc) (h := S.o q.mv (S.o q.ex (S.o q.ex (S.o q.as (S.o q.as (S.end (hK _ ?_)))))))
                            clear hK K
                            refine Ev.seq ?_
                            refine Ev.sr fun K hK => S.o q.mv (S.o q.notf (S.o q.mv (S.sk (S.sk (S.o q.pt (S.end (hK _ ?_)))))))
                            clear hK K
                            refine Ev.ct ?_
                            obtain ⟨e1, e2, e3, e4⟩ := parse_bad hz2 (x := []) (n := (bs.length : Int) + 1) (by first | exact parI_end1 hJ (by omega) (by omega) | exact parI_bad hJ (hcd (by omega)) (by first | exact (read_short h4).1 | exact readB_no hW (fun h => absurd h.1 ‹_›) | exact readB_no hW (fun h => absurd h.2.1 ‹_›) | exact readB_no hW (fun h => absurd h.2.2.1 hna) | exact readB_no hW (fun h => absurd h.2.2.2 hnc))) (by omega)
                            refine Ev.sm (tbs [(0, 0), (0, 0), (2, 3), (3, 7)]) 2 fun K hK => M.o (q.lvA [_, _] am_ag31 am_cl31) (M.o q.as (M.end [_, _, _] (h := S.sv [_, _] true [_, _] am_in31 am_cl31 (h := S.o q.as (S.end (hK _ ?_))))))
                            clear hK K
                            refine Ev.weaken (Wk.nsh Bundle.c 2 4) ?_
                            refine Ev.ret ?_
                            refine hR0 _ _ ?_
                            refine Ev.retv3 (res_t (res_c [_, _] am_ag31 am_cl31 (res_t res_n))) ?_
                            refine ⟨?_, rfl⟩
                            first | rfl | (rw [e1, e2, e3, e4]; done) | (rw [e1, e2, e3, e4] <;> rfl)
          · first
          | (first | omega | contradiction)
          | refine S.sk (S.sk (S.sk (S.sk (S.o q.pf (S.end (hK _ ?_))))))
            clear hK K
            refine Ev.cf ?_
            refine Ev.exit ?_
            refine hR2 _ _ ?_
            show Ev _ _ _ _
            have hcd : ¬ (i : Int) = z.length → z[i]? = some 10 := fun hne => by first | exact (at10 ‹i < z.length›).1 ‹_› | (exfalso; omega)
            have hJa := hJ.a
            have hJb := hJ.b
            refine Ev.sr fun K hK => S.o q.mv (S.o q.mv (S.o q.mv (S.o (q.slbo am_el9 am_un9) ?_)))
            have hll : (lineAt z fr i).length ≤ 262144 := (by simp only [lineAt, List.length_drop, List.length_take]; omega)
            have hs1 := splitG_len 0 32 (lineAt z fr i)
            have hs2 : Go.Lib.countByte (lineAt z fr i) 32 ≤ (lineAt z fr i).length := List.count_le_length
            rcases four_or (lineAt z fr i) with ⟨t, m, a, c, hW, i0, i1, i2, i3, htl, hml, hal, hcl⟩ | h4
            · skip
              refine S.c0 (hF := words_four hll hW) (h := S.o q.as (S.end (hK _ ?_)))
              clear hK K
              refine Ev.sr fun K hK => S.o q.mv (S.o (q.bd [_, _] am_ze31 am_pl31) (S.nn (q.al am_ze31) (S.sv [_, _] true [_, _] am_in31 am_cl31 (h := S.end (hK _ ?_)))))
              clear hK K
              refine Ev.seq ?_
              refine Ev.sr fun K hK => S.o q.mv (S.o q.mv (S.o (q.slen am_el9 am_un9) (S.o q.eql (S.bd q.mv (fun c15 => ?_) (fun c15 => ?_)))))
              · first
              | (first | omega | contradiction)
              | refine S.sk (S.sk (S.sk (S.o q.pt (S.o q.mv (S.sk (S.sk (S.sk (S.sk (S.sk (S.o q.pt (S.o q.mv (S.sk (S.sk (S.sk (S.sk (S.sk (S.o q.pt (S.end (hK _ ?_)))))))))))))))))))
                clear hK K
                refine Ev.ct ?_
                obtain ⟨e1, e2, e3, e4⟩ := parse_bad hz2 (x := []) (n := (bs.length : Int) + 1) (by first | exact parI_end1 hJ (by omega) (by omega) | exact parI_bad hJ (hcd (by omega)) (by first | exact (read_short h4).1 | exact readB_no hW (fun h => absurd h.1 ‹_›) | exact readB_no hW (fun h => absurd h.2.1 ‹_›) | exact readB_no hW (fun h => absurd h.2.2.1 hna) | exact readB_no hW (fun h => absurd h.2.2.2 hnc))) (by omega)
                refine Ev.sm (tbs [(0, 0), (0, 0), (2, 3), (3, 7)]) 2 fun K hK => M.o (q.lvA [_, _] am_ag31 am_cl31) (M.o q.as (M.end [_, _, _] (h := S.sv [_, _] true [_, _] am_in31 am_cl31 (h := S.o q.as (S.end (hK _ ?_))))))
                clear hK K
                refine Ev.weaken (Wk.nsh Bundle.c 2 4) ?_
                refine Ev.ret ?_
                refine hR0 _ _ ?_
                refine Ev.retv3 (res_t (res_c [_, _] am_ag31 am_cl31 (res_t res_n))) ?_
                refine ⟨?_, rfl⟩
                first | rfl | (rw [e1, e2, e3, e4]; done) | (rw [e1, e2, e3, e4] <;> rfl)
              · first
              | (first | omega | contradiction)
              | refine S.o q.mv (S.o (q.lens am_el57) (S.o q.neq (S.o q.pf (S.bn q.mv (fun c16 => ?_) (fun c16 => ?_)))))
                · first
                | (first | omega | contradiction)
                | refine S.sk (S.sk (S.sk (S.sk (S.sk (S.o q.pt (S.o q.mv (S.sk (S.sk (S.sk (S.sk (S.sk (S.o q.pt (S.end (hK _ ?_))))))))))))))
                  clear hK K
                  refine Ev.ct ?_
                  obtain ⟨e1, e2, e3, e4⟩ := parse_bad hz2 (x := []) (n := (bs.length : Int) + 1) (by first | exact parI_end1 hJ (by omega) (by omega) | exact parI_bad hJ (hcd (by omega)) (by first | exact (read_short h4).1 | exact readB_no hW (fun h => absurd h.1 ‹_›) | exact readB_no hW (fun h => absurd h.2.1 ‹_›) | exact readB_no hW (fun h => absurd h.2.2.1 hna) | exact readB_no hW (fun h => absurd h.2.2.2 hnc))) (by omega)
                  refine Ev.sm (tbs [(0, 0), (0, 0), (2, 3), (3, 7)]) 2 fun K hK => M.o (q.lvA [_, _] am_ag31 am_cl31) (M.o q.as (M.end [_, _, _] (h := S.sv [_, _] true [_, _] am_in31 am_cl31 (h := S.o q.as (S.end (hK _ ?_))))))
                  clear hK K
                  refine Ev.weaken (Wk.nsh Bundle.c 2 4) ?_
                  refine Ev.ret ?_
                  refine hR0 _ _ ?_
                  refine Ev.retv3 (res_t (res_c [_, _] am_ag31 am_cl31 (res_t res_n))) ?_
                  refine ⟨?_, rfl⟩
                  first | rfl | (rw [e1, e2, e3, e4]; done) | (rw [e1, e2, e3, e4] <;> rfl)
                · first
                | (first | omega | contradiction)
                | refine S.o q.mv (S.o (q.ix am_el57 am_cl9 (hl := (by first | exact ati i0 (by omega) | exact ati i1 (by omega) | exact ati i2 (by omega) | exact ati i3 (by omega) | exact atig (by omega)))) (S.o (q.ls am_ag9) (S.c0 (hF := risName_fun _ (by omega)) (h := S.o q.not (S.o q.pf (S.bn q.mv (fun c17 => ?_) (fun c17 => ?_)))))))
                  · first
                  | (first | omega | contradiction)
                  | refine S.sk (S.sk (S.sk (S.sk (S.sk (S.o q.pt (S.end (hK _ ?_)))))))
                    clear hK K
                    refine Ev.ct ?_
                    obtain ⟨e1, e2, e3, e4⟩ := parse_bad hz2 (x := []) (n := (bs.length : Int) + 1) (by first | exact parI_end1 hJ (by omega) (by omega) | exact parI_bad hJ (hcd (by omega)) (by first | exact (read_short h4).1 | exact readB_no hW (fun h => absurd h.1 ‹_›) | exact readB_no hW (fun h => absurd h.2.1 ‹_›) | exact readB_no hW (fun h => absurd h.2.2.1 hna) | exact readB_no hW (fun h => absurd h.2.2.2 hnc))) (by omega)
                    refine Ev.sm (tbs [(0, 0), (0, 0), (2, 3), (3, 7)]) 2 fun K hK => M.o (q.lvA [_, _] am_ag31 am_cl31) (M.o q.as (M.end [_, _, _] (h := S.sv [_, _] true [_, _] am_in31 am_cl31 (h := S.o q.as (S.end (hK _ ?_))))))
                    clear hK K
                    refine Ev.weaken (Wk.nsh Bundle.c 2 4) ?_
                    refine Ev.ret ?_
                    refine hR0 _ _ ?_
                    refine Ev.retv3 (res_t (res_c [_, _] am_ag31 am_cl31 (res_t res_n))) ?_
                    refine ⟨?_, rfl⟩
                    first | rfl | (rw [e1, e2, e3, e4]; done) | (rw [e1, e2, e3, e4] <;> rfl)
                  · first
                  | (first | omega | contradiction)
                  | refine S.o q.mv (S.o (q.ix am_el57 am_cl9 (hl := (by first | exact ati i0 (by omega) | exact ati i1 (by omega) | exact ati i2 (by omega) | exact ati i3 (by omega) | exact atig (by omega)))) (S.o (q.ls am_ag9) (S.c0 (hF := risName_fun _ (by omega)) (h := S.o q.not (S.o q.pf (S.end (hK _ ?_)))))))
                    clear hK K
                    refine Ev.cn (fun c18 => ?_) (fun c18 => ?_)
                    · first | omega | contradiction
                    · first
                    | (first | omega | contradiction)
                    | refine Ev.skip ?_
                      show Ev _ _ _ _
                      refine Ev.sr fun K hK => S.o q.mv (S.o (q.ix am_el57 am_cl9 (hl := (by first | exact ati i0 (by omega) | exact ati i1 (by omega) | exact ati i2 (by omega) | exact ati i3 (by omega) | exact atig (by omega)))) (S.o (q.ls am_ag9) ?_))
                      by_cases hna : numOk15 a
                      · skip
                        refine S.c0 (hF := rint_yes _ (by omega) hna) (h := S.o q.mv (S.o q.ex (S.o q.ex (S.o q.as (S.o q.as (S.end (hK _ ?_)))))))
                        clear hK K
                        refine Ev.sr fun K hK => S.o q.mv (S.o (q.ix am_el57 am_cl9 (hl := (by first | exact ati i0 (by omega) | exact ati i1 (by omega) | exact ati i2 (by omega) | exact ati i3 (by omega) | exact atig (by omega)))) (S.o (q.ls am_ag9) ?_))
                        by_cases hnc : numOk15 c
                        · skip
                          refine S.c0 (hF := rint_yes _ (by omega) hnc) (h := S.o q.mv (S.o q.ex (S.o q.ex (S.o q.as (S.o q.as (S.end (hK _ ?_)))))))
                          clear hK K
                          refine Ev.seq ?_
                          refine Ev.sr fun K hK => S.o q.mv (S.o q.nott (S.o q.mv (S.o q.mv (S.o q.nott (S.o q.pf (S.end (hK _ ?_)))))))
                          clear hK K
                          refine Ev.cf ?_
                          refine Ev.skip ?_
                          show Ev _ _ _ _
                          have hcd2 := hcd (by omega)
                          have hrd := readB_of hW ⟨‹IsName t›, ‹IsName m›, hna, hnc⟩
                          have hcut := parI_cut hJ hcd2 hrd hz2
                          refine Ev.sm (tbs [(0, 0), (0, 0), (2, 2), (3, 6), (0, 0), (5, 16), (6, 48), (0, 0), (0, 0), (9, 510), (10, 1022), (11, 2047), (12, 4095)]) 11 fun K hK => M.o q.mv (M.o q.mv (M.o (q.ix am_el57 am_cl9 (hl := (by first | exact ati i0 (by omega) | exact ati i1 (by omega) | exact ati i2 (by omega) | exact ati i3 (by omega) | exact atig (by omega)))) (M.o (q.ls am_ag9) (M.o q.mv (M.o (q.ix am_el57 am_cl9 (hl := (by first | exact ati i0 (by omega) | exact ati i1 (by omega) | exact ati i2 (by omega) | exact ati i3 (by omega) | exact atig (by omega)))) (M.o (q.ls am_ag9) (M.o q.mv (M.o q.mv (M.o (q.bd [_, _, _, _] am_ze46 am_pl46) (M.nn [_] (q.bs [[_, _, _, _]] true am_el22 am_ze46 am_cl46) (h := M.end [_, _, _, _] (h := S.ap' [_, _, _] am_el22 am_ze46 am_cl46 am_by46 (hh := head_own') (hr := (rows_lit [(⟨t, m, numV a, numV c⟩ : Bundle)])) (h := S.o q.as (S.end (hK _ ?_)))))))))))))))
                          clear hK K
                          refine Ev.region_S fun K hK => S.o q.mv (S.o q.add (S.o q.mv (S.o q.add (S.o q.as (S.o q.as (S.end (hK _ ?_)))))))
                          clear hK K
                          refine hR0 _ _ ?_
                          refine roundU [47, 1] [0, 3] ⟨(bs ++ [⟨t, m, numV a, numV c⟩], i + 1), hcut⟩ ?_ (keep_c (he := (by first | rfl | (simp; done))) (h := (keep_c (he := (by first | rfl | (simp; done))) (h := keep_n)))) (slots_c (he := (by first | rfl | (simp; done))) (h := (slots_c (he := (by first | rfl | (simp; done))) (h := (slots_c (he := (by first | rfl | (simp; done))) (h := trivial)))))) (.c (.c .n))
                          skip
                          all_goals (dsimp only; omega)
                        · skip
                          refine S.c0 (hF := rint_no _ (by omega) hnc) (h := S.o q.mv (S.o q.ex (S.o q.ex (S.o q.as (S.o q.as (S.end (hK _ ?_)))))))
                          clear hK K
                          refine Ev.seq ?_
                          refine Ev.sr fun K hK => S.o q.mv (S.o q.nott (S.o q.mv (S.o q.mv (S.o q.notf (S.o q.pf (S.end (hK _ ?_)))))))
                          clear hK K
                          refine Ev.ct ?_
                          obtain ⟨e1, e2, e3, e4⟩ := parse_bad hz2 (x := []) (n := (bs.length : Int) + 1) (by first | exact parI_end1 hJ (by omega) (by omega) | exact parI_bad hJ (hcd (by omega)) (by first | exact (read_short h4).1 | exact readB_no hW (fun h => absurd h.1 ‹_›) | exact readB_no hW (fun h => absurd h.2.1 ‹_›) | exact readB_no hW (fun h => absurd h.2.2.1 hna) | exact readB_no hW (fun h => absurd h.2.2.2 hnc))) (by omega)
                          refine Ev.sm (tbs [(0, 0), (0, 0), (2, 3), (3, 7)]) 2 fun K hK => M.o (q.lvA [_, _] am_ag31 am_cl31) (M.o q.as (M.end [_, _, _] (h := S.sv [_, _] true [_, _] am_in31 am_cl31 (h := S.o q.as (S.end (hK _ ?_))))))
                          clear hK K
                          refine Ev.weaken (Wk.nsh Bundle.c 2 4) ?_
                          refine Ev.ret ?_
                          refine hR0 _ _ ?_
                          refine Ev.retv3 (res_t (res_c [_, _] am_ag31 am_cl31 (res_t res_n))) ?_
                          refine ⟨?_, rfl⟩
                          first | rfl | (rw [e1, e2, e3, e4]; done) | (rw [e1, e2, e3, e4] <;> rfl)
                      · skip
                        refine S.c0 (hF := rint_no _ (by omega) hna) (h := S.o q.mv (S.o q.ex (S.o q.ex (S.o q.as (S.o q.as (S.end (hK _ ?_)))))))
                        clear hK K
                        refine Ev.sr fun K hK => S.o q.mv (S.o (q.ix am_el57 am_cl9 (hl := (by first | exact ati i0 (by omega) | exact ati i1 (by omega) | exact ati i2 (by omega) | exact ati i3 (by omega) | exact atig (by omega)))) (S.o (q.ls am_ag9) ?_))
                        by_cases hnc : numOk15 c
                        · skip
                          refine S.c0 (hF := rint_yes _ (by omega) hnc) (h := S.o q.mv (S.o q.ex (S.o q.ex (S.o q.as (S.o q.as (S.end (hK _ ?_)))))))
                          clear hK K
                          refine Ev.seq ?_
                          refine Ev.sr fun K hK => S.o q.mv (S.o q.notf (S.o q.mv (S.sk (S.sk (S.o q.pt (S.end (hK _ ?_)))))))
                          clear hK K
                          refine Ev.ct ?_
                          obtain ⟨e1, e2, e3, e4⟩ := parse_bad hz2 (x := []) (n := (bs.length : Int) + 1) (by first | exact parI_end1 hJ (by omega) (by omega) | exact parI_bad hJ (hcd (by omega)) (by first | exact (read_short h4).1 | exact readB_no hW (fun h => absurd h.1 ‹_›) | exact readB_no hW (fun h => absurd h.2.1 ‹_›) | exact readB_no hW (fun h => absurd h.2.2.1 hna) | exact readB_no hW (fun h => absurd h.2.2.2 hnc))) (by omega)
                          refine Ev.sm (tbs [(0, 0), (0, 0), (2, 3), (3, 7)]) 2 fun K hK => M.o (q.lvA [_, _] am_ag31 am_cl31) (M.o q.as (M.end [_, _, _] (h := S.sv [_, _] true [_, _] am_in31 am_cl31 (h := S.o q.as (S.end (hK _ ?_))))))
                          clear hK K
                          refine Ev.weaken (Wk.nsh Bundle.c 2 4) ?_
                          refine Ev.ret ?_
                          refine hR0 _ _ ?_
                          refine Ev.retv3 (res_t (res_c [_, _] am_ag31 am_cl31 (res_t res_n))) ?_
                          refine ⟨?_, rfl⟩
                          first | rfl | (rw [e1, e2, e3, e4]; done) | (rw [e1, e2, e3, e4] <;> rfl)
                        · skip
                          refine S.c0 (hF := rint_no _ (by omega) hnc) (h := S.o q.mv (S.o q.ex (S.o q.ex (S.o q.as (S.o q.as (S.end (hK _ ?_)))))))
                          clear hK K
                          refine Ev.seq ?_
                          refine Ev.sr fun K hK => S.o q.mv (S.o q.notf (S.o q.mv (S.sk (S.sk (S.o q.pt (S.end (hK _ ?_)))))))
                          clear hK K
                          refine Ev.ct ?_
                          obtain ⟨e1, e2, e3, e4⟩ := parse_bad hz2 (x := []) (n := (bs.length : Int) + 1) (by first | exact parI_end1 hJ (by omega) (by omega) | exact parI_bad hJ (hcd (by omega)) (by first | exact (read_short h4).1 | exact readB_no hW (fun h => absurd h.1 ‹_›) | exact readB_no hW (fun h => absurd h.2.1 ‹_›) | exact readB_no hW (fun h => absurd h.2.2.1 hna) | exact readB_no hW (fun h => absurd h.2.2.2 hnc))) (by omega)
                          refine Ev.sm (tbs [(0, 0), (0, 0), (2, 3), (3, 7)]) 2 fun K hK => M.o (q.lvA [_, _] am_ag31 am_cl31) (M.o q.as (M.end [_, _, _] (h := S.sv [_, _] true [_, _] am_in31 am_cl31 (h := S.o q.as (S.end (hK _ ?_))))))
                          clear hK K
                          refine Ev.weaken (Wk.nsh Bundle.c 2 4) ?_
                          refine Ev.ret ?_
                          refine hR0 _ _ ?_
                          refine Ev.retv3 (res_t (res_c [_, _] am_ag31 am_cl31 (res_t res_n))) ?_
                          refine ⟨?_, rfl⟩
                          first | rfl | (rw [e1, e2, e3, e4]; done) | (rw [e1, e2, e3, e4] <;> rfl)
            · skip
              refine S.c0 (hF := words_len _ hll h4) (h := S.o q.as (S.end (hK _ ?_)))
              clear hK K
              refine Ev.sr fun K hK => S.o q.mv (S.o (q.bd [_, _] am_ze31 am_pl31) (S.nn (q.al am_ze31) (S.sv [_, _] true [_, _] am_in31 am_cl31 (h := S.end (hK _ ?_)))))
              clear hK K
              refine Ev.seq ?_
              refine Ev.sr fun K hK => S.o q.mv (S.o q.mv (S.o (q.slen am_el9 am_un9) (S.o q.eql (S.bd q.mv (fun c19 => ?_) (fun c19 => ?_)))))
              · first
              | (first | omega | contradiction)
              | refine S.sk (S.sk (S.sk (S.o q.pt (S.o q.mv (S.sk (S.sk (S.sk (S.sk (S.sk (S.o q.pt (S.o q.mv (S.sk (S.sk (S.sk (S.sk (S.sk (S.o q.pt (S.end (hK _ ?_)))))))))))))))))))
                clear hK K
                refine Ev.ct ?_
                obtain ⟨e1, e2, e3, e4⟩ := parse_bad hz2 (x := []) (n := (bs.length : Int) + 1) (by first | exact parI_end1 hJ (by omega) (by omega) | exact parI_bad hJ (hcd (by omega)) (by first | exact (read_short h4).1 | exact readB_no hW (fun h => absurd h.1 ‹_›) | exact readB_no hW (fun h => absurd h.2.1 ‹_›) | exact readB_no hW (fun h => absurd h.2.2.1 hna) | exact readB_no hW (fun h => absurd h.2.2.2 hnc))) (by omega)
                refine Ev.sm (tbs [(0, 0), (0, 0), (2, 3), (3, 7)]) 2 fun K hK => M.o (q.lvA [_, _] am_ag31 am_cl31) (M.o q.as (M.end [_, _, _] (h := S.sv [_, _] true [_, _] am_in31 am_cl31 (h := S.o q.as (S.end (hK _ ?_))))))
                clear hK K
                refine Ev.weaken (Wk.nsh Bundle.c 2 4) ?_
                refine Ev.ret ?_
                refine hR0 _ _ ?_
                refine Ev.retv3 (res_t (res_c [_, _] am_ag31 am_cl31 (res_t res_n))) ?_
                refine ⟨?_, rfl⟩
                first | rfl | (rw [e1, e2, e3, e4]; done) | (rw [e1, e2, e3, e4] <;> rfl)
              · first
              | (first | omega | contradiction)
              | refine S.o q.mv (S.o (q.lens am_el57) (S.o q.neq (S.o q.pf (S.bn q.mv (fun c20 => ?_) (fun c20 => ?_)))))
                · first
                | (first | omega | contradiction)
                | refine S.sk (S.sk (S.sk (S.sk (S.sk (S.o q.pt (S.o q.mv (S.sk (S.sk (S.sk (S.sk (S.sk (S.o q.pt (S.end (hK _ ?_))))))))))))))
                  clear hK K
                  refine Ev.ct ?_
                  obtain ⟨e1, e2, e3, e4⟩ := parse_bad hz2 (x := []) (n := (bs.length : Int) + 1) (by first | exact parI_end1 hJ (by omega) (by omega) | exact parI_bad hJ (hcd (by omega)) (by first | exact (read_short h4).1 | exact readB_no hW (fun h => absurd h.1 ‹_›) | exact readB_no hW (fun h => absurd h.2.1 ‹_›) | exact readB_no hW (fun h => absurd h.2.2.1 hna) | exact readB_no hW (fun h => absurd h.2.2.2 hnc))) (by omega)
                  refine Ev.sm (tbs [(0, 0), (0, 0), (2, 3), (3, 7)]) 2 fun K hK => M.o (q.lvA [_, _] am_ag31 am_cl31) (M.o q.as (M.end [_, _, _] (h := S.sv [_, _] true [_, _] am_in31 am_cl31 (h := S.o q.as (S.end (hK _ ?_))))))
                  clear hK K
                  refine Ev.weaken (Wk.nsh Bundle.c 2 4) ?_
                  refine Ev.ret ?_
                  refine hR0 _ _ ?_
                  refine Ev.retv3 (res_t (res_c [_, _] am_ag31 am_cl31 (res_t res_n))) ?_
                  refine ⟨?_, rfl⟩
                  first | rfl | (rw [e1, e2, e3, e4]; done) | (rw [e1, e2, e3, e4] <;> rfl)
                · first
                | (first | omega | contradiction)
                | refine S.o q.mv (S.o (q.ix am_el57 am_cl9 (hl := (by first | exact ati i0 (by omega) | exact ati i1 (by omega) | exact ati i2 (by omega) | exact ati i3 (by omega) | exact atig (by omega)))) (S.o (q.ls am_ag9) (S.c0 (hF := risName_fun _ (by omega)) (h := S.o q.not (S.o q.pf (S.bn q.mv (fun c21 => ?_) (fun c21 => ?_)))))))
                  · first
                  | (first | omega | contradiction)
                  | refine S.sk (S.sk (S.sk (S.sk (S.sk (S.o q.pt (S.end (hK _ ?_)))))))
                    clear hK K
                    refine Ev.ct ?_
                    obtain ⟨e1, e2, e3, e4⟩ := parse_bad hz2 (x := []) (n := (bs.length : Int) + 1) (by first | exact parI_end1 hJ (by omega) (by omega) | exact parI_bad hJ (hcd (by omega)) (by first | exact (read_short h4).1 | exact readB_no hW (fun h => absurd h.1 ‹_›) | exact readB_no hW (fun h => absurd h.2.1 ‹_›) | exact readB_no hW (fun h => absurd h.2.2.1 hna) | exact readB_no hW (fun h => absurd h.2.2.2 hnc))) (by omega)
                    refine Ev.sm (tbs [(0, 0), (0, 0), (2, 3), (3, 7)]) 2 fun K hK => M.o (q.lvA [_, _] am_ag31 am_cl31) (M.o q.as (M.end [_, _, _] (h := S.sv [_, _] true [_, _] am_in31 am_cl31 (h := S.o q.as (S.end (hK _ ?_))))))
                    clear hK K
                    refine Ev.weaken (Wk.nsh Bundle.c 2 4) ?_
                    refine Ev.ret ?_
                    refine hR0 _ _ ?_
                    refine Ev.retv3 (res_t (res_c [_, _] am_ag31 am_cl31 (res_t res_n))) ?_
                    refine ⟨?_, rfl⟩
                    first | rfl | (rw [e1, e2, e3, e4]; done) | (rw [e1, e2, e3, e4] <;> rfl)
                  · first
                  | (first | omega | contradiction)
                  | refine S.o q.mv (S.o (q.ix am_el57 am_cl9 (hl := (by first | exact ati i0 (by omega) | exact ati i1 (by omega) | exact ati i2 (by omega) | exact ati i3 (by omega) | exact atig (by omega)))) (S.o (q.ls am_ag9) (S.c0 (hF := risName_fun _ (by omega)) (h := S.o q.not (S.o q.pf (S.end (hK _ ?_)))))))
                    clear hK K
                    refine Ev.cn (fun c22 => ?_) (fun c22 => ?_)
                    · first | omega | contradiction
                    · first
                    | (first | omega | contradiction)
                    | refine Ev.skip ?_
                      show Ev _ _ _ _
                      refine Ev.sr fun K hK => S.o q.mv (S.o (q.ix am_el57 am_cl9 (hl := (by first | exact ati i0 (by omega) | exact ati i1 (by omega) | exact ati i2 (by omega) | exact ati i3 (by omega) | exact atig (by omega)))) (S.o (q.ls am_ag9) ?_))
                      by_cases hna : numOk15 a
                      · skip
                        refine S.c0 (hF := rint_yes _ (by omega) hna) (h := S.o q.mv (S.o q.ex (S.o q.ex (S.o q.as (S.o q.as (S.end (hK _ ?_)))))))
                        clear hK K
                        refine Ev.sr fun K hK => S.o q.mv (S.o (q.ix am_el57 am_cl9 (hl := (by first | exact ati i0 (by omega) | exact ati i1 (by omega) | exact ati i2 (by omega) | exact ati i3 (by omega) | exact atig (by omega)))) (S.o (q.ls am_ag9) ?_))
                        by_cases hnc : numOk15 c
                        · skip
                          refine S.c0 (hF := rint_yes _ (by omega) hnc) (h := S.o q.mv (S.o q.ex (S.o q.ex (S.o q.as (S.o q.as (S.end (hK _ ?_)))))))
                          clear hK K
                          refine Ev.seq ?_
                          refine Ev.sr fun K hK => S.o q.mv (S.o q.nott (S.o q.mv (S.o q.mv (S.o q.nott (S.o q.pf (S.end (hK _ ?_)))))))
                          clear hK K
                          refine Ev.cf ?_
                          refine Ev.skip ?_
                          show Ev _ _ _ _
                          have hcd2 := hcd (by omega)
                          have hrd := readB_of hW ⟨‹IsName t›, ‹IsName m›, hna, hnc⟩
                          have hcut := parI_cut hJ hcd2 hrd hz2
                          refine Ev.sm (tbs [(0, 0), (0, 0), (2, 2), (3, 6), (0, 0), (5, 16), (6, 48), (0, 0), (0, 0), (9, 510), (10, 1022), (11, 2047), (12, 4095)]) 11 fun K hK => M.o q.mv (M.o q.mv (M.o (q.ix am_el57 am_cl9 (hl := (by first | exact ati i0 (by omega) | exact ati i1 (by omega) | exact ati i2 (by omega) | exact ati i3 (by omega) | exact atig (by omega)))) (M.o (q.ls am_ag9) (M.o q.mv (M.o (q.ix am_el57 am_cl9 (hl := (by first | exact ati i0 (by omega) | exact ati i1 (by omega) | exact ati i2 (by omega) | exact ati i3 (by omega) | exact atig (by omega)))) (M.o (q.ls am_ag9) (M.o q.mv (M.o q.mv (M.o (q.bd [_, _, _, _] am_ze46 am_pl46) (M.nn [_] (q.bs [[_, _, _, _]] true am_el22 am_ze46 am_cl46) (h := M.end [_, _, _, _] (h := S.ap' [_, _, _] am_el22 am_ze46 am_cl46 am_by46 (hh := head_own') (hr := (rows_lit [(⟨t, m, numV a, numV c⟩ : Bundle)])) (h := S.o q.as (S.end (hK _ ?_)))))))))))))))
                          clear hK K
                          refine Ev.region_S fun K hK => S.o q.mv (S.o q.add (S.o q.mv (S.o q.add (S.o q.as (S.o q.as (S.end (hK _ ?_)))))))
                          clear hK K
                          refine hR0 _ _ ?_
                          refine roundU [47, 1] [0, 3] ⟨(bs ++ [⟨t, m, numV a, numV c⟩], i + 1), hcut⟩ ?_ (keep_c (he := (by first | rfl | (simp; done))) (h := (keep_c (he := (by first | rfl | (simp; done))) (h := keep_n)))) (slots_c (he := (by first | rfl | (simp; done))) (h := (slots_c (he := (by first | rfl | (simp; done))) (h := (slots_c (he := (by first | rfl | (simp; done))) (h := trivial)))))) (.c (.c .n))
                          skip
                          all_goals (dsimp only; omega)
                        · skip
                          refine S.c0 (hF := rint_no _ (by omega) hnc) (h := S.o q.mv (S.o q.ex (S.o q.ex (S.o q.as (S.o q.as (S.end (hK _ ?_)))))))
                          clear hK K
                          refine Ev.seq ?_
                          refine Ev.sr fun K hK => S.o q.mv (S.o q.nott (S.o q.mv (S.o q.mv (S.o q.notf (S.o q.pf (S.end (hK _ ?_)))))))
                          clear hK K
                          refine Ev.ct ?_
                          obtain ⟨e1, e2, e3, e4⟩ := parse_bad hz2 (x := []) (n := (bs.length : Int) + 1) (by first | exact parI_end1 hJ (by omega) (by omega) | exact parI_bad hJ (hcd (by omega)) (by first | exact (read_short h4).1 | exact readB_no hW (fun h => absurd h.1 ‹_›) | exact readB_no hW (fun h => absurd h.2.1 ‹_›) | exact readB_no hW (fun h => absurd h.2.2.1 hna) | exact readB_no hW (fun h => absurd h.2.2.2 hnc))) (by omega)
                          refine Ev.sm (tbs [(0, 0), (0, 0), (2, 3), (3, 7)]) 2 fun K hK => M.o (q.lvA [_, _] am_ag31 am_cl31) (M.o q.as (M.end [_, _, _] (h := S.sv [_, _] true [_, _] am_in31 am_cl31 (h := S.o q.as (S.end (hK _ ?_))))))
                          clear hK K
                          refine Ev.weaken (Wk.nsh Bundle.c 2 4) ?_
                          refine Ev.ret ?_
                          refine hR0 _ _ ?_
                          refine Ev.retv3 (res_t (res_c [_, _] am_ag31 am_cl31 (res_t res_n))) ?_
                          refine ⟨?_, rfl⟩
                          first | rfl | (rw [e1, e2, e3, e4]; done) | (rw [e1, e2, e3, e4] <;> rfl)
                      · skip
                        refine S.c0 (hF := rint_no _ (by omega) hna) (h := S.o q.mv (S.o q.ex (S.o q.ex (S.o q.as (S.o q.as (S.end (hK _ ?_)))))))
                        clear hK K
                        refine Ev.sr fun K hK => S.o q.mv (S.o (q.ix am_el57 am_cl9 (hl := (by first | exact ati i0 (by omega) | exact ati i1 (by omega) | exact ati i2 (by omega) | exact ati i3 (by omega) | exact atig (by omega)))) (S.o (q.ls am_ag9) ?_))
                        by_cases hnc : numOk15 c
                        · skip
                          refine S.c0 (hF := rint_yes _ (by omega) hnc) (h := S.o q.mv (S.o q.ex (S.o q.ex (S.o q.as (S.o q.as (S.end (hK _ ?_)))))))
                          clear hK K
                          refine Ev.seq ?_
                          refine Ev.sr fun K hK => S.o q.mv (S.o q.notf (S.o q.mv (S.sk (S.sk (S.o q.pt (S.end (hK _ ?_)))))))
                          clear hK K
                          refine Ev.ct ?_
                          obtain ⟨e1, e2, e3, e4⟩ := parse_bad hz2 (x := []) (n := (bs.length : Int) + 1) (by first | exact parI_end1 hJ (by omega) (by omega) | exact parI_bad hJ (hcd (by omega)) (by first | exact (read_short h4).1 | exact readB_no hW (fun h => absurd h.1 ‹_›) | exact readB_no hW (fun h => absurd h.2.1 ‹_›) | exact readB_no hW (fun h => absurd h.2.2.1 hna) | exact readB_no hW (fun h => absurd h.2.2.2 hnc))) (by omega)
                          refine Ev.sm (tbs [(0, 0), (0, 0), (2, 3), (3, 7)]) 2 fun K hK => M.o (q.lvA [_, _] am_ag31 am_cl31) (M.o q.as (M.end [_, _, _] (h := S.sv [_, _] true [_, _] am_in31 am_cl31 (h := S.o q.as (S.end (hK _ ?_))))))
                          clear hK K
                          refine Ev.weaken (Wk.nsh Bundle.c 2 4) ?_
                          refine Ev.ret ?_
                          refine hR0 _ _ ?_
                          refine Ev.retv3 (res_t (res_c [_, _] am_ag31 am_cl31 (res_t res_n))) ?_
                          refine ⟨?_, rfl⟩
                          first | rfl | (rw [e1, e2, e3, e4]; done) | (rw [e1, e2, e3, e4] <;> rfl)
                        · skip
                          refine S.c0 (hF := rint_no _ (by omega) hnc) (h := S.o q.mv (S.o q.ex (S.o q.ex (S.o q.as (S.o q.as (S.end (hK _ ?_)))))))
                          clear hK K
                          refine Ev.seq ?_
                          refine Ev.sr fun K hK => S.o q.mv (S.o q.notf (S.o q.mv (S.sk (S.sk (S.o q.pt (S.end (hK _ ?_)))))))
                          clear hK K
                          refine Ev.ct ?_
                          obtain ⟨e1, e2, e3, e4⟩ := parse_bad hz2 (x := []) (n := (bs.length : Int) + 1) (by first | exact parI_end1 hJ (by omega) (by omega) | exact parI_bad hJ (hcd (by omega)) (by first | exact (read_short h4).1 | exact readB_no hW (fun h => absurd h.1 ‹_›) | exact readB_no hW (fun h => absurd h.2.1 ‹_›) | exact readB_no hW (fun h => absurd h.2.2.1 hna) | exact readB_no hW (fun h => absurd h.2.2.2 hnc))) (by omega)
                          refine Ev.sm (tbs [(0, 0), (0, 0), (2, 3), (3, 7)]) 2 fun K hK => M.o (q.lvA [_, _] am_ag31 am_cl31) (M.o q.as (M.end [_, _, _] (h := S.sv [_, _] true [_, _] am_in31 am_cl31 (h := S.o q.as (S.end (hK _ ?_))))))
                          clear hK K
                          refine Ev.weaken (Wk.nsh Bundle.c 2 4) ?_
                          refine Ev.ret ?_
                          refine hR0 _ _ ?_
                          refine Ev.retv3 (res_t (res_c [_, _] am_ag31 am_cl31 (res_t res_n))) ?_
                          refine ⟨?_, rfl⟩
                          first | rfl | (rw [e1, e2, e3, e4]; done) | (rw [e1, e2, e3, e4] <;> rfl)
        · skip
          refine Ev.seq ?_
          refine Ev.sr fun K hK => S.o q.mv (S.o q.mv (S.o (q.slen am_el9 am_un9) (S.o q.lss (S.bd q.mv (fun c23 => ?_) (fun c23 => ?_)))))
          · first
          | (first | omega | contradiction)
          | refine S.o q.mv (S.o q.mv (S.o (q.six am_un9 (hl := (by first | exact ati i0 (by omega) | exact ati i1 (by omega) | exact ati i2 (by omega) | exact ati i3 (by omega) | exact atig (by omega)))) (S.o q.neq (S.o q.pt (S.end (hK _ ?_))))))
            clear hK K
            refine Ev.cn (fun c24 => ?_) (fun c24 => ?_)
            · first | omega | contradiction
            · first
            | (first | omega | contradiction)
            | refine Ev.exit ?_
              refine hR2 _ _ ?_
              show Ev _ _ _ _
              have hcd : ¬ (i : Int) = z.length → z[i]? = some 10 := fun hne => by first | exact (at10 ‹i < z.length›).1 ‹_› | (exfalso; omega)
              have hJa := hJ.a
              have hJb := hJ.b
              refine Ev.sr fun K hK => S.o q.mv (S.o q.mv (S.o q.mv (S.o (q.slbo am_el9 am_un9) ?_)))
              have hll : (lineAt z fr i).length ≤ 262144 := (by simp only [lineAt, List.length_drop, List.length_take]; omega)
              have hs1 := splitG_len 0 32 (lineAt z fr i)
              have hs2 : Go.Lib.countByte (lineAt z fr i) 32 ≤ (lineAt z fr i).length := List.count_le_length
              rcases four_or (lineAt z fr i) with ⟨t, m, a, c, hW, i0, i1, i2, i3, htl, hml, hal, hcl⟩ | h4
              · skip
                refine S.c0 (hF := words_four hll hW) (h := S.o q.as (S.end (hK _ ?_)))
                clear hK K
                refine Ev.sr fun K hK => S.o q.mv (S.o (q.bd [_, _] am_ze31 am_pl31) (S.nn (q.al am_ze31) (S.sv [_, _] true [_, _] am_in31 am_cl31 (h := S.end (hK _ ?_)))))
                clear hK K
                refine Ev.seq ?_
                refine Ev.sr fun K hK => S.o q.mv (S.o q.mv (S.o (q.slen am_el9 am_un9) (S.o q.eql (S.bd q.mv (fun c25 => ?_) (fun c25 => ?_)))))
                · first
                | (first | omega | contradiction)
                | refine S.sk (S.sk (S.sk (S.o q.pt (S.o q.mv (S.sk (S.sk (S.sk (S.sk (S.sk (S.o q.pt (S.o q.mv (S.sk (S.sk (S.sk (S.sk (S.sk (S.o q.pt (S.end (hK _ ?_)))))))))))))))))))
                  clear hK K
                  refine Ev.ct ?_
                  obtain ⟨e1, e2, e3, e4⟩ := parse_bad hz2 (x := []) (n := (bs.length : Int) + 1) (by first | exact parI_end1 hJ (by omega) (by omega) | exact parI_bad hJ (hcd (by omega)) (by first | exact (read_short h4).1 | exact readB_no hW (fun h => absurd h.1 ‹_›) | exact readB_no hW (fun h => absurd h.2.1 ‹_›) | exact readB_no hW (fun h => absurd h.2.2.1 hna) | exact readB_no hW (fun h => absurd h.2.2.2 hnc))) (by omega)
                  refine Ev.sm (tbs [(0, 0), (0, 0), (2, 3), (3, 7)]) 2 fun K hK => M.o (q.lvA [_, _] am_ag31 am_cl31) (M.o q.as (M.end [_, _, _] (h := S.sv [_, _] true [_, _] am_in31 am_cl31 (h := S.o q.as (S.end (hK _ ?_))))))
                  clear hK K
                  refine Ev.weaken (Wk.nsh Bundle.c 2 4) ?_
                  refine Ev.ret ?_
                  refine hR0 _ _ ?_
                  refine Ev.retv3 (res_t (res_c [_, _] am_ag31 am_cl31 (res_t res_n))) ?_
                  refine ⟨?_, rfl⟩
                  first | rfl | (rw [e1, e2, e3, e4]; done) | (rw [e1, e2, e3, e4] <;> rfl)
                · first
                | (first | omega | contradiction)
                | refine S.o q.mv (S.o (q.lens am_el57) (S.o q.neq (S.o q.pf (S.bn q.mv (fun c26 => ?_) (fun c26 => ?_)))))
                  · first
                  | (first | omega | contradiction)
                  | refine S.sk (S.sk (S.sk (S.sk (S.sk (S.o q.pt (S.o q.mv (S.sk (S.sk (S.sk (S.sk (S.sk (S.o q.pt (S.end (hK _ ?_))))))))))))))
                    clear hK K
                    refine Ev.ct ?_
                    obtain ⟨e1, e2, e3, e4⟩ := parse_bad hz2 (x := []) (n := (bs.length : Int) + 1) (by first | exact parI_end1 hJ (by omega) (by omega) | exact parI_bad hJ (hcd (by omega)) (by first | exact (read_short h4).1 | exact readB_no hW (fun h => absurd h.1 ‹_›) | exact readB_no hW (fun h => absurd h.2.1 ‹_›) | exact readB_no hW (fun h => absurd h.2.2.1 hna) | exact readB_no hW (fun h => absurd h.2.2.2 hnc))) (by omega)
                    refine Ev.sm (tbs [(0, 0), (0, 0), (2, 3), (3, 7)]) 2 fun K hK => M.o (q.lvA [_, _] am_ag31 am_cl31) (M.o q.as (M.end [_, _, _] (h := S.sv [_, _] true [_, _] am_in31 am_cl31 (h := S.o q.as (S.end (hK _ ?_))))))
                    clear hK K
                    refine Ev.weaken (Wk.nsh Bundle.c 2 4) ?_
                    refine Ev.ret ?_
                    refine hR0 _ _ ?_
                    refine Ev.retv3 (res_t (res_c [_, _] am_ag31 am_cl31 (res_t res_n))) ?_
                    refine ⟨?_, rfl⟩
                    first | rfl | (rw [e1, e2, e3, e4]; done) | (rw [e1, e2, e3, e4] <;> rfl)
                  · first
                  | (first | omega | contradiction)
                  | refine S.o q.mv (S.o (q.ix am_el57 am_cl9 (hl := (by first | exact ati i0 (by omega) | exact ati i1 (by omega) | exact ati i2 (by omega) | exact ati i3 (by omega) | exact atig (by omega)))) (S.o (q.ls am_ag9) (S.c0 (hF := risName_fun _ (by omega)) (h := S.o q.not (S.o q.pf (S.bn q.mv (fun c27 => ?_) (fun c27 => ?_)))))))
                    · first
                    | (first | omega | contradiction)
                    | refine S.sk (S.sk (S.sk (S.sk (S.sk (S.o q.pt (S.end (hK _ ?_)))))))
                      clear hK K
                      refine Ev.ct ?_
                      obtain ⟨e1, e2, e3, e4⟩ := parse_bad hz2 (x := []) (n := (bs.length : Int) + 1) (by first | exact parI_end1 hJ (by omega) (by omega) | exact parI_bad hJ (hcd (by omega)) (by first | exact (read_short h4).1 | exact readB_no hW (fun h => absurd h.1 ‹_›) | exact readB_no hW (fun h => absurd h.2.1 ‹_›) | exact readB_no hW (fun h => absurd h.2.2.1 hna) | exact readB_no hW (fun h => absurd h.2.2.2 hnc))) (by omega)
                      refine Ev.sm (tbs [(0, 0), (0, 0), (2, 3), (3, 7)]) 2 fun K hK => M.o (q.lvA [_, _] am_ag31 am_cl31) (M.o q.as (M.end [_, _, _] (h := S.sv [_, _] true [_, _] am_in31 am_cl31 (h := S.o q.as (S.end (hK _ ?_))))))
                      clear hK K
                      refine Ev.weaken (Wk.nsh Bundle.c 2 4) ?_
                      refine Ev.ret ?_
                      refine hR0 _ _ ?_
                      refine Ev.retv3 (res_t (res_c [_, _] am_ag31 am_cl31 (res_t res_n))) ?_
                      refine ⟨?_, rfl⟩
                      first | rfl | (rw [e1, e2, e3, e4]; done) | (rw [e1, e2, e3, e4] <;> rfl)
                    · first
                    | (first | omega | contradiction)
                    | refine S.o q.mv (S.o (q.ix am_el57 am_cl9 (hl := (by first | exact ati i0 (by omega) | exact ati i1 (by omega) | exact ati i2 (by omega) | exact ati i3 (by omega) | exact atig (by omega)))) (S.o (q.ls am_ag9) (S.c0 (hF := risName_fun _ (by omega)) (h := S.o q.not (S.o q.pf (S.end (hK _ ?_)))))))
                      clear hK K
                      refine Ev.cn (fun c28 => ?_) (fun c28 => ?_)
                      · first
                      | (first | omega | contradiction)
                      | obtain ⟨e1, e2, e3, e4⟩ := parse_bad hz2 (x := []) (n := (bs.length : Int) + 1) (by first | exact parI_end1 hJ (by omega) (by omega) | exact parI_bad hJ (hcd (by omega)) (by first | exact (read_short h4).1 | exact readB_no hW (fun h => absurd h.1 ‹_›) | exact readB_no hW (fun h => absurd h.2.1 ‹_›) | exact readB_no hW (fun h => absurd h.2.2.1 hna) | exact readB_no hW (fun h => absurd h.2.2.2 hnc))) (by omega)
                        refine Ev.sm (tbs [(0, 0), (0, 0), (2, 3), (3, 7)]) 2 fun K hK => M.o (q.lvA [_, _] am_ag31 am_cl31) (M.o q.as (M.end [_, _, _] (h := S.sv [_, _] true [_, _] am_in31 am_cl31 (h := S.o q.as (S.end (hK _ ?_))))))
                        clear hK K
                        refine Ev.weaken (Wk.nsh Bundle.c 2 4) ?_
                        refine Ev.ret ?_
                        refine hR0 _ _ ?_
                        refine Ev.retv3 (res_t (res_c [_, _] am_ag31 am_cl31 (res_t res_n))) ?_
                        refine ⟨?_, rfl⟩
                        first | rfl | (rw [e1, e2, e3, e4]; done) | (rw [e1, e2, e3, e4] <;> rfl)
                      · first
                      | (first | omega | contradiction)
                      | refine Ev.skip ?_
                        show Ev _ _ _ _
                        refine Ev.sr fun K hK => S.o q.mv (S.o (q.ix am_el57 am_cl9 (hl := (by first | exact ati i0 (by omega) | exact ati i1 (by omega) | exact ati i2 (by omega) | exact ati i3 (by omega) | exact atig (by omega)))) (S.o (q.ls am_ag9) ?_))
                        by_cases hna : numOk15 a
                        · skip
                          refine S.c0 (hF := rint_yes _ (by omega) hna) (h := S.o q.mv (S.o q.ex (S.o q.ex (S.o q.as (S.o q.as (S.end (hK _ ?_)))))))
                          clear hK K
                          refine Ev.sr fun K hK => S.o q.mv (S.o (q.ix am_el57 am_cl9 (hl := (by first | exact ati i0 (by omega) | exact ati i1 (by omega) | exact ati i2 (by omega) | exact ati i3 (by omega) | exact atig (by omega)))) (S.o (q.ls am_ag9) ?_))
                          by_cases hnc : numOk15 c
                          · skip
                            refine S.c0 (hF := rint_yes _ (by omega) hnc) (h := S.o q.mv (S.o q.ex (S.o q.ex (S.o q.as (S.o q.as (S.end (hK _ ?_)))))))
                            clear hK K
                            refine Ev.seq ?_
                            refine Ev.sr fun K hK => S.o q.mv (S.o q.nott (S.o q.mv (S.o q.mv (S.o q.nott (S.o q.pf (S.end (hK _ ?_)))))))
                            clear hK K
                            refine Ev.cf ?_
                            refine Ev.skip ?_
                            show Ev _ _ _ _
                            have hcd2 := hcd (by omega)
                            have hrd := readB_of hW ⟨‹IsName t›, ‹IsName m›, hna, hnc⟩
                            have hcut := parI_cut hJ hcd2 hrd hz2
                            refine Ev.sm (tbs [(0, 0), (0, 0), (2, 2), (3, 6), (0, 0), (5, 16), (6, 48), (0, 0), (0, 0), (9, 510), (10, 1022), (11, 2047), (12, 4095)]) 11 fun K hK => M.o q.mv (M.o q.mv (M.o (q.ix am_el57 am_cl9 (hl := (by first | exact ati i0 (by omega) | exact ati i1 (by omega) | exact ati i2 (by omega) | exact ati i3 (by omega) | exact atig (by omega)))) (M.o (q.ls am_ag9) (M.o q.mv (M.o (q.ix am_el57 am_cl9 (hl := (by first | exact ati i0 (by omega) | exact ati i1 (by omega) | exact ati i2 (by omega) | exact ati i3 (by omega) | exact atig (by omega)))) (M.o (q.ls am_ag9) (M.o q.mv (M.o q.mv (M.o (q.bd [_, _, _, _] am_ze46 am_pl46) (M.nn [_] (q.bs [[_, _, _, _]] true am_el22 am_ze46 am_cl46) (h := M.end [_, _, _, _] (h := S.ap' [_, _, _] am_el22 am_ze46 am_cl46 am_by46 (hh := head_own') (hr := (rows_lit [(⟨t, m, numV a, numV c⟩ : Bundle)])) (h := S.o q.as (S.end (hK _ ?_)))))))))))))))
                            clear hK K
                            refine Ev.region_S fun K hK => S.o q.mv (S.o q.add (S.o q.mv (S.o q.add (S.o q.as (S.o q.as (S.end (hK _ ?_)))))))
                            clear hK K
                            refine hR0 _ _ ?_
                            refine roundU [47, 1] [0, 3] ⟨(bs ++ [⟨t, m, numV a, numV c⟩], i + 1), hcut⟩ ?_ (keep_c (he := (by first | rfl | (simp; done))) (h := (keep_c (he := (by first | rfl | (simp; done))) (h := keep_n)))) (slots_c (he := (by first | rfl | (simp; done))) (h := (slots_c (he := (by first | rfl | (simp; done))) (h := (slots_c (he := (by first | rfl | (simp; done))) (h := trivial)))))) (.c (.c .n))
                            skip
                            all_goals (dsimp only; omega)
                          · skip
                            refine S.c0 (hF := rint_no _ (by omega) hnc) (h := S.o q.mv (S.o q.ex (S.o q.ex (S.o q.as (S.o q.as (S.end (hK _ ?_)))))))
                            clear hK K
                            refine Ev.seq ?_
                            refine Ev.sr fun K hK => S.o q.mv (S.o q.nott (S.o q.mv (S.o q.mv (S.o q.notf (S.o q.pf (S.end (hK _ ?_)))))))
                            clear hK K
                            refine Ev.ct ?_
                            obtain ⟨e1, e2, e3, e4⟩ := parse_bad hz2 (x := []) (n := (bs.length : Int) + 1) (by first | exact parI_end1 hJ (by omega) (by omega) | exact parI_bad hJ (hcd (by omega)) (by first | exact (read_short h4).1 | exact readB_no hW (fun h => absurd h.1 ‹_›) | exact readB_no hW (fun h => absurd h.2.1 ‹_›) | exact readB_no hW (fun h => absurd h.2.2.1 hna) | exact readB_no hW (fun h => absurd h.2.2.2 hnc))) (by omega)
                            refine Ev.sm (tbs [(0, 0), (0, 0), (2, 3), (3, 7)]) 2 fun K hK => M.o (q.lvA [_, _] am_ag31 am_cl31) (M.o q.as (M.end [_, _, _] (h := S.sv [_, _] true [_, _] am_in31 am_cl31 (h := S.o q.as (S.end (hK _ ?_))))))
                            clear hK K
                            refine Ev.weaken (Wk.nsh Bundle.c 2 4) ?_
                            refine Ev.ret ?_
                            refine hR0 _ _ ?_
                            refine Ev.retv3 (res_t (res_c [_, _] am_ag31 am_cl31 (res_t res_n))) ?_
                            refine ⟨?_, rfl⟩
                            first | rfl | (rw [e1, e2, e3, e4]; done) | (rw [e1, e2, e3, e4] <;> rfl)
                        · skip
                          refine S.c0 (hF := rint_no _ (by omega) hna) (h := S.o q.mv (S.o q.ex (S.o q.ex (S.o q.as (S.o q.as (S.end (hK _ ?_)))))))
                          clear hK K
                          refine Ev.sr fun K hK => S.o q.mv (S.o (q.ix am_el57 am_cl9 (hl := (by first | exact ati i0 (by omega) | exact ati i1 (by omega) | exact ati i2 (by omega) | exact ati i3 (by omega) | exact atig (by omega)))) (S.o (q.ls am_ag9) ?_))
                          by_cases hnc : numOk15 c
                          · skip
                            refine S.c0 (hF := rint_yes _ (by omega) hnc) (h := S.o q.mv (S.o q.ex (S.o q.ex (S.o q.as (S.o q.as (S.end (hK _ ?_)))))))
                            clear hK K
                            refine Ev.seq ?_
                            refine Ev.sr fun K hK => S.o q.mv (S.o q.notf (S.o q.mv (S.sk (S.sk (S.o q.pt (S.end (hK _ ?_)))))))
                            clear hK K
                            refine Ev.ct ?_
                            obtain ⟨e1, e2, e3, e4⟩ := parse_bad hz2 (x := []) (n := (bs.length : Int) + 1) (by first | exact parI_end1 hJ (by omega) (by omega) | exact parI_bad hJ (hcd (by omega)) (by first | exact (read_short h4).1 | exact readB_no hW (fun h => absurd h.1 ‹_›) | exact readB_no hW (fun h => absurd h.2.1 ‹_›) | exact readB_no hW (fun h => absurd h.2.2.1 hna) | exact readB_no hW (fun h => absurd h.2.2.2 hnc))) (by omega)
                            refine Ev.sm (tbs [(0, 0), (0, 0), (2, 3), (3, 7)]) 2 fun K hK => M.o (q.lvA [_, _] am_ag31 am_cl31) (M.o q.as (M.end [_, _, _] (h := S.sv [_, _] true [_, _] am_in31 am_cl31 (h := S.o q.as (S.end (hK _ ?_))))))
                            clear hK K
                            refine Ev.weaken (Wk.nsh Bundle.c 2 4) ?_
                            refine Ev.ret ?_
                            refine hR0 _ _ ?_
                            refine Ev.retv3 (res_t (res_c [_, _] am_ag31 am_cl31 (res_t res_n))) ?_
                            refine ⟨?_, rfl⟩
                            first | rfl | (rw [e1, e2, e3, e4]; done) | (rw [e1, e2, e3, e4] <;> rfl)
                          · skip
                            refine S.c0 (hF := rint_no _ (by omega) hnc) (h := S.o q.mv (S.o q.ex (S.o q.ex (S.o q.as (S.o q.as (S.end (hK _ ?_)))))))
                            clear hK K
                            refine Ev.seq ?_
                            refine Ev.sr fun K hK => S.o q.mv (S.o q.notf (S.o q.mv (S.sk (S.sk (S.o q.pt (S.end (hK _ ?_)))))))
                            clear hK K
                            refine Ev.ct ?_
                            obtain ⟨e1, e2, e3, e4⟩ := parse_bad hz2 (x := []) (n := (bs.length : Int) + 1) (by first | exact parI_end1 hJ (by omega) (by omega) | exact parI_bad hJ (hcd (by omega)) (by first | exact (read_short h4).1 | exact readB_no hW (fun h => absurd h.1 ‹_›) | exact readB_no hW (fun h => absurd h.2.1 ‹_›) | exact readB_no hW (fun h => absurd h.2.2.1 hna) | exact readB_no hW (fun h => absurd h.2.2.2 hnc))) (by omega)
                            refine Ev.sm (tbs [(0, 0), (0, 0), (2, 3), (3, 7)]) 2 fun K hK => M.o (q.lvA [_, _] am_ag31 am_cl31) (M.o q.as (M.end [_, _, _] (h := S.sv [_, _] true [_, _] am_in31 am_cl31 (h := S.o q.as (S.end (hK _ ?_))))))
                            clear hK K
                            refine Ev.weaken (Wk.nsh Bundle.c 2 4) ?_
                            refine Ev.ret ?_
                            refine hR0 _ _ ?_
                            refine Ev.retv3 (res_t (res_c [_, _] am_ag31 am_cl31 (res_t res_n))) ?_
                            refine ⟨?_, rfl⟩
                            first | rfl | (rw [e1, e2, e3, e4]; done) | (rw [e1, e2, e3, e4] <;> rfl)
              · skip
                refine S.c0 (hF := words_len _ hll h4) (h := S.o q.as (S.end (hK _ ?_)))
                clear hK K
                refine Ev.sr fun K hK => S.o q.mv (S.o (q.bd [_, _] am_ze31 am_pl31) (S.nn (q.al am_ze31) (S.sv [_, _] true [_, _] am_in31 am_cl31 (h := S.end (hK _ ?_)))))
                clear hK K
                refine Ev.seq ?_
                refine Ev.sr fun K hK => S.o q.mv (S.o q.mv (S.o (q.slen am_el9 am_un9) (S.o q.eql (S.bd q.mv (fun c29 => ?_) (fun c29 => ?_)))))
                · first
                | (first | omega | contradiction)
                | refine S.sk (S.sk (S.sk (S.o q.pt (S.o q.mv (S.sk (S.sk (S.sk (S.sk (S.sk (S.o q.pt (S.o q.mv (S.sk (S.sk (S.sk (S.sk (S.sk (S.o q.pt (S.end (hK _ ?_)))))))))))))))))))
                  clear hK K
                  refine Ev.ct ?_
                  obtain ⟨e1, e2, e3, e4⟩ := parse_bad hz2 (x := []) (n := (bs.length : Int) + 1) (by first | exact parI_end1 hJ (by omega) (by omega) | exact parI_bad hJ (hcd (by omega)) (by first | exact (read_short h4).1 | exact readB_no hW (fun h => absurd h.1 ‹_›) | exact readB_no hW (fun h => absurd h.2.1 ‹_›) | exact readB_no hW (fun h => absurd h.2.2.1 hna) | exact readB_no hW (fun h => absurd h.2.2.2 hnc))) (by omega)
                  refine Ev.sm (tbs [(0, 0), (0, 0), (2, 3), (3, 7)]) 2 fun K hK => M.o (q.lvA [_, _] am_ag31 am_cl31) (M.o q.as (M.end [_, _, _] (h := S.sv [_, _] true [_, _] am_in31 am_cl31 (h := S.o q.as (S.end (hK _ ?_))))))
                  clear hK K
                  refine Ev.weaken (Wk.nsh Bundle.c 2 4) ?_
                  refine Ev.ret ?_
                  refine hR0 _ _ ?_
                  refine Ev.retv3 (res_t (res_c [_, _] am_ag31 am_cl31 (res_t res_n))) ?_
                  refine ⟨?_, rfl⟩
                  first | rfl | (rw [e1, e2, e3, e4]; done) | (rw [e1, e2, e3, e4] <;> rfl)
                · first
                | (first | omega | contradiction)
                | refine S.o q.mv (S.o (q.lens am_el57) (S.o q.neq (S.o q.pf (S.bn q.mv (fun c30 => ?_) (fun c30 => ?_)))))
                  · first
                  | (first | omega | contradiction)
                  | refine S.sk (S.sk (S.sk (S.sk (S.sk (S.o q.pt (S.o q.mv (S.sk (S.sk (S.sk (S.sk (S.sk (S.o q.pt (S.end (hK _ ?_))))))))))))))
                    clear hK K
                    refine Ev.ct ?_
                    obtain ⟨e1, e2, e3, e4⟩ := parse_bad hz2 (x := []) (n := (bs.length : Int) + 1) (by first | exact parI_end1 hJ (by omega) (by omega) | exact parI_bad hJ (hcd (by omega)) (by first | exact (read_short h4).1 | exact readB_no hW (fun h => absurd h.1 ‹_›) | exact readB_no hW (fun h => absurd h.2.1 ‹_›) | exact readB_no hW (fun h => absurd h.2.2.1 hna) | exact readB_no hW (fun h => absurd h.2.2.2 hnc))) (by omega)
                    refine Ev.sm (tbs [(0, 0), (0, 0), (2, 3), (3, 7)]) 2 fun K hK => M.o (q.lvA [_, _] am_ag31 am_cl31) (M.o q.as (M.end [_, _, _] (h := S.sv [_, _] true [_, _] am_in31 am_cl31 (h := S.o q.as (S.end (hK _ ?_))))))
                    clear hK K
                    refine Ev.weaken (Wk.nsh Bundle.c 2 4) ?_
                    refine Ev.ret ?_
                    refine hR0 _ _ ?_
                    refine Ev.retv3 (res_t (res_c [_, _] am_ag31 am_cl31 (res_t res_n))) ?_
                    refine ⟨?_, rfl⟩
                    first | rfl | (rw [e1, e2, e3, e4]; done) | (rw [e1, e2, e3, e4] <;> rfl)
                  · first
                  | (first | omega | contradiction)
                  | refine S.o q.mv (S.o (q.ix am_el57 am_cl9 (hl := (by first | exact ati i0 (by omega) | exact ati i1 (by omega) | exact ati i2 (by omega) | exact ati i3 (by omega) | exact atig (by omega)))) (S.o (q.ls am_ag9) (S.c0 (hF := risName_fun _ (by omega)) (h := S.o q.not (S.o q.pf (S.bn q.mv (fun c31 => ?_) (fun c31 => ?_)))))))
                    · first
                    | (first | omega | contradiction)
                    | refine S.sk (S.sk (S.sk (S.sk (S.sk (S.o q.pt (S.end (hK _ ?_)))))))
                      clear hK K
                      refine Ev.ct ?_
                      obtain ⟨e1, e2, e3, e4⟩ := parse_bad hz2 (x := []) (n := (bs.length : Int) + 1) (by first | exact parI_end1 hJ (by omega) (by omega) | exact parI_bad hJ (hcd (by omega)) (by first | exact (read_short h4).1 | exact readB_no hW (fun h => absurd h.1 ‹_›) | exact readB_no hW (fun h => absurd h.2.1 ‹_›) | exact readB_no hW (fun h => absurd h.2.2.1 hna) | exact readB_no hW (fun h => absurd h.2.2.2 hnc))) (by omega)
                      refine Ev.sm (tbs [(0, 0), (0, 0), (2, 3), (3, 7)]) 2 fun K hK => M.o (q.lvA [_, _] am_ag31 am_cl31) (M.o q.as (M.end [_, _, _] (h := S.sv [_, _] true [_, _] am_in31 am_cl31 (h := S.o q.as (S.end (hK _ ?_))))))
                      clear hK K
                      refine Ev.weaken (Wk.nsh Bundle.c 2 4) ?_
                      refine Ev.ret ?_
                      refine hR0 _ _ ?_
                      refine Ev.retv3 (res_t (res_c [_, _] am_ag31 am_cl31 (res_t res_n))) ?_
                      refine ⟨?_, rfl⟩
                      first | rfl | (rw [e1, e2, e3, e4]; done) | (rw [e1, e2, e3, e4] <;> rfl)
                    · first
                    | (first | omega | contradiction)
                    | refine S.o q.mv (S.o (q.ix am_el57 am_cl9 (hl := (by first | exact ati i0 (by omega) | exact ati i1 (by omega) | exact ati i2 (by omega) | exact ati i3 (by omega) | exact atig (by omega)))) (S.o (q.ls am_ag9) (S.c0 (hF := risName_fun _ (by omega)) (h := S.o q.not (S.o q.pf (S.end (hK _ ?_)))))))
                      clear hK K
                      refine Ev.cn (fun c32 => ?_) (fun c32 => ?_)
                      · first
                      | (first | omega | contradiction)
                      | obtain ⟨e1, e2, e3, e4⟩ := parse_bad hz2 (x := []) (n := (bs.length : Int) + 1) (by first | exact parI_end1 hJ (by omega) (by omega) | exact parI_bad hJ (hcd (by omega)) (by first | exact (read_short h4).1 | exact readB_no hW (fun h => absurd h.1 ‹_›) | exact readB_no hW (fun h => absurd h.2.1 ‹_›) | exact readB_no hW (fun h => absurd h.2.2.1 hna) | exact readB_no hW (fun h => absurd h.2.2.2 hnc))) (by omega)
                        refine Ev.sm (tbs [(0, 0), (0, 0), (2, 3), (3, 7)]) 2 fun K hK => M.o (q.lvA [_, _] am_ag31 am_cl31) (M.o q.as (M.end [_, _, _] (h := S.sv [_, _] true [_, _] am_in31 am_cl31 (h := S.o q.as (S.end (hK _ ?_))))))
                        clear hK K
                        refine Ev.weaken (Wk.nsh Bundle.c 2 4) ?_
                        refine Ev.ret ?_
                        refine hR0 _ _ ?_
                        refine Ev.retv3 (res_t (res_c [_, _] am_ag31 am_cl31 (res_t res_n))) ?_
                        refine ⟨?_, rfl⟩
                        first | rfl | (rw [e1, e2, e3, e4]; done) | (rw [e1, e2, e3, e4] <;> rfl)
                      · first
                      | (first | omega | contradiction)
                      | refine Ev.skip ?_
                        show Ev _ _ _ _
                        refine Ev.sr fun K hK => S.o q.mv (S.o (q.ix am_el57 am_cl9 (hl := (by first | exact ati i0 (by omega) | exact ati i1 (by omega) | exact ati i2 (by omega) | exact ati i3 (by omega) | exact atig (by omega)))) (S.o (q.ls am_ag9) ?_))
                        by_cases hna : numOk15 a
                        · skip
                          refine S.c0 (hF := rint_yes _ (by omega) hna) (h := S.o q.mv (S.o q.ex (S.o q.ex (S.o q.as (S.o q.as (S.end (hK _ ?_)))))))
                          clear hK K
                          refine Ev.sr fun K hK => S.o q.mv (S.o (q.ix am_el57 am_cl9 (hl := (by first | exact ati i0 (by omega) | exact ati i1 (by omega) | exact ati i2 (by omega) | exact ati i3 (by omega) | exact atig (by omega)))) (S.o (q.ls am_ag9) ?_))
                          by_cases hnc : numOk15 c
                          · skip
                            refine S.c0 (hF := rint_yes _ (by omega) hnc) (h := S.o q.mv (S.o q.ex (S.o q.ex (S.o q.as (S.o q.as (S.end (hK _ ?_)))))))
                            clear hK K
                            refine Ev.seq ?_
                            refine Ev.sr fun K hK => S.o q.mv (S.o q.nott (S.o q.mv (S.o q.mv (S.o q.nott (S.o q.pf (S.end (hK _ ?_)))))))
                            clear hK K
                            refine Ev.cf ?_
                            refine Ev.skip ?_
                            show Ev _ _ _ _
                            have hcd2 := hcd (by omega)
                            have hrd := readB_of hW ⟨‹IsName t›, ‹IsName m›, hna, hnc⟩
                            have hcut := parI_cut hJ hcd2 hrd hz2
                            refine Ev.sm (tbs [(0, 0), (0, 0), (2, 2), (3, 6), (0, 0), (5, 16), (6, 48), (0, 0), (0, 0), (9, 510), (10, 1022), (11, 2047), (12, 4095)]) 11 fun K hK => M.o q.mv (M.o q.mv (M.o (q.ix am_el57 am_cl9 (hl := (by first | exact ati i0 (by omega) | exact ati i1 (by omega) | exact ati i2 (by omega) | exact ati i3 (by omega) | exact atig (by omega)))) (M.o (q.ls am_ag9) (M.o q.mv (M.o (q.ix am_el57 am_cl9 (hl := (by first | exact ati i0 (by omega) | exact ati i1 (by omega) | exact ati i2 (by omega) | exact ati i3 (by omega) | exact atig (by omega)))) (M.o (q.ls am_ag9) (M.o q.mv (M.o q.mv (M.o (q.bd [_, _, _, _] am_ze46 am_pl46) (M.nn [_] (q.bs [[_, _, _, _]] true am_el22 am_ze46 am_cl46) (h := M.end [_, _, _, _] (h := S.ap' [_, _, _] am_el22 am_ze46 am_cl46 am_by46 (hh := head_own') (hr := (rows_lit [(⟨t, m, numV a, numV c⟩ : Bundle)])) (h := S.o q.as (S.end (hK _ ?_)))))))))))))))
                            clear hK K
                            refine Ev.region_S fun K hK => S.o q.mv (S.o q.add (S.o q.mv (S.o q.add (S.o q.as (S.o q.as (S.end (hK _ ?_)))))))
                            clear hK K
                            refine hR0 _ _ ?_
                            refine roundU [47, 1] [0, 3] ⟨(bs ++ [⟨t, m, numV a, numV c⟩], i + 1), hcut⟩ ?_ (keep_c (he := (by first | rfl | (simp; done))) (h := (keep_c (he := (by first | rfl | (simp; done))) (h := keep_n)))) (slots_c (he := (by first | rfl | (simp; done))) (h := (slots_c (he := (by first | rfl | (simp; done))) (h := (slots_c (he := (by first | rfl | (simp; done))) (h := trivial)))))) (.c (.c .n))
                            skip
                            all_goals (dsimp only; omega)
                          · skip
                            refine S.c0 (hF := rint_no _ (by omega) hnc) (h := S.o q.mv (S.o q.ex (S.o q.ex (S.o q.as (S.o q.as (S.end (hK _ ?_)))))))
                            clear hK K
                            refine Ev.seq ?_
                            refine Ev.sr fun K hK => S.o q.mv (S.o q.nott (S.o q.mv (S.o q.mv (S.o q.notf (S.o q.pf (S.end (hK _ ?_)))))))
                            clear hK K
                            refine Ev.ct ?_
                            obtain ⟨e1, e2, e3, e4⟩ := parse_bad hz2 (x := []) (n := (bs.length : Int) + 1) (by first | exact parI_end1 hJ (by omega) (by omega) | exact parI_bad hJ (hcd (by omega)) (by first | exact (read_short h4).1 | exact readB_no hW (fun h => absurd h.1 ‹_›) | exact readB_no hW (fun h => absurd h.2.1 ‹_›) | exact readB_no hW (fun h => absurd h.2.2.1 hna) | exact readB_no hW (fun h => absurd h.2.2.2 hnc))) (by omega)
                            refine Ev.sm (tbs [(0, 0), (0, 0), (2, 3), (3, 7)]) 2 fun K hK => M.o (q.lvA [_, _] am_ag31 am_cl31) (M.o q.as (M.end [_, _, _] (h := S.sv [_, _] true [_, _] am_in31 am_cl31 (h := S.o q.as (S.end (hK _ ?_))))))
                            clear hK K
                            refine Ev.weaken (Wk.nsh Bundle.c 2 4) ?_
                            refine Ev.ret ?_
                            refine hR0 _ _ ?_
                            refine Ev.retv3 (res_t (res_c [_, _] am_ag31 am_cl31 (res_t res_n))) ?_
                            refine ⟨?_, rfl⟩
                            first | rfl | (rw [e1, e2, e3, e4]; done) | (rw [e1, e2, e3, e4] <;> rfl)
                        · skip
                          refine S.c0 (hF := rint_no _ (by omega) hna) (h := S.o q.mv (S.o q.ex (S.o q.ex (S.o q.as (S.o q.as (S.end (hK _ ?_)))))))
                          clear hK K
                          refine Ev.sr fun K hK => S.o q.mv (S.o (q.ix am_el57 am_cl9 (hl := (by first | exact ati i0 (by omega) | exact ati i1 (by omega) | exact ati i2 (by omega) | exact ati i3 (by omega) | exact atig (by omega)))) (S.o (q.ls am_ag9) ?_))
                          by_cases hnc : numOk15 c
                          · skip
                            refine S.c0 (hF := rint_yes _ (by omega) hnc) (h := S.o q.mv (S.o q.ex (S.o q.ex (S.o q.as (S.o q.as (S.end (hK _ ?_)))))))
                            clear hK K
                            refine Ev.seq ?_
                            refine Ev.sr fun K hK => S.o q.mv (S.o q.notf (S.o q.mv (S.sk (S.sk (S.o q.pt (S.end (hK _ ?_)))))))
                            clear hK K
                            refine Ev.ct ?_
                            obtain ⟨e1, e2, e3, e4⟩ := parse_bad hz2 (x := []) (n := (bs.length : Int) + 1) (by first | exact parI_end1 hJ (by omega) (by omega) | exact parI_bad hJ (hcd (by omega)) (by first | exact (read_short h4).1 | exact readB_no hW (fun h => absurd h.1 ‹_›) | exact readB_no hW (fun h => absurd h.2.1 ‹_›) | exact readB_no hW (fun h => absurd h.2.2.1 hna) | exact readB_no hW (fun h => absurd h.2.2.2 hnc))) (by omega)
                            refine Ev.sm (tbs [(0, 0), (0, 0), (2, 3), (3, 7)]) 2 fun K hK => M.o (q.lvA [_, _] am_ag31 am_cl31) (M.o q.as (M.end [_, _, _] (h := S.sv [_, _] true [_, _] am_in31 am_cl31 (h := S.o q.as (S.end (hK _ ?_))))))
                            clear hK K
                            refine Ev.weaken (Wk.nsh Bundle.c 2 4) ?_
                            refine Ev.ret ?_
                            refine hR0 _ _ ?_
                            refine Ev.retv3 (res_t (res_c [_, _] am_ag31 am_cl31 (res_t res_n))) ?_
                            refine ⟨?_, rfl⟩
                            first | rfl | (rw [e1, e2, e3, e4]; done) | (rw [e1, e2, e3, e4] <;> rfl)
                          · skip
                            refine S.c0 (hF := rint_no _ (by omega) hnc) (h := S.o q.mv (S.o q.ex (S.o q.ex (S.o q.as (S.o q.as (S.end (hK _ ?_)))))))
                            clear hK K
                            refine Ev.seq ?_
                            refine Ev.sr fun K hK => S.o q.mv (S.o q.notf (S.o q.mv (S.sk (S.sk (S.o q.pt (S.end (hK _ ?_)))))))
                            clear hK K
                            refine Ev.ct ?_
                            obtain ⟨e1, e2, e3, e4⟩ := parse_bad hz2 (x := []) (n := (bs.length : Int) + 1) (by first | exact parI_end1 hJ (by omega) (by omega) | exact parI_bad hJ (hcd (by omega)) (by first | exact (read_short h4).1 | exact readB_no hW (fun h => absurd h.1 ‹_›) | exact readB_no hW (fun h => absurd h.2.1 ‹_›) | exact readB_no hW (fun h => absurd h.2.2.1 hna) | exact readB_no hW (fun h => absurd h.2.2.2 hnc))) (by omega)
                            refine Ev.sm (tbs [(0, 0), (0, 0), (2, 3), (3, 7)]) 2 fun K hK => M.o (q.lvA [_, _] am_ag31 am_cl31) (M.o q.as (M.end [_, _, _] (h := S.sv [_, _] true [_, _] am_in31 am_cl31 (h := S.o q.as (S.end (hK _ ?_))))))
                            clear hK K
                            refine Ev.weaken (Wk.nsh Bundle.c 2 4) ?_
                            refine Ev.ret ?_
                            refine hR0 _ _ ?_
                            refine Ev.retv3 (res_t (res_c [_, _] am_ag31 am_cl31 (res_t res_n))) ?_
                            refine ⟨?_, rfl⟩
                            first | rfl | (rw [e1, e2, e3, e4]; done) | (rw [e1, e2, e3, e4] <;> rfl)
          · first
          | (first | omega | contradiction)
          | refine S.sk (S.sk (S.sk (S.sk (S.o q.pf (S.end (hK _ ?_))))))
            clear hK K
            refine Ev.cf ?_
            refine Ev.exit ?_
            refine hR2 _ _ ?_
            show Ev _ _ _ _
            have hcd : ¬ (i : Int) = z.length → z[i]? = some 10 := fun hne => by first | exact (at10 ‹i < z.length›).1 ‹_› | (exfalso; omega)
            have hJa := hJ.a
            have hJb := hJ.b
            refine Ev.sr fun K hK => S.o q.mv (S.o q.mv (S.o q.mv (S.o (q.slbo am_el9 am_un9) ?_)))
            have hll : (lineAt z fr i).length ≤ 262144 := (by simp only [lineAt, List.length_drop, List.length_take]; omega)
            have hs1 := splitG_len 0 32 (lineAt z fr i)
            have hs2 : Go.Lib.countByte (lineAt z fr i) 32 ≤ (lineAt z fr i).length := List.count_le_length
            rcases four_or (lineAt z fr i) with ⟨t, m, a, c, hW, i0, i1, i2, i3, htl, hml, hal, hcl⟩ | h4
            · skip
              refine S.c0 (hF := words_four hll hW) (h := S.o q.as (S.end (hK _ ?_)))
              clear hK K
              refine Ev.sr fun K hK => S.o q.mv (S.o (q.bd [_, _] am_ze31 am_pl31) (S.nn (q.al am_ze31) (S.sv [_, _] true [_, _] am_in31 am_cl31 (h := S.end (hK _ ?_)))))
              clear hK K
              refine Ev.seq ?_
              refine Ev.sr fun K hK => S.o q.mv (S.o q.mv (S.o (q.slen am_el9 am_un9) (S.o q.eql (S.bd q.mv (fun c33 => ?_) (fun c33 => ?_)))))
              · first
              | (first | omega | contradiction)
              | refine S.sk (S.sk (S.sk (S.o q.pt (S.o q.mv (S.sk (S.sk (S.sk (S.sk (S.sk (S.o q.pt (S.o q.mv (S.sk (S.sk (S.sk (S.sk (S.sk (S.o q.pt (S.end (hK _ ?_)))))))))))))))))))
                clear hK K
                refine Ev.ct ?_
                obtain ⟨e1, e2, e3, e4⟩ := parse_bad hz2 (x := []) (n := (bs.length : Int) + 1) (by first | exact parI_end1 hJ (by omega) (by omega) | exact parI_bad hJ (hcd (by omega)) (by first | exact (read_short h4).1 | exact readB_no hW (fun h => absurd h.1 ‹_›) | exact readB_no hW (fun h => absurd h.2.1 ‹_›) | exact readB_no hW (fun h => absurd h.2.2.1 hna) | exact readB_no hW (fun h => absurd h.2.2.2 hnc))) (by omega)
                refine Ev.sm (tbs [(0, 0), (0, 0), (2, 3), (3, 7)]) 2 fun K hK => M.o (q.lvA [_, _] am_ag31 am_cl31) (M.o q.as (M.end [_, _, _] (h := S.sv [_, _] true [_, _] am_in31 am_cl31 (h := S.o q.as (S.end (hK _ ?_))))))
                clear hK K
                refine Ev.weaken (Wk.nsh Bundle.c 2 4) ?_
                refine Ev.ret ?_
                refine hR0 _ _ ?_
                refine Ev.retv3 (res_t (res_c [_, _] am_ag31 am_cl31 (res_t res_n))) ?_
                refine ⟨?_, rfl⟩
                first | rfl | (rw [e1, e2, e3, e4]; done) | (rw [e1, e2, e3, e4] <;> rfl)
              · first
              | (first | omega | contradiction)
              | refine S.o q.mv (S.o (q.lens am_el57) (S.o q.neq (S.o q.pf (S.bn q.mv (fun c34 => ?_) (fun c34 => ?_)))))
                · first
                | (first | omega | contradiction)
                | refine S.sk (S.sk (S.sk (S.sk (S.sk (S.o q.pt (S.o q.mv (S.sk (S.sk (S.sk (S.sk (S.sk (S.o q.pt (S.end (hK _ ?_))))))))))))))
                  clear hK K
                  refine Ev.ct ?_
                  obtain ⟨e1, e2, e3, e4⟩ := parse_bad hz2 (x := []) (n := (bs.length : Int) + 1) (by first | exact parI_end1 hJ (by omega) (by omega) | exact parI_bad hJ (hcd (by omega)) (by first | exact (read_short h4).1 | exact readB_no hW (fun h => absurd h.1 ‹_›) | exact readB_no hW (fun h => absurd h.2.1 ‹_›) | exact readB_no hW (fun h => absurd h.2.2.1 hna) | exact readB_no hW (fun h => absurd h.2.2.2 hnc))) (by omega)
                  refine Ev.sm (tbs [(0, 0), (0, 0), (2, 3), (3, 7)]) 2 fun K hK => M.o (q.lvA [_, _] am_ag31 am_cl31) (M.o q.as (M.end [_, _, _] (h := S.sv [_, _] true [_, _] am_in31 am_cl31 (h := S.o q.as (S.end (hK _ ?_))))))
                  clear hK K
                  refine Ev.weaken (Wk.nsh Bundle.c 2 4) ?_
                  refine Ev.ret ?_
                  refine hR0 _ _ ?_
                  refine Ev.retv3 (res_t (res_c [_, _] am_ag31 am_cl31 (res_t res_n))) ?_
                  refine ⟨?_, rfl⟩
                  first | rfl | (rw [e1, e2, e3, e4]; done) | (rw [e1, e2, e3, e4] <;> rfl)
                · first
                | (first | omega | contradiction)
                | refine S.o q.mv (S.o (q.ix am_el57 am_cl9 (hl := (by first | exact ati i0 (by omega) | exact ati i1 (by omega) | exact ati i2 (by omega) | exact ati i3 (by omega) | exact atig (by omega)))) (S.o (q.ls am_ag9) (S.c0 (hF := risName_fun _ (by omega)) (h := S.o q.not (S.o q.pf (S.bn q.mv (fun c35 => ?_) (fun c35 => ?_)))))))
                  · first
                  | (first | omega | contradiction)
                  | refine S.sk (S.sk (S.sk (S.sk (S.sk (S.o q.pt (S.end (hK _ ?_)))))))
                    clear hK K
                    refine Ev.ct ?_
                    obtain ⟨e1, e2, e3, e4⟩ := parse_bad hz2 (x := []) (n := (bs.length : Int) + 1) (by first | exact parI_end1 hJ (by omega) (by omega) | exact parI_bad hJ (hcd (by omega)) (by first | exact (read_short h4).1 | exact readB_no hW (fun h => absurd h.1 ‹_›) | exact readB_no hW (fun h => absurd h.2.1 ‹_›) | exact readB_no hW (fun h => absurd h.2.2.1 hna) | exact readB_no hW (fun h => absurd h.2.2.2 hnc))) (by omega)
                    refine Ev.sm (tbs [(0, 0), (0, 0), (2, 3), (3, 7)]) 2 fun K hK => M.o (q.lvA [_, _] am_ag31 am_cl31) (M.o q.as (M.end [_, _, _] (h := S.sv [_, _] true [_, _] am_in31 am_cl31 (h := S.o q.as (S.end (hK _ ?_))))))
                    clear hK K
                    refine Ev.weaken (Wk.nsh Bundle.c 2 4) ?_
                    refine Ev.ret ?_
                    refine hR0 _ _ ?_
                    refine Ev.retv3 (res_t (res_c [_, _] am_ag31 am_cl31 (res_t res_n))) ?_
                    refine ⟨?_, rfl⟩
                    first | rfl | (rw [e1, e2, e3, e4]; done) | (rw [e1, e2, e3, e4] <;> rfl)
                  · first
                  | (first | omega | contradiction)
                  | refine S.o q.mv (S.o (q.ix am_el57 am_cl9 (hl := (by first | exact ati i0 (by omega) | exact ati i1 (by omega) | exact ati i2 (by omega) | exact ati i3 (by omega) | exact atig (by omega)))) (S.o (q.ls am_ag9) (S.c0 (hF := risName_fun _ (by omega)) (h := S.o q.not (S.o q.pf (S.end (hK _ ?_)))))))
                    clear hK K
                    refine Ev.cn (fun c36 => ?_) (fun c36 => ?_)
                    · first | omega | contradiction
                    · first
                    | (first | omega | contradiction)
                    | refine Ev.skip ?_
                      show Ev _ _ _ _
                      refine Ev.sr fun K hK => S.o q.mv (S.o (q.ix am_el57 am_cl9 (hl := (by first | exact ati i0 (by omega) | exact ati i1 (by omega) | exact ati i2 (by omega) | exact ati i3 (by omega) | exact atig (by omega)))) (S.o (q.ls am_ag9) ?_))
                      by_cases hna : numOk15 a
                      · skip
                        refine S.c0 (hF := rint_yes _ (by omega) hna) (h := S.o q.mv (S.o q.ex (S.o q.ex (S.o q.as (S.o q.as (S.end (hK _ ?_)))))))
                        clear hK K
                        refine Ev.sr fun K hK => S.o q.mv (S.o (q.ix am_el57 am_cl9 (hl := (by first | exact ati i0 (by omega) | exact ati i1 (by omega) | exact ati i2 (by omega) | exact ati i3 (by omega) | exact atig (by omega)))) (S.o (q.ls am_ag9) ?_))
                        by_cases hnc : numOk15 c
                        · skip
                          refine S.c0 (hF := rint_yes _ (by omega) hnc) (h := S.o q.mv (S.o q.ex (S.o q.ex (S.o q.as (S.o q.as (S.end (hK _ ?_)))))))
                          clear hK K
                          refine Ev.seq ?_
                          refine Ev.sr fun K hK => S.o q.mv (S.o q.nott (S.o q.mv (S.o q.mv (S.o q.nott (S.o q.pf (S.end (hK _ ?_)))))))
                          clear hK K
                          refine Ev.cf ?_
                          refine Ev.skip ?_
                          show Ev _ _ _ _
                          have hcd2 := hcd (by omega)
                          have hrd := readB_of hW ⟨‹IsName t›, ‹IsName m›, hna, hnc⟩
                          have hcut := parI_cut hJ hcd2 hrd hz2
                          refine Ev.sm (tbs [(0, 0), (0, 0), (2, 2), (3, 6), (0, 0), (5, 16), (6, 48), (0, 0), (0, 0), (9, 510), (10, 1022), (11, 2047), (12, 4095)]) 11 fun K hK => M.o q.mv (M.o q.mv (M.o (q.ix am_el57 am_cl9 (hl := (by first | exact ati i0 (by omega) | exact ati i1 (by omega) | exact ati i2 (by omega) | exact ati i3 (by omega) | exact atig (by omega)))) (M.o (q.ls am_ag9) (M.o q.mv (M.o (q.ix am_el57 am_cl9 (hl := (by first | exact ati i0 (by omega) | exact ati i1 (by omega) | exact ati i2 (by omega) | exact ati i3 (by omega) | exact atig (by omega)))) (M.o (q.ls am_ag9) (M.o q.mv (M.o q.mv (M.o (q.bd [_, _, _, _] am_ze46 am_pl46) (M.nn [_] (q.bs [[_, _, _, _]] true am_el22 am_ze46 am_cl46) (h := M.end [_, _, _, _] (h := S.ap' [_, _, _] am_el22 am_ze46 am_cl46 am_by46 (hh := head_own') (hr := (rows_lit [(⟨t, m, numV a, numV c⟩ : Bundle)])) (h := S.o q.as (S.end (hK _ ?_)))))))))))))))
                          clear hK K
                          refine Ev.region_S fun K hK => S.o q.mv (S.o q.add (S.o q.mv (S.o q.add (S.o q.as (S.o q.as (S.end (hK _ ?_)))))))
                          clear hK K
                          refine hR0 _ _ ?_
                          refine roundU [47, 1] [0, 3] ⟨(bs ++ [⟨t, m, numV a, numV c⟩], i + 1), hcut⟩ ?_ (keep_c (he := (by first | rfl | (simp; done))) (h := (keep_c (he := (by first | rfl | (simp; done))) (h := keep_n)))) (slots_c (he := (by first | rfl | (simp; done))) (h := (slots_c (he := (by first | rfl | (simp; done))) (h := (slots_c (he := (by first | rfl | (simp; done))) (h := trivial)))))) (.c (.c .n))
                          skip
                          all_goals (dsimp only; omega)
                        · skip
                          refine S.c0 (hF := rint_no _ (by omega) hnc) (h := S.o q.mv (S.o q.ex (S.o q.ex (S.o q.as (S.o q.as (S.end (hK _ ?_)))))))
                          clear hK K
                          refine Ev.seq ?_
                          refine Ev.sr fun K hK => S.o q.mv (S.o q.nott (S.o q.mv (S.o q.mv (S.o q.notf (S.o q.pf (S.end (hK _ ?_)))))))
                          clear hK K
                          refine Ev.ct ?_
                          obtain ⟨e1, e2, e3, e4⟩ := parse_bad hz2 (x := []) (n := (bs.length : Int) + 1) (by first | exact parI_end1 hJ (by omega) (by omega) | exact parI_bad hJ (hcd (by omega)) (by first | exact (read_short h4).1 | exact readB_no hW (fun h => absurd h.1 ‹_›) | exact readB_no hW (fun h => absurd h.2.1 ‹_›) | exact readB_no hW (fun h => absurd h.2.2.1 hna) | exact readB_no hW (fun h => absurd h.2.2.2 hnc))) (by omega)
                          refine Ev.sm (tbs [(0, 0), (0, 0), (2, 3), (3, 7)]) 2 fun K hK => M.o (q.lvA [_, _] am_ag31 am_cl31) (M.o q.as (M.end [_, _, _] (h := S.sv [_, _] true [_, _] am_in31 am_cl31 (h := S.o q.as (S.end (hK _ ?_))))))
                          clear hK K
                          refine Ev.weaken (Wk.nsh Bundle.c 2 4) ?_
                          refine Ev.ret ?_
                          refine hR0 _ _ ?_
                          refine Ev.retv3 (res_t (res_c [_, _] am_ag31 am_cl31 (res_t res_n))) ?_
                          refine ⟨?_, rfl⟩
                          first | rfl | (rw [e1, e2, e3, e4]; done) | (rw [e1, e2, e3, e4] <;> rfl)
                      · skip
                        refine S.c0 (hF := rint_no _ (by omega) hna) (h := S.o q.mv (S.o q.ex (S.o q.ex (S.o q.as (S.o q.as (S.end (hK _ ?_)))))))
                        clear hK K
                        refine Ev.sr fun K hK => S.o q.mv (S.o (q.ix am_el57 am_cl9 (hl := (by first | exact ati i0 (by omega) | exact ati i1 (by omega) | exact ati i2 (by omega) | exact ati i3 (by omega) | exact atig (by omega)))) (S.o (q.ls am_ag9) ?_))
                        by_cases hnc : numOk15 c
                        · skip
                          refine S.c0 (hF := rint_yes _ (by omega) hnc) (h := S.o q.mv (S.o q.ex (S.o q.ex (S.o q.as (S.o q.as (S.end (hK _ ?_)))))))
                          clear hK K
                          refine Ev.seq ?_
                          refine Ev.sr fun K hK => S.o q.mv (S.o q.notf (S.o q.mv (S.sk (S.sk (S.o q.pt (S.end (hK _ ?_)))))))
                          clear hK K
                          refine Ev.ct ?_
                          obtain ⟨e1, e2, e3, e4⟩ := parse_bad hz2 (x := []) (n := (bs.length : Int) + 1) (by first | exact parI_end1 hJ (by omega) (by omega) | exact parI_bad hJ (hcd (by omega)) (by first | exact (read_short h4).1 | exact readB_no hW (fun h => absurd h.1 ‹_›) | exact readB_no hW (fun h => absurd h.2.1 ‹_›) | exact readB_no hW (fun h => absurd h.2.2.1 hna) | exact readB_no hW (fun h => absurd h.2.2.2 hnc))) (by omega)
                          refine Ev.sm (tbs [(0, 0), (0, 0), (2, 3), (3, 7)]) 2 fun K hK => M.o (q.lvA [_, _] am_ag31 am_cl31) (M.o q.as (M.end [_, _, _] (h := S.sv [_, _] true [_, _] am_in31 am_cl31 (h := S.o q.as (S.end (hK _ ?_))))))
                          clear hK K
                          refine Ev.weaken (Wk.nsh Bundle.c 2 4) ?_
                          refine Ev.ret ?_
                          refine hR0 _ _ ?_
                          refine Ev.retv3 (res_t (res_c [_, _] am_ag31 am_cl31 (res_t res_n))) ?_
                          refine ⟨?_, rfl⟩
                          first | rfl | (rw [e1, e2, e3, e4]; done) | (rw [e1, e2, e3, e4] <;> rfl)
                        · skip
                          refine S.c0 (hF := rint_no _ (by omega) hnc) (h := S.o q.mv (S.o q.ex (S.o q.ex (S.o q.as (S.o q.as (S.end (hK _ ?_)))))))
                          clear hK K
                          refine Ev.seq ?_
                          refine Ev.sr fun K hK => S.o q.mv (S.o q.notf (S.o q.mv (S.sk (S.sk (S.o q.pt (S.end (hK _ ?_)))))))
                          clear hK K
                          refine Ev.ct ?_
                          obtain ⟨e1, e2, e3, e4⟩ := parse_bad hz2 (x := []) (n := (bs.length : Int) + 1) (by first | exact parI_end1 hJ (by omega) (by omega) | exact parI_bad hJ (hcd (by omega)) (by first | exact (read_short h4).1 | exact readB_no hW (fun h => absurd h.1 ‹_›) | exact readB_no hW (fun h => absurd h.2.1 ‹_›) | exact readB_no hW (fun h => absurd h.2.2.1 hna) | exact readB_no hW (fun h => absurd h.2.2.2 hnc))) (by omega)
                          refine Ev.sm (tbs [(0, 0), (0, 0), (2, 3), (3, 7)]) 2 fun K hK => M.o (q.lvA [_, _] am_ag31 am_cl31) (M.o q.as (M.end [_, _, _] (h := S.sv [_, _] true [_, _] am_in31 am_cl31 (h := S.o q.as (S.end (hK _ ?_))))))
                          clear hK K
                          refine Ev.weaken (Wk.nsh Bundle.c 2 4) ?_
                          refine Ev.ret ?_
                          refine hR0 _ _ ?_
                          refine Ev.retv3 (res_t (res_c [_, _] am_ag31 am_cl31 (res_t res_n))) ?_
                          refine ⟨?_, rfl⟩
                          first | rfl | (rw [e1, e2, e3, e4]; done) | (rw [e1, e2, e3, e4] <;> rfl)
            · skip
              refine S.c0 (hF := words_len _ hll h4) (h := S.o q.as (S.end (hK _ ?_)))
              clear hK K
              refine Ev.sr fun K hK => S.o q.mv (S.o (q.bd [_, _] am_ze31 am_pl31) (S.nn (q.al am_ze31) (S.sv [_, _] true [_, _] am_in31 am_cl31 (h := S.end (hK _ ?_)))))
              clear hK K
              refine Ev.seq ?_
              refine Ev.sr fun K hK => S.o q.mv (S.o q.mv (S.o (q.slen am_el9 am_un9) (S.o q.eql (S.bd q.mv (fun c37 => ?_) (fun c37 => ?_)))))
              · first
              | (first | omega | contradiction)
              | refine S.sk (S.sk (S.sk (S.o q.pt (S.o q.mv (S.sk (S.sk (S.sk (S.sk (S.sk (S.o q.pt (S.o q.mv (S.sk (S.sk (S.sk (S.sk (S.sk (S.o q.pt (S.end (hK _ ?_)))))))))))))))))))
                clear hK K
                refine Ev.ct ?_
                obtain ⟨e1, e2, e3, e4⟩ := parse_bad hz2 (x := []) (n := (bs.length : Int) + 1) (by first | exact parI_end1 hJ (by omega) (by omega) | exact parI_bad hJ (hcd (by omega)) (by first | exact (read_short h4).1 | exact readB_no hW (fun h => absurd h.1 ‹_›) | exact readB_no hW (fun h => absurd h.2.1 ‹_›) | exact readB_no hW (fun h => absurd h.2.2.1 hna) | exact readB_no hW (fun h => absurd h.2.2.2 hnc))) (by omega)
                refine Ev.sm (tbs [(0, 0), (0, 0), (2, 3), (3, 7)]) 2 fun K hK => M.o (q.lvA [_, _] am_ag31 am_cl31) (M.o q.as (M.end [_, _, _] (h := S.sv [_, _] true [_, _] am_in31 am_cl31 (h := S.o q.as (S.end (hK _ ?_))))))
                clear hK K
                refine Ev.weaken (Wk.nsh Bundle.c 2 4) ?_
                refine Ev.ret ?_
                refine hR0 _ _ ?_
                refine Ev.retv3 (res_t (res_c [_, _] am_ag31 am_cl31 (res_t res_n))) ?_
                refine ⟨?_, rfl⟩
                first | rfl | (rw [e1, e2, e3, e4]; done) | (rw [e1, e2, e3, e4] <;> rfl)
              · first
              | (first | omega | contradiction)
              | refine S.o q.mv (S.o (q.lens am_el57) (S.o q.neq (S.o q.pf (S.bn q.mv (fun c38 => ?_) (fun c38 => ?_)))))
                · first
                | (first | omega | contradiction)
                | refine S.sk (S.sk (S.sk (S.sk (S.sk (S.o q.pt (S.o q.mv (S.sk (S.sk (S.sk (S.sk (S.sk (S.o q.pt (S.end (hK _ ?_))))))))))))))
                  clear hK K
                  refine Ev.ct ?_
                  obtain ⟨e1, e2, e3, e4⟩ := parse_bad hz2 (x := []) (n := (bs.length : Int) + 1) (by first | exact parI_end1 hJ (by omega) (by omega) | exact parI_bad hJ (hcd (by omega)) (by first | exact (read_short h4).1 | exact readB_no hW (fun h => absurd h.1 ‹_›) | exact readB_no hW (fun h => absurd h.2.1 ‹_›) | exact readB_no hW (fun h => absurd h.2.2.1 hna) | exact readB_no hW (fun h => absurd h.2.2.2 hnc))) (by omega)
                  refine Ev.sm (tbs [(0, 0), (0, 0), (2, 3), (3, 7)]) 2 fun K hK => M.o (q.lvA [_, _] am_ag31 am_cl31) (M.o q.as (M.end [_, _, _] (h := S.sv [_, _] true [_, _] am_in31 am_cl31 (h := S.o q.as (S.end (hK _ ?_))))))
                  clear hK K
                  refine Ev.weaken (Wk.nsh Bundle.c 2 4) ?_
                  refine Ev.ret ?_
                  refine hR0 _ _ ?_
                  refine Ev.retv3 (res_t (res_c [_, _] am_ag31 am_cl31 (res_t res_n))) ?_
                  refine ⟨?_, rfl⟩
                  first | rfl | (rw [e1, e2, e3, e4]; done) | (rw [e1, e2, e3, e4] <;> rfl)
                · first
                | (first | omega | contradiction)
                | refine S.o q.mv (S.o (q.ix am_el57 am_cl9 (hl := (by first | exact ati i0 (by omega) | exact ati i1 (by omega) | exact ati i2 (by omega) | exact ati i3 (by omega) | exact atig (by omega)))) (S.o (q.ls am_ag9) (S.c0 (hF := risName_fun _ (by omega)) (h := S.o q.not (S.o q.pf (S.bn q.mv (fun c39 => ?_) (fun c39 => ?_)))))))
                  · first
                  | (first | omega | contradiction)
                  | refine S.sk (S.sk (S.sk (S.sk (S.sk (S.o q.pt (S.end (hK _ ?_)))))))
                    clear hK K
                    refine Ev.ct ?_
                    obtain ⟨e1, e2, e3, e4⟩ := parse_bad hz2 (x := []) (n := (bs.length : Int) + 1) (by first | exact parI_end1 hJ (by omega) (by omega) | exact parI_bad hJ (hcd (by omega)) (by first | exact (read_short h4).1 | exact readB_no hW (fun h => absurd h.1 ‹_›) | exact readB_no hW (fun h => absurd h.2.1 ‹_›) | exact readB_no hW (fun h => absurd h.2.2.1 hna) | exact readB_no hW (fun h => absurd h.2.2.2 hnc))) (by omega)
                    refine Ev.sm (tbs [(0, 0), (0, 0), (2, 3), (3, 7)]) 2 fun K hK => M.o (q.lvA [_, _] am_ag31 am_cl31) (M.o q.as (M.end [_, _, _] (h := S.sv [_, _] true [_, _] am_in31 am_cl31 (h := S.o q.as (S.end (hK _ ?_))))))
                    clear hK K
                    refine Ev.weaken (Wk.nsh Bundle.c 2 4) ?_
                    refine Ev.ret ?_
                    refine hR0 _ _ ?_
                    refine Ev.retv3 (res_t (res_c [_, _] am_ag31 am_cl31 (res_t res_n))) ?_
                    refine ⟨?_, rfl⟩
                    first | rfl | (rw [e1, e2, e3, e4]; done) | (rw [e1, e2, e3, e4] <;> rfl)
                  · first
                  | (first | omega | contradiction)
                  | refine S.o q.mv (S.o (q.ix am_el57 am_cl9 (hl := (by first | exact ati i0 (by omega) | exact ati i1 (by omega) | exact ati i2 (by omega) | exact ati i3 (by omega) | exact atig (by omega)))) (S.o (q.ls am_ag9) (S.c0 (hF := risName_fun _ (by omega)) (h := S.o q.not (S.o q.pf (S.end (hK _ ?_)))))))
                    clear hK K
                    refine Ev.cn (fun c40 => ?_) (fun c40 => ?_)
                    · first | omega | contradiction
                    · first
                    | (first | omega | contradiction)
                    | refine Ev.skip ?_
                      show Ev _ _ _ _
                      refine Ev.sr fun K hK => S.o q.mv (S.o (q.ix am_el57 am_cl9 (hl := (by first | exact ati i0 (by omega) | exact ati i1 (by omega) | exact ati i2 (by omega) | exact ati i3 (by omega) | exact atig (by omega)))) (S.o (q.ls am_ag9) ?_))
                      by_cases hna : numOk15 a
                      · skip
                        refine S.c0 (hF := rint_yes _ (by omega) hna) (h := S.o q.mv (S.o q.ex (S.o q.ex (S.o q.as (S.o q.as (S.end (hK _ ?_)))))))
                        clear hK K
                        refine Ev.sr fun K hK => S.o q.mv (S.o (q.ix am_el57 am_cl9 (hl := (by first | exact ati i0 (by omega) | exact ati i1 (by omega) | exact ati i2 (by omega) | exact ati i3 (by omega) | exact atig (by omega)))) (S.o (q.ls am_ag9) ?_))
                        by_cases hnc : numOk15 c
                        · skip
                          refine S.c0 (hF := rint_yes _ (by omega) hnc) (h := S.o q.mv (S.o q.ex (S.o q.ex (S.o q.as (S.o q.as (S.end (hK _ ?_)))))))
                          clear hK K
                          refine Ev.seq ?_
                          refine Ev.sr fun K hK => S.o q.mv (S.o q.nott (S.o q.mv (S.o q.mv (S.o q.nott (S.o q.pf (S.end (hK _ ?_)))))))
                          clear hK K
                          refine Ev.cf ?_
                          refine Ev.skip ?_
                          show Ev _ _ _ _
                          have hcd2 := hcd (by omega)
                          have hrd := readB_of hW ⟨‹IsName t›, ‹IsName m›, hna, hnc⟩
                          have hcut := parI_cut hJ hcd2 hrd hz2
                          refine Ev.sm (tbs [(0, 0), (0, 0), (2, 2), (3, 6), (0, 0), (5, 16), (6, 48), (0, 0), (0, 0), (9, 510), (10, 1022), (11, 2047), (12, 4095)]) 11 fun K hK => M.o q.mv (M.o q.mv (M.o (q.ix am_el57 am_cl9 (hl := (by first | exact ati i0 (by omega) | exact ati i1 (by omega) | exact ati i2 (by omega) | exact ati i3 (by omega) | exact atig (by omega)))) (M.o (q.ls am_ag9) (M.o q.mv (M.o (q.ix am_el57 am_cl9 (hl := (by first | exact ati i0 (by omega) | exact ati i1 (by omega) | exact ati i2 (by omega) | exact ati i3 (by omega) | exact atig (by omega)))) (M.o (q.ls am_ag9) (M.o q.mv (M.o q.mv (M.o (q.bd [_, _, _, _] am_ze46 am_pl46) (M.nn [_] (q.bs [[_, _, _, _]] true am_el22 am_ze46 am_cl46) (h := M.end [_, _, _, _] (h := S.ap' [_, _, _] am_el22 am_ze46 am_cl46 am_by46 (hh := head_own') (hr := (rows_lit [(⟨t, m, numV a, numV c⟩ : Bundle)])) (h := S.o q.as (S.end (hK _ ?_)))))))))))))))
                          clear hK K
                          refine Ev.region_S fun K hK => S.o q.mv (S.o q.add (S.o q.mv (S.o q.add (S.o q.as (S.o q.as (S.end (hK _ ?_)))))))
                          clear hK K
                          refine hR0 _ _ ?_
                          refine roundU [47, 1] [0, 3] ⟨(bs ++ [⟨t, m, numV a, numV c⟩], i + 1), hcut⟩ ?_ (keep_c (he := (by first | rfl | (simp; done))) (h := (keep_c (he := (by first | rfl | (simp; done))) (h := keep_n)))) (slots_c (he := (by first | rfl | (simp; done))) (h := (slots_c (he := (by first | rfl | (simp; done))) (h := (slots_c (he := (by first | rfl | (simp; done))) (h := trivial)))))) (.c (.c .n))
                          skip
                          all_goals (dsimp only; omega)
                        · skip
                          refine S.c0 (hF := rint_no _ (by omega) hnc) (h := S.o q.mv (S.o q.ex (S.o q.ex (S.o q.as (S.o q.as (S.end (hK _ ?_)))))))
                          clear hK K
                          refine Ev.seq ?_
                          refine Ev.sr fun K hK => S.o q.mv (S.o q.nott (S.o q.mv (S.o q.mv (S.o q.notf (S.o q.pf (S.end (hK _ ?_)))))))
                          clear hK K
                          refine Ev.ct ?_
                          obtain ⟨e1, e2, e3, e4⟩ := parse_bad hz2 (x := []) (n := (bs.length : Int) + 1) (by first | exact parI_end1 hJ (by omega) (by omega) | exact parI_bad hJ (hcd (by omega)) (by first | exact (read_short h4).1 | exact readB_no hW (fun h => absurd h.1 ‹_›) | exact readB_no hW (fun h => absurd h.2.1 ‹_›) | exact readB_no hW (fun h => absurd h.2.2.1 hna) | exact readB_no hW (fun h => absurd h.2.2.2 hnc))) (by omega)
                          refine Ev.sm (tbs [(0, 0), (0, 0), (2, 3), (3, 7)]) 2 fun K hK => M.o (q.lvA [_, _] am_ag31 am_cl31) (M.o q.as (M.end [_, _, _] (h := S.sv [_, _] true [_, _] am_in31 am_cl31 (h := S.o q.as (S.end (hK _ ?_))))))
                          clear hK K
                          refine Ev.weaken (Wk.nsh Bundle.c 2 4) ?_
                          refine Ev.ret ?_
                          refine hR0 _ _ ?_
                          refine Ev.retv3 (res_t (res_c [_, _] am_ag31 am_cl31 (res_t res_n))) ?_
                          refine ⟨?_, rfl⟩
                          first | rfl | (rw [e1, e2, e3, e4]; done) | (rw [e1, e2, e3, e4] <;> rfl)
                      · skip
                        refine S.c0 (hF := rint_no _ (by omega) hna) (h := S.o q.mv (S.o q.ex (S.o q.ex (S.o q.as (S.o q.as (S.end (hK _ ?_)))))))
                        clear hK K
                        refine Ev.sr fun K hK => S.o q.mv (S.o (q.ix am_el57 am_cl9 (hl := (by first | exact ati i0 (by omega) | exact ati i1 (by omega) | exact ati i2 (by omega) | exact ati i3 (by omega) | exact atig (by omega)))) (S.o (q.ls am_ag9) ?_))
                        by_cases hnc : numOk15 c
                        · skip
                          refine S.c0 (hF := rint_yes _ (by omega) hnc) (h := S.o q.mv (S.o q.ex (S.o q.ex (S.o q.as (S.o q.as (S.end (hK _ ?_)))))))
                          clear hK K
                          refine Ev.seq ?_
                          refine Ev.sr fun K hK => S.o q.mv (S.o q.notf (S.o q.mv (S.sk (S.sk (S.o q.pt (S.end (hK _ ?_)))))))
                          clear hK K
                          refine Ev.ct ?_
                          obtain ⟨e1, e2, e3, e4⟩ := parse_bad hz2 (x := []) (n := (bs.length : Int) + 1) (by first | exact parI_end1 hJ (by omega) (by omega) | exact parI_bad hJ (hcd (by omega)) (by first | exact (read_short h4).1 | exact readB_no hW (fun h => absurd h.1 ‹_›) | exact readB_no hW (fun h => absurd h.2.1 ‹_›) | exact readB_no hW (fun h => absurd h.2.2.1 hna) | exact readB_no hW (fun h => absurd h.2.2.2 hnc))) (by omega)
                          refine Ev.sm (tbs [(0, 0), (0, 0), (2, 3), (3, 7)]) 2 fun K hK => M.o (q.lvA [_, _] am_ag31 am_cl31) (M.o q.as (M.end [_, _, _] (h := S.sv [_, _] true [_, _] am_in31 am_cl31 (h := S.o q.as (S.end (hK _ ?_))))))
                          clear hK K
                          refine Ev.weaken (Wk.nsh Bundle.c 2 4) ?_
                          refine Ev.ret ?_
                          refine hR0 _ _ ?_
                          refine Ev.retv3 (res_t (res_c [_, _] am_ag31 am_cl31 (res_t res_n))) ?_
                          refine ⟨?_, rfl⟩
                          first | rfl | (rw [e1, e2, e3, e4]; done) | (rw [e1, e2, e3, e4] <;> rfl)
                        · skip
                          refine S.c0 (hF := rint_no _ (by omega) hnc) (h := S.o q.mv (S.o q.ex (S.o q.ex (S.o q.as (S.o q.as (S.end (hK _ ?_)))))))
                          clear hK K
                          refine Ev.seq ?_
                          refine Ev.sr fun K hK => S.o q.mv (S.o q.notf (S.o q.mv (S.sk (S.sk (S.o q.pt (S.end (hK _ ?_)))))))
                          clear hK K
                          refine Ev.ct ?_
                          obtain ⟨e1, e2, e3, e4⟩ := parse_bad hz2 (x := []) (n := (bs.length : Int) + 1) (by first | exact parI_end1 hJ (by omega) (by omega) | exact parI_bad hJ (hcd (by omega)) (by first | exact (read_short h4).1 | exact readB_no hW (fun h => absurd h.1 ‹_›) | exact readB_no hW (fun h => absurd h.2.1 ‹_›) | exact readB_no hW (fun h => absurd h.2.2.1 hna) | exact readB_no hW (fun h => absurd h.2.2.2 hnc))) (by omega)
                          refine Ev.sm (tbs [(0, 0), (0, 0), (2, 3), (3, 7)]) 2 fun K hK => M.o (q.lvA [_, _] am_ag31 am_cl31) (M.o q.as (M.end [_, _, _] (h := S.sv [_, _] true [_, _] am_in31 am_cl31 (h := S.o q.as (S.end (hK _ ?_))))))
                          clear hK K
                          refine Ev.weaken (Wk.nsh Bundle.c 2 4) ?_
                          refine Ev.ret ?_
                          refine hR0 _ _ ?_
                          refine Ev.retv3 (res_t (res_c [_, _] am_ag31 am_cl31 (res_t res_n))) ?_
                          refine ⟨?_, rfl⟩
                          first | rfl | (rw [e1, e2, e3, e4]; done) | (rw [e1, e2, e3, e4] <;> rfl)
        · skip
          refine Ev.seq ?_
          refine Ev.sr fun K hK => S.o q.mv (S.o q.mv (S.o (q.slen am_el9 am_un9) (S.o q.lss (S.bd q.mv (fun c41 => ?_) (fun c41 => ?_)))))
          · first
          | (first | omega | contradiction)
          | refine S.o q.mv (S.o q.mv (S.o (q.six am_un9 (hl := (by first | exact ati i0 (by omega) | exact ati i1 (by omega) | exact ati i2 (by omega) | exact ati i3 (by omega) | exact atig (by omega)))) (S.o q.neq (S.o q.pt (S.end (hK _ ?_))))))
            clear hK K
            refine Ev.cn (fun c42 => ?_) (fun c42 => ?_)
            · first
            | (first | omega | contradiction)
            | refine Ev.skip ?_
              show Ev _ _ _ _
              refine Ev.block ?_
              refine Ev.region_S fun K hK => S.o q.mv (S.o q.add (S.o q.as (S.end (hK _ ?_))))
              clear hK K
              refine hR2 _ _ ?_
              refine roundU [0, 1] [0, 3, 6, 7, 19, 20, 21, 22, 23] ⟨i + 1, parI_on hJ (List.getElem?_eq_getElem hlt2) (fun e => h10 ((at10 hlt2).2 (by rw [List.getElem?_eq_getElem hlt2, e])))⟩ ?_ (keep_c (he := (by first | rfl | (simp; done))) (h := (keep_c (he := (by first | rfl | (simp; done))) (h := keep_n)))) (slots_c (he := (by first | rfl | (simp; done))) (h := (slots_c (he := (by first | rfl | (simp; done) | (congr 2; omega))) (h := trivial)))) (.c (.c (.c (.c (.c (.c (.c (.c (.c .n)))))))))
              skip
              all_goals (dsimp only; omega)
            · first | omega | contradiction
          · first
          | (first | omega | contradiction)
          | refine S.sk (S.sk (S.sk (S.sk (S.o q.pf (S.end (hK _ ?_))))))
            clear hK K
            refine Ev.cf ?_
            refine Ev.exit ?_
            refine hR2 _ _ ?_
            show Ev _ _ _ _
            have hcd : ¬ (i : Int) = z.length → z[i]? = some 10 := fun hne => by first | exact (at10 ‹i < z.length›).1 ‹_› | (exfalso; omega)
            have hJa := hJ.a
            have hJb := hJ.b
            refine Ev.sr fun K hK => S.o q.mv (S.o q.mv (S.o q.mv (S.o (q.slbo am_el9 am_un9) ?_)))
            have hll : (lineAt z fr i).length ≤ 262144 := (by simp only [lineAt, List.length_drop, List.length_take]; omega)
            have hs1 := splitG_len 0 32 (lineAt z fr i)
            have hs2 : Go.Lib.countByte (lineAt z fr i) 32 ≤ (lineAt z fr i).length := List.count_le_length
            rcases four_or (lineAt z fr i) with ⟨t, m, a, c, hW, i0, i1, i2, i3, htl, hml, hal, hcl⟩ | h4
            · skip
              refine S.c0 (hF := words_four hll hW) (h := S.o q.as (S.end (hK _ ?_)))
              clear hK K
              refine Ev.sr fun K hK => S.o q.mv (S.o (q.bd [_, _] am_ze31 am_pl31) (S.nn (q.al am_ze31) (S.sv [_, _] true [_, _] am_in31 am_cl31 (h := S.end (hK _ ?_)))))
              clear hK K
              refine Ev.seq ?_
              refine Ev.sr fun K hK => S.o q.mv (S.o q.mv (S.o (q.slen am_el9 am_un9) (S.o q.eql (S.bd q.mv (fun c43 => ?_) (fun c43 => ?_)))))
              · first
              | (first | omega | contradiction)
              | refine S.sk (S.sk (S.sk (S.o q.pt (S.o q.mv (S.sk (S.sk (S.sk (S.sk (S.sk (S.o q.pt (S.o q.mv (S.sk (S.sk (S.sk (S.sk (S.sk (S.o q.pt (S.end (hK _ ?_)))))))))))))))))))
                clear hK K
                refine Ev.ct ?_
                obtain ⟨e1, e2, e3, e4⟩ := parse_bad hz2 (x := []) (n := (bs.length : Int) + 1) (by first | exact parI_end1 hJ (by omega) (by omega) | exact parI_bad hJ (hcd (by omega)) (by first | exact (read_short h4).1 | exact readB_no hW (fun h => absurd h.1 ‹_›) | exact readB_no hW (fun h => absurd h.2.1 ‹_›) | exact readB_no hW (fun h => absurd h.2.2.1 hna) | exact readB_no hW (fun h => absurd h.2.2.2 hnc))) (by omega)
                refine Ev.sm (tbs [(0, 0), (0, 0), (2, 3), (3, 7)]) 2 fun K hK => M.o (q.lvA [_, _] am_ag31 am_cl31) (M.o q.as (M.end [_, _, _] (h := S.sv [_, _] true [_, _] am_in31 am_cl31 (h := S.o q.as (S.end (hK _ ?_))))))
                clear hK K
                refine Ev.weaken (Wk.nsh Bundle.c 2 4) ?_
                refine Ev.ret ?_
                refine hR0 _ _ ?_
                refine Ev.retv3 (res_t (res_c [_, _] am_ag31 am_cl31 (res_t res_n))) ?_
                refine ⟨?_, rfl⟩
                first | rfl | (rw [e1, e2, e3, e4]; done) | (rw [e1, e2, e3, e4] <;> rfl)
              · first
              | (first | omega | contradiction)
              | refine S.o q.mv (S.o (q.lens am_el57) (S.o q.neq (S.o q.pf (S.bn q.mv (fun c44 => ?_) (fun c44 => ?_)))))
                · first
                | (first | omega | contradiction)
                | refine S.sk (S.sk (S.sk (S.sk (S.sk (S.o q.pt (S.o q.mv (S.sk (S.sk (S.sk (S.sk (S.sk (S.o q.pt (S.end (hK _ ?_))))))))))))))
                  clear hK K
                  refine Ev.ct ?_
                  obtain ⟨e1, e2, e3, e4⟩ := parse_bad hz2 (x := []) (n := (bs.length : Int) + 1) (by first | exact parI_end1 hJ (by omega) (by omega) | exact parI_bad hJ (hcd (by omega)) (by first | exact (read_short h4).1 | exact readB_no hW (fun h => absurd h.1 ‹_›) | exact readB_no hW (fun h => absurd h.2.1 ‹_›) | exact readB_no hW (fun h => absurd h.2.2.1 hna) | exact readB_no hW (fun h => absurd h.2.2.2 hnc))) (by omega)
                  refine Ev.sm (tbs [(0, 0), (0, 0), (2, 3), (3, 7)]) 2 fun K hK => M.o (q.lvA [_, _] am_ag31 am_cl31) (M.o q.as (M.end [_, _, _] (h := S.sv [_, _] true [_, _] am_in31 am_cl31 (h := S.o q.as (S.end (hK _ ?_))))))
                  clear hK K
                  refine Ev.weaken (Wk.nsh Bundle.c 2 4) ?_
                  refine Ev.ret ?_
                  refine hR0 _ _ ?_
                  refine Ev.retv3 (res_t (res_c [_, _] am_ag31 am_cl31 (res_t res_n))) ?_
                  refine ⟨?_, rfl⟩
                  first | rfl | (rw [e1, e2, e3, e4]; done) | (rw [e1, e2, e3, e4] <;> rfl)
                · first
                | (first | omega | contradiction)
                | refine S.o q.mv (S.o (q.ix am_el57 am_cl9 (hl := (by first | exact ati i0 (by omega) | exact ati i1 (by omega) | exact ati i2 (by omega) | exact ati i3 (by omega) | exact atig (by omega)))) (S.o (q.ls am_ag9) (S.c0 (hF := risName_fun _ (by omega)) (h := S.o q.not (S.o q.pf (S.bn q.mv (fun c45 => ?_) (fun c45 => ?_)))))))
                  · first
                  | (first | omega | contradiction)
                  | refine S.sk (S.sk (S.sk (S.sk (S.sk (S.o q.pt (S.end (hK _ ?_)))))))
                    clear hK K
                    refine Ev.ct ?_
                    obtain ⟨e1, e2, e3, e4⟩ := parse_bad hz2 (x := []) (n := (bs.length : Int) + 1) (by first | exact parI_end1 hJ (by omega) (by omega) | exact parI_bad hJ (hcd (by omega)) (by first | exact (read_short h4).1 | exact readB_no hW (fun h => absurd h.1 ‹_›) | exact readB_no hW (fun h => absurd h.2.1 ‹_›) | exact readB_no hW (fun h => absurd h.2.2.1 hna) | exact readB_no hW (fun h => absurd h.2.2.2 hnc))) (by omega)
                    refine Ev.sm (tbs [(0, 0), (0, 0), (2, 3), (3, 7)]) 2 fun K hK => M.o (q.lvA [_, _] am_ag31 am_cl31) (M.o q.as (M.end [_, _, _] (h := S.sv [_, _] true [_, _] am_in31 am_cl31 (h := S.o q.as (S.end (hK _ ?_))))))
                    clear hK K
                    refine Ev.weaken (Wk.nsh Bundle.c 2 4) ?_
                    refine Ev.ret ?_
                    refine hR0 _ _ ?_
                    refine Ev.retv3 (res_t (res_c [_, _] am_ag31 am_cl31 (res_t res_n))) ?_
                    refine ⟨?_, rfl⟩
                    first | rfl | (rw [e1, e2, e3, e4]; done) | (rw [e1, e2, e3, e4] <;> rfl)
                  · first
                  | (first | omega | contradiction)
                  | refine S.o q.mv (S.o (q.ix am_el57 am_cl9 (hl := (by first | exact ati i0 (by omega) | exact ati i1 (by omega) | exact ati i2 (by omega) | exact ati i3 (by omega) | exact atig (by omega)))) (S.o (q.ls am_ag9) (S.c0 (hF := risName_fun _ (by omega)) (h := S.o q.not (S.o q.pf (S.end (hK _ ?_)))))))
                    clear hK K
                    refine Ev.cn (fun c46 => ?_) (fun c46 => ?_)
                    · first
                    | (first | omega | contradiction)
                    | obtain ⟨e1, e2, e3, e4⟩ := parse_bad hz2 (x := []) (n := (bs.length : Int) + 1) (by first | exact parI_end1 hJ (by omega) (by omega) | exact parI_bad hJ (hcd (by omega)) (by first | exact (read_short h4).1 | exact readB_no hW (fun h => absurd h.1 ‹_›) | exact readB_no hW (fun h => absurd h.2.1 ‹_›) | exact readB_no hW (fun h => absurd h.2.2.1 hna) | exact readB_no hW (fun h => absurd h.2.2.2 hnc))) (by omega)
                      refine Ev.sm (tbs [(0, 0), (0, 0), (2, 3), (3, 7)]) 2 fun K hK => M.o (q.lvA [_, _] am_ag31 am_cl31) (M.o q.as (M.end [_, _, _] (h := S.sv [_, _] true [_, _] am_in31 am_cl31 (h := S.o q.as (S.end (hK _ ?_))))))
                      clear hK K
                      refine Ev.weaken (Wk.nsh Bundle.c 2 4) ?_
                      refine Ev.ret ?_
                      refine hR0 _ _ ?_
                      refine Ev.retv3 (res_t (res_c [_, _] am_ag31 am_cl31 (res_t res_n))) ?_
                      refine ⟨?_, rfl⟩
                      first | rfl | (rw [e1, e2, e3, e4]; done) | (rw [e1, e2, e3, e4] <;> rfl)
                    · first | omega | contradiction
            · skip
              refine S.c0 (hF := words_len _ hll h4) (h := S.o q.as (S.end (hK _ ?_)))
              clear hK K
              refine Ev.sr fun K hK => S.o q.mv (S.o (q.bd [_, _] am_ze31 am_pl31) (S.nn (q.al am_ze31) (S.sv [_, _] true [_, _] am_in31 am_cl31 (h := S.end (hK _ ?_)))))
              clear hK K
              refine Ev.seq ?_
              refine Ev.sr fun K hK => S.o q.mv (S.o q.mv (S.o (q.slen am_el9 am_un9) (S.o q.eql (S.bd q.mv (fun c47 => ?_) (fun c47 => ?_)))))
              · first
              | (first | omega | contradiction)
              | refine S.sk (S.sk (S.sk (S.o q.pt (S.o q.mv (S.sk (S.sk (S.sk (S.sk (S.sk (S.o q.pt (S.o q.mv (S.sk (S.sk (S.sk (S.sk (S.sk (S.o q.pt (S.end (hK _ ?_)))))))))))))))))))
                clear hK K
                refine Ev.ct ?_
                obtain ⟨e1, e2, e3, e4⟩ := parse_bad hz2 (x := []) (n := (bs.length : Int) + 1) (by first | exact parI_end1 hJ (by omega) (by omega) | exact parI_bad hJ (hcd (by omega)) (by first | exact (read_short h4).1 | exact readB_no hW (fun h => absurd h.1 ‹_›) | exact readB_no hW (fun h => absurd h.2.1 ‹_›) | exact readB_no hW (fun h => absurd h.2.2.1 hna) | exact readB_no hW (fun h => absurd h.2.2.2 hnc))) (by omega)
                refine Ev.sm (tbs [(0, 0), (0, 0), (2, 3), (3, 7)]) 2 fun K hK => M.o (q.lvA [_, _] am_ag31 am_cl31) (M.o q.as (M.end [_, _, _] (h := S.sv [_, _] true [_, _] am_in31 am_cl31 (h := S.o q.as (S.end (hK _ ?_))))))
                clear hK K
                refine Ev.weaken (Wk.nsh Bundle.c 2 4) ?_
                refine Ev.ret ?_
                refine hR0 _ _ ?_
                refine Ev.retv3 (res_t (res_c [_, _] am_ag31 am_cl31 (res_t res_n))) ?_
                refine ⟨?_, rfl⟩
                first | rfl | (rw [e1, e2, e3, e4]; done) | (rw [e1, e2, e3, e4] <;> rfl)
              · first
              | (first | omega | contradiction)
              | refine S.o q.mv (S.o (q.lens am_el57) (S.o q.neq (S.o q.pf (S.bn q.mv (fun c48 => ?_) (fun c48 => ?_)))))
                · first
                | (first | omega | contradiction)
                | refine S.sk (S.sk (S.sk (S.sk (S.sk (S.o q.pt (S.o q.mv (S.sk (S.sk (S.sk (S.sk (S.sk (S.o q.pt (S.end (hK _ ?_))))))))))))))
                  clear hK K
                  refine Ev.ct ?_
                  obtain ⟨e1, e2, e3, e4⟩ := parse_bad hz2 (x := []) (n := (bs.length : Int) + 1) (by first | exact parI_end1 hJ (by omega) (by omega) | exact parI_bad hJ (hcd (by omega)) (by first | exact (read_short h4).1 | exact readB_no hW (fun h => absurd h.1 ‹_›) | exact readB_no hW (fun h => absurd h.2.1 ‹_›) | exact readB_no hW (fun h => absurd h.2.2.1 hna) | exact readB_no hW (fun h => absurd h.2.2.2 hnc))) (by omega)
                  refine Ev.sm (tbs [(0, 0), (0, 0), (2, 3), (3, 7)]) 2 fun K hK => M.o (q.lvA [_, _] am_ag31 am_cl31) (M.o q.as (M.end [_, _, _] (h := S.sv [_, _] true [_, _] am_in31 am_cl31 (h := S.o q.as (S.end (hK _ ?_))))))
                  clear hK K
                  refine Ev.weaken (Wk.nsh Bundle.c 2 4) ?_
                  refine Ev.ret ?_
                  refine hR0 _ _ ?_
                  refine Ev.retv3 (res_t (res_c [_, _] am_ag31 am_cl31 (res_t res_n))) ?_
                  refine ⟨?_, rfl⟩
                  first | rfl | (rw [e1, e2, e3, e4]; done) | (rw [e1, e2, e3, e4] <;> rfl)
                · first
                | (first | omega | contradiction)
                | refine S.o q.mv (S.o (q.ix am_el57 am_cl9 (hl := (by first | exact ati i0 (by omega) | exact ati i1 (by omega) | exact ati i2 (by omega) | exact ati i3 (by omega) | exact atig (by omega)))) (S.o (q.ls am_ag9) (S.c0 (hF := risName_fun _ (by omega)) (h := S.o q.not (S.o q.pf (S.bn q.mv (fun c49 => ?_) (fun c49 => ?_)))))))
                  · first
                  | (first | omega | contradiction)
                  | refine S.sk (S.sk (S.sk (S.sk (S.sk (S.o q.pt (S.end (hK _ ?_)))))))
                    clear hK K
                    refine Ev.ct ?_
                    obtain ⟨e1, e2, e3, e4⟩ := parse_bad hz2 (x := []) (n := (bs.length : Int) + 1) (by first | exact parI_end1 hJ (by omega) (by omega) | exact parI_bad hJ (hcd (by omega)) (by first | exact (read_short h4).1 | exact readB_no hW (fun h => absurd h.1 ‹_›) | exact readB_no hW (fun h => absurd h.2.1 ‹_›) | exact readB_no hW (fun h => absurd h.2.2.1 hna) | exact readB_no hW (fun h => absurd h.2.2.2 hnc))) (by omega)
                    refine Ev.sm (tbs [(0, 0), (0, 0), (2, 3), (3, 7)]) 2 fun K hK => M.o (q.lvA [_, _] am_ag31 am_cl31) (M.o q.as (M.end [_, _, _] (h := S.sv [_, _] true [_, _] am_in31 am_cl31 (h := S.o q.as (S.end (hK _ ?_))))))
                    clear hK K
                    refine Ev.weaken (Wk.nsh Bundle.c 2 4) ?_
                    refine Ev.ret ?_
                    refine hR0 _ _ ?_
                    refine Ev.retv3 (res_t (res_c [_, _] am_ag31 am_cl31 (res_t res_n))) ?_
                    refine ⟨?_, rfl⟩
                    first | rfl | (rw [e1, e2, e3, e4]; done) | (rw [e1, e2, e3, e4] <;> rfl)
                  · first
                  | (first | omega | contradiction)
                  | refine S.o q.mv (S.o (q.ix am_el57 am_cl9 (hl := (by first | exact ati i0 (by omega) | exact ati i1 (by omega) | exact ati i2 (by omega) | exact ati i3 (by omega) | exact atig (by omega)))) (S.o (q.ls am_ag9) (S.c0 (hF := risName_fun _ (by omega)) (h := S.o q.not (S.o q.pf (S.end (hK _ ?_)))))))
                    clear hK K
                    refine Ev.cn (fun c50 => ?_) (fun c50 => ?_)
                    · first
                    | (first | omega | contradiction)
                    | obtain ⟨e1, e2, e3, e4⟩ := parse_bad hz2 (x := []) (n := (bs.length : Int) + 1) (by first | exact parI_end1 hJ (by omega) (by omega) | exact parI_bad hJ (hcd (by omega)) (by first | exact (read_short h4).1 | exact readB_no hW (fun h => absurd h.1 ‹_›) | exact readB_no hW (fun h => absurd h.2.1 ‹_›) | exact readB_no hW (fun h => absurd h.2.2.1 hna) | exact readB_no hW (fun h => absurd h.2.2.2 hnc))) (by omega)
                      refine Ev.sm (tbs [(0, 0), (0, 0), (2, 3), (3, 7)]) 2 fun K hK => M.o (q.lvA [_, _] am_ag31 am_cl31) (M.o q.as (M.end [_, _, _] (h := S.sv [_, _] true [_, _] am_in31 am_cl31 (h := S.o q.as (S.end (hK _ ?_))))))
                      clear hK K
                      refine Ev.weaken (Wk.nsh Bundle.c 2 4) ?_
                      refine Ev.ret ?_
                      refine hR0 _ _ ?_
                      refine Ev.retv3 (res_t (res_c [_, _] am_ag31 am_cl31 (res_t res_n))) ?_
                      refine ⟨?_, rfl⟩
                      first | rfl | (rw [e1, e2, e3, e4]; done) | (rw [e1, e2, e3, e4] <;> rfl)
                    · first | omega | contradiction
      · first | omega | contradiction
end Go.Proofs.YtnbjmckhongidaaGreatDoor
namespace Go.Proofs.YtnbjmckhongidaaGreatDoor
open Go Go.AM
set_option linter.unusedSimpArgs false
set_option linter.unusedVariables false
set_option maxRecDepth 100000
set_option maxHeartbeats 1000000

theorem lineX_eq (b : Bundle) : b.tag ++ [32] ++ b.mark ++ [32] ++ Go.Lib.itoa b.count ++ [32] ++ Go.Lib.itoa b.mass ++ [10] = lineX b := by simp [lineX, joinS, wordsU, sepcat]
theorem rText_fun (l : List Bundle) (hok : okBuns l) : Fun Tryz.prog 8 [.sh 4 (l.map Bundle.c)] (Ret (.lit (str (textU l))) []) := by
  have hll := hok.1
  refine Fun.of (nt := 43) (rs := [.tmp 2]) Tryz.func8 rfl rfl rfl rfl rfl ?_
  refine Ev.sr fun K hK => S.o q.as (S.end (hK _ ?_))
  clear hK K
  refine Ev.sr fun K hK => S.o q.as (S.end (hK _ ?_))
  clear hK K
  refine Ev.seq ?_
  refine Ev.sr fun K hK => S.o q.as (S.end (hK _ ?_))
  clear hK K
  refine Ev.block ?_
  refine Ev.loopU (ι := {p : List (Bundle) × List (Bundle) // p.1 ++ p.2 = l ∧ True}) [] [0, 2] (fun ⟨(pre, suf), _⟩ => [(4, .lit (.int .i64 ((pre.length : Int)))), (3, .lit (str (textU pre)))]) (fun ⟨(pre, suf), _⟩ => []) (fun ⟨(pre, suf), _⟩ => suf.length) ⟨([], l), rfl, trivial⟩ (.c (.c .n)) keep_n (slots_c (he := (by first | rfl | (congr 2; simp; done))) (h := (slots_c (he := (by first | rfl | (rw [textU_snoc, ← lineX_eq]; simp only [List.append_assoc]; done))) (h := trivial)))) ?_
  rintro ⟨⟨pre, suf⟩, hp, hinv⟩ R0 hR0
  dsimp only [List.cons_append, List.nil_append, List.length_cons, List.length_nil]
  simp only at hp hinv
  have hpl : pre.length + suf.length = (l).length := by rw [← hp, List.length_append]
  rcases suf with _ | ⟨s, suf⟩
  · rw [List.append_nil] at hp; rw [hp]; simp only [List.length_nil] at hpl
    refine Ev.seq ?_
    refine Ev.sr fun K hK => S.o q.mv (S.o q.mv (S.o (q.lens am_el22) (S.o q.lss (S.end (hK _ ?_)))))
    clear hK K
    refine Ev.cd (fun c1 => ?_) (fun c1 => ?_)
    · first | omega | contradiction
    · first
    | (first | omega | contradiction)
    | refine Ev.exit ?_
      refine hR0 _ _ ?_
      show Ev _ _ _ _
      refine Ev.sr fun K hK => S.o q.mv (S.o q.as (S.end (hK _ ?_)))
      clear hK K
      refine Ev.ret ?_
      refine Ev.ret1 ?_
      refine ⟨?_, rfl⟩
      rfl
  · simp only [List.length_cons] at hpl
    have hidx : l[pre.length]? = some s := by rw [← hp]; simp
    have hsk : okBun s := hok.2.1 s (by rw [← hp]; simp)
    have hk1 := hsk.2.2.1
    have hk2 := hsk.2.2.2.1
    have hk3 := hsk.2.2.2.2.1
    have hk4 := hsk.2.2.2.2.2
    have hn1 := isName_len hsk.1
    have hn2 := isName_len hsk.2.1
    obtain ⟨hlt, hlt0, hlc, hlm⟩ := lineX_len hsk
    have hpt := textU_len pre (fun c hc => hok.2.1 c (by rw [← hp]; simp [hc]))
    refine Ev.seq ?_
    refine Ev.sr fun K hK => S.o q.mv (S.o q.mv (S.o (q.lens am_el22) (S.o q.lss (S.end (hK _ ?_)))))
    clear hK K
    refine Ev.cd (fun c2 => ?_) (fun c2 => ?_)
    · first
    | (first | omega | contradiction)
    | refine Ev.skip ?_
      show Ev _ _ _ _
      refine Ev.seq ?_
      refine Ev.block ?_
      refine Ev.region_M (tbs [(0, 0), (0, 0), (0, 0), (3, 6), (4, 14), (5, 30), (6, 63), (7, 127), (0, 0), (0, 0), (10, 768), (11, 1792), (12, 3840), (13, 8191), (14, 16383), (0, 0), (0, 0), (17, 98304), (18, 229376), (19, 491520), (20, 1015808), (21, 2097151), (22, 4194303), (0, 0), (0, 0), (25, 25165824), (26, 58720256), (27, 125829120), (28, 262111232), (29, 536870911), (30, 1073741823), (31, 2147483647)]) 31 fun K hK => M.o q.mv (M.o q.mv (M.o q.mv (M.o (q.ix am_el22 am_cl46 (hl := (by first | exact ati hidx (by omega) | exact atig (by omega)))) (M.o (q.fs 0 am_fi46_0 am_cl9) (M.o (q.ls am_ag9) (M.o q.sadd (M.o q.sadd (M.o q.mv (M.o q.mv (M.o (q.ix am_el22 am_cl46 (hl := (by first | exact ati hidx (by omega) | exact atig (by omega)))) (M.o (q.fs 1 am_fi46_1 am_cl9) (M.o (q.ls am_ag9) (M.o q.sadd (M.o q.sadd (M.o q.mv (M.o q.mv (M.o (q.ix am_el22 am_cl46 (hl := (by first | exact ati hidx (by omega) | exact atig (by omega)))) (M.o (q.fs 2 am_fi46_2 am_cl3) (M.o (q.ls am_ag3) (M.c0 (hF := number_fun _ (by omega) (by omega)) (h := M.o q.sadd (M.o q.sadd (M.o q.mv (M.o q.mv (M.o (q.ix am_el22 am_cl46 (hl := (by first | exact ati hidx (by omega) | exact atig (by omega)))) (M.o (q.fs 3 am_fi46_3 am_cl3) (M.o (q.ls am_ag3) (M.c0 (hF := number_fun _ (by omega) (by omega)) (h := M.o q.sadd (M.o q.sadd (M.end [] (h := S.o q.as (S.end (hK _ ?_))))))))))))))))))))))))))))))))))
      clear hK K
      show Ev _ _ _ _
      refine Ev.region_S fun K hK => S.o q.mv (S.o q.add (S.o q.as (S.end (hK _ ?_))))
      clear hK K
      refine hR0 _ _ ?_
      refine roundU [] [0, 2] ⟨(pre ++ [s], suf), by rw [← hp]; simp, ?_⟩ ?_ keep_n (slots_c (he := (by first | rfl | (congr 2; simp; done))) (h := (slots_c (he := (by first | rfl | (rw [textU_snoc, ← lineX_eq]; simp only [List.append_assoc]; done))) (h := trivial)))) (.c (.c .n))
      trivial
      all_goals (dsimp only; simp only [List.length_cons]; omega)
    · first | omega | contradiction
end Go.Proofs.YtnbjmckhongidaaGreatDoor
