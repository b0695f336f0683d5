/-
  Chapter 23: the law DemandLines, walked.
  Conditions: none.
-/
import Derived.Test.YtnomiafjeiijkaaDoorDm9
import Derived.Test.YtnomiafjeiijkaaDoorSpl
namespace Go.Proofs.YtnomiafjeiijkaaDoor
open Go Go.AM
set_option linter.unusedSimpArgs false
set_option linter.unusedVariables false
set_option maxRecDepth 100000
set_option maxHeartbeats 1000000

theorem word_all : ∀ {l : List UInt8}, wordN l = l.length → ∀ x ∈ l, IsW (x.toNat : Int)
  | [], _, x, hx => by cases hx
  | c :: l, h, x, hx => by
    rw [wordN, List.length_cons] at h
    split at h
    · rename_i hc
      rcases List.mem_cons.1 hx with rfl | hx
      · exact hc
      · exact word_all (by omega) x hx
    · omega
theorem name_no {s : List UInt8} (h : IsName s) : (32 : UInt8) ∉ s ∧ (10 : UInt8) ∉ s := by
  have ha := word_all h.2.2.2
  constructor
  · intro hm
    have := ha _ hm
    revert this; decide
  · intro hm
    have := ha _ hm
    revert this; decide
theorem dec_digs : ∀ (u : Nat), ∀ x ∈ Go.Lib.decDigits u, 48 ≤ x.toNat ∧ x.toNat ≤ 57 := by
  intro u
  induction u using Nat.strongRecOn with
  | _ u ih =>
    intro x hx
    have hb : ∀ k : Nat, k < 10 → (UInt8.ofNat (48 + k)).toNat = 48 + k := fun k hk => by rw [UInt8.toNat_ofNat']; omega
    rw [Go.Lib.decDigits] at hx
    split at hx
    · rename_i h
      rw [List.mem_singleton] at hx
      subst hx
      rw [hb u h]; omega
    · rename_i h
      simp only [List.mem_append, List.mem_singleton] at hx
      rcases hx with hx | rfl
      · exact ih (u / 10) (by omega) x hx
      · rw [hb _ (Nat.mod_lt _ (by decide))]; omega
theorem itoa_no (n : Int) : (32 : UInt8) ∉ Go.Lib.itoa n ∧ (10 : UInt8) ∉ Go.Lib.itoa n := by
  have ha : ∀ x ∈ Go.Lib.itoa n, x = 45 ∨ (48 ≤ x.toNat ∧ x.toNat ≤ 57) := by
    intro x hx
    unfold Go.Lib.itoa at hx
    split at hx
    · rcases List.mem_cons.1 hx with rfl | hx
      · exact .inl rfl
      · exact .inr (dec_digs _ x hx)
    · exact .inr (dec_digs _ x hx)
  constructor
  · intro hm
    rcases ha _ hm with h | h
    · revert h; decide
    · revert h; decide
  · intro hm
    rcases ha _ hm with h | h
    · revert h; decide
    · revert h; decide
/-- Words behind one another. -/
def glueW (ws : List (List UInt8)) : List UInt8 := ws.flatMap fun w => 32 :: w
theorem split_glue : ∀ (ws : List (List UInt8)) (w : List UInt8), (32 : UInt8) ∉ w → (∀ x ∈ ws, (32 : UInt8) ∉ x) → splitG 0 32 (w ++ glueW ws) = w :: ws
  | [], w, h, _ => by simp [glueW, splitG_no 0 h]
  | x :: ws, w, h, hw => by
    have e : w ++ glueW (x :: ws) = w ++ 32 :: (x ++ glueW ws) := by simp [glueW]
    rw [e, splitG_app 0 _ h, split_glue ws x (hw x (by simp)) (fun y hy => hw y (by simp [hy]))]
    simp
def stW (l : List (Int × Int)) : List (List UInt8) := l.flatMap fun s => [Go.Lib.itoa s.1, Go.Lib.itoa s.2]
theorem stW_len (l : List (Int × Int)) : (stW l).length = 2 * l.length := by
  induction l with
  | nil => rfl
  | cons a l ih => simp only [stW, List.flatMap_cons, List.length_append, List.length_cons, List.length_nil] at ih ⊢; omega
theorem glue_st : ∀ l : List (Int × Int), glueW (stW l) = stepsT l
  | [] => rfl
  | s :: l => by
    have ih := glue_st l
    have e1 : stW (s :: l) = [Go.Lib.itoa s.1, Go.Lib.itoa s.2] ++ stW l := rfl
    have e2 : stepsT (s :: l) = numsT [s.1, s.2] ++ stepsT l := rfl
    rw [e1, e2, ← ih]
    simp [glueW, numsT]
def demandW : List UInt8 := [100, 101, 109, 97, 110, 100]
/-- The words of a demand's line behind the first. -/
def wordsD (d : Dem) : List (List UInt8) := [d.name, [121], Go.Lib.itoa d.zone.ly, Go.Lib.itoa d.zone.hy, [122], Go.Lib.itoa d.zone.lz, Go.Lib.itoa d.zone.hz] ++ stW d.steps
def lineD (d : Dem) : List UInt8 := headT d ++ stepsT d.steps
theorem line_glue (d : Dem) : lineD d = demandW ++ glueW (wordsD d) := by
  have e : glueW (wordsD d) = glueW [d.name, [121], Go.Lib.itoa d.zone.ly, Go.Lib.itoa d.zone.hy, [122], Go.Lib.itoa d.zone.lz, Go.Lib.itoa d.zone.hz] ++ stepsT d.steps := by
    rw [← glue_st]; simp [wordsD, glueW]
  rw [e, ← List.append_assoc, lineD]
  congr 1
  simp [headT, numsT, glueW, demandW]
theorem words_no {d : Dem} (h : okDem d) : ∀ w ∈ wordsD d, (32 : UInt8) ∉ w ∧ (10 : UInt8) ∉ w := by
  intro w hw
  simp only [wordsD, List.mem_append, List.mem_cons, List.not_mem_nil, or_false] at hw
  rcases hw with (rfl | rfl | rfl | rfl | rfl | rfl | rfl) | hw
  · exact name_no h.1
  · exact ⟨by decide, by decide⟩
  · exact itoa_no _
  · exact itoa_no _
  · exact ⟨by decide, by decide⟩
  · exact itoa_no _
  · exact itoa_no _
  · simp only [stW, List.mem_flatMap, List.mem_cons, List.not_mem_nil, or_false] at hw
    obtain ⟨s, _, rfl | rfl⟩ := hw <;> exact itoa_no _
theorem line_no {d : Dem} (h : okDem d) : (10 : UInt8) ∉ lineD d := by
  rw [line_glue]
  simp only [List.mem_append, not_or, glueW, List.mem_flatMap, not_exists, not_and]
  refine ⟨by decide, fun w hw hm => ?_⟩
  rcases List.mem_cons.1 hm with hm | hm
  · revert hm; decide
  · exact (words_no h w hw).2 hm
theorem line_split {d : Dem} (h : okDem d) : splitG 0 32 (lineD d) = demandW :: wordsD d := by
  rw [line_glue]
  exact split_glue _ _ (by decide) fun w hw => (words_no h w hw).1
theorem line_cut {d : Dem} (h : okDem d) (l : List Dem) : cutB 10 (textL (d :: l)) = (lineD d, textL l, true) := by
  have e : textL (d :: l) = lineD d ++ 10 :: textL l := by simp [textL, textD, lineD]
  rw [e]
  exact cutB_app (line_no h)
theorem textL_app (a b : List Dem) : textL (a ++ b) = textL a ++ textL b := by simp [textL]
theorem textL_len2 : ∀ l : List Dem, (∀ d ∈ l, okDem d ∧ d.steps.length ≤ 16) → (textL l).length ≤ 905 * l.length := by
  refine snoc_ind (fun _ => by simp [textL]) ?_
  intro l d ih h
  have h1 := ih fun s hs => h s (by simp [hs])
  have h0 := h d (by simp)
  have h2 := headT_len h0.1
  have h3 := stepsT_len d.steps h0.1.2.2.2.1
  have h4 := h0.2
  rw [textL_snoc]
  simp only [List.length_append, List.length_singleton]
  omega
theorem okDems_sub {a l : List Dem} (h : okDems l) (hs : a.Sublist l) : okDems a := ⟨Nat.le_trans hs.length_le h.1, fun d hd => h.2.1 d (hs.subset hd), h.2.2.sublist hs⟩
theorem demW_sub {a l : List Dem} (h : demW l) (hs : a.Sublist l) : demW a := fun d hd => h d (hs.subset hd)
theorem tx_ok {l : List Dem} (h : okDems l) : txV l = textL l ∧ txE l = 0 := ⟨if_pos h, if_pos h⟩
theorem small_steps {l : List Dem} (h : okDems l) (hs : smD l 8) : l.length ≤ 8 ∧ ∀ d ∈ l, okDem d ∧ d.steps.length ≤ 16 := by
  obtain ⟨h1, h2⟩ := hs
  have h3 := h.1
  refine ⟨by omega, fun d hd => ⟨h.2.1 d hd, ?_⟩⟩
  have h4 := h2 d hd
  have h5 := (h.2.1 d hd).2.2.1
  omega
theorem wf_u8d {k : Int} (h : (Go.Lit.int .u8 k).wf = true) : 0 ≤ k ∧ k ≤ 255 := by
  have e1 : IntKind.u8.min = 0 := rfl
  have e2 : IntKind.u8.max = 255 := rfl
  simp only [Go.Lit.wf, e1, e2, Bool.and_eq_true, decide_eq_true_eq] at h
  exact h
theorem lines_law (l : List Dem) (k : Int) (hl : l.length ≤ 140737488355328) (hwl : demW l) (hk : (Go.Lit.int .u8 k).wf = true) : Fun Tryd.prog 7 [.sh 8 (l.map Dem.c), .lit (.int .u8 k)] (Ret (.lit (.bool true)) []) := by
  obtain ⟨hk0, hk1⟩ := wf_u8d hk

  refine Fun.of (nt := 119) (rs := [.tmp 4]) Tryd.func7 rfl rfl rfl rfl rfl ?_
  refine Ev.sr fun K hK => S.o q.as (S.end (hK _ ?_))
  clear hK K
  refine Ev.seq ?_
  refine Ev.sr fun K hK => S.c0 (hF := awake_fun) (h := S.o q.nott (S.end (hK _ ?_)))
  clear hK K
  refine Ev.cf ?_
  refine Ev.skip ?_
  show Ev _ _ _ _
  refine Ev.seq ?_
  refine Ev.sr fun K hK => S.o q.mv (S.c0 (hF := small_fun _ (by omega)) (h := S.o q.not (S.bn q.mv (fun c1 => ?_) (fun c1 => ?_))))
  · first
  | (first | omega | contradiction)
  | refine S.sk (S.sk (S.sk (S.o q.pt (S.end (hK _ ?_)))))
    clear hK K
    refine Ev.ct ?_
    refine Ev.sr fun K hK => S.o q.as (S.end (hK _ ?_))
    clear hK K
    refine Ev.ret ?_
    refine Ev.ret1 ?_
    refine ⟨?_, rfl⟩
    first | rfl | exact lawT rfl | exact lawT (by omega) | exact lawT (by assumption) | (exfalso; omega) | contradiction | (exfalso; simp_all; done) | (exfalso; simp at *; done)
  · first
  | (first | omega | contradiction)
  | refine S.o q.mv (S.c0 (hF := rdemValid_fun l hl hwl) (h := S.o q.not (S.o q.pf (S.end (hK _ ?_)))))
    clear hK K
    refine Ev.cn (fun c2 => ?_) (fun c2 => ?_)
    · first
    | (first | omega | contradiction)
    | refine Ev.sr fun K hK => S.o q.as (S.end (hK _ ?_))
      clear hK K
      refine Ev.ret ?_
      refine Ev.ret1 ?_
      refine ⟨?_, rfl⟩
      first | rfl | exact lawT rfl | exact lawT (by omega) | exact lawT (by assumption) | (exfalso; omega) | contradiction | (exfalso; simp_all; done) | (exfalso; simp at *; done)
    · first
    | (first | omega | contradiction)
    | refine Ev.skip ?_
      show Ev _ _ _ _
      have hok : okDems l := ‹okDems l›
      have hsm : smD l 8 := ‹smD l 8›
      obtain ⟨h8, hst⟩ := small_steps hok hsm
      have hll := textL_len2 l hst
      obtain ⟨e1, e2⟩ := tx_ok hok
      refine Ev.sr fun K hK => S.o q.mv (S.c0 (hF := demText_fun l hl hwl) (h := S.o q.mv (S.o q.ex (S.o q.ex (S.o q.as (S.o q.as (S.end (hK _ ?_))))))))
      clear hK K
      rw [e1, e2]
      refine Ev.sr fun K hK => S.o q.mv (S.o (q.cvi am_un3 am_us5) (S.o q.mv (S.o (q.lens am_el41) (S.o q.add (S.o q.rem (S.o q.as (S.end (hK _ ?_))))))))
      clear hK K
      obtain ⟨cu, hq⟩ : ∃ cu, k % ((l.length : Int) + 1) = cu := ⟨_, rfl⟩
      rw [hq]
      have hq0 : 0 ≤ cu := by rw [← hq]; exact Int.emod_nonneg _ (by omega)
      have hq1 : cu < (l.length : Int) + 1 := by rw [← hq]; exact Int.emod_lt_of_pos _ (by omega)
      have hs1 : (l.take cu.toNat).Sublist l := List.take_sublist _ _
      have hs2 : (l.drop cu.toNat).Sublist l := List.drop_sublist _ _
      have hdk : List.take (((l.map Dem.c).length : Int).toNat - cu.toNat) (List.drop cu.toNat l) = l.drop cu.toNat := List.take_of_length_le (by simp)
      obtain ⟨e3, e4⟩ := tx_ok (okDems_sub hok hs1)
      obtain ⟨e5, e6⟩ := tx_ok (okDems_sub hok hs2)
      have hab : textL (l.take cu.toNat) ++ textL (l.drop cu.toNat) = textL l := by rw [← textL_app, List.take_append_drop]
      have hal : (textL (l.take cu.toNat)).length + (textL (l.drop cu.toNat)).length = (textL l).length := by rw [← hab, List.length_append]
      refine Ev.sr fun K hK => S.o q.mv (S.o q.mv (S.o (q.sh am_el41 am_cl28) (S.c0 (hF := demText_fun (l.take cu.toNat) (by have := hs1.length_le; omega) (demW_sub hwl hs1)) (h := S.o q.mv (S.o q.ex (S.o q.ex (S.o q.as (S.o q.as (S.end (hK _ ?_))))))))))
      clear hK K
      refine Ev.sr fun K hK => S.o q.mv (S.o q.mv (S.o (q.sh am_el41 am_cl28) ?_))
      rw [hdk]
      refine S.c0 (hF := demText_fun (l.drop cu.toNat) (by have := hs2.length_le; omega) (demW_sub hwl hs2)) (h := S.o q.mv (S.o q.ex (S.o q.ex (S.o q.as (S.o q.as (S.end (hK _ ?_)))))))
      clear hK K
      refine Ev.seq ?_
      rw [e3, e4, e5, e6]
      refine Ev.sr fun K hK => S.o q.mv (S.o q.neq (S.bn q.mv (fun c3 => ?_) (fun c3 => ?_)))
      · first
      | (first | omega | contradiction)
      | refine S.sk (S.sk (S.o q.pt (S.o q.mv (S.sk (S.sk (S.o q.pt (S.o q.mv (S.sk (S.sk (S.sk (S.sk (S.sk (S.o q.pt (S.o q.mv (S.sk (S.sk (S.sk (S.o q.pt (S.end (hK _ ?_))))))))))))))))))))
        clear hK K
        refine Ev.ct ?_
        refine Ev.sr fun K hK => S.o q.as (S.end (hK _ ?_))
        clear hK K
        refine Ev.ret ?_
        refine Ev.ret1 ?_
        refine ⟨?_, rfl⟩
        first | rfl | exact lawT rfl | exact lawT (by omega) | exact lawT (by assumption) | (exfalso; omega) | contradiction | (exfalso; simp_all; done) | (exfalso; simp at *; done)
      · first
      | (first | omega | contradiction)
      | refine S.o q.mv (S.o q.neq (S.o q.pf (S.bn q.mv (fun c4 => ?_) (fun c4 => ?_))))
        · first
        | (first | omega | contradiction)
        | refine S.sk (S.sk (S.o q.pt (S.o q.mv (S.sk (S.sk (S.sk (S.sk (S.sk (S.o q.pt (S.o q.mv (S.sk (S.sk (S.sk (S.o q.pt (S.end (hK _ ?_))))))))))))))))
          clear hK K
          refine Ev.ct ?_
          refine Ev.sr fun K hK => S.o q.as (S.end (hK _ ?_))
          clear hK K
          refine Ev.ret ?_
          refine Ev.ret1 ?_
          refine ⟨?_, rfl⟩
          first | rfl | exact lawT rfl | exact lawT (by omega) | exact lawT (by assumption) | (exfalso; omega) | contradiction | (exfalso; simp_all; done) | (exfalso; simp at *; done)
        · first
        | (first | omega | contradiction)
        | refine S.o q.mv (S.o q.neq (S.o q.pf (S.bn q.mv (fun c5 => ?_) (fun c5 => ?_))))
          · first
          | (first | omega | contradiction)
          | refine S.sk (S.sk (S.sk (S.sk (S.sk (S.o q.pt (S.o q.mv (S.sk (S.sk (S.sk (S.o q.pt (S.end (hK _ ?_))))))))))))
            clear hK K
            refine Ev.ct ?_
            refine Ev.sr fun K hK => S.o q.as (S.end (hK _ ?_))
            clear hK K
            refine Ev.ret ?_
            refine Ev.ret1 ?_
            refine ⟨?_, rfl⟩
            first | rfl | exact lawT rfl | exact lawT (by omega) | exact lawT (by assumption) | (exfalso; omega) | contradiction | (exfalso; simp_all; done) | (exfalso; simp at *; done)
          · first
          | (first | omega | contradiction)
          | refine S.o q.mv (S.o q.mv (S.o q.sadd (S.o q.mv (S.o q.snes (S.o q.pf (S.bn q.mv (fun c6 => ?_) (fun c6 => ?_)))))))
            · first
            | (first | omega | contradiction)
            | refine S.sk (S.sk (S.sk (S.o q.pt (S.end (hK _ ?_)))))
              clear hK K
              refine Ev.ct ?_
              refine Ev.sr fun K hK => S.o q.as (S.end (hK _ ?_))
              clear hK K
              refine Ev.ret ?_
              refine Ev.ret1 ?_
              refine ⟨?_, rfl⟩
              first | rfl | exact lawT rfl | exact lawT (by omega) | exact lawT (by assumption) | (exfalso; omega) | contradiction | (exfalso; simp_all; done) | (exfalso; simp at *; done)
            · first
            | (first | omega | contradiction)
            | refine S.o q.mv (S.o (q.slen am_el9 am_un9) (S.o q.gtr (S.o q.pf (S.end (hK _ ?_)))))
              clear hK K
              refine Ev.cd (fun c7 => ?_) (fun c7 => ?_)
              · first
              | (first | omega | contradiction)
              | refine Ev.sr fun K hK => S.o q.as (S.end (hK _ ?_))
                clear hK K
                refine Ev.ret ?_
                refine Ev.ret1 ?_
                refine ⟨?_, rfl⟩
                first | rfl | exact lawT rfl | exact lawT (by omega) | exact lawT (by assumption) | (exfalso; omega) | contradiction | (exfalso; simp_all; done) | (exfalso; simp at *; done)
              · first
              | (first | omega | contradiction)
              | refine Ev.skip ?_
                show Ev _ _ _ _
                refine Ev.seq ?_
                refine Ev.sr fun K hK => S.o q.mv (S.o (q.lens am_el41) (S.o q.mv (S.end (hK _ ?_))))
                clear hK K
                refine Ev.block ?_
                refine Ev.loopU (ι := {p : List (Dem) × List (Dem) // p.1 ++ p.2 = l ∧ True}) [] [75, 76] (fun ⟨(pre, suf), _⟩ => [(77, .lit (.int .i64 ((pre.length : Int)))), (5, .lit (str (textL suf)))]) (fun ⟨(pre, suf), _⟩ => []) (fun ⟨(pre, suf), _⟩ => suf.length) ⟨([], l), rfl, trivial⟩ (.c (.c .n)) keep_n (slots_c (he := (by first | rfl | (congr 2; simp; done))) (h := (slots_c (he := rfl) (h := trivial)))) ?_
                rintro ⟨⟨pre, suf⟩, hp, hinv⟩ R0 hR0
                dsimp only [List.cons_append, List.nil_append, List.length_cons, List.length_nil]
                simp only at hp hinv
                have hpl : pre.length + suf.length = (l).length := by rw [← hp, List.length_append]
                rcases suf with _ | ⟨s, suf⟩
                · rw [List.append_nil] at hp; simp only [List.length_nil] at hpl
                  refine Ev.sr fun K hK => S.o q.lss (S.end (hK _ ?_))
                  clear hK K
                  refine Ev.ud (fun c8 => ?_) (fun c8 => ?_)
                  · first | omega | contradiction
                  · first
                  | (first | omega | contradiction)
                  | refine Ev.exit ?_
                    refine hR0 _ _ ?_
                    show Ev _ _ _ _
                    refine Ev.sr fun K hK => S.o q.mv (S.o q.seqs (S.o q.as (S.end (hK _ ?_))))
                    clear hK K
                    refine Ev.ret ?_
                    refine Ev.ret1 ?_
                    refine ⟨?_, rfl⟩
                    first | rfl | exact lawT rfl | exact lawT (by omega) | exact lawT (by assumption) | (exfalso; omega) | contradiction | (exfalso; simp_all; done) | (exfalso; simp at *; done)
                · simp only [List.length_cons] at hpl
                  have hidx : l[pre.length]? = some s := by rw [← hp]; simp
                  obtain ⟨hos, h16⟩ := hst s (by rw [← hp]; simp)
                  have hcut := line_cut hos suf
                  have hspl := line_split hos
                  have hsub : (s :: suf).Sublist l := by rw [← hp]; exact List.sublist_append_right _ _
                  have htl := textL_len2 (s :: suf) (fun d hd => hst d (hsub.subset hd))
                  simp only [List.length_cons] at htl
                  have hln : (lineD s).length ≤ (textL (s :: suf)).length := by have e : textL (s :: suf) = lineD s ++ 10 :: textL suf := by simp [textL, textD, lineD]
                                                                                rw [e, List.length_append]; omega
                  have hw0 : (demandW :: wordsD s)[0]? = some demandW := rfl
                  have hw1 : (demandW :: wordsD s)[1]? = some s.name := rfl
                  have hwn : (demandW :: wordsD s).length = 8 + 2 * s.steps.length := by have := stW_len s.steps; simp [wordsD]; omega
                  refine Ev.sr fun K hK => S.o q.lss (S.end (hK _ ?_))
                  clear hK K
                  refine Ev.ud (fun c9 => ?_) (fun c9 => ?_)
                  · first
                  | (first | omega | contradiction)
                  | refine Ev.seq ?_
                    refine Ev.block ?_
                    refine Ev.sr fun K hK => S.o (q.ix am_el41 am_cl28 (hl := (by first | exact ati hidx (by omega) | exact ati hw0 (by omega) | exact ati hw1 (by omega) | exact atig (by omega)))) (S.o (q.lsA [_, _, _, _, _, _, _, _] am_ag28 am_cl28) (S.nn (q.al am_ze28) (S.sv [_, _, _, _, _, _, _, _] true [] am_in28 am_cl28 (h := S.end (hK _ ?_)))))
                    clear hK K
                    refine Ev.sr fun K hK => S.o q.mv (S.c0 (hF := cut_fun _ 10 (by omega)) (h := S.o q.mv (S.o q.ex (S.o q.ex (S.o q.ex (S.o q.as (S.o q.as (S.o q.as (S.end (hK _ ?_))))))))))
                    clear hK K
                    rw [hcut]
                    refine Ev.sr fun K hK => S.o q.mv (S.c0 (hF := split_fun (lineD s) 32 (by omega)) (h := S.o q.as (S.end (hK _ ?_))))
                    clear hK K
                    refine Ev.seq ?_
                    rw [hspl]
                    refine Ev.sm (tbs [(0, 0), (1, 1), (2, 3), (3, 7), (4, 15), (3, 7), (6, 39), (7, 103), (8, 231), (9, 487), (10, 1023), (11, 2047), (12, 4095), (13, 8191), (14, 16383), (15, 32767), (16, 65535), (17, 131071), (18, 262143), (19, 524287), (20, 1048575), (21, 2097151), (19, 524287), (23, 4718591), (24, 16777215), (25, 33554431)]) 26 fun K hK => M.o q.mv (M.o q.not (M.bb q.mv (fun c10 => ?_) (fun c10 => ?_)))
                    · first
                    | (first | omega | contradiction)
                    | refine M.sk (M.sk (M.sk (M.sk (M.sk (M.sk (M.sk (M.sk (M.o q.pt (M.o q.mv (M.sk (M.sk (M.sk (M.sk (M.o q.pt (M.o q.mv (M.sk (M.sk (M.sk (M.sk (M.sk (M.sk (M.o q.pt (M.end [_] (h := S.end (hK _ ?_)))))))))))))))))))))))))
                      clear hK K
                      refine Ev.ct ?_
                      refine Ev.sr fun K hK => S.o q.as (S.end (hK _ ?_))
                      clear hK K
                      refine Ev.ret ?_
                      refine hR0 _ _ ?_
                      refine Ev.ret1 ?_
                      refine ⟨?_, rfl⟩
                      first | rfl | exact lawT rfl | exact lawT (by omega) | exact lawT (by assumption) | (exfalso; omega) | contradiction | (exfalso; simp_all; done) | (exfalso; simp at *; done)
                    · first
                    | (first | omega | contradiction)
                    | refine M.o q.mv (M.o (q.lens am_el61) (M.o (q.fa 7 am_fi28_2 am_cl26) (M.o (q.lv am_ag26) (M.o (q.lens am_el26) (M.o q.mul (M.o q.add (M.o q.neq (M.o q.pf (M.bn q.mv (fun c11 => ?_) (fun c11 => ?_))))))))))
                      · first
                      | (first | omega | contradiction)
                      | refine M.sk (M.sk (M.sk (M.sk (M.o q.pt (M.o q.mv (M.sk (M.sk (M.sk (M.sk (M.sk (M.sk (M.o q.pt (M.end [_] (h := S.end (hK _ ?_)))))))))))))))
                        clear hK K
                        refine Ev.ct ?_
                        refine Ev.sr fun K hK => S.o q.as (S.end (hK _ ?_))
                        clear hK K
                        refine Ev.ret ?_
                        refine hR0 _ _ ?_
                        refine Ev.ret1 ?_
                        refine ⟨?_, rfl⟩
                        first | rfl | exact lawT rfl | exact lawT (by omega) | exact lawT (by assumption) | (exfalso; omega) | contradiction | (exfalso; simp_all; done) | (exfalso; simp at *; done)
                      · first
                      | (first | omega | contradiction)
                      | refine M.o q.mv (M.o (q.ix am_el61 am_cl9 (hl := (by first | exact ati hidx (by omega) | exact ati hw0 (by omega) | exact ati hw1 (by omega) | exact atig (by omega)))) (M.o (q.ls am_ag9) (M.o q.snes (M.o q.pf (M.bn q.mv (fun c12 => ?_) (fun c12 => ?_))))))
                        · first
                        | (first | omega | contradiction)
                        | refine M.sk (M.sk (M.sk (M.sk (M.sk (M.sk (M.o q.pt (M.end [_] (h := S.end (hK _ ?_)))))))))
                          clear hK K
                          refine Ev.ct ?_
                          refine Ev.sr fun K hK => S.o q.as (S.end (hK _ ?_))
                          clear hK K
                          refine Ev.ret ?_
                          refine hR0 _ _ ?_
                          refine Ev.ret1 ?_
                          refine ⟨?_, rfl⟩
                          first | rfl | exact lawT rfl | exact lawT (by omega) | exact lawT (by assumption) | (exfalso; omega) | contradiction | (exfalso; simp_all; done) | (exfalso; simp at *; done)
                        · first
                        | (first | omega | contradiction)
                        | refine M.o q.mv (M.o (q.ix am_el61 am_cl9 (hl := (by first | exact ati hidx (by omega) | exact ati hw0 (by omega) | exact ati hw1 (by omega) | exact atig (by omega)))) (M.o (q.ls am_ag9) (M.o (q.fa 0 am_fi28_0 am_cl9) (M.o (q.lv am_ag9) (M.o q.snes (M.o q.pf (M.end [_] (h := S.end (hK _ ?_)))))))))
                          clear hK K
                          refine Ev.cn (fun c13 => ?_) (fun c13 => ?_)
                          · first
                          | (first | omega | contradiction)
                          | refine Ev.sr fun K hK => S.o q.as (S.end (hK _ ?_))
                            clear hK K
                            refine Ev.ret ?_
                            refine hR0 _ _ ?_
                            refine Ev.ret1 ?_
                            refine ⟨?_, rfl⟩
                            first | rfl | exact lawT rfl | exact lawT (by omega) | exact lawT (by assumption) | (exfalso; omega) | contradiction | (exfalso; simp_all; done) | (exfalso; simp at *; done)
                          · first
                          | (first | omega | contradiction)
                          | refine Ev.skip ?_
                            show Ev _ _ _ _
                            refine Ev.region_S fun K hK => S.o q.mv (S.o q.as (S.end (hK _ ?_)))
                            clear hK K
                            show Ev _ _ _ _
                            refine Ev.region_S fun K hK => S.o q.add (S.o q.mv (S.end (hK _ ?_)))
                            clear hK K
                            refine hR0 _ _ ?_
                            refine roundU [] [75, 76] ⟨(pre ++ [s], suf), by rw [← hp]; simp, ?_⟩ ?_ keep_n (slots_c (he := (by first | rfl | (congr 2; simp; done))) (h := (slots_c (he := rfl) (h := trivial)))) (.c (.c .n))
                            trivial
                            all_goals (dsimp only; simp only [List.length_cons]; omega)
                  · first | omega | contradiction
end Go.Proofs.YtnomiafjeiijkaaDoor
