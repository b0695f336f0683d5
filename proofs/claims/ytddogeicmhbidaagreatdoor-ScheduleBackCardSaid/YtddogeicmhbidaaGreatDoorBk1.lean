/-
  The law ScheduleBack, walked.
  Conditions: none.
-/
import Derived.Test.YtddogeicmhbidaaGreatDoorAw1
import Derived.Test.YtddogeicmhbidaaGreatDoorSb3
namespace Go.Proofs.YtddogeicmhbidaaGreatDoor
open Go Go.AM
set_option linter.unusedSimpArgs false
set_option linter.unusedVariables false
set_option maxRecDepth 100000
set_option maxHeartbeats 1000000

theorem word_fine {b : Bar} (h : okBar b) : ∀ x ∈ lineW b, x.length ≤ 22 := by
  have h1 := isName_len h.1
  have h2 := size_bd h.2.1
  have h3 := h.2.2.1
  have h4 := h.2.2.2.1
  have h5 := okBar_code h
  intro x hx
  simp only [lineW, lineH, List.mem_append, List.mem_cons, List.not_mem_nil, or_false, List.mem_map] at hx
  rcases hx with (rfl | rfl | rfl | rfl) | ⟨d, hd, rfl⟩
  · omega
  · have := itoa_len (N := b.size) (by omega) (by omega); omega
  · have := itoa_len (N := b.count) (by omega) (by omega); omega
  · have := itoa_len (N := b.code) (by omega) (by omega)
    unfold code2
    split
    · simp only [List.length_append, List.length_cons, List.length_nil]; omega
    · omega
  · have h8 := dims_in h.2.2.2.2.2.2 hd
    have := itoa_len (N := d) (by omega) (by omega); omega
theorem sep_fine : ∀ l : List (List UInt8), (∀ x ∈ l, x.length ≤ 22) → (sepcat [32] l).length ≤ 23 * l.length := by
  refine snoc_ind (fun _ => by simp [sepcat]) ?_
  intro l s ih h
  have := ih fun b hb => h b (by simp [hb])
  have := h s (by simp)
  rw [sepcat_snoc, List.length_append, List.length_append, List.length_append, List.length_singleton, List.length_singleton, Nat.mul_add]
  omega
theorem line_fine {b : Bar} (h : okBar b) : (lineT b).length ≤ 300 ∧ 0 < (lineT b).length := by
  have h1 := word_fine h
  have h2 := (lineW_el h).1
  rw [lineT, List.length_append, List.length_singleton]
  rcases hlw : lineW b with _ | ⟨x, l⟩
  · simp [joinS]
  · rw [hlw] at h1 h2
    have h3 := sep_fine l fun w hw => h1 w (by simp [hw])
    have h4 := h1 x (by simp)
    rw [List.length_cons] at h2
    rw [joinS, List.length_append]
    omega
theorem text_fine : ∀ l : List Bar, (∀ c ∈ l, okBar c) → (textP l).length ≤ 300 * l.length := by
  refine snoc_ind (fun _ => by simp [textP]) ?_
  intro l s ih h
  have := ih fun b hb => h b (by simp [hb])
  have := (line_fine (h s (by simp))).1
  rw [textP_snoc, List.length_append, List.length_append, List.length_singleton, Nat.mul_add]
  omega

theorem text_ok {l : List Bar} (h : textE l = 0) : okSched l ∧ textV l = textP l ∧ (textP l).length ≤ 262144 := by
  unfold textE at h
  split at h
  · rename_i ho
    have := text_fine l ho.2.1
    have := ho.1
    exact ⟨ho, if_pos ho, by omega⟩
  · omega
theorem okSched_w {l : List Bar} (h : okSched l) : schedW l := fun b hb => by
  have h1 := (isName_len (h.2.1 b hb).1).2
  have h2 := (h.2.1 b hb).2.2.2.2.2.1
  have h3 := (dims_eq b.code).2.2.1
  exact ⟨by omega, by omega⟩
theorem back_law (l : List Bar) (z : List UInt8) (hlen : l.length ≤ 140737488355328) (hz : z.length ≤ 140737488355328) : Fun Tryz.prog 5 [.sh 5 (l.map Bar.c), .lit (str z)] (Ret (.lit (.bool true)) []) := by
  refine Fun.of (nt := 79) (rs := [.tmp 4]) Tryz.func5 rfl rfl rfl rfl rfl ?_
  refine Ev.sr fun K hK => S.o q.as (S.end (hK _ ?_))
  clear hK K
  refine Ev.seq ?_
  refine Ev.sr fun K hK => S.c0 (hF := awake_fun) (h := S.o q.nott (S.end (hK _ ?_)))
  clear hK K
  refine Ev.cf ?_
  refine Ev.skip ?_
  show Ev _ _ _ _
  refine Ev.seq ?_
  refine Ev.sr fun K hK => S.o q.mv (S.nn (q.bs [[_]] true am_el53 am_ze22 am_cl22) (S.c0 (hF := few_fun [l] (by simp) (fun x hx => by rw [List.mem_singleton] at hx; subst hx; exact hlen)) (h := S.o q.not (S.bn q.mv (fun c1 => ?_) (fun c1 => ?_)))))
  · first
  | (first | omega | contradiction)
  | refine S.sk (S.sk (S.sk (S.o q.pt (S.end (hK _ ?_)))))
    clear hK K
    refine Ev.ct ?_
    refine Ev.sr fun K hK => S.o q.as (S.end (hK _ ?_))
    clear hK K
    refine Ev.ret ?_
    refine Ev.ret1 ?_
    refine ⟨?_, rfl⟩
    first | rfl | exact lawT rfl | exact lawT b1 | exact lawT (by omega) | (exfalso; omega) | contradiction | (exfalso; simp at *; done)
  · first
  | (first | omega | contradiction)
  | refine S.o q.mv (S.o (q.slen am_el9 am_un9) (S.o q.gtr (S.o q.pf (S.end (hK _ ?_)))))
    clear hK K
    refine Ev.cd (fun c2 => ?_) (fun c2 => ?_)
    · first
    | (first | omega | contradiction)
    | refine Ev.sr fun K hK => S.o q.as (S.end (hK _ ?_))
      clear hK K
      refine Ev.ret ?_
      refine Ev.ret1 ?_
      refine ⟨?_, rfl⟩
      first | rfl | exact lawT rfl | exact lawT b1 | exact lawT (by omega) | (exfalso; omega) | contradiction | (exfalso; simp at *; done)
    · first
    | (first | omega | contradiction)
    | refine Ev.skip ?_
      show Ev _ _ _ _
      refine Ev.seq ?_
      have hsm : smallL l 70 := (‹∀ x ∈ [l], smallL x 70› : ∀ x ∈ [l], smallL x 70) l (by simp)
      have hw := small_w hsm
      have hl8 := hsm.1
      have hdm : ∀ x ∈ l, x.dims.length ≤ 140737488355328 := fun x hx => (hw x hx).2
      refine Ev.sr fun K hK => S.o q.mv (S.c0 (hF := Text_fun l hlen hw) (h := S.o q.mv (S.o q.ex (S.o q.ex (S.o q.as (S.o q.as (S.end (hK _ ?_))))))))
      clear hK K
      refine Ev.sr fun K hK => S.o q.mv (S.o q.eql (S.end (hK _ ?_)))
      clear hK K
      refine Ev.cd (fun c3 => ?_) (fun c3 => ?_)
      · first
      | (first | omega | contradiction)
      | obtain ⟨hok, f1, f2⟩ := text_ok (l := l) (by omega)
        obtain ⟨p1, p2, p3⟩ := parse_text hok f2
        have p4 : parseC (textP l) = 0 := if_pos p2
        rw [f1]
        refine Ev.sr fun K hK => S.o q.mv (S.c0 (hF := Parse_fun (textP l) (by omega)) (h := S.o q.mv (S.o q.ex (S.o q.ex (S.o q.ex (S.nn (q.al am_ze40) (S.o q.as (S.sv [_, _] true [_] am_in40 am_cl40 (h := S.o q.as (S.end (hK _ ?_)))))))))))
        clear hK K
        rw [p1, p2, p3, p4]
        refine Ev.sr fun K hK => S.o q.mv (S.o q.neq (S.bn q.mv (fun c4 => ?_) (fun c4 => ?_)))
        · first
        | (first | omega | contradiction)
        | refine S.sk (S.sk (S.sk (S.o q.pt (S.o q.mv (S.sk (S.sk (S.sk (S.sk (S.o q.pt (S.end (hK _ ?_)))))))))))
          clear hK K
          refine Ev.ct ?_
          refine Ev.sr fun K hK => S.o q.as (S.end (hK _ ?_))
          clear hK K
          refine Ev.ret ?_
          refine Ev.ret1 ?_
          refine ⟨?_, rfl⟩
          first | rfl | exact lawT rfl | exact lawT b1 | exact lawT (by omega) | (exfalso; omega) | contradiction | (exfalso; simp at *; done)
        · first
        | (first | omega | contradiction)
        | refine S.o (q.lvA [_, _] am_ag40 am_cl40) (S.o (q.bd [_, _] am_ze40 am_pl40) (S.o (q.sneq am_eq40 (am_sq40 _ _ _ _)) (S.o q.pf (S.bb q.mv (fun c5 => ?_) (fun c5 => ?_)))))
          · first
          | (first | omega | contradiction)
          | refine S.sk (S.sk (S.sk (S.sk (S.o q.pt (S.end (hK _ ?_))))))
            clear hK K
            refine Ev.ct ?_
            refine Ev.sr fun K hK => S.o q.as (S.end (hK _ ?_))
            clear hK K
            refine Ev.ret ?_
            refine Ev.ret1 ?_
            refine ⟨?_, rfl⟩
            first | rfl | exact lawT rfl | exact lawT b1 | exact lawT (by omega) | (exfalso; omega) | contradiction | (exfalso; simp at *; done)
          · first
          | (first | omega | contradiction)
          | refine S.o q.mv (S.o q.mv (S.c0 (hF := same14_fun l l (by omega) (by omega) hdm hdm) (h := S.o q.not (S.o q.pf (S.end (hK _ ?_))))))
            clear hK K
            refine Ev.cn (fun c6 => ?_) (fun c6 => ?_)
            · first
            | (first | omega | contradiction)
            | refine Ev.sr fun K hK => S.o q.as (S.end (hK _ ?_))
              clear hK K
              refine Ev.ret ?_
              refine Ev.ret1 ?_
              refine ⟨?_, rfl⟩
              first | rfl | exact lawT rfl | exact lawT b1 | exact lawT (by omega) | (exfalso; omega) | contradiction | (exfalso; simp at *; done)
            · first
            | (first | omega | contradiction)
            | refine Ev.skip ?_
              show Ev _ _ _ _
              refine Ev.sr fun K hK => S.o q.mv (S.c0 (hF := Parse_fun z hz) (h := S.o q.mv (S.o q.ex (S.o q.ex (S.o q.ex (S.nn (q.al am_ze40) (S.o q.as (S.sv [_, _] true [_, _] am_in40 am_cl40 (h := S.o q.as (S.end (hK _ ?_)))))))))))
              clear hK K
              refine Ev.seq ?_
              refine Ev.sr fun K hK => S.o q.mv (S.o q.neq (S.end (hK _ ?_)))
              clear hK K
              refine Ev.cn (fun c7 => ?_) (fun c7 => ?_)
              · first
              | (first | omega | contradiction)
              | have e5 := parse_none (s := z) (by omega)
                have e6 : (parseV z).length = 0 := by rw [e5]; rfl
                refine Ev.sr fun K hK => S.o q.mv (S.o (q.lens am_el22) (S.o q.eql (S.o q.as (S.end (hK _ ?_)))))
                clear hK K
                refine Ev.ret ?_
                refine Ev.ret1 ?_
                refine ⟨?_, rfl⟩
                first | rfl | exact lawT rfl | exact lawT b1 | exact lawT (by omega) | (exfalso; omega) | contradiction | (exfalso; simp at *; done)
              · first
              | (first | omega | contradiction)
              | refine Ev.skip ?_
                show Ev _ _ _ _
                obtain ⟨b1, b2⟩ := parse_back (s := z) (by omega)
                have b3 := b1.1
                have b4 : textE (parseV z) = 0 := if_pos b1
                have b5 : textV (parseV z) = z := (if_pos b1).trans b2
                have b6 := okSched_w b1
                refine Ev.sr fun K hK => S.o q.mv (S.c0 (hF := Text_fun (parseV z) (by omega) b6) (h := S.o q.mv (S.o q.ex (S.o q.ex (S.o q.as (S.o q.as (S.end (hK _ ?_))))))))
                clear hK K
                rw [b4, b5]
                refine Ev.sr fun K hK => S.o q.mv (S.o q.eql (S.bd q.mv (fun c8 => ?_) (fun c8 => ?_)))
                · first
                | (first | omega | contradiction)
                | refine S.o q.mv (S.o q.mv (S.o q.seqs (S.o q.pt (S.bd q.mv (fun c9 => ?_) (fun c9 => ?_)))))
                  · first
                  | (first | omega | contradiction)
                  | refine S.o q.mv (S.c0 (hF := schedValid_fun _ (by omega) (by assumption)) (h := S.o q.pt (S.o q.as (S.end (hK _ ?_)))))
                    clear hK K
                    refine Ev.ret ?_
                    refine Ev.ret1 ?_
                    refine ⟨?_, rfl⟩
                    first | rfl | exact lawT rfl | exact lawT b1 | exact lawT (by omega) | (exfalso; omega) | contradiction | (exfalso; simp at *; done)
                  · first
                  | (first | omega | contradiction)
                  | refine S.sk (S.sk (S.o q.pf (S.o q.as (S.end (hK _ ?_)))))
                    clear hK K
                    refine Ev.ret ?_
                    refine Ev.ret1 ?_
                    refine ⟨?_, rfl⟩
                    first | rfl | exact lawT rfl | exact lawT b1 | exact lawT (by omega) | (exfalso; omega) | contradiction | (exfalso; simp at *; done)
                · first
                | (first | omega | contradiction)
                | refine S.sk (S.sk (S.sk (S.o q.pf (S.o q.mv (S.sk (S.sk (S.o q.pf (S.o q.as (S.end (hK _ ?_))))))))))
                  clear hK K
                  refine Ev.ret ?_
                  refine Ev.ret1 ?_
                  refine ⟨?_, rfl⟩
                  first | rfl | exact lawT rfl | exact lawT b1 | exact lawT (by omega) | (exfalso; omega) | contradiction | (exfalso; simp at *; done)
      · first
      | (first | omega | contradiction)
      | refine Ev.skip ?_
        show Ev _ _ _ _
        refine Ev.sr fun K hK => S.o q.mv (S.c0 (hF := Parse_fun z hz) (h := S.o q.mv (S.o q.ex (S.o q.ex (S.o q.ex (S.nn (q.al am_ze40) (S.o q.as (S.sv [_, _] true [_] am_in40 am_cl40 (h := S.o q.as (S.end (hK _ ?_)))))))))))
        clear hK K
        refine Ev.seq ?_
        refine Ev.sr fun K hK => S.o q.mv (S.o q.neq (S.end (hK _ ?_)))
        clear hK K
        refine Ev.cn (fun c10 => ?_) (fun c10 => ?_)
        · first
        | (first | omega | contradiction)
        | have e5 := parse_none (s := z) (by omega)
          have e6 : (parseV z).length = 0 := by rw [e5]; rfl
          refine Ev.sr fun K hK => S.o q.mv (S.o (q.lens am_el22) (S.o q.eql (S.o q.as (S.end (hK _ ?_)))))
          clear hK K
          refine Ev.ret ?_
          refine Ev.ret1 ?_
          refine ⟨?_, rfl⟩
          first | rfl | exact lawT rfl | exact lawT b1 | exact lawT (by omega) | (exfalso; omega) | contradiction | (exfalso; simp at *; done)
        · first
        | (first | omega | contradiction)
        | refine Ev.skip ?_
          show Ev _ _ _ _
          obtain ⟨b1, b2⟩ := parse_back (s := z) (by omega)
          have b3 := b1.1
          have b4 : textE (parseV z) = 0 := if_pos b1
          have b5 : textV (parseV z) = z := (if_pos b1).trans b2
          have b6 := okSched_w b1
          refine Ev.sr fun K hK => S.o q.mv (S.c0 (hF := Text_fun (parseV z) (by omega) b6) (h := S.o q.mv (S.o q.ex (S.o q.ex (S.o q.as (S.o q.as (S.end (hK _ ?_))))))))
          clear hK K
          rw [b4, b5]
          refine Ev.sr fun K hK => S.o q.mv (S.o q.eql (S.bd q.mv (fun c11 => ?_) (fun c11 => ?_)))
          · first
          | (first | omega | contradiction)
          | refine S.o q.mv (S.o q.mv (S.o q.seqs (S.o q.pt (S.bd q.mv (fun c12 => ?_) (fun c12 => ?_)))))
            · first
            | (first | omega | contradiction)
            | refine S.o q.mv (S.c0 (hF := schedValid_fun _ (by omega) (by assumption)) (h := S.o q.pt (S.o q.as (S.end (hK _ ?_)))))
              clear hK K
              refine Ev.ret ?_
              refine Ev.ret1 ?_
              refine ⟨?_, rfl⟩
              first | rfl | exact lawT rfl | exact lawT b1 | exact lawT (by omega) | (exfalso; omega) | contradiction | (exfalso; simp at *; done)
            · first
            | (first | omega | contradiction)
            | refine S.sk (S.sk (S.o q.pf (S.o q.as (S.end (hK _ ?_)))))
              clear hK K
              refine Ev.ret ?_
              refine Ev.ret1 ?_
              refine ⟨?_, rfl⟩
              first | rfl | exact lawT rfl | exact lawT b1 | exact lawT (by omega) | (exfalso; omega) | contradiction | (exfalso; simp at *; done)
          · first
          | (first | omega | contradiction)
          | refine S.sk (S.sk (S.sk (S.o q.pf (S.o q.mv (S.sk (S.sk (S.o q.pf (S.o q.as (S.end (hK _ ?_))))))))))
            clear hK K
            refine Ev.ret ?_
            refine Ev.ret1 ?_
            refine ⟨?_, rfl⟩
            first | rfl | exact lawT rfl | exact lawT b1 | exact lawT (by omega) | (exfalso; omega) | contradiction | (exfalso; simp at *; done)
end Go.Proofs.YtddogeicmhbidaaGreatDoor
