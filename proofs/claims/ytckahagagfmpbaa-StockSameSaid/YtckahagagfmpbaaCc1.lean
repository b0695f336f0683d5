/-
  slices.Concat at pieces.
  Conditions: none.
-/
import Derived.Test.YtckahagagfmpbaaBase
import Derived.Test.YtckahagagfmpbaaAmDel
import Derived.Test.YtckahagagfmpbaaAmBld
import Derived.Test.YtckahagagfmpbaaAmFactl
namespace Go.Proofs.Ytckahagagfmpbaa
open Go Go.AM
set_option linter.unusedSimpArgs false
set_option linter.unusedVariables false
set_option maxRecDepth 100000
set_option maxHeartbeats 1000000

def pcsC (l : List (Int × Int)) : List AV := [.sh 2 (l.map pairC)]
theorem growPc_fun (n : Int) (h0 : 0 ≤ n) (h1 : n ≤ 1000000) : Fun Try.prog 59 [.lit (.slice none 0 0), .lit (.int .i64 n)] (Ret (.als 0 0 0) [(0, ⟨true, 40, 2, [], true⟩)]) := by
  refine Fun.of (nt := 27) (rs := [.tmp 4]) Try.func59 rfl rfl rfl rfl rfl ?_
  refine Ev.sr fun K hK => S.o q.as (S.end (hK _ ?_))
  clear hK K
  refine Ev.seq ?_
  refine Ev.sr fun K hK => S.o q.mv (S.o q.lss (S.end (hK _ ?_)))
  clear hK K
  refine Ev.cd (fun c1 => ?_) (fun c1 => ?_)
  · first
  | (first | omega | contradiction)
  | omega
  · first
  | (first | omega | contradiction)
  | refine Ev.skip ?_
    show Ev _ _ _ _
    refine Ev.seq ?_
    refine Ev.sr fun K hK => S.o q.mv (S.o q.mv (S.o (q.cap0 am_el23) (S.o q.mv (S.o (q.lenn am_el23) (S.o q.sub (S.o q.sub (S.o q.as (S.end (hK _ ?_)))))))))
    clear hK K
    refine Ev.sr fun K hK => S.o q.mv (S.o q.gtr (S.end (hK _ ?_)))
    clear hK K
    refine Ev.cd (fun c2 => ?_) (fun c2 => ?_)
    · first
    | (first | omega | contradiction)
    | refine Ev.region_S fun K hK => S.o q.mv (S.o q.mv (S.o (q.cap0 am_el23) (S.sln am_el23 am_in40 (h := S.o q.mv (S.apz (f := pairC) ((0, 0)) am_el23 am_un3 am_ze40 am_cl40 am_by40 (h := S.o q.mv (S.o (q.lenn am_el23) (S.o (q.sl am_el23 am_cl40) (S.o q.as (S.end (hK _ ?_)))))))))))
      clear hK K
      show Ev _ _ _ _
      refine Ev.weaken (Wk.cut 0 [] am_ze40 am_cl40) ?_
      refine Ev.sr fun K hK => S.o q.mv (S.o q.as (S.end (hK _ ?_)))
      clear hK K
      refine Ev.ret ?_
      refine Ev.own1 ?_
      refine ⟨?_, ?_⟩
      all_goals first | rfl | (simp; done) | (congr 2; simp; done)
    · first
    | (first | omega | contradiction)
    | refine Ev.skip ?_
      show Ev _ _ _ _
      refine Ev.sr fun K hK => S.o q.mv (S.o q.as (S.end (hK _ ?_)))
      clear hK K
      refine Ev.weaken (Wk.nown pairC 4 40 2) ?_
      refine Ev.ret ?_
      refine Ev.own1 ?_
      refine ⟨?_, ?_⟩
      all_goals first | rfl | (simp; done) | (congr 2; simp; done)

theorem flat_len : ∀ ls : List (List (Int × Int)), (∀ x ∈ ls, x.length ≤ 1000) → ls.flatten.length ≤ 1000 * ls.length := by
  refine snoc_ind (fun _ => by simp) ?_
  intro l s ih h
  have h1 := ih fun x hx => h x (by simp [hx])
  have h2 := h s (by simp)
  rw [List.flatten_append, List.length_append, List.length_append, List.flatten_singleton, List.length_singleton]
  omega
theorem concatPc_fun (ls : List (List (Int × Int))) (hn : ls.length ≤ 100) (hx : ∀ x ∈ ls, x.length ≤ 1000) : Fun Try.prog 47 [.sh 1 (ls.map pcsC)] (Ret (.als 0 0 ls.flatten.length) [(0, ⟨true, 40, 2, ls.flatten.map pairC, true⟩)]) := by
  have hfl := flat_len ls hx
  refine Fun.of (nt := 36) (rs := [.tmp 2]) Try.func47 rfl rfl rfl rfl rfl ?_
  refine Ev.sr fun K hK => S.o q.as (S.end (hK _ ?_))
  clear hK K
  refine Ev.sr fun K hK => S.o q.as (S.end (hK _ ?_))
  clear hK K
  refine Ev.seq ?_
  refine Ev.sr fun K hK => S.o q.mv (S.o (q.lens am_el59) (S.o q.mv (S.end (hK _ ?_))))
  clear hK K
  refine Ev.block ?_
  refine Ev.loopU (ι := {p : List (List (Int × Int)) × List (List (Int × Int)) // p.1 ++ p.2 = ls ∧ True}) [] [0, 2, 9, 10] (fun ⟨(pre, suf), _⟩ => [(11, .lit (.int .i64 ((pre.length : Int)))), (3, .lit (.int .i64 (((pre.flatten).length : Int))))]) (fun ⟨(pre, suf), _⟩ => []) (fun ⟨(pre, suf), _⟩ => suf.length) ⟨([], ls), rfl, trivial⟩ (.c (.c (.c (.c .n)))) keep_n (slots_c (he := (by first | rfl | (congr 2; simp; done))) (h := (slots_c (he := (by first | rfl | exact iE (by rw [hfs, List.length_append]; omega) | (simp; done))) (h := trivial)))) ?_
  rintro ⟨⟨pre, suf⟩, hp, hinv⟩ R0 hR0
  dsimp only [List.cons_append, List.nil_append, List.length_cons, List.length_nil]
  simp only at hp hinv
  have hpl : pre.length + suf.length = (ls).length := by rw [← hp, List.length_append]
  rcases suf with _ | ⟨s, suf⟩
  · rw [List.append_nil] at hp; subst pre; simp only [List.length_nil] at hpl
    refine Ev.sr fun K hK => S.o q.lss (S.end (hK _ ?_))
    clear hK K
    refine Ev.ud (fun c1 => ?_) (fun c1 => ?_)
    · first | omega | contradiction
    · first
    | (first | omega | contradiction)
    | refine Ev.exit ?_
      refine hR0 _ _ ?_
      show Ev _ _ _ _
      refine Ev.sr fun K hK => S.o q.mv (S.c1 (hF := growPc_fun _ (by omega) (by omega)) (h := S.o q.as (S.end (hK _ ?_))))
      clear hK K
      refine Ev.seq ?_
      refine Ev.sr fun K hK => S.o q.mv (S.o (q.lens am_el59) (S.o q.mv (S.end (hK _ ?_))))
      clear hK K
      refine Ev.block ?_
      refine Ev.loopU (ι := {p : List (List (Int × Int)) × List (List (Int × Int)) // p.1 ++ p.2 = ls ∧ True}) [0] [0, 2, 3, 9, 10, 11, 12, 23, 25, 26] (fun ⟨(pre, suf), _⟩ => [(27, .lit (.int .i64 ((pre.length : Int)))), (6, .als 0 0 (pre.flatten).length)]) (fun ⟨(pre, suf), _⟩ => [(0, ⟨true, 40, 2, (pre.flatten).map pairC, true⟩)]) (fun ⟨(pre, suf), _⟩ => suf.length) ⟨([], ls), rfl, trivial⟩ (.c (.c (.c (.c (.c (.c (.c (.c (.c (.c .n)))))))))) (keep_c (he := (by first | rfl | (rw [hfs, List.map_append]; done) | (simp; done))) (h := keep_n)) (slots_c (he := (by first | rfl | (congr 2; simp; done))) (h := (slots_c (he := (by first | rfl | (simp; done) | (congr 2; omega))) (h := trivial)))) ?_
      rintro ⟨⟨pre, suf⟩, hp, hinv⟩ R2 hR2
      dsimp only [List.cons_append, List.nil_append, List.length_cons, List.length_nil]
      simp only at hp hinv
      have hpl : pre.length + suf.length = (ls).length := by rw [← hp, List.length_append]
      rcases suf with _ | ⟨s, suf⟩
      · rw [List.append_nil] at hp; subst pre; simp only [List.length_nil] at hpl
        refine Ev.sr fun K hK => S.o q.lss (S.end (hK _ ?_))
        clear hK K
        refine Ev.ud (fun c2 => ?_) (fun c2 => ?_)
        · first | omega | contradiction
        · first
        | (first | omega | contradiction)
        | refine Ev.exit ?_
          refine hR2 _ _ ?_
          show Ev _ _ _ _
          refine Ev.sr fun K hK => S.o q.mv (S.o q.as (S.end (hK _ ?_)))
          clear hK K
          refine Ev.ret ?_
          refine Ev.own1 ?_
          refine ⟨?_, ?_⟩
          all_goals first | rfl | (simp; done)
      · simp only [List.length_cons] at hpl
        have hidx : (ls)[pre.length]? = some s := by rw [← hp]; simp
        have hsl := hx s (by rw [← hp]; simp)
        have hpf := flat_len pre (fun x h => hx x (by rw [← hp]; simp [h]))
        have hfs : (pre ++ [s]).flatten = pre.flatten ++ s := by simp
        refine Ev.sr fun K hK => S.o q.lss (S.end (hK _ ?_))
        clear hK K
        refine Ev.ud (fun c3 => ?_) (fun c3 => ?_)
        · first
        | (first | omega | contradiction)
        | refine Ev.seq ?_
          refine Ev.block ?_
          refine Ev.sr fun K hK => S.o (q.ix am_el59 am_cl23 (hl := (by first | exact ati hidx (by omega) | exact atig (by omega)))) (S.o (q.ls am_ag23) (S.o q.as (S.end (hK _ ?_))))
          clear hK K
          refine Ev.region_S fun K hK => S.o q.mv (S.o q.mv (S.ap' [] am_el23 am_ze40 am_cl40 am_by40 (hh := head_own') (hr := rows_sh) (h := S.o q.as (S.end (hK _ ?_)))))
          clear hK K
          show Ev _ _ _ _
          refine Ev.region_S fun K hK => S.o q.add (S.o q.mv (S.end (hK _ ?_)))
          clear hK K
          refine hR2 _ _ ?_
          refine roundU [1] [0, 2, 3, 9, 10, 11, 12, 23, 25, 26] ⟨(pre ++ [s], suf), by rw [← hp]; simp, ?_⟩ ?_ (keep_c (he := (by first | rfl | (rw [hfs, List.map_append]; done) | (simp; done))) (h := keep_n)) (slots_c (he := (by first | rfl | (congr 2; simp; done))) (h := (slots_c (he := (by first | rfl | (simp; done) | (congr 2; omega))) (h := trivial)))) (.c (.c (.c (.c (.c (.c (.c (.c (.c (.c .n))))))))))
          trivial
          all_goals (dsimp only; simp only [List.length_cons]; omega)
        · first | omega | contradiction
  · simp only [List.length_cons] at hpl
    have hidx : (ls)[pre.length]? = some s := by rw [← hp]; simp
    have hsl := hx s (by rw [← hp]; simp)
    have hpf := flat_len pre (fun x h => hx x (by rw [← hp]; simp [h]))
    have hfs : (pre ++ [s]).flatten = pre.flatten ++ s := by simp
    refine Ev.sr fun K hK => S.o q.lss (S.end (hK _ ?_))
    clear hK K
    refine Ev.ud (fun c4 => ?_) (fun c4 => ?_)
    · first
    | (first | omega | contradiction)
    | refine Ev.seq ?_
      refine Ev.block ?_
      refine Ev.sr fun K hK => S.o (q.ix am_el59 am_cl23 (hl := (by first | exact ati hidx (by omega) | exact atig (by omega)))) (S.o (q.ls am_ag23) (S.o q.as (S.end (hK _ ?_))))
      clear hK K
      refine Ev.sr fun K hK => S.o q.mv (S.o q.mv (S.o (q.lens am_el23) (S.o q.add (S.o q.as (S.end (hK _ ?_))))))
      clear hK K
      refine Ev.sr fun K hK => S.o q.mv (S.o q.lss (S.end (hK _ ?_)))
      clear hK K
      refine Ev.cd (fun c5 => ?_) (fun c5 => ?_)
      · first
      | (first | omega | contradiction)
      | omega
      · first
      | (first | omega | contradiction)
      | refine Ev.skip ?_
        show Ev _ _ _ _
        refine Ev.region_S fun K hK => S.o q.add (S.o q.mv (S.end (hK _ ?_)))
        clear hK K
        refine hR0 _ _ ?_
        refine roundU [] [0, 2, 9, 10] ⟨(pre ++ [s], suf), by rw [← hp]; simp, ?_⟩ ?_ keep_n (slots_c (he := (by first | rfl | (congr 2; simp; done))) (h := (slots_c (he := (by first | rfl | exact iE (by rw [hfs, List.length_append]; omega) | (simp; done))) (h := trivial)))) (.c (.c (.c (.c .n))))
        trivial
        all_goals (dsimp only; simp only [List.length_cons]; omega)
    · first | omega | contradiction
end Go.Proofs.Ytckahagagfmpbaa
