/-
  Layer 48: masses of schedules.
  Conditions: none.
-/
import Derived.Test.YtappnbebcjmlbaaRbend
import Derived.Test.YtappnbebcjmlbaaSched
namespace Go.Proofs.Ytappnbebcjmlbaa
open Go Go.AM
set_option linter.unusedSimpArgs false
set_option linter.unusedVariables false
set_option maxRecDepth 100000

/-- The mass of all lines of a size. -/
def ofSum (l : List Bar) (d : Int) : Int := l.foldl (fun a b => if b.size = d then a + barMass b else a) 0
theorem ofSum_snoc (l : List Bar) (s : Bar) (d : Int) : ofSum (l ++ [s]) d = if s.size = d then ofSum l d + barMass s else ofSum l d := by simp [ofSum]
def sumsAt (l : List Bar) : List Int := sizes.map (ofSum l)
def totM (l : List Bar) : Int := l.foldl (fun a b => a + barMass b) 0
theorem totM_snoc (l : List Bar) (s : Bar) : totM (l ++ [s]) = totM l + barMass s := by simp [totM]
theorem sumsAt_snoc (l : List Bar) (s : Bar) (h : s.size ∈ sizes) : 0 ≤ idxI sizes s.size ∧ idxI sizes s.size < 9 ∧ (sumsAt l)[(idxI sizes s.size).toNat]? = some (ofSum l s.size) ∧
    (sumsAt l).set (idxI sizes s.size).toNat (ofSum l s.size + barMass s) = sumsAt (l ++ [s]) ∧ sumI (sumsAt (l ++ [s])) = sumI (sumsAt l) + barMass s := by
  have e : ∀ d, ofSum (l ++ [s]) d = if s.size = d then ofSum l d + barMass s else ofSum l d := ofSum_snoc l s
  have h' := h
  simp only [sizes, List.mem_cons, List.not_mem_nil, or_false] at h'
  rcases h' with h' | h' | h' | h' | h' | h' | h' | h' | h' <;> rw [h'] at e ⊢ <;> refine ⟨by decide, by decide, rfl, ?_, ?_⟩ <;>
    simp only [sumsAt, sizes, List.map_cons, List.map_nil, e] <;> simp [idxI, idxP, sumI] <;> omega
theorem ofSum_bd : ∀ (l : List Bar), (∀ b ∈ l, okBar b) → ∀ d, 0 ≤ ofSum l d ∧ ofSum l d ≤ 10343154000 * l.length := by
  refine snoc_ind (fun _ d => ⟨Int.le_refl _, by simp [ofSum]⟩) ?_
  intro l s ih h d
  obtain ⟨i1, i2⟩ := ih (fun b hb => h b (by simp [hb])) d
  obtain ⟨_, _, h3, h4⟩ := barMass_bd (h s (by simp))
  rw [ofSum_snoc, List.length_append, List.length_singleton]
  split <;> omega
theorem totM_bd : ∀ (l : List Bar), (∀ b ∈ l, okBar b) → (0 ≤ totM l ∧ totM l ≤ 10343154000 * l.length) ∧ sumI (sumsAt l) = totM l := by
  refine snoc_ind (fun _ => by decide) ?_
  intro l s ih h
  obtain ⟨⟨i1, i2⟩, i3⟩ := ih (fun b hb => h b (by simp [hb]))
  obtain ⟨_, _, h3, h4⟩ := barMass_bd (h s (by simp))
  have := (sumsAt_snoc l s (h s (by simp)).2.1).2.2.2.2
  rw [totM_snoc, List.length_append, List.length_singleton]
  refine ⟨by omega, by omega⟩
theorem sums_len (l : List Bar) : (sumsAt l).length = 9 := by simp [sumsAt, sizes]
theorem sums_zero : sumsAt [] = List.replicate sizes.length 0 := by decide
theorem masses_fun (l : List Bar) (hw : schedW l) (hok : okSched l) : Fun Try.prog 32 [.sh 5 (l.map Bar.c)] (Ret (.sh 1 ((sumsAt l).map intC)) []) := by
  have hl := hok.1
  have hs9 : sizes.length = 9 := rfl
  refine Fun.of (nt := 36) (rs := [.tmp 2]) Try.func32 rfl rfl rfl rfl rfl ?_
  refine Ev.sr fun K hK => S.o q.as (S.end (hK _ ?_))
  clear hK K
  refine Ev.sr fun K hK => S.c0 (hF := sizes_fun) (h := S.o q.as (S.end (hK _ ?_)))
  clear hK K
  refine Ev.sr fun K hK => S.o q.mv (S.o (q.lens am_el38) (S.mkf (f := intC) (0) am_el38 am_ze3 am_cl3 am_by3 (h := S.o q.as (S.end (hK _ ?_)))))
  clear hK K
  refine Ev.seq ?_
  refine Ev.sr fun K hK => S.o q.mv (S.o (q.lens am_el22) (S.o q.mv (S.end (hK _ ?_))))
  clear hK K
  refine Ev.block ?_
  refine Ev.loopU (ι := {p : List (Bar) × List (Bar) // p.1 ++ p.2 = l ∧ True}) [0] [2, 3, 13, 14] (fun ⟨(pre, suf), _⟩ => [(15, .lit (.int .i64 ((pre.length : Int)))), (4, .als 0 0 (sumsAt pre).length)]) (fun ⟨(pre, suf), _⟩ => [(0, ⟨true, 3, 1, (sumsAt pre).map intC, true⟩)]) (fun ⟨(pre, suf), _⟩ => suf.length) ⟨([], l), rfl, trivial⟩ (.c (.c (.c (.c .n)))) (keep_c (he := (by first | rfl | (rw [sums_zero]; done) | exact congrArg _ i4 | (rw [i4]; done))) (h := keep_n)) (slots_c (he := (by first | rfl | (congr 2; simp; done))) (h := (slots_c (he := (by first | rfl | (congr 1; rw [List.length_set, sums_len, sums_len]; done) | (congr 1; simp [sums_len]; done))) (h := trivial)))) ?_
  rintro ⟨⟨pre, suf⟩, hp, hinv⟩ R0 hR0
  dsimp only [List.cons_append, List.nil_append, List.length_cons, List.length_nil]
  simp only at hp hinv
  have hpl : pre.length + suf.length = (l).length := by rw [← hp, List.length_append]
  rcases suf with _ | ⟨s, suf⟩
  · rw [List.append_nil] at hp; simp only [List.length_nil] at hpl
    refine Ev.sr fun K hK => S.o q.lss (S.end (hK _ ?_))
    clear hK K
    refine Ev.ud (fun c1 => ?_) (fun c1 => ?_)
    · first
    | (first | omega | contradiction)
    | refine Ev.seq ?_
      refine Ev.block ?_
      refine Ev.sr fun K hK => S.o (q.ix am_el22 am_cl40 (hl := (by first | exact atig (by omega)))) (S.o (q.lsA [_, _, _, _, _] am_ag40 am_cl40) (S.nn (q.al am_ze40) (S.sv [_, _, _, _, _] true [_] am_in40 am_cl40 (h := S.end (hK _ ?_)))))
      clear hK K
      refine Ev.sr fun K hK => S.o (q.lvA [_, _, _, _, _] am_ag40 am_cl40) (S.c0 (hF := barMass_fun _ (by assumption)) (h := S.o q.mv (S.o q.ex (S.o q.ex (S.o q.as (S.o q.as (S.end (hK _ ?_))))))))
      clear hK K
      obtain ⟨m1, m2, m3, m4⟩ := barMass_bd hsok
      have e1 : okV s (barMass s) = barMass s := okV_in hsok
      obtain ⟨i1, i2, i3, i4, i5⟩ := sumsAt_snoc pre s hsok.2.1
      obtain ⟨o1, o2⟩ := ofSum_bd pre (fun b hb => hok.2.1 b (by rw [← hp]; simp [hb])) s.size
      have hsl := sums_len pre
      rw [e1]
      refine Ev.region_S fun K hK => S.o q.mv (S.o q.mv (S.o (q.fa 1 am_fi40_1 am_cl3) (S.o (q.lv am_ag3) (S.c0 (hF := index_fun _ _ (by omega)) (h := S.o (q.ia am_el38 am_cl3) (S.o (q.lx am_ag3 (hl := (by first | exact at_g (by omega)))) (S.o q.mv (S.o q.add (S.o (q.ia am_el38 am_cl3) (S.sx _ [_] am_in3 am_cl3 (hl := (by first | exact at_g (by omega))) (h := S.end (hK _ ?_))))))))))))
      clear hK K
      show Ev _ _ _ _
      refine Ev.region_S fun K hK => S.o q.add (S.o q.mv (S.end (hK _ ?_)))
      clear hK K
      refine hR0 _ _ ?_
      refine roundU [0] [2, 3, 13, 14] ⟨(pre ++ [s], suf), by rw [← hp]; simp, ?_⟩ ?_ (keep_c (he := (by first | rfl | (rw [sums_zero]; done) | exact congrArg _ i4 | (rw [i4]; done))) (h := keep_n)) (slots_c (he := (by first | rfl | (congr 2; simp; done))) (h := (slots_c (he := (by first | rfl | (congr 1; rw [List.length_set, sums_len, sums_len]; done) | (congr 1; simp [sums_len]; done))) (h := trivial)))) (.c (.c (.c (.c .n))))
      trivial
      all_goals (dsimp only; simp only [List.length_cons]; omega)
    · first
    | (first | omega | contradiction)
    | refine Ev.exit ?_
      refine hR0 _ _ ?_
      show Ev _ _ _ _
      refine Ev.sr fun K hK => S.o q.mv (S.o q.as (S.end (hK _ ?_)))
      clear hK K
      refine Ev.weaken (Wk.frz 2 []) ?_
      refine Ev.ret ?_
      refine Ev.ret1 ?_
      refine ⟨?_, rfl⟩
      first | (rw [← hp, List.append_nil]; done) | (rw [← hp]; done) | rfl
  · simp only [List.length_cons] at hpl
    have hidx : l[pre.length]? = some s := by rw [← hp]; simp
    have hsw : s.w := hw s (by rw [← hp]; simp)
    have hsok : okBar s := hok.2.1 s (by rw [← hp]; simp)
    refine Ev.sr fun K hK => S.o q.lss (S.end (hK _ ?_))
    clear hK K
    refine Ev.ud (fun c2 => ?_) (fun c2 => ?_)
    · first
    | (first | omega | contradiction)
    | refine Ev.seq ?_
      refine Ev.block ?_
      refine Ev.sr fun K hK => S.o (q.ix am_el22 am_cl40 (hl := (by first | exact ati hidx (by omega) | exact ati i3 (by omega) | exact atig (by omega)))) (S.o (q.lsA [_, _, _, _, _] am_ag40 am_cl40) (S.nn (q.al am_ze40) (S.sv [_, _, _, _, _] true [_] am_in40 am_cl40 (h := S.end (hK _ ?_)))))
      clear hK K
      refine Ev.sr fun K hK => S.o (q.lvA [_, _, _, _, _] am_ag40 am_cl40) (S.c0 (hF := barMass_fun _ (by assumption)) (h := S.o q.mv (S.o q.ex (S.o q.ex (S.o q.as (S.o q.as (S.end (hK _ ?_))))))))
      clear hK K
      obtain ⟨m1, m2, m3, m4⟩ := barMass_bd hsok
      have e1 : okV s (barMass s) = barMass s := okV_in hsok
      obtain ⟨i1, i2, i3, i4, i5⟩ := sumsAt_snoc pre s hsok.2.1
      obtain ⟨o1, o2⟩ := ofSum_bd pre (fun b hb => hok.2.1 b (by rw [← hp]; simp [hb])) s.size
      have hsl := sums_len pre
      rw [e1]
      refine Ev.region_S fun K hK => S.o q.mv (S.o q.mv (S.o (q.fa 1 am_fi40_1 am_cl3) (S.o (q.lv am_ag3) (S.c0 (hF := index_fun _ _ (by omega)) (h := S.o (q.ia am_el38 am_cl3) (S.o (q.lx am_ag3 (hl := (by first | exact at_ hidx (by omega) | exact at_ i3 (by omega) | exact at_g (by omega)))) (S.o q.mv (S.o q.add (S.o (q.ia am_el38 am_cl3) (S.sx _ [_] am_in3 am_cl3 (hl := (by first | exact at_ hidx (by omega) | exact at_ i3 (by omega) | exact at_g (by omega))) (h := S.end (hK _ ?_))))))))))))
      clear hK K
      show Ev _ _ _ _
      refine Ev.region_S fun K hK => S.o q.add (S.o q.mv (S.end (hK _ ?_)))
      clear hK K
      refine hR0 _ _ ?_
      refine roundU [0] [2, 3, 13, 14] ⟨(pre ++ [s], suf), by rw [← hp]; simp, ?_⟩ ?_ (keep_c (he := (by first | rfl | (rw [sums_zero]; done) | exact congrArg _ i4 | (rw [i4]; done))) (h := keep_n)) (slots_c (he := (by first | rfl | (congr 2; simp; done))) (h := (slots_c (he := (by first | rfl | (congr 1; rw [List.length_set, sums_len, sums_len]; done) | (congr 1; simp [sums_len]; done))) (h := trivial)))) (.c (.c (.c (.c .n))))
      trivial
      all_goals (dsimp only; simp only [List.length_cons]; omega)
    · first
    | (first | omega | contradiction)
    | refine Ev.exit ?_
      refine hR0 _ _ ?_
      show Ev _ _ _ _
      refine Ev.sr fun K hK => S.o q.mv (S.o q.as (S.end (hK _ ?_)))
      clear hK K
      refine Ev.weaken (Wk.frz 2 []) ?_
      refine Ev.ret ?_
      refine Ev.ret1 ?_
      refine ⟨?_, rfl⟩
      first | (rw [← hp, List.append_nil]; done) | (rw [← hp]; done) | rfl

/-- The masses of those sizes of a list that there are. -/
def massesP (l : List Bar) (q : List Int) : List (Int × Int) := (q.filter (fun d => decide (∃ b ∈ l, decide (b.size = d) = true))).map (fun d => (d, ofSum l d))
theorem massesP_snoc (l : List Bar) (q : List Int) (d : Int) : massesP l (q ++ [d]) = if ∃ b ∈ l, decide (b.size = d) = true then massesP l q ++ [(d, ofSum l d)] else massesP l q := by
  unfold massesP
  rw [List.filter_append, List.map_append]
  split
  · rename_i h
    have e : [d].filter (fun d => decide (∃ b ∈ l, decide (b.size = d) = true)) = [d] := by rw [List.filter_cons, if_pos (decide_eq_true h)]; rfl
    rw [e]; rfl
  · rename_i h
    rw [List.filter_cons_of_neg (by simpa using h)]; simp
theorem massesP_len (l : List Bar) (q : List Int) : (massesP l q).length ≤ q.length := by
  rw [massesP, List.length_map]; exact List.length_filter_le _ _
def massesV (l : List Bar) : List (Int × Int) := if okSched l then massesP l sizes else []
def schedE (l : List Bar) : Int := if okSched l then 0 else 1
def totV (l : List Bar) : Int := if okSched l then totM l else 0
theorem size_is_fun (d : Int) (b : Bar) : Fun Try.prog 34 [.agg b.c, .sadr [.lit (.int .i64 d)] 0] (Ret (.lit (.bool (decide (b.size = d)))) []) := by
  refine Fun.of (nt := 8) (rs := [.tmp 3]) Try.func34 rfl rfl rfl rfl rfl ?_
  refine Ev.sr fun K hK => S.nn (q.bx [_, _, _, _, _] true) (S.o q.as (S.end (hK _ ?_)))
  clear hK K
  refine Ev.sr fun K hK => S.o (q.fa 1 am_fi40_1 am_cl3) (S.o (q.lv am_ag3) (S.o (q.ls am_ag3) (S.o q.eql (S.o q.as (S.end (hK _ ?_))))))
  clear hK K
  refine Ev.ret ?_
  refine Ev.ret1 ?_
  refine ⟨?_, rfl⟩
  rfl
theorem Masses_fun (l : List Bar) (hlen : l.length ≤ 140737488355328) (hw : schedW l) : Fun Try.prog 9 [.sh 5 (l.map Bar.c)] (Ret (.tup [.sh 2 ((massesV l).map pairC), .lit (.int .i64 (schedE l))]) []) := by
  have hs9 : sizes.length = 9 := rfl
  have hsl := sums_len l
  refine Fun.of (nt := 34) (rs := [.tmp 2, .tmp 3]) Try.func9 rfl rfl rfl rfl rfl ?_
  refine Ev.sr fun K hK => S.o q.as (S.o q.as (S.end (hK _ ?_)))
  clear hK K
  refine Ev.seq ?_
  refine Ev.sr fun K hK => S.o q.mv (S.c0 (hF := schedValid_fun _ (by omega) (by assumption)) (h := S.o q.not (S.end (hK _ ?_))))
  clear hK K
  refine Ev.cn (fun c1 => ?_) (fun c1 => ?_)
  · first
  | (first | omega | contradiction)
  | refine Ev.sr fun K hK => S.o q.as (S.o q.as (S.end (hK _ ?_)))
    clear hK K
    refine Ev.weaken (Wk.nsh pairC 2 2) ?_
    refine Ev.ret ?_
    refine Ev.ret2 ?_
    refine ⟨?_, rfl⟩
    first
     | (rw [massesV, schedE, if_neg ‹_›, if_neg ‹_›]; done)
     | (rw [massesV, schedE, if_pos ‹_›, if_pos ‹_›, ← hp, List.append_nil]; done)
     | (rw [massesV, schedE, if_pos ‹_›, if_pos ‹_›, ← hp]; done)
  · first
  | (first | omega | contradiction)
  | refine Ev.skip ?_
    show Ev _ _ _ _
    refine Ev.sr fun K hK => S.o q.mv (S.c0 (hF := masses_fun _ (by assumption) (by assumption)) (h := S.o q.as (S.end (hK _ ?_))))
    clear hK K
    refine Ev.sr fun K hK => S.o q.as (S.end (hK _ ?_))
    clear hK K
    refine Ev.seq ?_
    refine Ev.sr fun K hK => S.c0 (hF := sizes_fun) (h := S.o (q.lens am_el38) (S.o q.mv (S.end (hK _ ?_))))
    clear hK K
    refine Ev.block ?_
    refine Ev.weaken (Wk.nown pairC 5 34 2) ?_
    refine Ev.loopU (ι := {p : List (Int) × List (Int) // p.1 ++ p.2 = sizes ∧ True}) [0] [0, 2, 3, 4, 13, 14] (fun ⟨(pre, suf), _⟩ => [(15, .lit (.int .i64 ((pre.length : Int)))), (5, .als 0 0 (massesP l pre).length)]) (fun ⟨(pre, suf), _⟩ => [(0, ⟨true, 34, 2, (massesP l pre).map pairC, true⟩)]) (fun ⟨(pre, suf), _⟩ => suf.length) ⟨([], sizes), rfl, trivial⟩ (.c (.c (.c (.c (.c (.c .n)))))) (keep_c (he := (by first | rfl | (rw [massesP_snoc, if_pos ‹_›]; simp; done) | (rw [massesP_snoc, if_pos ‹_›]; done) | (rw [massesP_snoc, if_neg ‹_›]; done))) (h := keep_n)) (slots_c (he := (by first | rfl | (congr 2; simp; done))) (h := (slots_c (he := (by first | rfl | (congr 1; rw [massesP_snoc, if_pos ‹_›]; simp; done) | (congr 1; rw [massesP_snoc, if_pos ‹_›]; done) | (congr 1; rw [massesP_snoc, if_neg ‹_›]; done))) (h := trivial)))) ?_
    rintro ⟨⟨pre, suf⟩, hp, hinv⟩ R0 hR0
    dsimp only [List.cons_append, List.nil_append, List.length_cons, List.length_nil]
    simp only at hp hinv
    have hpl : pre.length + suf.length = (sizes).length := by rw [← hp, List.length_append]
    rcases suf with _ | ⟨s, suf⟩
    · rw [List.append_nil] at hp; simp only [List.length_nil] at hpl
      refine Ev.sr fun K hK => S.o q.lss (S.end (hK _ ?_))
      clear hK K
      refine Ev.ud (fun c2 => ?_) (fun c2 => ?_)
      · first
      | (first | omega | contradiction)
      | refine Ev.seq ?_
        refine Ev.block ?_
        refine Ev.sr fun K hK => S.o q.mv (S.o (q.ix am_el38 am_cl3 (hl := (by first | exact atig (by omega)))) (S.o (q.ls am_ag3) (S.nn (q.al am_ze3) (S.o q.as (S.sv [_] true [_] am_in3 am_cl3 (h := S.end (hK _ ?_)))))))
        clear hK K
        refine Ev.sr fun K hK => S.o q.mv (S.o q.mf (S.c0 (hF := containsFuncBar1 _ _ _ (size_is_fun _) l (by omega)) (h := S.end (hK _ ?_))))
        clear hK K
        refine Ev.cd (fun c3 => ?_) (fun c3 => ?_)
        · first
        | (first | omega | contradiction)
        | refine Ev.region_M (tbs [(0, 0), (0, 0), (0, 0), (0, 0), (4, 12), (5, 28), (6, 62), (7, 126), (8, 255), (9, 511)]) 8 fun K hK => M.o q.mv (M.o (q.lv am_ag3) (M.o q.mv (M.o q.mv (M.o (q.ix am_el38 am_cl3 (hl := (by first | exact atig (by omega)))) (M.o (q.ls am_ag3) (M.o (q.bd [_, _] am_ze34 am_pl34) (M.nn [_] (q.bs [[_, _]] true am_el25 am_ze34 am_cl34) (h := M.end [_, _, _] (h := S.ap' [_, _] am_el25 am_ze34 am_cl34 am_by34 (hh := head_own') (hr := (rows_lit [(⟨_, _⟩ : Int × Int)])) (h := S.o q.as (S.end (hK _ ?_))))))))))))
          clear hK K
          show Ev _ _ _ _
          refine Ev.region_S fun K hK => S.o q.add (S.o q.mv (S.end (hK _ ?_)))
          clear hK K
          refine hR0 _ _ ?_
          refine roundU [34] [0, 2, 3, 4, 13, 14] ⟨(pre ++ [s], suf), by rw [← hp]; simp, ?_⟩ ?_ (keep_c (he := (by first | rfl | (rw [massesP_snoc, if_pos ‹_›]; simp; done) | (rw [massesP_snoc, if_pos ‹_›]; done) | (rw [massesP_snoc, if_neg ‹_›]; done))) (h := keep_n)) (slots_c (he := (by first | rfl | (congr 2; simp; done))) (h := (slots_c (he := (by first | rfl | (congr 1; rw [massesP_snoc, if_pos ‹_›]; simp; done) | (congr 1; rw [massesP_snoc, if_pos ‹_›]; done) | (congr 1; rw [massesP_snoc, if_neg ‹_›]; done))) (h := trivial)))) (.c (.c (.c (.c (.c (.c .n))))))
          trivial
          all_goals (dsimp only; simp only [List.length_cons]; omega)
        · first
        | (first | omega | contradiction)
        | refine Ev.skip ?_
          show Ev _ _ _ _
          refine Ev.region_S fun K hK => S.o q.add (S.o q.mv (S.end (hK _ ?_)))
          clear hK K
          refine hR0 _ _ ?_
          refine roundU [0] [0, 2, 3, 4, 13, 14] ⟨(pre ++ [s], suf), by rw [← hp]; simp, ?_⟩ ?_ (keep_c (he := (by first | rfl | (rw [massesP_snoc, if_pos ‹_›]; simp; done) | (rw [massesP_snoc, if_pos ‹_›]; done) | (rw [massesP_snoc, if_neg ‹_›]; done))) (h := keep_n)) (slots_c (he := (by first | rfl | (congr 2; simp; done))) (h := (slots_c (he := (by first | rfl | (congr 1; rw [massesP_snoc, if_pos ‹_›]; simp; done) | (congr 1; rw [massesP_snoc, if_pos ‹_›]; done) | (congr 1; rw [massesP_snoc, if_neg ‹_›]; done))) (h := trivial)))) (.c (.c (.c (.c (.c (.c .n))))))
          trivial
          all_goals (dsimp only; simp only [List.length_cons]; omega)
      · first
      | (first | omega | contradiction)
      | refine Ev.exit ?_
        refine hR0 _ _ ?_
        show Ev _ _ _ _
        refine Ev.sr fun K hK => S.o q.mv (S.o q.as (S.o q.as (S.end (hK _ ?_))))
        clear hK K
        refine Ev.weaken (Wk.frz 2 []) ?_
        refine Ev.ret ?_
        refine Ev.ret2 ?_
        refine ⟨?_, rfl⟩
        first
         | (rw [massesV, schedE, if_neg ‹_›, if_neg ‹_›]; done)
         | (rw [massesV, schedE, if_pos ‹_›, if_pos ‹_›, ← hp, List.append_nil]; done)
         | (rw [massesV, schedE, if_pos ‹_›, if_pos ‹_›, ← hp]; done)
    · simp only [List.length_cons] at hpl
      have hidx : sizes[pre.length]? = some s := by rw [← hp]; simp
      have hsum : (sumsAt l)[pre.length]? = some (ofSum l s) := by rw [sumsAt, List.getElem?_map, hidx]; rfl
      have hml := massesP_len l pre
      refine Ev.sr fun K hK => S.o q.lss (S.end (hK _ ?_))
      clear hK K
      refine Ev.ud (fun c4 => ?_) (fun c4 => ?_)
      · first
      | (first | omega | contradiction)
      | refine Ev.seq ?_
        refine Ev.block ?_
        refine Ev.sr fun K hK => S.o q.mv (S.o (q.ix am_el38 am_cl3 (hl := (by first | exact ati hidx (by omega) | exact ati hsum (by omega) | exact atig (by omega)))) (S.o (q.ls am_ag3) (S.nn (q.al am_ze3) (S.o q.as (S.sv [_] true [_] am_in3 am_cl3 (h := S.end (hK _ ?_)))))))
        clear hK K
        refine Ev.sr fun K hK => S.o q.mv (S.o q.mf (S.c0 (hF := containsFuncBar1 _ _ _ (size_is_fun _) l (by omega)) (h := S.end (hK _ ?_))))
        clear hK K
        refine Ev.cd (fun c5 => ?_) (fun c5 => ?_)
        · first
        | (first | omega | contradiction)
        | refine Ev.region_M (tbs [(0, 0), (0, 0), (0, 0), (0, 0), (4, 12), (5, 28), (6, 62), (7, 126), (8, 255), (9, 511)]) 8 fun K hK => M.o q.mv (M.o (q.lv am_ag3) (M.o q.mv (M.o q.mv (M.o (q.ix am_el38 am_cl3 (hl := (by first | exact ati hidx (by omega) | exact ati hsum (by omega) | exact atig (by omega)))) (M.o (q.ls am_ag3) (M.o (q.bd [_, _] am_ze34 am_pl34) (M.nn [_] (q.bs [[_, _]] true am_el25 am_ze34 am_cl34) (h := M.end [_, _, _] (h := S.ap' [_, _] am_el25 am_ze34 am_cl34 am_by34 (hh := head_own') (hr := (rows_lit [(⟨_, _⟩ : Int × Int)])) (h := S.o q.as (S.end (hK _ ?_))))))))))))
          clear hK K
          show Ev _ _ _ _
          refine Ev.region_S fun K hK => S.o q.add (S.o q.mv (S.end (hK _ ?_)))
          clear hK K
          refine hR0 _ _ ?_
          refine roundU [34] [0, 2, 3, 4, 13, 14] ⟨(pre ++ [s], suf), by rw [← hp]; simp, ?_⟩ ?_ (keep_c (he := (by first | rfl | (rw [massesP_snoc, if_pos ‹_›]; simp; done) | (rw [massesP_snoc, if_pos ‹_›]; done) | (rw [massesP_snoc, if_neg ‹_›]; done))) (h := keep_n)) (slots_c (he := (by first | rfl | (congr 2; simp; done))) (h := (slots_c (he := (by first | rfl | (congr 1; rw [massesP_snoc, if_pos ‹_›]; simp; done) | (congr 1; rw [massesP_snoc, if_pos ‹_›]; done) | (congr 1; rw [massesP_snoc, if_neg ‹_›]; done))) (h := trivial)))) (.c (.c (.c (.c (.c (.c .n))))))
          trivial
          all_goals (dsimp only; simp only [List.length_cons]; omega)
        · first
        | (first | omega | contradiction)
        | refine Ev.skip ?_
          show Ev _ _ _ _
          refine Ev.region_S fun K hK => S.o q.add (S.o q.mv (S.end (hK _ ?_)))
          clear hK K
          refine hR0 _ _ ?_
          refine roundU [0] [0, 2, 3, 4, 13, 14] ⟨(pre ++ [s], suf), by rw [← hp]; simp, ?_⟩ ?_ (keep_c (he := (by first | rfl | (rw [massesP_snoc, if_pos ‹_›]; simp; done) | (rw [massesP_snoc, if_pos ‹_›]; done) | (rw [massesP_snoc, if_neg ‹_›]; done))) (h := keep_n)) (slots_c (he := (by first | rfl | (congr 2; simp; done))) (h := (slots_c (he := (by first | rfl | (congr 1; rw [massesP_snoc, if_pos ‹_›]; simp; done) | (congr 1; rw [massesP_snoc, if_pos ‹_›]; done) | (congr 1; rw [massesP_snoc, if_neg ‹_›]; done))) (h := trivial)))) (.c (.c (.c (.c (.c (.c .n))))))
          trivial
          all_goals (dsimp only; simp only [List.length_cons]; omega)
      · first
      | (first | omega | contradiction)
      | refine Ev.exit ?_
        refine hR0 _ _ ?_
        show Ev _ _ _ _
        refine Ev.sr fun K hK => S.o q.mv (S.o q.as (S.o q.as (S.end (hK _ ?_))))
        clear hK K
        refine Ev.weaken (Wk.frz 2 []) ?_
        refine Ev.ret ?_
        refine Ev.ret2 ?_
        refine ⟨?_, rfl⟩
        first
         | (rw [massesV, schedE, if_neg ‹_›, if_neg ‹_›]; done)
         | (rw [massesV, schedE, if_pos ‹_›, if_pos ‹_›, ← hp, List.append_nil]; done)
         | (rw [massesV, schedE, if_pos ‹_›, if_pos ‹_›, ← hp]; done)
theorem Total_fun (l : List Bar) (hlen : l.length ≤ 140737488355328) (hw : schedW l) : Fun Try.prog 10 [.sh 5 (l.map Bar.c)] (Ret (.tup [.lit (.int .i64 (totV l)), .lit (.int .i64 (schedE l))]) []) := by
  have hsl := sums_len l
  refine Fun.of (nt := 22) (rs := [.tmp 2, .tmp 3]) Try.func10 rfl rfl rfl rfl rfl ?_
  refine Ev.sr fun K hK => S.o q.as (S.o q.as (S.end (hK _ ?_)))
  clear hK K
  refine Ev.seq ?_
  refine Ev.sr fun K hK => S.o q.mv (S.c0 (hF := schedValid_fun _ (by omega) (by assumption)) (h := S.o q.not (S.end (hK _ ?_))))
  clear hK K
  refine Ev.cn (fun c1 => ?_) (fun c1 => ?_)
  · first
  | (first | omega | contradiction)
  | refine Ev.sr fun K hK => S.o q.as (S.o q.as (S.end (hK _ ?_)))
    clear hK K
    refine Ev.ret ?_
    refine Ev.ret2 ?_
    refine ⟨?_, rfl⟩
    first
     | (rw [totV, schedE, if_neg ‹_›, if_neg ‹_›]; done)
     | (rw [totV, schedE, if_pos ‹_›, if_pos ‹_›, ← htot, ← hp, List.append_nil]; done)
     | (rw [totV, schedE, if_pos ‹_›, if_pos ‹_›, ← htot, ← hp]; done)
  · first
  | (first | omega | contradiction)
  | refine Ev.skip ?_
    show Ev _ _ _ _
    have hok : okSched l := ‹_›
    have htot := (totM_bd l hok.2.1).2
    have hl60 := hok.1
    have hob : ∀ n ∈ sumsAt l, 0 ≤ n ∧ n ≤ 620589240000 := fun n hn => by
      rw [sumsAt, List.mem_map] at hn
      obtain ⟨d, _, rfl⟩ := hn
      have := ofSum_bd l hok.2.1 d
      omega
    refine Ev.sr fun K hK => S.o q.as (S.end (hK _ ?_))
    clear hK K
    refine Ev.seq ?_
    refine Ev.sr fun K hK => S.o q.mv (S.c0 (hF := masses_fun _ (by assumption) (by assumption)) (h := S.o (q.lens am_el38) (S.o q.mv (S.end (hK _ ?_)))))
    clear hK K
    refine Ev.block ?_
    refine Ev.loopU (ι := {q : List Int × List Int // q.1 ++ q.2 = sumsAt l ∧ 0 ≤ sumI q.1 ∧ sumI q.1 ≤ 620589240000 * q.1.length}) [] [2, 3, 11, 12] (fun ⟨(pre, suf), _⟩ => [(13, .lit (.int .i64 ((pre.length : Int)))), (4, .lit (.int .i64 (sumI pre)))]) (fun ⟨(pre, suf), _⟩ => []) (fun ⟨(pre, suf), _⟩ => suf.length) ⟨([], (sumsAt l)), rfl, (by decide : 0 ≤ sumI [] ∧ sumI [] ≤ 620589240000 * (([] : List Int).length : Int))⟩ (.c (.c (.c (.c .n)))) keep_n (slots_c (he := (by first | rfl | (congr 2; simp; done))) (h := (slots_c (he := (by first | rfl | (congr 2; rw [sumI_app, show sumI [s] = s by simp [sumI]]; done))) (h := trivial)))) ?_
    rintro ⟨⟨pre, suf⟩, hp, hinv⟩ R0 hR0
    dsimp only [List.cons_append, List.nil_append, List.length_cons, List.length_nil]
    simp only at hp hinv
    have hpl : pre.length + suf.length = ((sumsAt l)).length := by rw [← hp, List.length_append]
    rcases suf with _ | ⟨s, suf⟩
    · rw [List.append_nil] at hp; simp only [List.length_nil] at hpl
      refine Ev.sr fun K hK => S.o q.lss (S.end (hK _ ?_))
      clear hK K
      refine Ev.ud (fun c2 => ?_) (fun c2 => ?_)
      · first
      | (first | omega | contradiction)
      | refine Ev.seq ?_
        refine Ev.block ?_
        refine Ev.sr fun K hK => S.o (q.ix am_el38 am_cl3 (hl := (by first | exact atig (by omega)))) (S.o (q.ls am_ag3) (S.o q.as (S.end (hK _ ?_))))
        clear hK K
        refine Ev.region_S fun K hK => S.o q.mv (S.o q.mv (S.o q.add (S.o q.as (S.end (hK _ ?_)))))
        clear hK K
        show Ev _ _ _ _
        refine Ev.region_S fun K hK => S.o q.add (S.o q.mv (S.end (hK _ ?_)))
        clear hK K
        refine hR0 _ _ ?_
        refine roundU [] [2, 3, 11, 12] ⟨(pre ++ [s], suf), by rw [← hp]; simp, ?_⟩ ?_ keep_n (slots_c (he := (by first | rfl | (congr 2; simp; done))) (h := (slots_c (he := (by first | rfl | (congr 2; rw [sumI_app, show sumI [s] = s by simp [sumI]]; done))) (h := trivial)))) (.c (.c (.c (.c .n))))
        (rw [sumI_app, show sumI [s] = s by simp [sumI], List.length_append, List.length_singleton]; omega)
        all_goals (dsimp only; simp only [List.length_cons]; omega)
      · first
      | (first | omega | contradiction)
      | refine Ev.exit ?_
        refine hR0 _ _ ?_
        show Ev _ _ _ _
        refine Ev.sr fun K hK => S.o q.mv (S.o q.as (S.o q.as (S.end (hK _ ?_))))
        clear hK K
        refine Ev.ret ?_
        refine Ev.ret2 ?_
        refine ⟨?_, rfl⟩
        first
         | (rw [totV, schedE, if_neg ‹_›, if_neg ‹_›]; done)
         | (rw [totV, schedE, if_pos ‹_›, if_pos ‹_›, ← htot, ← hp, List.append_nil]; done)
         | (rw [totV, schedE, if_pos ‹_›, if_pos ‹_›, ← htot, ← hp]; done)
    · simp only [List.length_cons] at hpl
      have hidx : (sumsAt l)[pre.length]? = some s := by rw [← hp]; simp
      have hsb := hob s (by rw [← hp]; simp)
      obtain ⟨v1, v2⟩ := hinv
      refine Ev.sr fun K hK => S.o q.lss (S.end (hK _ ?_))
      clear hK K
      refine Ev.ud (fun c3 => ?_) (fun c3 => ?_)
      · first
      | (first | omega | contradiction)
      | refine Ev.seq ?_
        refine Ev.block ?_
        refine Ev.sr fun K hK => S.o (q.ix am_el38 am_cl3 (hl := (by first | exact ati hidx (by omega) | exact atig (by omega)))) (S.o (q.ls am_ag3) (S.o q.as (S.end (hK _ ?_))))
        clear hK K
        refine Ev.region_S fun K hK => S.o q.mv (S.o q.mv (S.o q.add (S.o q.as (S.end (hK _ ?_)))))
        clear hK K
        show Ev _ _ _ _
        refine Ev.region_S fun K hK => S.o q.add (S.o q.mv (S.end (hK _ ?_)))
        clear hK K
        refine hR0 _ _ ?_
        refine roundU [] [2, 3, 11, 12] ⟨(pre ++ [s], suf), by rw [← hp]; simp, ?_⟩ ?_ keep_n (slots_c (he := (by first | rfl | (congr 2; simp; done))) (h := (slots_c (he := (by first | rfl | (congr 2; rw [sumI_app, show sumI [s] = s by simp [sumI]]; done))) (h := trivial)))) (.c (.c (.c (.c .n))))
        (rw [sumI_app, show sumI [s] = s by simp [sumI], List.length_append, List.length_singleton]; omega)
        all_goals (dsimp only; simp only [List.length_cons]; omega)
      · first
      | (first | omega | contradiction)
      | refine Ev.exit ?_
        refine hR0 _ _ ?_
        show Ev _ _ _ _
        refine Ev.sr fun K hK => S.o q.mv (S.o q.as (S.o q.as (S.end (hK _ ?_))))
        clear hK K
        refine Ev.ret ?_
        refine Ev.ret2 ?_
        refine ⟨?_, rfl⟩
        first
         | (rw [totV, schedE, if_neg ‹_›, if_neg ‹_›]; done)
         | (rw [totV, schedE, if_pos ‹_›, if_pos ‹_›, ← htot, ← hp, List.append_nil]; done)
         | (rw [totV, schedE, if_pos ‹_›, if_pos ‹_›, ← htot, ← hp]; done)
theorem rhas_fun (l : List Bar) (d : Int) (hlen : l.length ≤ 140737488355328) : Fun Try.prog 38 [.sh 5 (l.map Bar.c), .lit (.int .i64 d)] (Ret (.lit (.bool (decide (∃ b ∈ l, decide (b.size = d) = true)))) []) := by
  refine Fun.of (nt := 19) (rs := [.tmp 4]) Try.func38 rfl rfl rfl rfl rfl ?_
  refine Ev.sr fun K hK => S.o q.as (S.end (hK _ ?_))
  clear hK K
  refine Ev.seq ?_
  refine Ev.sr fun K hK => S.o q.as (S.end (hK _ ?_))
  clear hK K
  refine Ev.block ?_
  refine Ev.loopU (ι := {q : List Bar × List Bar // q.1 ++ q.2 = l ∧ ∀ x ∈ q.1, ¬ x.size = d}) [] [0, 1] (fun ⟨(pre, suf), _⟩ => [(5, .lit (.int .i64 ((pre.length : Int))))]) (fun ⟨(pre, suf), _⟩ => []) (fun ⟨(pre, suf), _⟩ => suf.length) ⟨([], l), rfl, fun x hx => by simp at hx⟩ (.c (.c .n)) keep_n (slots_c (he := (by first | rfl | (simp; done) | (congr 2; omega))) (h := trivial)) ?_
  rintro ⟨⟨pre, suf⟩, hp, hinv⟩ R0 hR0
  dsimp only [List.cons_append, List.nil_append, List.length_cons, List.length_nil]
  simp only at hp hinv
  have hpl : pre.length + suf.length = (l).length := by rw [← hp, List.length_append]
  rcases suf with _ | ⟨s, suf⟩
  · rw [List.append_nil] at hp; simp only [List.length_nil] at hpl
    refine Ev.seq ?_
    refine Ev.sr fun K hK => S.o q.mv (S.o q.mv (S.o (q.lens am_el22) (S.o q.lss (S.end (hK _ ?_)))))
    clear hK K
    refine Ev.cd (fun c1 => ?_) (fun c1 => ?_)
    · first
    | (first | omega | contradiction)
    | refine Ev.skip ?_
      show Ev _ _ _ _
      refine Ev.seq ?_
      refine Ev.block ?_
      refine Ev.sr fun K hK => S.o q.mv (S.o q.mv (S.o (q.ix am_el22 am_cl40 (hl := (by first | exact atig (by omega)))) (S.o (q.fs 1 am_fi40_1 am_cl3) (S.o (q.ls am_ag3) (S.o q.mv (S.o q.eql (S.end (hK _ ?_))))))))
      clear hK K
      refine Ev.cd (fun c2 => ?_) (fun c2 => ?_)
      · first
      | (first | omega | contradiction)
      | refine Ev.sr fun K hK => S.o q.as (S.end (hK _ ?_))
        clear hK K
        refine Ev.ret ?_
        refine hR0 _ _ ?_
        refine Ev.ret1 ?_
        refine ⟨?_, rfl⟩
        first
         | exact bT ⟨s, by rw [← hp]; simp, decide_eq_true ‹_›⟩
         | exact bF (fun h => by obtain ⟨b, h1, h2⟩ := h; exact absurd (of_decide_eq_true h2) (hinv b (by rw [hp]; exact h1)))
         | exact bF (fun h => by obtain ⟨b, h1, h2⟩ := h; exact absurd (of_decide_eq_true h2) (hinv b (by rw [← hp] at h1; exact h1)))
      · first
      | (first | omega | contradiction)
      | refine Ev.skip ?_
        show Ev _ _ _ _
        refine Ev.region_S fun K hK => S.o q.mv (S.o q.add (S.o q.as (S.end (hK _ ?_))))
        clear hK K
        refine hR0 _ _ ?_
        refine roundU [] [0, 1] ⟨(pre ++ [s], suf), by rw [← hp]; simp, ?_⟩ ?_ keep_n (slots_c (he := (by first | rfl | (simp; done) | (congr 2; omega))) (h := trivial)) (.c (.c .n))
        intro x hx; simp only [List.mem_append, List.mem_singleton] at hx; rcases hx with hx | rfl
        · exact hinv x hx
        · assumption
        all_goals (dsimp only; simp only [List.length_cons]; omega)
    · first
    | (first | omega | contradiction)
    | refine Ev.exit ?_
      refine hR0 _ _ ?_
      show Ev _ _ _ _
      refine Ev.sr fun K hK => S.o q.as (S.end (hK _ ?_))
      clear hK K
      refine Ev.ret ?_
      refine Ev.ret1 ?_
      refine ⟨?_, rfl⟩
      first
       | exact bT ⟨s, by rw [← hp]; simp, decide_eq_true ‹_›⟩
       | exact bF (fun h => by obtain ⟨b, h1, h2⟩ := h; exact absurd (of_decide_eq_true h2) (hinv b (by rw [hp]; exact h1)))
       | exact bF (fun h => by obtain ⟨b, h1, h2⟩ := h; exact absurd (of_decide_eq_true h2) (hinv b (by rw [← hp] at h1; exact h1)))
  · simp only [List.length_cons] at hpl
    have hidx : l[pre.length]? = some s := by rw [← hp]; simp
    refine Ev.seq ?_
    refine Ev.sr fun K hK => S.o q.mv (S.o q.mv (S.o (q.lens am_el22) (S.o q.lss (S.end (hK _ ?_)))))
    clear hK K
    refine Ev.cd (fun c3 => ?_) (fun c3 => ?_)
    · first
    | (first | omega | contradiction)
    | refine Ev.skip ?_
      show Ev _ _ _ _
      refine Ev.seq ?_
      refine Ev.block ?_
      refine Ev.sr fun K hK => S.o q.mv (S.o q.mv (S.o (q.ix am_el22 am_cl40 (hl := (by first | exact ati hidx (by omega) | exact atig (by omega)))) (S.o (q.fs 1 am_fi40_1 am_cl3) (S.o (q.ls am_ag3) (S.o q.mv (S.o q.eql (S.end (hK _ ?_))))))))
      clear hK K
      refine Ev.cd (fun c4 => ?_) (fun c4 => ?_)
      · first
      | (first | omega | contradiction)
      | refine Ev.sr fun K hK => S.o q.as (S.end (hK _ ?_))
        clear hK K
        refine Ev.ret ?_
        refine hR0 _ _ ?_
        refine Ev.ret1 ?_
        refine ⟨?_, rfl⟩
        first
         | exact bT ⟨s, by rw [← hp]; simp, decide_eq_true ‹_›⟩
         | exact bF (fun h => by obtain ⟨b, h1, h2⟩ := h; exact absurd (of_decide_eq_true h2) (hinv b (by rw [hp]; exact h1)))
         | exact bF (fun h => by obtain ⟨b, h1, h2⟩ := h; exact absurd (of_decide_eq_true h2) (hinv b (by rw [← hp] at h1; exact h1)))
      · first
      | (first | omega | contradiction)
      | refine Ev.skip ?_
        show Ev _ _ _ _
        refine Ev.region_S fun K hK => S.o q.mv (S.o q.add (S.o q.as (S.end (hK _ ?_))))
        clear hK K
        refine hR0 _ _ ?_
        refine roundU [] [0, 1] ⟨(pre ++ [s], suf), by rw [← hp]; simp, ?_⟩ ?_ keep_n (slots_c (he := (by first | rfl | (simp; done) | (congr 2; omega))) (h := trivial)) (.c (.c .n))
        intro x hx; simp only [List.mem_append, List.mem_singleton] at hx; rcases hx with hx | rfl
        · exact hinv x hx
        · assumption
        all_goals (dsimp only; simp only [List.length_cons]; omega)
    · first
    | (first | omega | contradiction)
    | refine Ev.exit ?_
      refine hR0 _ _ ?_
      show Ev _ _ _ _
      refine Ev.sr fun K hK => S.o q.as (S.end (hK _ ?_))
      clear hK K
      refine Ev.ret ?_
      refine Ev.ret1 ?_
      refine ⟨?_, rfl⟩
      first
       | exact bT ⟨s, by rw [← hp]; simp, decide_eq_true ‹_›⟩
       | exact bF (fun h => by obtain ⟨b, h1, h2⟩ := h; exact absurd (of_decide_eq_true h2) (hinv b (by rw [hp]; exact h1)))
       | exact bF (fun h => by obtain ⟨b, h1, h2⟩ := h; exact absurd (of_decide_eq_true h2) (hinv b (by rw [← hp] at h1; exact h1)))
theorem rof_fun (l : List Bar) (d : Int) (hok : okSched l) : Fun Try.prog 39 [.sh 5 (l.map Bar.c), .lit (.int .i64 d)] (Ret (.lit (.int .i64 (ofSum l d))) []) := by
  have hl := hok.1
  refine Fun.of (nt := 34) (rs := [.tmp 4]) Try.func39 rfl rfl rfl rfl rfl ?_
  refine Ev.sr fun K hK => S.o q.as (S.end (hK _ ?_))
  clear hK K
  refine Ev.sr fun K hK => S.o q.as (S.end (hK _ ?_))
  clear hK K
  refine Ev.seq ?_
  refine Ev.sr fun K hK => S.o q.as (S.end (hK _ ?_))
  clear hK K
  refine Ev.block ?_
  refine Ev.loopU (ι := {p : List (Bar) × List (Bar) // p.1 ++ p.2 = l ∧ True}) [] [0, 1, 4] (fun ⟨(pre, suf), _⟩ => [(6, .lit (.int .i64 ((pre.length : Int)))), (5, .lit (.int .i64 (ofSum pre d)))]) (fun ⟨(pre, suf), _⟩ => []) (fun ⟨(pre, suf), _⟩ => suf.length) ⟨([], l), rfl, trivial⟩ (.c (.c (.c .n))) keep_n (slots_c (he := (by first | rfl | (congr 2; simp; done))) (h := (slots_c (he := (by first | rfl | (congr 2; rw [ofSum_snoc, if_pos ‹_›]; done) | (congr 2; rw [ofSum_snoc, if_pos ‹_›] <;> rfl) | (congr 2; rw [ofSum_snoc, if_neg ‹_›]; done))) (h := trivial)))) ?_
  rintro ⟨⟨pre, suf⟩, hp, hinv⟩ R0 hR0
  dsimp only [List.cons_append, List.nil_append, List.length_cons, List.length_nil]
  simp only at hp hinv
  have hpl : pre.length + suf.length = (l).length := by rw [← hp, List.length_append]
  rcases suf with _ | ⟨s, suf⟩
  · rw [List.append_nil] at hp; simp only [List.length_nil] at hpl
    refine Ev.seq ?_
    refine Ev.sr fun K hK => S.o q.mv (S.o q.mv (S.o (q.lens am_el22) (S.o q.lss (S.end (hK _ ?_)))))
    clear hK K
    refine Ev.cd (fun c1 => ?_) (fun c1 => ?_)
    · first
    | (first | omega | contradiction)
    | refine Ev.skip ?_
      show Ev _ _ _ _
      refine Ev.seq ?_
      refine Ev.block ?_
      refine Ev.sr fun K hK => S.o q.mv (S.o q.mv (S.o (q.ix am_el22 am_cl40 (hl := (by first | exact atig (by omega)))) (S.o (q.fs 1 am_fi40_1 am_cl3) (S.o (q.ls am_ag3) (S.o q.mv (S.o q.eql (S.end (hK _ ?_))))))))
      clear hK K
      refine Ev.cd (fun c2 => ?_) (fun c2 => ?_)
      · first
      | (first | omega | contradiction)
      | obtain ⟨o1, o2⟩ := ofSum_bd pre hpok d
        refine Ev.region_M (tbs [(0, 0), (0, 0), (0, 0), (3, 6), (4, 14), (5, 30), (0, 0), (0, 0), (8, 192), (9, 448), (10, 960), (11, 2046), (12, 4095), (13, 8191)]) 13 fun K hK => M.o q.mv (M.o q.mv (M.o q.mv (M.o (q.ix am_el22 am_cl40 (hl := (by first | exact atig (by omega)))) (M.o (q.fs 2 am_fi40_2 am_cl3) (M.o (q.ls am_ag3) (M.o q.mv (M.o q.mv (M.o (q.ix am_el22 am_cl40 (hl := (by first | exact atig (by omega)))) (M.o (q.lsA [_, _, _, _, _] am_ag40 am_cl40) (M.c0 (hF := one_fun _ (by assumption)) (h := M.o (q.mul (h1 := by omega) (h2 := by omega)) (M.o q.add (M.end [] (h := S.o q.as (S.end (hK _ ?_))))))))))))))))
        clear hK K
        show Ev _ _ _ _
        refine Ev.region_S fun K hK => S.o q.mv (S.o q.add (S.o q.as (S.end (hK _ ?_))))
        clear hK K
        refine hR0 _ _ ?_
        refine roundU [] [0, 1, 4] ⟨(pre ++ [s], suf), by rw [← hp]; simp, ?_⟩ ?_ keep_n (slots_c (he := (by first | rfl | (congr 2; simp; done))) (h := (slots_c (he := (by first | rfl | (congr 2; rw [ofSum_snoc, if_pos ‹_›]; done) | (congr 2; rw [ofSum_snoc, if_pos ‹_›] <;> rfl) | (congr 2; rw [ofSum_snoc, if_neg ‹_›]; done))) (h := trivial)))) (.c (.c (.c .n)))
        trivial
        all_goals (dsimp only; simp only [List.length_cons]; omega)
      · first
      | (first | omega | contradiction)
      | refine Ev.skip ?_
        show Ev _ _ _ _
        refine Ev.region_S fun K hK => S.o q.mv (S.o q.add (S.o q.as (S.end (hK _ ?_))))
        clear hK K
        refine hR0 _ _ ?_
        refine roundU [] [0, 1, 4] ⟨(pre ++ [s], suf), by rw [← hp]; simp, ?_⟩ ?_ keep_n (slots_c (he := (by first | rfl | (congr 2; simp; done))) (h := (slots_c (he := (by first | rfl | (congr 2; rw [ofSum_snoc, if_pos ‹_›]; done) | (congr 2; rw [ofSum_snoc, if_pos ‹_›] <;> rfl) | (congr 2; rw [ofSum_snoc, if_neg ‹_›]; done))) (h := trivial)))) (.c (.c (.c .n)))
        trivial
        all_goals (dsimp only; simp only [List.length_cons]; omega)
    · first
    | (first | omega | contradiction)
    | refine Ev.exit ?_
      refine hR0 _ _ ?_
      show Ev _ _ _ _
      refine Ev.sr fun K hK => S.o q.mv (S.o q.as (S.end (hK _ ?_)))
      clear hK K
      refine Ev.ret ?_
      refine Ev.ret1 ?_
      refine ⟨?_, rfl⟩
      first | (rw [← hp, List.append_nil]; done) | (rw [← hp]; done) | rfl
  · simp only [List.length_cons] at hpl
    have hidx : l[pre.length]? = some s := by rw [← hp]; simp
    have hsok : okBar s := hok.2.1 s (by rw [← hp]; simp)
    obtain ⟨m1, m2, m3, m4⟩ := barMass_bd hsok
    have hbm : s.count * oneOf s = barMass s := rfl
    have hpok : ∀ b ∈ pre, okBar b := fun b hb => hok.2.1 b (by rw [← hp]; simp [hb])
    refine Ev.seq ?_
    refine Ev.sr fun K hK => S.o q.mv (S.o q.mv (S.o (q.lens am_el22) (S.o q.lss (S.end (hK _ ?_)))))
    clear hK K
    refine Ev.cd (fun c3 => ?_) (fun c3 => ?_)
    · first
    | (first | omega | contradiction)
    | refine Ev.skip ?_
      show Ev _ _ _ _
      refine Ev.seq ?_
      refine Ev.block ?_
      refine Ev.sr fun K hK => S.o q.mv (S.o q.mv (S.o (q.ix am_el22 am_cl40 (hl := (by first | exact ati hidx (by omega) | exact atig (by omega)))) (S.o (q.fs 1 am_fi40_1 am_cl3) (S.o (q.ls am_ag3) (S.o q.mv (S.o q.eql (S.end (hK _ ?_))))))))
      clear hK K
      refine Ev.cd (fun c4 => ?_) (fun c4 => ?_)
      · first
      | (first | omega | contradiction)
      | obtain ⟨o1, o2⟩ := ofSum_bd pre hpok d
        refine Ev.region_M (tbs [(0, 0), (0, 0), (0, 0), (3, 6), (4, 14), (5, 30), (0, 0), (0, 0), (8, 192), (9, 448), (10, 960), (11, 2046), (12, 4095), (13, 8191)]) 13 fun K hK => M.o q.mv (M.o q.mv (M.o q.mv (M.o (q.ix am_el22 am_cl40 (hl := (by first | exact ati hidx (by omega) | exact atig (by omega)))) (M.o (q.fs 2 am_fi40_2 am_cl3) (M.o (q.ls am_ag3) (M.o q.mv (M.o q.mv (M.o (q.ix am_el22 am_cl40 (hl := (by first | exact ati hidx (by omega) | exact atig (by omega)))) (M.o (q.lsA [_, _, _, _, _] am_ag40 am_cl40) (M.c0 (hF := one_fun _ (by assumption)) (h := M.o (q.mul (h1 := by omega) (h2 := by omega)) (M.o q.add (M.end [] (h := S.o q.as (S.end (hK _ ?_))))))))))))))))
        clear hK K
        show Ev _ _ _ _
        refine Ev.region_S fun K hK => S.o q.mv (S.o q.add (S.o q.as (S.end (hK _ ?_))))
        clear hK K
        refine hR0 _ _ ?_
        refine roundU [] [0, 1, 4] ⟨(pre ++ [s], suf), by rw [← hp]; simp, ?_⟩ ?_ keep_n (slots_c (he := (by first | rfl | (congr 2; simp; done))) (h := (slots_c (he := (by first | rfl | (congr 2; rw [ofSum_snoc, if_pos ‹_›]; done) | (congr 2; rw [ofSum_snoc, if_pos ‹_›] <;> rfl) | (congr 2; rw [ofSum_snoc, if_neg ‹_›]; done))) (h := trivial)))) (.c (.c (.c .n)))
        trivial
        all_goals (dsimp only; simp only [List.length_cons]; omega)
      · first
      | (first | omega | contradiction)
      | refine Ev.skip ?_
        show Ev _ _ _ _
        refine Ev.region_S fun K hK => S.o q.mv (S.o q.add (S.o q.as (S.end (hK _ ?_))))
        clear hK K
        refine hR0 _ _ ?_
        refine roundU [] [0, 1, 4] ⟨(pre ++ [s], suf), by rw [← hp]; simp, ?_⟩ ?_ keep_n (slots_c (he := (by first | rfl | (congr 2; simp; done))) (h := (slots_c (he := (by first | rfl | (congr 2; rw [ofSum_snoc, if_pos ‹_›]; done) | (congr 2; rw [ofSum_snoc, if_pos ‹_›] <;> rfl) | (congr 2; rw [ofSum_snoc, if_neg ‹_›]; done))) (h := trivial)))) (.c (.c (.c .n)))
        trivial
        all_goals (dsimp only; simp only [List.length_cons]; omega)
    · first
    | (first | omega | contradiction)
    | refine Ev.exit ?_
      refine hR0 _ _ ?_
      show Ev _ _ _ _
      refine Ev.sr fun K hK => S.o q.mv (S.o q.as (S.end (hK _ ?_)))
      clear hK K
      refine Ev.ret ?_
      refine Ev.ret1 ?_
      refine ⟨?_, rfl⟩
      first | (rw [← hp, List.append_nil]; done) | (rw [← hp]; done) | rfl
theorem rtotal_fun (l : List Bar) (hok : okSched l) : Fun Try.prog 14 [.sh 5 (l.map Bar.c)] (Ret (.lit (.int .i64 (totM l))) []) := by
  have hl := hok.1
  refine Fun.of (nt := 25) (rs := [.tmp 2]) Try.func14 rfl rfl rfl rfl rfl ?_
  refine Ev.sr fun K hK => S.o q.as (S.end (hK _ ?_))
  clear hK K
  refine Ev.sr fun K hK => S.o q.as (S.end (hK _ ?_))
  clear hK K
  refine Ev.seq ?_
  refine Ev.sr fun K hK => S.o q.as (S.end (hK _ ?_))
  clear hK K
  refine Ev.block ?_
  refine Ev.loopU (ι := {p : List (Bar) × List (Bar) // p.1 ++ p.2 = l ∧ True}) [] [0, 2] (fun ⟨(pre, suf), _⟩ => [(4, .lit (.int .i64 ((pre.length : Int)))), (3, .lit (.int .i64 (totM pre)))]) (fun ⟨(pre, suf), _⟩ => []) (fun ⟨(pre, suf), _⟩ => suf.length) ⟨([], l), rfl, trivial⟩ (.c (.c .n)) keep_n (slots_c (he := (by first | rfl | (congr 2; simp; done))) (h := (slots_c (he := (by first | rfl | (congr 2; rw [totM_snoc] <;> rfl))) (h := trivial)))) ?_
  rintro ⟨⟨pre, suf⟩, hp, hinv⟩ R0 hR0
  dsimp only [List.cons_append, List.nil_append, List.length_cons, List.length_nil]
  simp only at hp hinv
  have hpl : pre.length + suf.length = (l).length := by rw [← hp, List.length_append]
  rcases suf with _ | ⟨s, suf⟩
  · rw [List.append_nil] at hp; simp only [List.length_nil] at hpl
    refine Ev.seq ?_
    refine Ev.sr fun K hK => S.o q.mv (S.o q.mv (S.o (q.lens am_el22) (S.o q.lss (S.end (hK _ ?_)))))
    clear hK K
    refine Ev.cd (fun c1 => ?_) (fun c1 => ?_)
    · first
    | (first | omega | contradiction)
    | refine Ev.skip ?_
      show Ev _ _ _ _
      refine Ev.seq ?_
      refine Ev.block ?_
      refine Ev.region_M (tbs [(0, 0), (0, 0), (0, 0), (3, 6), (4, 14), (5, 30), (0, 0), (0, 0), (8, 192), (9, 448), (10, 960), (11, 2046), (12, 4095), (13, 8191)]) 13 fun K hK => M.o q.mv (M.o q.mv (M.o q.mv (M.o (q.ix am_el22 am_cl40 (hl := (by first | exact atig (by omega)))) (M.o (q.fs 2 am_fi40_2 am_cl3) (M.o (q.ls am_ag3) (M.o q.mv (M.o q.mv (M.o (q.ix am_el22 am_cl40 (hl := (by first | exact atig (by omega)))) (M.o (q.lsA [_, _, _, _, _] am_ag40 am_cl40) (M.c0 (hF := one_fun _ (by assumption)) (h := M.o q.mul (M.o q.add (M.end [] (h := S.o q.as (S.end (hK _ ?_))))))))))))))))
      clear hK K
      show Ev _ _ _ _
      refine Ev.region_S fun K hK => S.o q.mv (S.o q.add (S.o q.as (S.end (hK _ ?_))))
      clear hK K
      refine hR0 _ _ ?_
      refine roundU [] [0, 2] ⟨(pre ++ [s], suf), by rw [← hp]; simp, ?_⟩ ?_ keep_n (slots_c (he := (by first | rfl | (congr 2; simp; done))) (h := (slots_c (he := (by first | rfl | (congr 2; rw [totM_snoc] <;> rfl))) (h := trivial)))) (.c (.c .n))
      trivial
      all_goals (dsimp only; simp only [List.length_cons]; omega)
    · first
    | (first | omega | contradiction)
    | refine Ev.exit ?_
      refine hR0 _ _ ?_
      show Ev _ _ _ _
      refine Ev.sr fun K hK => S.o q.mv (S.o q.as (S.end (hK _ ?_)))
      clear hK K
      refine Ev.ret ?_
      refine Ev.ret1 ?_
      refine ⟨?_, rfl⟩
      first | (rw [← hp, List.append_nil]; done) | (rw [← hp]; done) | rfl
  · simp only [List.length_cons] at hpl
    have hidx : l[pre.length]? = some s := by rw [← hp]; simp
    have hsok : okBar s := hok.2.1 s (by rw [← hp]; simp)
    obtain ⟨m1, m2, m3, m4⟩ := barMass_bd hsok
    have hbm : s.count * oneOf s = barMass s := rfl
    have hpok : ∀ b ∈ pre, okBar b := fun b hb => hok.2.1 b (by rw [← hp]; simp [hb])
    obtain ⟨⟨o1, o2⟩, _⟩ := totM_bd pre hpok
    refine Ev.seq ?_
    refine Ev.sr fun K hK => S.o q.mv (S.o q.mv (S.o (q.lens am_el22) (S.o q.lss (S.end (hK _ ?_)))))
    clear hK K
    refine Ev.cd (fun c2 => ?_) (fun c2 => ?_)
    · first
    | (first | omega | contradiction)
    | refine Ev.skip ?_
      show Ev _ _ _ _
      refine Ev.seq ?_
      refine Ev.block ?_
      refine Ev.region_M (tbs [(0, 0), (0, 0), (0, 0), (3, 6), (4, 14), (5, 30), (0, 0), (0, 0), (8, 192), (9, 448), (10, 960), (11, 2046), (12, 4095), (13, 8191)]) 13 fun K hK => M.o q.mv (M.o q.mv (M.o q.mv (M.o (q.ix am_el22 am_cl40 (hl := (by first | exact ati hidx (by omega) | exact atig (by omega)))) (M.o (q.fs 2 am_fi40_2 am_cl3) (M.o (q.ls am_ag3) (M.o q.mv (M.o q.mv (M.o (q.ix am_el22 am_cl40 (hl := (by first | exact ati hidx (by omega) | exact atig (by omega)))) (M.o (q.lsA [_, _, _, _, _] am_ag40 am_cl40) (M.c0 (hF := one_fun _ (by assumption)) (h := M.o q.mul (M.o q.add (M.end [] (h := S.o q.as (S.end (hK _ ?_))))))))))))))))
      clear hK K
      show Ev _ _ _ _
      refine Ev.region_S fun K hK => S.o q.mv (S.o q.add (S.o q.as (S.end (hK _ ?_))))
      clear hK K
      refine hR0 _ _ ?_
      refine roundU [] [0, 2] ⟨(pre ++ [s], suf), by rw [← hp]; simp, ?_⟩ ?_ keep_n (slots_c (he := (by first | rfl | (congr 2; simp; done))) (h := (slots_c (he := (by first | rfl | (congr 2; rw [totM_snoc] <;> rfl))) (h := trivial)))) (.c (.c .n))
      trivial
      all_goals (dsimp only; simp only [List.length_cons]; omega)
    · first
    | (first | omega | contradiction)
    | refine Ev.exit ?_
      refine hR0 _ _ ?_
      show Ev _ _ _ _
      refine Ev.sr fun K hK => S.o q.mv (S.o q.as (S.end (hK _ ?_)))
      clear hK K
      refine Ev.ret ?_
      refine Ev.ret1 ?_
      refine ⟨?_, rfl⟩
      first | (rw [← hp, List.append_nil]; done) | (rw [← hp]; done) | rfl
theorem rmasses_fun (l : List Bar) (hok : okSched l) : Fun Try.prog 13 [.sh 5 (l.map Bar.c)] (Ret (.sh 2 ((massesP l sizes).map pairC)) []) := by
  have hl := hok.1
  generalize hsz : sizes = sz
  have hszl : sz.length = 9 := by rw [← hsz]; rfl
  refine Fun.of (nt := 34) (rs := [.tmp 2]) Try.func13 rfl rfl rfl rfl rfl ?_
  refine Ev.sr fun K hK => S.o q.as (S.end (hK _ ?_))
  clear hK K
  refine Ev.sr fun K hK => S.c0 (hF := hsz ▸ rsizes_fun) (h := S.o q.as (S.end (hK _ ?_)))
  clear hK K
  refine Ev.sr fun K hK => S.o q.as (S.end (hK _ ?_))
  clear hK K
  refine Ev.seq ?_
  refine Ev.sr fun K hK => S.o q.as (S.end (hK _ ?_))
  clear hK K
  refine Ev.block ?_
  refine Ev.weaken (Wk.nown pairC 4 34 2) ?_
  refine Ev.loopU (ι := {p : List (Int) × List (Int) // p.1 ++ p.2 = sz ∧ True}) [0] [0, 2, 3] (fun ⟨(pre, suf), _⟩ => [(5, .lit (.int .i64 ((pre.length : Int)))), (4, .als 0 0 (massesP l pre).length)]) (fun ⟨(pre, suf), _⟩ => [(0, ⟨true, 34, 2, (massesP l pre).map pairC, true⟩)]) (fun ⟨(pre, suf), _⟩ => suf.length) ⟨([], sz), rfl, trivial⟩ (.c (.c (.c .n))) (keep_c (he := (by first | rfl | (rw [massesP_snoc, if_pos ‹_›]; simp; done) | (rw [massesP_snoc, if_pos ‹_›]; done) | (rw [massesP_snoc, if_neg ‹_›]; done))) (h := keep_n)) (slots_c (he := (by first | rfl | (congr 2; simp; done))) (h := (slots_c (he := (by first | rfl | (congr 1; rw [massesP_snoc, if_pos ‹_›]; simp; done) | (congr 1; rw [massesP_snoc, if_pos ‹_›]; done) | (congr 1; rw [massesP_snoc, if_neg ‹_›]; done))) (h := trivial)))) ?_
  rintro ⟨⟨pre, suf⟩, hp, hinv⟩ R0 hR0
  dsimp only [List.cons_append, List.nil_append, List.length_cons, List.length_nil]
  simp only at hp hinv
  have hpl : pre.length + suf.length = (sz).length := by rw [← hp, List.length_append]
  rcases suf with _ | ⟨s, suf⟩
  · rw [List.append_nil] at hp; simp only [List.length_nil] at hpl
    refine Ev.seq ?_
    refine Ev.sr fun K hK => S.o q.mv (S.o q.mv (S.o (q.lens am_el38) (S.o q.lss (S.end (hK _ ?_)))))
    clear hK K
    refine Ev.cd (fun c1 => ?_) (fun c1 => ?_)
    · first
    | (first | omega | contradiction)
    | refine Ev.skip ?_
      show Ev _ _ _ _
      refine Ev.seq ?_
      refine Ev.block ?_
      refine Ev.sr fun K hK => S.o q.mv (S.o q.mv (S.o q.mv (S.o (q.ix am_el38 am_cl3 (hl := (by first | exact atig (by omega)))) (S.o (q.ls am_ag3) (S.c0 (hF := rhas_fun _ _ (by omega)) (h := S.end (hK _ ?_)))))))
      clear hK K
      refine Ev.cd (fun c2 => ?_) (fun c2 => ?_)
      · first
      | (first | omega | contradiction)
      | refine Ev.region_M (tbs [(0, 0), (0, 0), (0, 0), (3, 6), (4, 14), (0, 0), (0, 0), (0, 0), (8, 192), (9, 448), (10, 992), (11, 2046), (12, 4094), (13, 8191), (14, 16383)]) 13 fun K hK => M.o q.mv (M.o q.mv (M.o q.mv (M.o (q.ix am_el38 am_cl3 (hl := (by first | exact atig (by omega)))) (M.o (q.ls am_ag3) (M.o q.mv (M.o q.mv (M.o q.mv (M.o (q.ix am_el38 am_cl3 (hl := (by first | exact atig (by omega)))) (M.o (q.ls am_ag3) (M.c0 (hF := rof_fun _ _ (by assumption)) (h := M.o (q.bd [_, _] am_ze34 am_pl34) (M.nn [_] (q.bs [[_, _]] true am_el25 am_ze34 am_cl34) (h := M.end [_, _] (h := S.ap' [_] am_el25 am_ze34 am_cl34 am_by34 (hh := head_own') (hr := (rows_lit [(⟨_, _⟩ : Int × Int)])) (h := S.o q.as (S.end (hK _ ?_)))))))))))))))))
        clear hK K
        show Ev _ _ _ _
        refine Ev.region_S fun K hK => S.o q.mv (S.o q.add (S.o q.as (S.end (hK _ ?_))))
        clear hK K
        refine hR0 _ _ ?_
        refine roundU [53] [0, 2, 3] ⟨(pre ++ [s], suf), by rw [← hp]; simp, ?_⟩ ?_ (keep_c (he := (by first | rfl | (rw [massesP_snoc, if_pos ‹_›]; simp; done) | (rw [massesP_snoc, if_pos ‹_›]; done) | (rw [massesP_snoc, if_neg ‹_›]; done))) (h := keep_n)) (slots_c (he := (by first | rfl | (congr 2; simp; done))) (h := (slots_c (he := (by first | rfl | (congr 1; rw [massesP_snoc, if_pos ‹_›]; simp; done) | (congr 1; rw [massesP_snoc, if_pos ‹_›]; done) | (congr 1; rw [massesP_snoc, if_neg ‹_›]; done))) (h := trivial)))) (.c (.c (.c .n)))
        trivial
        all_goals (dsimp only; simp only [List.length_cons]; omega)
      · first
      | (first | omega | contradiction)
      | refine Ev.skip ?_
        show Ev _ _ _ _
        refine Ev.region_S fun K hK => S.o q.mv (S.o q.add (S.o q.as (S.end (hK _ ?_))))
        clear hK K
        refine hR0 _ _ ?_
        refine roundU [0] [0, 2, 3] ⟨(pre ++ [s], suf), by rw [← hp]; simp, ?_⟩ ?_ (keep_c (he := (by first | rfl | (rw [massesP_snoc, if_pos ‹_›]; simp; done) | (rw [massesP_snoc, if_pos ‹_›]; done) | (rw [massesP_snoc, if_neg ‹_›]; done))) (h := keep_n)) (slots_c (he := (by first | rfl | (congr 2; simp; done))) (h := (slots_c (he := (by first | rfl | (congr 1; rw [massesP_snoc, if_pos ‹_›]; simp; done) | (congr 1; rw [massesP_snoc, if_pos ‹_›]; done) | (congr 1; rw [massesP_snoc, if_neg ‹_›]; done))) (h := trivial)))) (.c (.c (.c .n)))
        trivial
        all_goals (dsimp only; simp only [List.length_cons]; omega)
    · first
    | (first | omega | contradiction)
    | refine Ev.exit ?_
      refine hR0 _ _ ?_
      show Ev _ _ _ _
      refine Ev.sr fun K hK => S.o q.mv (S.o q.as (S.end (hK _ ?_)))
      clear hK K
      refine Ev.weaken (Wk.frz 2 []) ?_
      refine Ev.ret ?_
      refine Ev.ret1 ?_
      refine ⟨?_, rfl⟩
      first | (rw [← hp, List.append_nil]; done) | (rw [← hp]; done) | rfl
  · simp only [List.length_cons] at hpl
    have hidx : sz[pre.length]? = some s := by rw [← hp]; simp
    have hml := massesP_len l pre
    refine Ev.seq ?_
    refine Ev.sr fun K hK => S.o q.mv (S.o q.mv (S.o (q.lens am_el38) (S.o q.lss (S.end (hK _ ?_)))))
    clear hK K
    refine Ev.cd (fun c3 => ?_) (fun c3 => ?_)
    · first
    | (first | omega | contradiction)
    | refine Ev.skip ?_
      show Ev _ _ _ _
      refine Ev.seq ?_
      refine Ev.block ?_
      refine Ev.sr fun K hK => S.o q.mv (S.o q.mv (S.o q.mv (S.o (q.ix am_el38 am_cl3 (hl := (by first | exact ati hidx (by omega) | exact atig (by omega)))) (S.o (q.ls am_ag3) (S.c0 (hF := rhas_fun _ _ (by omega)) (h := S.end (hK _ ?_)))))))
      clear hK K
      refine Ev.cd (fun c4 => ?_) (fun c4 => ?_)
      · first
      | (first | omega | contradiction)
      | refine Ev.region_M (tbs [(0, 0), (0, 0), (0, 0), (3, 6), (4, 14), (0, 0), (0, 0), (0, 0), (8, 192), (9, 448), (10, 992), (11, 2046), (12, 4094), (13, 8191), (14, 16383)]) 13 fun K hK => M.o q.mv (M.o q.mv (M.o q.mv (M.o (q.ix am_el38 am_cl3 (hl := (by first | exact ati hidx (by omega) | exact atig (by omega)))) (M.o (q.ls am_ag3) (M.o q.mv (M.o q.mv (M.o q.mv (M.o (q.ix am_el38 am_cl3 (hl := (by first | exact ati hidx (by omega) | exact atig (by omega)))) (M.o (q.ls am_ag3) (M.c0 (hF := rof_fun _ _ (by assumption)) (h := M.o (q.bd [_, _] am_ze34 am_pl34) (M.nn [_] (q.bs [[_, _]] true am_el25 am_ze34 am_cl34) (h := M.end [_, _] (h := S.ap' [_] am_el25 am_ze34 am_cl34 am_by34 (hh := head_own') (hr := (rows_lit [(⟨_, _⟩ : Int × Int)])) (h := S.o q.as (S.end (hK _ ?_)))))))))))))))))
        clear hK K
        show Ev _ _ _ _
        refine Ev.region_S fun K hK => S.o q.mv (S.o q.add (S.o q.as (S.end (hK _ ?_))))
        clear hK K
        refine hR0 _ _ ?_
        refine roundU [53] [0, 2, 3] ⟨(pre ++ [s], suf), by rw [← hp]; simp, ?_⟩ ?_ (keep_c (he := (by first | rfl | (rw [massesP_snoc, if_pos ‹_›]; simp; done) | (rw [massesP_snoc, if_pos ‹_›]; done) | (rw [massesP_snoc, if_neg ‹_›]; done))) (h := keep_n)) (slots_c (he := (by first | rfl | (congr 2; simp; done))) (h := (slots_c (he := (by first | rfl | (congr 1; rw [massesP_snoc, if_pos ‹_›]; simp; done) | (congr 1; rw [massesP_snoc, if_pos ‹_›]; done) | (congr 1; rw [massesP_snoc, if_neg ‹_›]; done))) (h := trivial)))) (.c (.c (.c .n)))
        trivial
        all_goals (dsimp only; simp only [List.length_cons]; omega)
      · first
      | (first | omega | contradiction)
      | refine Ev.skip ?_
        show Ev _ _ _ _
        refine Ev.region_S fun K hK => S.o q.mv (S.o q.add (S.o q.as (S.end (hK _ ?_))))
        clear hK K
        refine hR0 _ _ ?_
        refine roundU [0] [0, 2, 3] ⟨(pre ++ [s], suf), by rw [← hp]; simp, ?_⟩ ?_ (keep_c (he := (by first | rfl | (rw [massesP_snoc, if_pos ‹_›]; simp; done) | (rw [massesP_snoc, if_pos ‹_›]; done) | (rw [massesP_snoc, if_neg ‹_›]; done))) (h := keep_n)) (slots_c (he := (by first | rfl | (congr 2; simp; done))) (h := (slots_c (he := (by first | rfl | (congr 1; rw [massesP_snoc, if_pos ‹_›]; simp; done) | (congr 1; rw [massesP_snoc, if_pos ‹_›]; done) | (congr 1; rw [massesP_snoc, if_neg ‹_›]; done))) (h := trivial)))) (.c (.c (.c .n)))
        trivial
        all_goals (dsimp only; simp only [List.length_cons]; omega)
    · first
    | (first | omega | contradiction)
    | refine Ev.exit ?_
      refine hR0 _ _ ?_
      show Ev _ _ _ _
      refine Ev.sr fun K hK => S.o q.mv (S.o q.as (S.end (hK _ ?_)))
      clear hK K
      refine Ev.weaken (Wk.frz 2 []) ?_
      refine Ev.ret ?_
      refine Ev.ret1 ?_
      refine ⟨?_, rfl⟩
      first | (rw [← hp, List.append_nil]; done) | (rw [← hp]; done) | rfl
end Go.Proofs.Ytappnbebcjmlbaa
