/-
  A merge adds up.
  Conditions: none.
-/
import Derived.Test.YtddogeicmhbidaaDoorCt1
import Derived.Test.YtddogeicmhbidaaDoorMg2
import Derived.Test.YtddogeicmhbidaaDoorPc5
namespace Go.Proofs.YtddogeicmhbidaaDoor
open Go Go.AM
set_option linter.unusedSimpArgs false
set_option linter.unusedVariables false
set_option maxRecDepth 100000

theorem cut_same {x y : Bar} (h : sameD x y) : cutOf x = cutOf y := by
  obtain ⟨m, z, n, k, d⟩ := x
  obtain ⟨m2, z2, n2, k2, d2⟩ := y
  simp only [sameD] at h
  obtain ⟨rfl, rfl, rfl⟩ := h
  rfl
theorem cut_add (y : Bar) (n : Int) : cutOf (y.addC n) = cutOf y := by cases y; rfl
theorem sum_set {T : Type} (g : T → Int) : ∀ {l : List T} {k : Nat} {y : T} (z : T), l[k]? = some y → ((l.set k z).map g).sum = (l.map g).sum - g y + g z
  | [], _, _, _, h => by simp at h
  | x :: l, 0, y, z, h => by
    simp only [List.getElem?_cons_zero, Option.some.injEq] at h
    subst h
    simp only [List.set_cons_zero, List.map_cons, List.sum_cons]; omega
  | x :: l, k + 1, y, z, h => by
    simp only [List.getElem?_cons_succ] at h
    have := sum_set g z h
    simp only [List.set_cons_succ, List.map_cons, List.sum_cons]; omega
theorem pre_ind {T : Type} {b : List T} {Q : List T → Prop} (h0 : Q []) (hs : ∀ pre s suf, pre ++ s :: suf = b → Q pre → Q (pre ++ [s])) : Q b := by
  have : ∀ pre : List T, ∀ suf, pre ++ suf = b → Q pre := by
    refine snoc_ind (fun _ _ => h0) ?_
    intro l s ih suf hp
    have hp' : l ++ s :: suf = b := by rw [← hp]; simp
    exact hs l s suf hp' (ih (s :: suf) hp')
  exact this b [] (by simp)
theorem mg_sum {a b : List Bar} (ha : okSched a) (hb : okSched b) (hno : ¬ ∃ x ∈ b, badM a x) (g : Bar → Int) (hg : ∀ y s : Bar, sameD y s → g (y.addC s.count) = g y + g s) : ((mergeL a b).map g).sum = (a.map g).sum + (b.map g).sum := by
  refine pre_ind (b := b) (Q := fun pre => ((mergeL a pre).map g).sum = (a.map g).sum + (pre.map g).sum) (by simp [mergeL]) ?_
  intro pre s suf hp ih
  have hsb : s ∈ b := by rw [← hp]; simp
  rw [List.map_append, List.sum_append]
  simp only [List.map_cons, List.map_nil, List.sum_cons, List.sum_nil, Int.add_zero]
  by_cases h : markI a s.mark < 0
  · rw [← mergeL_new h, List.map_append, List.sum_append, ih]
    simp; omega
  · obtain ⟨y, _, h2, _, h4, h5, h6, _, h8⟩ := mround_at ha hb hp h
    have hd : sameD y s := Classical.byContradiction fun hn => hno ⟨s, hsb, y, h2, h4, hn⟩
    rw [← h6, sum_set g (y.addC s.count) h5, hg y s hd, ih]
    omega
theorem mg_form {a b : List Bar} (ha : okSched a) (hb : okSched b) : ∀ y ∈ mergeL a b, y ∈ a ∨ y ∈ b ∨ ∃ u ∈ a, ∃ z ∈ b, u.mark = z.mark ∧ y = u.addC z.count := by
  refine pre_ind (b := b) (Q := fun pre => ∀ y ∈ mergeL a pre, y ∈ a ∨ y ∈ b ∨ ∃ u ∈ a, ∃ z ∈ b, u.mark = z.mark ∧ y = u.addC z.count) (fun y hy => .inl hy) ?_
  intro pre s suf hp ih y hy
  have hsb : s ∈ b := by rw [← hp]; simp
  by_cases h : markI a s.mark < 0
  · rw [← mergeL_new h] at hy
    rcases List.mem_append.1 hy with hy | hy
    · exact ih y hy
    · rw [List.mem_singleton] at hy; subst hy; exact .inr (.inl hsb)
  · obtain ⟨u, _, h2, _, h4, h5, h6, _, _⟩ := mround_at ha hb hp h
    rw [← h6] at hy
    rcases List.mem_or_eq_of_mem_set hy with hy | hy
    · exact ih y hy
    · exact .inr (.inr ⟨u, h2, s, hsb, h4, hy⟩)
theorem mg_ok {a b : List Bar} (h : mergeE a b = 0) : okSched a ∧ okSched b ∧ mergeV a b = mergeL a b ∧ okSched (mergeL a b) ∧ ¬ ∃ x ∈ b, badM a x := by
  have hv : mergeV a b = mergeL a b := if_pos h
  unfold mergeE at h
  by_cases h1 : okSched a ∧ okSched b
  · rw [if_pos h1] at h
    by_cases h2 : ∃ x ∈ b, badM a x
    · rw [if_pos h2] at h; cases h
    · rw [if_neg h2] at h
      by_cases h3 : bigM a b
      · rw [if_pos h3] at h; cases h
      · rw [if_neg h3] at h
        by_cases h4 : (mergeL a b).length ≤ 60
        · have hg := mg_of h1.1 b h1.2.2.1 h1.2.2.2
          refine ⟨h1.1, h1.2, hv, ⟨h4, fun y hy => ?_, hg.distinct h1.1 h1.2.2.2⟩, h2⟩
          rcases mg_form h1.1 h1.2 y hy with hy | hy | ⟨u, hu, z, hz, e, rfl⟩
          · exact h1.1.2.1 y hy
          · exact h1.2.2.1 y hy
          · obtain ⟨u1, u2, u3, u4, u5, u6, u7⟩ := h1.1.2.1 u hu
            have hz3 := (h1.2.2.1 z hz).2.2.1
            have hz4 : u.count + z.count ≤ 1000 := by
              refine Classical.byContradiction fun hn => h3 ⟨z, hz, u, hu, e, by omega⟩
            refine ⟨u1, u2, ?_, ?_, u5, u6, u7⟩
            · show 1 ≤ u.count + z.count; omega
            · show u.count + z.count ≤ 1000; omega
        · rw [if_neg h4] at h; cases h
  · rw [if_neg h1] at h; cases h
theorem mg_cnt {a b : List Bar} (h : mergeE a b = 0) : cntT (mergeL a b) = cntT a + cntT b := by
  obtain ⟨h1, h2, _, _, h5⟩ := mg_ok h
  exact mg_sum h1 h2 h5 (fun b => b.count) (fun y s _ => by cases y; rfl)
theorem mg_pc {a b : List Bar} (h : mergeE a b = 0) (d n : Int) : pcCnt (mergeL a b) d n = pcCnt a d n + pcCnt b d n := by
  obtain ⟨h1, h2, _, _, h5⟩ := mg_ok h
  refine mg_sum h1 h2 h5 (fun b => if b.size = d ∧ cutOf b = n then b.count else 0) fun y s hd => ?_
  have e1 : (y.addC s.count).size = y.size := by cases y; rfl
  have e2 : (y.addC s.count).count = y.count + s.count := by cases y; rfl
  simp only [e1, e2, cut_add]
  rw [← hd.1, ← cut_same hd]
  split <;> omega
/-- The pieces of a length. -/
def pcN (l : List (Int × Int)) (n : Int) : Int := (l.map fun p => if p.1 = n then p.2 else 0).sum
theorem pcN_snoc (l : List (Int × Int)) (s : Int × Int) (n : Int) : pcN (l ++ [s]) n = pcN l n + (if s.1 = n then s.2 else 0) := by simp [pcN]
theorem pcN_P {l : List Bar} (hok : ∀ b ∈ l, okBar b) (d n : Int) : pcN (pcP l d) n = pcCnt l d n := by
  by_cases hh : PcHas l d n
  · have hm : n ∈ (pcP l d).map (·.1) := List.mem_map.2 ⟨(n, pcCnt l d n), (pcP_mem hok _).2 ⟨hh, rfl⟩, rfl⟩
    refine Eq.trans ?_ (sum_one (fun p : Int × Int => p.1) n (pcCnt l d n) (pcP l d) (pcP_keys l d) hm)
    unfold pcN
    congr 1
    refine List.map_congr_left fun p hp => ?_
    by_cases e : p.1 = n
    · rw [if_pos e, if_pos e, ((pcP_mem hok p).1 hp).2, e]
    · rw [if_neg e, if_neg e]
  · rw [pcCnt_no hh]
    refine sum_zero _ _ fun p hp => if_neg fun e => hh ?_
    have := ((pcP_mem hok p).1 hp).1
    rwa [e] at this
theorem pcN_bd (n : Int) : ∀ l : List (Int × Int), (∀ p ∈ l, 0 ≤ p.2 ∧ p.2 ≤ 60000) → 0 ≤ pcN l n ∧ pcN l n ≤ 60000 * l.length := by
  refine snoc_ind (fun _ => by simp [pcN]) ?_
  intro l s ih h
  obtain ⟨i1, i2⟩ := ih fun b hb => h b (by simp [hb])
  obtain ⟨h1, h2⟩ := h s (by simp)
  rw [pcN_snoc, List.length_append, List.length_singleton]
  split <;> omega
theorem pcP_bd {l : List Bar} (hok : okSched l) (d : Int) : (∀ p ∈ pcP l d, 0 ≤ p.2 ∧ p.2 ≤ 60000) ∧ (pcP l d).length ≤ 60 := by
  have hl := hok.1
  refine ⟨fun p hp => ?_, ?_⟩
  · have h2 := ((pcP_mem hok.2.1 p).1 hp).2
    have h3 := pcCnt_bd d p.1 l hok.2.1
    omega
  · have := pcP_len hok.2.1 d; omega
theorem pcV_eq {l : List Bar} {d : Int} (h : okSched l) (hd : d ∈ sizes) : pcV l d = pcP l d ∧ pcE l d = 0 := ⟨if_pos ⟨h, hd⟩, (if_pos h).trans (if_pos hd)⟩
theorem nil_sched : okSched [] := ⟨by simp, fun b hb => (by cases hb), List.Pairwise.nil⟩
theorem mg_nilL (a : List Bar) : (mergeE a [] = 0 → mergeV a [] = a) ∧ (¬ mergeE a [] = 0 → ¬ okSched a) := by
  refine ⟨fun h => (if_pos h : mergeV a [] = mergeL a []), fun h hok => h ?_⟩
  exact (me0 ⟨hok, nil_sched⟩ (by rintro ⟨x, hx, _⟩; cases hx) (bigM_nil a) hok.1).1
theorem fun_nil2 {Q : Program} {f : FuncId} {x : AV} {sz : Nat} {Post : AV → List (Nat × AM.Obj) → Prop} (h : Fun Q f [x, .sh sz []] Post) : Fun Q f [x, .lit (.slice none 0 0)] Post :=
  ⟨h.1, fun E xs hx => h.2 E xs (by
    simp only [FVs] at hx ⊢
    obtain ⟨y, ys, rfl, h1, z, zs, rfl, h2, rfl⟩ := hx
    refine ⟨y, _, rfl, h1, z, _, rfl, ?_, rfl⟩
    simp only [FV] at h2 ⊢
    subst h2
    exact ⟨none, 0, [], rfl, Nat.le_refl _, by simp [FVr], fun h => absurd rfl h⟩)⟩
theorem mergeN_fun (a : List Bar) (ha : a.length ≤ 140737488355328) (hw : schedW a) : Fun Tryd.prog 9 [.sh 5 (a.map Bar.c), .lit (.slice none 0 0)] (Ret (.tup [.sh 5 ((mergeV a []).map Bar.c), .lit (.int .i64 (mergeE a []))]) []) :=
  fun_nil2 (merge_fun a [] ha (by simp) hw (fun b hb => by cases hb))
theorem count_fun (l : List (Int × Int)) (n : Int) (h : ∀ p ∈ l, 0 ≤ p.2 ∧ p.2 ≤ 60000) (hl : l.length ≤ 1000) : Fun Tryd.prog 23 [.sh 2 (l.map pairC), .lit (.int .i64 n)] (Ret (.lit (.int .i64 (pcN l n))) []) := by
  refine Fun.of (nt := 24) (rs := [.tmp 4]) Tryd.func23 rfl rfl rfl rfl rfl ?_
  refine Ev.sr fun K hK => S.o q.as (S.end (hK _ ?_))
  clear hK K
  refine Ev.sr fun K hK => S.o q.as (S.end (hK _ ?_))
  clear hK K
  refine Ev.seq ?_
  refine Ev.sr fun K hK => S.o q.mv (S.o (q.lens am_el40) (S.o q.mv (S.end (hK _ ?_))))
  clear hK K
  refine Ev.block ?_
  refine Ev.loopU (ι := {p : List (Int × Int) × List (Int × Int) // p.1 ++ p.2 = l ∧ True}) [] [1, 4, 8, 9] (fun ⟨(pre, suf), _⟩ => [(10, .lit (.int .i64 ((pre.length : Int)))), (5, .lit (.int .i64 (pcN pre n)))]) (fun ⟨(pre, suf), _⟩ => []) (fun ⟨(pre, suf), _⟩ => suf.length) ⟨([], l), rfl, trivial⟩ (.c (.c (.c (.c .n)))) keep_n (slots_c (he := (by first | rfl | (congr 2; simp; done))) (h := (slots_c (he := (by first | rfl | exact iE (by rw [pcN_snoc, if_pos (by first | assumption | omega)]) | exact iE (by rw [pcN_snoc, if_neg (by first | assumption | omega), Int.add_zero]))) (h := trivial)))) ?_
  rintro ⟨⟨pre, suf⟩, hp, hinv⟩ R0 hR0
  dsimp only [List.cons_append, List.nil_append, List.length_cons, List.length_nil]
  simp only at hp hinv
  have hpl : pre.length + suf.length = (l).length := by rw [← hp, List.length_append]
  rcases suf with _ | ⟨s, suf⟩
  · rw [List.append_nil] at hp; simp only [List.length_nil] at hpl
    refine Ev.sr fun K hK => S.o q.lss (S.end (hK _ ?_))
    clear hK K
    refine Ev.ud (fun c1 => ?_) (fun c1 => ?_)
    · first
    | (first | omega | contradiction)
    | refine Ev.seq ?_
      refine Ev.block ?_
      refine Ev.sr fun K hK => S.o (q.ix am_el40 am_cl45 (hl := (by first | exact atig (by omega)))) (S.o (q.lsA [_, _] am_ag45 am_cl45) (S.nn (q.al am_ze45) (S.sv [_, _] true [] am_in45 am_cl45 (h := S.end (hK _ ?_)))))
      clear hK K
      refine Ev.sr fun K hK => S.o (q.fa 0 am_fi45_0 am_cl3) (S.o (q.lv am_ag3) (S.o q.mv (S.o q.eql (S.end (hK _ ?_)))))
      clear hK K
      refine Ev.cd (fun c2 => ?_) (fun c2 => ?_)
      · first
      | (first | omega | contradiction)
      | refine Ev.region_S fun K hK => S.o q.mv (S.o (q.fa 1 am_fi45_1 am_cl3) (S.o (q.lv am_ag3) (S.o q.add (S.o q.as (S.end (hK _ ?_))))))
        clear hK K
        show Ev _ _ _ _
        refine Ev.region_S fun K hK => S.o q.add (S.o q.mv (S.end (hK _ ?_)))
        clear hK K
        refine hR0 _ _ ?_
        refine roundU [] [1, 4, 8, 9] ⟨(pre ++ [(sx, sy)], suf), by rw [← hp]; simp, ?_⟩ ?_ keep_n (slots_c (he := (by first | rfl | (congr 2; simp; done))) (h := (slots_c (he := (by first | rfl | exact iE (by rw [pcN_snoc, if_pos (by first | assumption | omega)]) | exact iE (by rw [pcN_snoc, if_neg (by first | assumption | omega), Int.add_zero]))) (h := trivial)))) (.c (.c (.c (.c .n))))
        trivial
        all_goals (dsimp only; simp only [List.length_cons]; omega)
      · first
      | (first | omega | contradiction)
      | refine Ev.skip ?_
        show Ev _ _ _ _
        refine Ev.region_S fun K hK => S.o q.add (S.o q.mv (S.end (hK _ ?_)))
        clear hK K
        refine hR0 _ _ ?_
        refine roundU [] [1, 4, 8, 9] ⟨(pre ++ [(sx, sy)], suf), by rw [← hp]; simp, ?_⟩ ?_ keep_n (slots_c (he := (by first | rfl | (congr 2; simp; done))) (h := (slots_c (he := (by first | rfl | exact iE (by rw [pcN_snoc, if_pos (by first | assumption | omega)]) | exact iE (by rw [pcN_snoc, if_neg (by first | assumption | omega), Int.add_zero]))) (h := trivial)))) (.c (.c (.c (.c .n))))
        trivial
        all_goals (dsimp only; simp only [List.length_cons]; omega)
    · first
    | (first | omega | contradiction)
    | refine Ev.exit ?_
      refine hR0 _ _ ?_
      show Ev _ _ _ _
      refine Ev.sr fun K hK => S.o q.mv (S.o q.as (S.end (hK _ ?_)))
      clear hK K
      refine Ev.ret ?_
      refine Ev.ret1 ?_
      refine ⟨?_, rfl⟩
      (rw [← hp]; done)
  · simp only [List.length_cons] at hpl
    have hidx : l[pre.length]? = some s := by rw [← hp]; simp
    obtain ⟨sx, sy⟩ := s
    obtain ⟨g1, g2⟩ := h (sx, sy) (by rw [← hp]; simp)
    simp only at g1 g2
    obtain ⟨g3, g4⟩ := pcN_bd n pre (fun p hpp => h p (by rw [← hp]; simp [hpp]))
    refine Ev.sr fun K hK => S.o q.lss (S.end (hK _ ?_))
    clear hK K
    refine Ev.ud (fun c3 => ?_) (fun c3 => ?_)
    · first
    | (first | omega | contradiction)
    | refine Ev.seq ?_
      refine Ev.block ?_
      refine Ev.sr fun K hK => S.o (q.ix am_el40 am_cl45 (hl := (by first | exact ati hidx (by omega) | exact atig (by omega)))) (S.o (q.lsA [_, _] am_ag45 am_cl45) (S.nn (q.al am_ze45) (S.sv [_, _] true [] am_in45 am_cl45 (h := S.end (hK _ ?_)))))
      clear hK K
      refine Ev.sr fun K hK => S.o (q.fa 0 am_fi45_0 am_cl3) (S.o (q.lv am_ag3) (S.o q.mv (S.o q.eql (S.end (hK _ ?_)))))
      clear hK K
      refine Ev.cd (fun c4 => ?_) (fun c4 => ?_)
      · first
      | (first | omega | contradiction)
      | refine Ev.region_S fun K hK => S.o q.mv (S.o (q.fa 1 am_fi45_1 am_cl3) (S.o (q.lv am_ag3) (S.o q.add (S.o q.as (S.end (hK _ ?_))))))
        clear hK K
        show Ev _ _ _ _
        refine Ev.region_S fun K hK => S.o q.add (S.o q.mv (S.end (hK _ ?_)))
        clear hK K
        refine hR0 _ _ ?_
        refine roundU [] [1, 4, 8, 9] ⟨(pre ++ [(sx, sy)], suf), by rw [← hp]; simp, ?_⟩ ?_ keep_n (slots_c (he := (by first | rfl | (congr 2; simp; done))) (h := (slots_c (he := (by first | rfl | exact iE (by rw [pcN_snoc, if_pos (by first | assumption | omega)]) | exact iE (by rw [pcN_snoc, if_neg (by first | assumption | omega), Int.add_zero]))) (h := trivial)))) (.c (.c (.c (.c .n))))
        trivial
        all_goals (dsimp only; simp only [List.length_cons]; omega)
      · first
      | (first | omega | contradiction)
      | refine Ev.skip ?_
        show Ev _ _ _ _
        refine Ev.region_S fun K hK => S.o q.add (S.o q.mv (S.end (hK _ ?_)))
        clear hK K
        refine hR0 _ _ ?_
        refine roundU [] [1, 4, 8, 9] ⟨(pre ++ [(sx, sy)], suf), by rw [← hp]; simp, ?_⟩ ?_ keep_n (slots_c (he := (by first | rfl | (congr 2; simp; done))) (h := (slots_c (he := (by first | rfl | exact iE (by rw [pcN_snoc, if_pos (by first | assumption | omega)]) | exact iE (by rw [pcN_snoc, if_neg (by first | assumption | omega), Int.add_zero]))) (h := trivial)))) (.c (.c (.c (.c .n))))
        trivial
        all_goals (dsimp only; simp only [List.length_cons]; omega)
    · first
    | (first | omega | contradiction)
    | refine Ev.exit ?_
      refine hR0 _ _ ?_
      show Ev _ _ _ _
      refine Ev.sr fun K hK => S.o q.mv (S.o q.as (S.end (hK _ ?_)))
      clear hK K
      refine Ev.ret ?_
      refine Ev.ret1 ?_
      refine ⟨?_, rfl⟩
      (rw [← hp]; done)
end Go.Proofs.YtddogeicmhbidaaDoor
