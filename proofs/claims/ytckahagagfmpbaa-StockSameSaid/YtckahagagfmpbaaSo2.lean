/-
  Short orders: the program.
  Conditions: none.
-/
import Derived.Test.YtckahagagfmpbaaSo1
namespace Go.Proofs.Ytckahagagfmpbaa
open Go Go.AM
set_option linter.unusedSimpArgs false
set_option linter.unusedVariables false
set_option maxRecDepth 100000
set_option maxHeartbeats 1000000

theorem wf_of {a : Int} (h1 : 1 ≤ a) (h2 : a ≤ 1048576) : (Go.Lit.int .i64 a).wf = true := by
  have e1 : Go.IntKind.i64.min = -9223372036854775808 := by decide
  have e2 : Go.IntKind.i64.max = 9223372036854775807 := by decide
  simp only [Go.Lit.wf, e1, e2, Bool.and_eq_true, decide_eq_true_eq]
  omega
theorem skM_wf {l : List (Int × Int)} (hok : ∀ b ∈ l, okPc b) : ∀ a ∈ (skM l).map Prod.fst, (Go.Lit.int .i64 a).wf = true := fun a ha => by
  obtain ⟨p, hp, rfl⟩ := List.mem_map.1 ha
  obtain ⟨⟨b, hb, e⟩, _⟩ := (skM_mem l p).1 hp
  obtain ⟨h1, h2, _⟩ := hok b hb
  exact wf_of (by omega) (by omega)
theorem shV_bad {l : List (Int × Int)} {p : Int × Int} (h : p ∈ skP l) (h2 : 1000000 < p.2) : shV l = [] ∧ shE l = 5 := by
  have : ¬ shG l := fun hg => by have := hg p h; omega
  exact ⟨if_neg this, if_neg this⟩
theorem shV_good {l : List (Int × Int)} (h : ∀ p ∈ skP l, p.2 ≤ 1000000) : shV l = skP l ∧ shE l = 0 := ⟨if_pos h, if_pos h⟩
theorem short_fun (l : List (Int × Int)) (hok : ∀ b ∈ l, okPc b) (hn : l.length ≤ 400) : Fun Try.prog 46 [.sh 2 (l.map pairC)] (Ret (.tup [.sh 2 ((shV l).map pairC), .lit (.int .i64 (shE l))]) []) := by
  have hkl : (dkeys (skM l)).length = (skP l).length := by rw [skM_keys hok, List.length_map]
  have hml := (skM_spec l).2.1
  have hpl2 := skP_len hok
  refine Fun.of (nt := 47) (rs := [.tmp 2, .tmp 3]) Try.func46 rfl rfl rfl rfl rfl ?_
  refine Ev.sr fun K hK => S.o q.as (S.o q.as (S.end (hK _ ?_)))
  clear hK K
  refine Ev.sr fun K hK => S.nn (v := .hd 0) (o := ⟨true, 75, 3, ([] : List (Int × Int)).map (rowK (Value.int .i64) (Value.int .i64)), true⟩) (q.mm am_mt75) (S.o q.as (S.end (hK _ ?_)))
  clear hK K
  refine Ev.seq ?_
  refine Ev.sr fun K hK => S.o q.mv (S.o (q.lens am_el23) (S.o q.mv (S.end (hK _ ?_))))
  clear hK K
  refine Ev.block ?_
  refine Ev.loopU (ι := {p : List (Int × Int) × List (Int × Int) // p.1 ++ p.2 = l ∧ True}) [0] [2, 3, 4, 11, 12] (fun ⟨(pre, suf), _⟩ => [(13, .lit (.int .i64 ((pre.length : Int))))]) (fun ⟨(pre, suf), _⟩ => [(0, ⟨true, 75, 3, (skM pre).map (rowK (Value.int .i64) (Value.int .i64)), true⟩)]) (fun ⟨(pre, suf), _⟩ => suf.length) ⟨([], l), rfl, trivial⟩ (.c (.c (.c (.c (.c .n))))) (keep_c (he := (by first | rfl | (rw [skM_snoc]; done))) (h := keep_n)) (slots_c (he := (by first | rfl | (congr 2; simp; done))) (h := trivial)) ?_
  rintro ⟨⟨pre, suf⟩, hp, hinv⟩ R0 hR0
  dsimp only [List.cons_append, List.nil_append, List.length_cons, List.length_nil]
  simp only at hp hinv
  have hpl : pre.length + suf.length = (l).length := by rw [← hp, List.length_append]
  rcases suf with _ | ⟨s, suf⟩
  · rw [List.append_nil] at hp; subst pre; simp only [List.length_nil] at hpl
    refine Ev.sr fun K hK => S.o q.lss (S.end (hK _ ?_))
    clear hK K
    refine Ev.ud (fun c1 => ?_) (fun c1 => ?_)
    · first
    | (first | omega | contradiction)
    | refine Ev.seq ?_
      refine Ev.block ?_
      refine Ev.sr fun K hK => S.o (q.ix am_el23 am_cl40 (hl := (by first | exact atig (by omega)))) (S.o (q.lsA [_, _] am_ag40 am_cl40) (S.nn (q.al am_ze40) (S.sv [_, _] true [_] am_in40 am_cl40 (h := S.end (hK _ ?_)))))
      clear hK K
      refine Ev.region_S fun K hK => S.o q.mv (S.o (q.fa 0 am_fi40_0 am_cl3) (S.o (q.lv am_ag3) (S.o (q.lk (vv := (Value.int .i64)) klI am_mt75) (S.o (q.fa 1 am_fi40_1 am_cl3) (S.o (q.lv am_ag3) (S.o q.add (S.mu (vv := (Value.int .i64)) [_] klI am_mt75 (fun _ => rfl) (hn := S.end (hK _ ?_)))))))))
      clear hK K
      show Ev _ _ _ _
      refine Ev.region_S fun K hK => S.o q.add (S.o q.mv (S.end (hK _ ?_)))
      clear hK K
      refine hR0 _ _ ?_
      refine roundU [0] [2, 3, 4, 11, 12] ⟨(pre ++ [(sx, sy)], suf), by rw [← hp]; simp, ?_⟩ ?_ (keep_c (he := (by first | rfl | (rw [skM_snoc]; done))) (h := keep_n)) (slots_c (he := (by first | rfl | (congr 2; simp; done))) (h := trivial)) (.c (.c (.c (.c (.c .n)))))
      trivial
      all_goals (dsimp only; simp only [List.length_cons]; omega)
    · first
    | (first | omega | contradiction)
    | refine Ev.exit ?_
      refine hR0 _ _ ?_
      show Ev _ _ _ _
      refine Ev.sr fun K hK => S.o q.as (S.end (hK _ ?_))
      clear hK K
      refine Ev.seq ?_
      refine Ev.sr fun K hK => S.o q.mv ?_
      refine SeqL.weaken (Wk.frzm [4, 25] [] (by intro d hd; simp only [List.mem_cons, List.not_mem_nil, or_false] at hd; rcases hd with rfl | rfl <;> rfl) (hex := ⟨4, rfl⟩)) ?_
      refine S.c1f (hF := keysM_fun _) (h := S.cR [1] 3 [_, _] (hob := (keep_c (he := rfl) (h := keep_n))) (hF := sortedF_fun (skM l) (by omega) (skM_wf hok)) (hn' := belowL rfl rfl) (h := ?_))
      refine SeqL.weaken (Wk.frz 27 [_]) ?_
      refine S.o (q.lens am_el52) (S.o q.mv (S.end (hK _ ?_)))
      clear hK K
      refine Ev.block ?_
      refine Ev.weaken (Wk.nown pairC 7 40 2) ?_
      refine Ev.loopU (ι := {q : List (Int × Int) × List (Int × Int) // q.1 ++ q.2 = skP l ∧ ∀ p ∈ q.1, p.2 ≤ 1000000}) [3] [4, 11, 12, 13, 14, 25, 27, 28] (fun ⟨(pre, suf), _⟩ => [(29, .lit (.int .i64 ((pre.length : Int)))), (7, .als 0 0 (pre).length)]) (fun ⟨(pre, suf), _⟩ => [(0, ⟨true, 40, 2, (pre).map pairC, true⟩)]) (fun ⟨(pre, suf), _⟩ => suf.length) ⟨([], (skP l)), rfl, fun p hp => by simp at hp⟩ (.c (.c (.c (.c (.c (.c (.c (.c .n)))))))) (keep_c (he := (by first | rfl | (simp [hgs, pairC]; done))) (h := keep_n)) (slots_c (he := (by first | rfl | (congr 2; simp; done))) (h := (slots_c (he := (by first | rfl | (simp; done) | (congr 2; omega))) (h := trivial)))) ?_
      rintro ⟨⟨pre, suf⟩, hp, hinv⟩ R2 hR2
      dsimp only [List.cons_append, List.nil_append, List.length_cons, List.length_nil]
      simp only at hp hinv
      have hpl : pre.length + suf.length = ((skP l)).length := by rw [← hp, List.length_append]
      rcases suf with _ | ⟨s, suf⟩
      · rw [List.append_nil] at hp; simp only [List.length_nil] at hpl
        refine Ev.sr fun K hK => S.o q.lss (S.end (hK _ ?_))
        clear hK K
        refine Ev.ud (fun c2 => ?_) (fun c2 => ?_)
        · first
        | (first | omega | contradiction)
        | refine Ev.seq ?_
          refine Ev.block ?_
          refine Ev.sr fun K hK => S.o (q.ix am_el52 am_cl3 (hl := (by first | exact atig (by omega)))) (S.o (q.ls am_ag3) (S.o q.as (S.end (hK _ ?_))))
          clear hK K
          refine Ev.seq ?_
          refine Ev.sr fun K hK => S.o q.mv (S.o q.mv (S.o (q.lks (vv := (Value.int .i64)) klI am_mt75) (S.o q.gtr (S.end (hK _ ?_)))))
          clear hK K
          refine Ev.cd (fun c3 => ?_) (fun c3 => ?_)
          · first
          | (first | omega | contradiction)
          | refine Ev.sr fun K hK => S.o q.as (S.o q.as (S.end (hK _ ?_)))
            clear hK K
            refine Ev.weaken (Wk.nsh pairC 2 2) ?_
            refine Ev.ret ?_
            refine hR2 _ _ ?_
            refine Ev.ret2 ?_
            refine ⟨?_, rfl⟩
            first
             | (rw [(shV_bad hsm (by simp only; omega)).1, (shV_bad hsm (by simp only; omega)).2]; done)
             | (have hg := shV_good (hp ▸ hinv); rw [hg.1, hg.2, hp]; done)
          · first
          | (first | omega | contradiction)
          | refine Ev.skip ?_
            show Ev _ _ _ _
            refine Ev.region_S fun K hK => S.o q.mv (S.o q.mv (S.o q.mv (S.o q.mv (S.o (q.lks (vv := (Value.int .i64)) klI am_mt75) (S.o (q.bd [_, _] am_ze40 am_pl40) (S.nn (q.bs [[_, _]] true am_el23 am_ze40 am_cl40) (S.ap' [_] am_el23 am_ze40 am_cl40 am_by40 (hh := head_own') (hr := (rows_lit [(⟨_, _⟩ : Int × Int)])) (h := S.o q.as (S.end (hK _ ?_))))))))))
            clear hK K
            show Ev _ _ _ _
            refine Ev.region_S fun K hK => S.o q.add (S.o q.mv (S.end (hK _ ?_)))
            clear hK K
            refine hR2 _ _ ?_
            refine roundU [2] [4, 11, 12, 13, 14, 25, 27, 28] ⟨(pre ++ [(sx, sy)], suf), by rw [← hp]; simp, ?_⟩ ?_ (keep_c (he := (by first | rfl | (simp [hgs, pairC]; done))) (h := keep_n)) (slots_c (he := (by first | rfl | (congr 2; simp; done))) (h := (slots_c (he := (by first | rfl | (simp; done) | (congr 2; omega))) (h := trivial)))) (.c (.c (.c (.c (.c (.c (.c (.c .n))))))))
            intro p hp; simp only [List.mem_append, List.mem_singleton] at hp; rcases hp with hp | rfl
            · exact hinv p hp
            · simp only; omega
            all_goals (dsimp only; simp only [List.length_cons]; omega)
        · first
        | (first | omega | contradiction)
        | refine Ev.exit ?_
          refine hR2 _ _ ?_
          show Ev _ _ _ _
          refine Ev.sr fun K hK => S.o q.mv (S.o q.as (S.o q.as (S.end (hK _ ?_))))
          clear hK K
          refine Ev.weaken (Wk.frz 2 []) ?_
          refine Ev.ret ?_
          refine Ev.ret2 ?_
          refine ⟨?_, rfl⟩
          first
           | (rw [(shV_bad hsm (by simp only; omega)).1, (shV_bad hsm (by simp only; omega)).2]; done)
           | (have hg := shV_good (hp ▸ hinv); rw [hg.1, hg.2, hp]; done)
      · simp only [List.length_cons] at hpl
        obtain ⟨sx, sy⟩ := s
        have hidx : (skP l)[pre.length]? = some (sx, sy) := by rw [← hp]; simp
        have hidk : (dkeys (skM l))[pre.length]? = some sx := by rw [skM_keys hok, List.getElem?_map, hidx]; rfl
        have hsm : (sx, sy) ∈ skP l := by rw [← hp]; simp
        have hgs : (mget (skM l) sx).getD 0 = sy := by rw [skM_get]; exact ((skP_mem hok _).1 hsm).2.symm
        refine Ev.sr fun K hK => S.o q.lss (S.end (hK _ ?_))
        clear hK K
        refine Ev.ud (fun c4 => ?_) (fun c4 => ?_)
        · first
        | (first | omega | contradiction)
        | refine Ev.seq ?_
          refine Ev.block ?_
          refine Ev.sr fun K hK => S.o (q.ix am_el52 am_cl3 (hl := (by first | exact ati hidk (by omega) | exact atig (by omega)))) (S.o (q.ls am_ag3) (S.o q.as (S.end (hK _ ?_))))
          clear hK K
          refine Ev.seq ?_
          refine Ev.sr fun K hK => S.o q.mv (S.o q.mv (S.o (q.lks (vv := (Value.int .i64)) klI am_mt75) (S.o q.gtr (S.end (hK _ ?_)))))
          clear hK K
          refine Ev.cd (fun c5 => ?_) (fun c5 => ?_)
          · first
          | (first | omega | contradiction)
          | refine Ev.sr fun K hK => S.o q.as (S.o q.as (S.end (hK _ ?_)))
            clear hK K
            refine Ev.weaken (Wk.nsh pairC 2 2) ?_
            refine Ev.ret ?_
            refine hR2 _ _ ?_
            refine Ev.ret2 ?_
            refine ⟨?_, rfl⟩
            first
             | (rw [(shV_bad hsm (by simp only; omega)).1, (shV_bad hsm (by simp only; omega)).2]; done)
             | (have hg := shV_good (hp ▸ hinv); rw [hg.1, hg.2, hp]; done)
          · first
          | (first | omega | contradiction)
          | refine Ev.skip ?_
            show Ev _ _ _ _
            refine Ev.region_S fun K hK => S.o q.mv (S.o q.mv (S.o q.mv (S.o q.mv (S.o (q.lks (vv := (Value.int .i64)) klI am_mt75) (S.o (q.bd [_, _] am_ze40 am_pl40) (S.nn (q.bs [[_, _]] true am_el23 am_ze40 am_cl40) (S.ap' [_] am_el23 am_ze40 am_cl40 am_by40 (hh := head_own') (hr := (rows_lit [(⟨_, _⟩ : Int × Int)])) (h := S.o q.as (S.end (hK _ ?_))))))))))
            clear hK K
            show Ev _ _ _ _
            refine Ev.region_S fun K hK => S.o q.add (S.o q.mv (S.end (hK _ ?_)))
            clear hK K
            refine hR2 _ _ ?_
            refine roundU [2] [4, 11, 12, 13, 14, 25, 27, 28] ⟨(pre ++ [(sx, sy)], suf), by rw [← hp]; simp, ?_⟩ ?_ (keep_c (he := (by first | rfl | (simp [hgs, pairC]; done))) (h := keep_n)) (slots_c (he := (by first | rfl | (congr 2; simp; done))) (h := (slots_c (he := (by first | rfl | (simp; done) | (congr 2; omega))) (h := trivial)))) (.c (.c (.c (.c (.c (.c (.c (.c .n))))))))
            intro p hp; simp only [List.mem_append, List.mem_singleton] at hp; rcases hp with hp | rfl
            · exact hinv p hp
            · simp only; omega
            all_goals (dsimp only; simp only [List.length_cons]; omega)
        · first
        | (first | omega | contradiction)
        | refine Ev.exit ?_
          refine hR2 _ _ ?_
          show Ev _ _ _ _
          refine Ev.sr fun K hK => S.o q.mv (S.o q.as (S.o q.as (S.end (hK _ ?_))))
          clear hK K
          refine Ev.weaken (Wk.frz 2 []) ?_
          refine Ev.ret ?_
          refine Ev.ret2 ?_
          refine ⟨?_, rfl⟩
          first
           | (rw [(shV_bad hsm (by simp only; omega)).1, (shV_bad hsm (by simp only; omega)).2]; done)
           | (have hg := shV_good (hp ▸ hinv); rw [hg.1, hg.2, hp]; done)
  · simp only [List.length_cons] at hpl
    have hidx : (l)[pre.length]? = some s := by rw [← hp]; simp
    have hps := hp
    obtain ⟨sx, sy⟩ := s
    have hsok : okPc (sx, sy) := hok _ (by rw [← hp]; simp)
    obtain ⟨g1, g2, g3, g4⟩ := hsok
    simp only at g1 g2 g3 g4
    have hpb := skCnt_bd sx pre (fun b hb => hok b (by rw [← hp]; simp [hb]))
    have hgt := skM_get pre sx
    refine Ev.sr fun K hK => S.o q.lss (S.end (hK _ ?_))
    clear hK K
    refine Ev.ud (fun c6 => ?_) (fun c6 => ?_)
    · first
    | (first | omega | contradiction)
    | refine Ev.seq ?_
      refine Ev.block ?_
      refine Ev.sr fun K hK => S.o (q.ix am_el23 am_cl40 (hl := (by first | exact ati hidx (by omega) | exact atig (by omega)))) (S.o (q.lsA [_, _] am_ag40 am_cl40) (S.nn (q.al am_ze40) (S.sv [_, _] true [_] am_in40 am_cl40 (h := S.end (hK _ ?_)))))
      clear hK K
      refine Ev.region_S fun K hK => S.o q.mv (S.o (q.fa 0 am_fi40_0 am_cl3) (S.o (q.lv am_ag3) (S.o (q.lk (vv := (Value.int .i64)) klI am_mt75) (S.o (q.fa 1 am_fi40_1 am_cl3) (S.o (q.lv am_ag3) (S.o q.add (S.mu (vv := (Value.int .i64)) [_] klI am_mt75 (fun _ => rfl) (hn := S.end (hK _ ?_)))))))))
      clear hK K
      show Ev _ _ _ _
      refine Ev.region_S fun K hK => S.o q.add (S.o q.mv (S.end (hK _ ?_)))
      clear hK K
      refine hR0 _ _ ?_
      refine roundU [0] [2, 3, 4, 11, 12] ⟨(pre ++ [(sx, sy)], suf), by rw [← hp]; simp, ?_⟩ ?_ (keep_c (he := (by first | rfl | (rw [skM_snoc]; done))) (h := keep_n)) (slots_c (he := (by first | rfl | (congr 2; simp; done))) (h := trivial)) (.c (.c (.c (.c (.c .n)))))
      trivial
      all_goals (dsimp only; simp only [List.length_cons]; omega)
    · first
    | (first | omega | contradiction)
    | refine Ev.exit ?_
      refine hR0 _ _ ?_
      show Ev _ _ _ _
      refine Ev.sr fun K hK => S.o q.as (S.end (hK _ ?_))
      clear hK K
      refine Ev.seq ?_
      refine Ev.sr fun K hK => S.o q.mv ?_
      refine SeqL.weaken (Wk.frzm [4, 25] [] (by intro d hd; simp only [List.mem_cons, List.not_mem_nil, or_false] at hd; rcases hd with rfl | rfl <;> rfl) (hex := ⟨4, rfl⟩)) ?_
      refine S.c1f (hF := keysM_fun _) (h := S.cR [1] 3 [_, _] (hob := (keep_c (he := rfl) (h := keep_n))) (hF := sortedF_fun (skM l) (by omega) (skM_wf hok)) (hn' := belowL rfl rfl) (h := ?_))
      refine SeqL.weaken (Wk.frz 27 [_]) ?_
      refine S.o (q.lens am_el52) (S.o q.mv (S.end (hK _ ?_)))
      clear hK K
      refine Ev.block ?_
      refine Ev.weaken (Wk.nown pairC 7 40 2) ?_
      refine Ev.loopU (ι := {q : List (Int × Int) × List (Int × Int) // q.1 ++ q.2 = skP l ∧ ∀ p ∈ q.1, p.2 ≤ 1000000}) [3] [4, 11, 12, 13, 14, 25, 27, 28] (fun ⟨(pre, suf), _⟩ => [(29, .lit (.int .i64 ((pre.length : Int)))), (7, .als 0 0 (pre).length)]) (fun ⟨(pre, suf), _⟩ => [(0, ⟨true, 40, 2, (pre).map pairC, true⟩)]) (fun ⟨(pre, suf), _⟩ => suf.length) ⟨([], (skP l)), rfl, fun p hp => by simp at hp⟩ (.c (.c (.c (.c (.c (.c (.c (.c .n)))))))) (keep_c (he := (by first | rfl | (simp [hgs, pairC]; done))) (h := keep_n)) (slots_c (he := (by first | rfl | (congr 2; simp; done))) (h := (slots_c (he := (by first | rfl | (simp; done) | (congr 2; omega))) (h := trivial)))) ?_
      rintro ⟨⟨pre, suf⟩, hp, hinv⟩ R2 hR2
      dsimp only [List.cons_append, List.nil_append, List.length_cons, List.length_nil]
      simp only at hp hinv
      have hpl : pre.length + suf.length = ((skP l)).length := by rw [← hp, List.length_append]
      rcases suf with _ | ⟨s, suf⟩
      · rw [List.append_nil] at hp; simp only [List.length_nil] at hpl
        refine Ev.sr fun K hK => S.o q.lss (S.end (hK _ ?_))
        clear hK K
        refine Ev.ud (fun c7 => ?_) (fun c7 => ?_)
        · first
        | (first | omega | contradiction)
        | refine Ev.seq ?_
          refine Ev.block ?_
          refine Ev.sr fun K hK => S.o (q.ix am_el52 am_cl3 (hl := (by first | exact ati hidx (by omega) | exact atig (by omega)))) (S.o (q.ls am_ag3) (S.o q.as (S.end (hK _ ?_))))
          clear hK K
          refine Ev.seq ?_
          refine Ev.sr fun K hK => S.o q.mv (S.o q.mv (S.o (q.lks (vv := (Value.int .i64)) klI am_mt75) (S.o q.gtr (S.end (hK _ ?_)))))
          clear hK K
          refine Ev.cd (fun c8 => ?_) (fun c8 => ?_)
          · first
          | (first | omega | contradiction)
          | refine Ev.sr fun K hK => S.o q.as (S.o q.as (S.end (hK _ ?_)))
            clear hK K
            refine Ev.weaken (Wk.nsh pairC 2 2) ?_
            refine Ev.ret ?_
            refine hR2 _ _ ?_
            refine Ev.ret2 ?_
            refine ⟨?_, rfl⟩
            first
             | (rw [(shV_bad hsm (by simp only; omega)).1, (shV_bad hsm (by simp only; omega)).2]; done)
             | (have hg := shV_good (hp ▸ hinv); rw [hg.1, hg.2, hp]; done)
          · first
          | (first | omega | contradiction)
          | refine Ev.skip ?_
            show Ev _ _ _ _
            refine Ev.region_S fun K hK => S.o q.mv (S.o q.mv (S.o q.mv (S.o q.mv (S.o (q.lks (vv := (Value.int .i64)) klI am_mt75) (S.o (q.bd [_, _] am_ze40 am_pl40) (S.nn (q.bs [[_, _]] true am_el23 am_ze40 am_cl40) (S.ap' [_] am_el23 am_ze40 am_cl40 am_by40 (hh := head_own') (hr := (rows_lit [(⟨_, _⟩ : Int × Int)])) (h := S.o q.as (S.end (hK _ ?_))))))))))
            clear hK K
            show Ev _ _ _ _
            refine Ev.region_S fun K hK => S.o q.add (S.o q.mv (S.end (hK _ ?_)))
            clear hK K
            refine hR2 _ _ ?_
            refine roundU [2] [4, 11, 12, 13, 14, 25, 27, 28] ⟨(pre ++ [(sx, sy)], suf), by rw [← hp]; simp, ?_⟩ ?_ (keep_c (he := (by first | rfl | (simp [hgs, pairC]; done))) (h := keep_n)) (slots_c (he := (by first | rfl | (congr 2; simp; done))) (h := (slots_c (he := (by first | rfl | (simp; done) | (congr 2; omega))) (h := trivial)))) (.c (.c (.c (.c (.c (.c (.c (.c .n))))))))
            intro p hp; simp only [List.mem_append, List.mem_singleton] at hp; rcases hp with hp | rfl
            · exact hinv p hp
            · simp only; omega
            all_goals (dsimp only; simp only [List.length_cons]; omega)
        · first
        | (first | omega | contradiction)
        | refine Ev.exit ?_
          refine hR2 _ _ ?_
          show Ev _ _ _ _
          refine Ev.sr fun K hK => S.o q.mv (S.o q.as (S.o q.as (S.end (hK _ ?_))))
          clear hK K
          refine Ev.weaken (Wk.frz 2 []) ?_
          refine Ev.ret ?_
          refine Ev.ret2 ?_
          refine ⟨?_, rfl⟩
          first
           | (rw [(shV_bad hsm (by simp only; omega)).1, (shV_bad hsm (by simp only; omega)).2]; done)
           | (have hg := shV_good (hp ▸ hinv); rw [hg.1, hg.2, hp]; done)
      · simp only [List.length_cons] at hpl
        obtain ⟨sx, sy⟩ := s
        have hidx : (skP l)[pre.length]? = some (sx, sy) := by rw [← hp]; simp
        have hidk : (dkeys (skM l))[pre.length]? = some sx := by rw [skM_keys hok, List.getElem?_map, hidx]; rfl
        have hsm : (sx, sy) ∈ skP l := by rw [← hp]; simp
        have hgs : (mget (skM l) sx).getD 0 = sy := by rw [skM_get]; exact ((skP_mem hok _).1 hsm).2.symm
        refine Ev.sr fun K hK => S.o q.lss (S.end (hK _ ?_))
        clear hK K
        refine Ev.ud (fun c9 => ?_) (fun c9 => ?_)
        · first
        | (first | omega | contradiction)
        | refine Ev.seq ?_
          refine Ev.block ?_
          refine Ev.sr fun K hK => S.o (q.ix am_el52 am_cl3 (hl := (by first | exact ati hidx (by omega) | exact ati hidk (by omega) | exact atig (by omega)))) (S.o (q.ls am_ag3) (S.o q.as (S.end (hK _ ?_))))
          clear hK K
          refine Ev.seq ?_
          refine Ev.sr fun K hK => S.o q.mv (S.o q.mv (S.o (q.lks (vv := (Value.int .i64)) klI am_mt75) (S.o q.gtr (S.end (hK _ ?_)))))
          clear hK K
          refine Ev.cd (fun c10 => ?_) (fun c10 => ?_)
          · first
          | (first | omega | contradiction)
          | refine Ev.sr fun K hK => S.o q.as (S.o q.as (S.end (hK _ ?_)))
            clear hK K
            refine Ev.weaken (Wk.nsh pairC 2 2) ?_
            refine Ev.ret ?_
            refine hR2 _ _ ?_
            refine Ev.ret2 ?_
            refine ⟨?_, rfl⟩
            first
             | (rw [(shV_bad hsm (by simp only; omega)).1, (shV_bad hsm (by simp only; omega)).2]; done)
             | (have hg := shV_good (hp ▸ hinv); rw [hg.1, hg.2, hp]; done)
          · first
          | (first | omega | contradiction)
          | refine Ev.skip ?_
            show Ev _ _ _ _
            refine Ev.region_S fun K hK => S.o q.mv (S.o q.mv (S.o q.mv (S.o q.mv (S.o (q.lks (vv := (Value.int .i64)) klI am_mt75) (S.o (q.bd [_, _] am_ze40 am_pl40) (S.nn (q.bs [[_, _]] true am_el23 am_ze40 am_cl40) (S.ap' [_] am_el23 am_ze40 am_cl40 am_by40 (hh := head_own') (hr := (rows_lit [(⟨_, _⟩ : Int × Int)])) (h := S.o q.as (S.end (hK _ ?_))))))))))
            clear hK K
            show Ev _ _ _ _
            refine Ev.region_S fun K hK => S.o q.add (S.o q.mv (S.end (hK _ ?_)))
            clear hK K
            refine hR2 _ _ ?_
            refine roundU [2] [4, 11, 12, 13, 14, 25, 27, 28] ⟨(pre ++ [(sx, sy)], suf), by rw [← hp]; simp, ?_⟩ ?_ (keep_c (he := (by first | rfl | (simp [hgs, pairC]; done))) (h := keep_n)) (slots_c (he := (by first | rfl | (congr 2; simp; done))) (h := (slots_c (he := (by first | rfl | (simp; done) | (congr 2; omega))) (h := trivial)))) (.c (.c (.c (.c (.c (.c (.c (.c .n))))))))
            intro p hp; simp only [List.mem_append, List.mem_singleton] at hp; rcases hp with hp | rfl
            · exact hinv p hp
            · simp only; omega
            all_goals (dsimp only; simp only [List.length_cons]; omega)
        · first
        | (first | omega | contradiction)
        | refine Ev.exit ?_
          refine hR2 _ _ ?_
          show Ev _ _ _ _
          refine Ev.sr fun K hK => S.o q.mv (S.o q.as (S.o q.as (S.end (hK _ ?_))))
          clear hK K
          refine Ev.weaken (Wk.frz 2 []) ?_
          refine Ev.ret ?_
          refine Ev.ret2 ?_
          refine ⟨?_, rfl⟩
          first
           | (rw [(shV_bad hsm (by simp only; omega)).1, (shV_bad hsm (by simp only; omega)).2]; done)
           | (have hg := shV_good (hp ▸ hinv); rw [hg.1, hg.2, hp]; done)
end Go.Proofs.Ytckahagagfmpbaa
