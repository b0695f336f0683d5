/-
  The pieces of a size: the program.
  Conditions: none.
-/
import Derived.Test.YtddogeicmhbidaaGreatDoorPc4
import Derived.Test.YtddogeicmhbidaaGreatDoorSteel
namespace Go.Proofs.YtddogeicmhbidaaGreatDoor
open Go Go.AM
set_option linter.unusedSimpArgs false
set_option linter.unusedVariables false
set_option maxRecDepth 100000
set_option maxHeartbeats 1000000

theorem cutOk_fun (b : Bar) (h : okBar b) : Fun Tryz.prog 25 [.agg b.c] (Ret (.tup [.lit (.int .i64 (cutOf b)), .lit (.int .i64 0)]) []) := by
  have hn := isName_len h.1
  have h2 := h.2.2.2.2.2.1
  have h3 : dimsN b.code ≤ 5 := by unfold dimsN; repeat' split <;> omega
  have h1 := cut_fun b ⟨by omega, by omega⟩
  rw [show okV b (cutOf b) = cutOf b from if_pos h, show okE b = 0 from if_pos h] at h1
  exact h1
def pcV (l : List Bar) (d : Int) : List (Int × Int) := if okSched l ∧ d ∈ sizes then pcP l d else []
def pcE (l : List Bar) (d : Int) : Int := if okSched l then (if d ∈ sizes then 0 else 11) else 1
theorem pcM_get (l : List Bar) (d n : Int) : (mget (pcM l d) n).getD 0 = pcCnt l d n := by
  rw [(pcM_spec d l).2.2 n]
  by_cases h : PcHas l d n
  · rw [if_pos h]; rfl
  · rw [if_neg h, pcCnt_no h]; rfl
theorem perm_next {q : List (Int × Int)} {dn l1 l2 rm : List (Int × Int)} {p : Int × Int} (h : (dn ++ rm).Perm q) (hr : rm = l1 ++ p :: l2) : ((dn ++ [p]) ++ (l1 ++ l2)).Perm q := by
  subst hr
  refine List.Perm.trans ?_ h
  rw [List.append_assoc]
  refine List.Perm.append_left dn ?_
  simp only [List.singleton_append]
  exact List.perm_middle.symm
theorem Pieces_fun (l : List Bar) (d : Int) (hlen : l.length ≤ 140737488355328) (hw : schedW l) : Fun Tryz.prog 8 [.sh 5 (l.map Bar.c), .lit (.int .i64 d)] (Ret (.tup [.sh 2 ((pcV l d).map pairC), .lit (.int .i64 (pcE l d))]) []) := by
  refine Fun.of (nt := 64) (rs := [.tmp 4, .tmp 5]) Tryz.func8 rfl rfl rfl rfl rfl ?_
  refine Ev.sr fun K hK => S.o q.as (S.o q.as (S.end (hK _ ?_)))
  clear hK K
  refine Ev.seq ?_
  refine Ev.block ?_
  refine Ev.sr fun K hK => S.o q.mv (S.c0 (hF := schedValid_fun _ (by omega) (by assumption)) (h := S.o q.not (S.o q.as (S.end (hK _ ?_)))))
  clear hK K
  refine Ev.cn (fun c1 => ?_) (fun c1 => ?_)
  · first
  | (first | omega | contradiction)
  | refine Ev.sr fun K hK => S.o q.as (S.o q.as (S.end (hK _ ?_)))
    clear hK K
    refine Ev.weaken (Wk.nsh pairC 4 2) ?_
    refine Ev.ret ?_
    refine Ev.ret2 ?_
    refine ⟨?_, rfl⟩
    first
     | (rw [show pcV l d = [] from if_neg (fun h => absurd h.1 ‹_›), show pcE l d = 1 from if_neg ‹_›]; done)
     | (rw [show pcV l d = [] from if_neg (fun h => absurd h.2 ‹_›), show pcE l d = 11 from (if_pos ‹_›).trans (if_neg ‹_›)]; done)
     | (rw [show pcV l d = l' from hfin.symm, show pcE l d = 0 from (if_pos hok).trans (if_pos hsz)]; done)
     | (exfalso; omega)
  · first
  | (first | omega | contradiction)
  | refine Ev.sr fun K hK => S.o q.mv (S.c0 (hF := size_fun _) (h := S.o q.not (S.o q.as (S.end (hK _ ?_)))))
    clear hK K
    refine Ev.cn (fun c2 => ?_) (fun c2 => ?_)
    · first
    | (first | omega | contradiction)
    | refine Ev.sr fun K hK => S.o q.as (S.o q.as (S.end (hK _ ?_)))
      clear hK K
      refine Ev.weaken (Wk.nsh pairC 4 2) ?_
      refine Ev.ret ?_
      refine Ev.ret2 ?_
      refine ⟨?_, rfl⟩
      first
       | (rw [show pcV l d = [] from if_neg (fun h => absurd h.1 ‹_›), show pcE l d = 1 from if_neg ‹_›]; done)
       | (rw [show pcV l d = [] from if_neg (fun h => absurd h.2 ‹_›), show pcE l d = 11 from (if_pos ‹_›).trans (if_neg ‹_›)]; done)
       | (rw [show pcV l d = l' from hfin.symm, show pcE l d = 0 from (if_pos hok).trans (if_pos hsz)]; done)
       | (exfalso; omega)
    · first
    | (first | omega | contradiction)
    | refine Ev.skip ?_
      show Ev _ _ _ _
      have hok : okSched l := ‹_›
      have hsz : d ∈ sizes := ‹_›
      have hll := hok.1
      have hlo := hok.2.1
      refine Ev.sr fun K hK => S.nn (v := .hd 0) (o := ⟨true, 55, 3, ([] : List (Int × Int)).map (rowK (Value.int .i64) (Value.int .i64)), true⟩) (q.mm am_mt55) (S.o q.as (S.end (hK _ ?_)))
      clear hK K
      refine Ev.seq ?_
      refine Ev.sr fun K hK => S.o q.mv (S.o (q.lens am_el22) (S.o q.mv (S.end (hK _ ?_))))
      clear hK K
      refine Ev.block ?_
      refine Ev.loopU (ι := {p : List (Bar) × List (Bar) // p.1 ++ p.2 = l ∧ True}) [0] [1, 6, 23, 24] (fun ⟨(pre, suf), _⟩ => [(25, .lit (.int .i64 ((pre.length : Int))))]) (fun ⟨(pre, suf), _⟩ => [(0, ⟨true, 55, 3, (pcM pre d).map (rowK (Value.int .i64) (Value.int .i64)), true⟩)]) (fun ⟨(pre, suf), _⟩ => suf.length) ⟨([], l), rfl, trivial⟩ (.c (.c (.c (.c .n)))) (keep_c (he := (by first | rfl | (rw [pcM_snoc, if_pos (by omega)]; done) | (rw [pcM_snoc, if_neg (by omega)]; done))) (h := keep_n)) (slots_c (he := (by first | rfl | (congr 2; simp; done))) (h := trivial)) ?_
      rintro ⟨⟨pre, suf⟩, hp, hinv⟩ R1 hR1
      dsimp only [List.cons_append, List.nil_append, List.length_cons, List.length_nil]
      simp only at hp hinv
      have hpl : pre.length + suf.length = (l).length := by rw [← hp, List.length_append]
      rcases suf with _ | ⟨s, suf⟩
      · rw [List.append_nil] at hp; subst pre; simp only [List.length_nil] at hpl
        refine Ev.sr fun K hK => S.o q.lss (S.end (hK _ ?_))
        clear hK K
        refine Ev.ud (fun c3 => ?_) (fun c3 => ?_)
        · first
        | (first | omega | contradiction)
        | refine Ev.seq ?_
          refine Ev.block ?_
          refine Ev.sr fun K hK => S.o (q.ix am_el22 am_cl49 (hl := (by first | exact atig (by omega)))) (S.o (q.lsA [_, _, _, _, _] am_ag49 am_cl49) (S.nn (q.al am_ze49) (S.sv [_, _, _, _, _] true [_] am_in49 am_cl49 (h := S.end (hK _ ?_)))))
          clear hK K
          refine Ev.seq ?_
          refine Ev.sr fun K hK => S.o (q.fa 1 am_fi49_1 am_cl3) (S.o (q.lv am_ag3) (S.o q.mv (S.o q.neq (S.end (hK _ ?_)))))
          clear hK K
          refine Ev.cn (fun c4 => ?_) (fun c4 => ?_)
          · first
          | (first | omega | contradiction)
          | refine Ev.exit ?_
            show Ev _ _ _ _
            refine Ev.region_S fun K hK => S.o q.add (S.o q.mv (S.end (hK _ ?_)))
            clear hK K
            refine hR1 _ _ ?_
            refine roundU [0] [1, 6, 23, 24] ⟨(pre ++ [s], suf), by rw [← hp]; simp, ?_⟩ ?_ (keep_c (he := (by first | rfl | (rw [pcM_snoc, if_pos (by omega)]; done) | (rw [pcM_snoc, if_neg (by omega)]; done))) (h := keep_n)) (slots_c (he := (by first | rfl | (congr 2; simp; done))) (h := trivial)) (.c (.c (.c (.c .n))))
            trivial
            all_goals (dsimp only; simp only [List.length_cons]; omega)
          · first
          | (first | omega | contradiction)
          | refine Ev.skip ?_
            show Ev _ _ _ _
            refine Ev.sr fun K hK => S.o (q.lvA [_, _, _, _, _] am_ag49 am_cl49) (S.c0 (hF := cutOk_fun s hsok) (h := S.o q.mv (S.o q.ex (S.o q.ex (S.o q.as (S.o q.as (S.end (hK _ ?_))))))))
            clear hK K
            refine Ev.seq ?_
            refine Ev.sr fun K hK => S.o q.mv (S.o q.neq (S.end (hK _ ?_)))
            clear hK K
            refine Ev.cn (fun c5 => ?_) (fun c5 => ?_)
            · first
            | (first | omega | contradiction)
            | refine Ev.sr fun K hK => S.o q.mv (S.o q.as (S.o q.as (S.end (hK _ ?_))))
              clear hK K
              refine Ev.weaken (Wk.nsh pairC 4 2) ?_
              refine Ev.ret ?_
              refine hR1 _ _ ?_
              refine Ev.ret2 ?_
              refine ⟨?_, rfl⟩
              first
               | (rw [show pcV l d = [] from if_neg (fun h => absurd h.1 ‹_›), show pcE l d = 1 from if_neg ‹_›]; done)
               | (rw [show pcV l d = [] from if_neg (fun h => absurd h.2 ‹_›), show pcE l d = 11 from (if_pos ‹_›).trans (if_neg ‹_›)]; done)
               | (rw [show pcV l d = l' from hfin.symm, show pcE l d = 0 from (if_pos hok).trans (if_pos hsz)]; done)
               | (exfalso; omega)
            · first
            | (first | omega | contradiction)
            | refine Ev.skip ?_
              show Ev _ _ _ _
              refine Ev.region_S fun K hK => S.o q.mv (S.o q.mv (S.o (q.lk (vv := (Value.int .i64)) klI am_mt55) (S.o (q.fa 2 am_fi49_2 am_cl3) (S.o (q.lv am_ag3) (S.o q.add (S.mu (vv := (Value.int .i64)) [_] klI am_mt55 (fun _ => rfl) (hn := S.end (hK _ ?_))))))))
              clear hK K
              show Ev _ _ _ _
              refine Ev.region_S fun K hK => S.o q.add (S.o q.mv (S.end (hK _ ?_)))
              clear hK K
              refine hR1 _ _ ?_
              refine roundU [0] [1, 6, 23, 24] ⟨(pre ++ [s], suf), by rw [← hp]; simp, ?_⟩ ?_ (keep_c (he := (by first | rfl | (rw [pcM_snoc, if_pos (by omega)]; done) | (rw [pcM_snoc, if_neg (by omega)]; done))) (h := keep_n)) (slots_c (he := (by first | rfl | (congr 2; simp; done))) (h := trivial)) (.c (.c (.c (.c .n))))
              trivial
              all_goals (dsimp only; simp only [List.length_cons]; omega)
        · first
        | (first | omega | contradiction)
        | refine Ev.exit ?_
          refine hR1 _ _ ?_
          show Ev _ _ _ _
          refine Ev.sr fun K hK => S.o q.as (S.end (hK _ ?_))
          clear hK K
          refine Ev.seq ?_
          refine Ev.sr fun K hK => S.o q.mv (SeqL.weaken (Wk.frzm [6, 48] [] (by intro d hd; simp only [List.mem_cons, List.not_mem_nil, or_false] at hd; rcases hd with rfl | rfl <;> rfl) (hex := ⟨6, rfl⟩)) (S.nn (q.rg am_mt55) (S.end (hK _ ?_))))
          clear hK K
          refine Ev.block ?_
          refine Ev.weaken (Wk.rem0 1 []) ?_
          refine Ev.weaken (Wk.nown pairC 11 33 2) ?_
          refine Ev.loopU (ι := {q : List (Int × Int) × List (Int × Int) // (q.1 ++ q.2).Perm (pcM l d)}) [1, 2] [1, 6, 23, 24, 25, 26, 48, 49] (fun ⟨(dn, rm), _⟩ => [(11, .als 1 0 (dn).length)]) (fun ⟨(dn, rm), _⟩ => [(0, ⟨false, 0, 1, [[.rem 3 [] ((rm).map (rowK (Value.int .i64) (Value.int .i64)))]], true⟩), (1, ⟨true, 33, 2, (dn).map pairC, true⟩)]) (fun ⟨(dn, rm), _⟩ => rm.length) ⟨([], pcM l d), List.Perm.refl _⟩ (.c (.c (.c (.c (.c (.c (.c (.c .n)))))))) (keep_c (he := (by first | rfl | (simp; done))) (h := (keep_c (he := (by first | rfl | (simp; done))) (h := keep_n)))) (slots_c (he := (by first | rfl | (congr 1; simp; done))) (h := trivial)) ?_
          rintro ⟨⟨dn, rm⟩, hpm⟩ R3 hR3
          dsimp only [List.cons_append, List.nil_append, List.length_cons, List.length_nil]
          simp only at hpm
          have hdl : dn.length ≤ 60 := by
            have h1 := hpm.length_eq
            have h2 := (pcM_spec d l).2.1
            rw [List.length_append] at h1
            omega
          refine Ev.sr fun K hK => ?_
          refine S.nx (kv := (Value.int .i64)) (vv := (Value.int .i64)) [_] (h0 := ?_) (h1 := ?_)
          · intro hl6
            refine S.o q.ex (S.end (hK _ ?_))
            clear hK K
            refine Ev.uf ?_
            refine Ev.exit ?_
            refine hR3 _ _ ?_
            show Ev _ _ _ _
            refine Ev.sr fun K hK => S.o q.mv (S.cRdx (ι := List (Int × Int)) (Φ := fun l' => l'.Perm dn ∧ l'.Pairwise fun x y => y.1 ≤ x.1) (lf := fun l' => [(0, ⟨true, 33, 2, l'.map pairC, true⟩)]) [1] 2 (hob := (keep_c (he := rfl) (h := keep_n))) (hF := sortPiece_fun dn (by omega)) (hn' := fun _ => below1 (by decide)) (h := fun l' hl' => ?_))
            have hfin : l' = pcV l d := (pcM_sort hlo (hl'.1.trans (by have h := hpm; rw [‹rm = []›, List.append_nil] at h; exact h)) hl'.2).trans (if_pos ⟨hok, hsz⟩).symm
            rw [← hl'.1.length_eq]
            refine S.end (hK _ ?_)
            clear hK K
            refine Ev.sr fun K hK => S.o q.mv (S.o q.as (S.o q.as (S.end (hK _ ?_))))
            clear hK K
            refine Ev.weaken (Wk.frz 4 [_]) ?_
            refine Ev.ret ?_
            refine Ev.ret2 ?_
            refine ⟨?_, rfl⟩
            first
             | (rw [show pcV l d = [] from if_neg (fun h => absurd h.1 ‹_›), show pcE l d = 1 from if_neg ‹_›]; done)
             | (rw [show pcV l d = [] from if_neg (fun h => absurd h.2 ‹_›), show pcE l d = 11 from (if_pos ‹_›).trans (if_neg ‹_›)]; done)
             | (rw [show pcV l d = l' from hfin.symm, show pcE l d = 0 from (if_pos hok).trans (if_pos hsz)]; done)
             | (exfalso; omega)
          · intro l1 pq l2 hlq
            have hpn := perm_next hpm hlq
            have hlm : (l1 ++ l2).length < rm.length := by rw [hlq]; simp
            refine S.o q.ex (S.end (hK _ ?_))
            clear hK K
            refine Ev.ut ?_
            refine Ev.block ?_
            refine Ev.sr fun K hK => S.o (q.en (kv := (Value.int .i64)) (vv := (Value.int .i64)) (l1 := [])) (S.o q.ex (S.o q.ex (S.o q.as (S.o q.as (S.end (hK _ ?_))))))
            clear hK K
            refine Ev.region_S fun K hK => S.o q.mv (S.o q.mv (S.o q.mv (S.o (q.bd [_, _] am_ze33 am_pl33) (S.nn (q.bs [[_, _]] true am_el25 am_ze33 am_cl33) (S.ap' [_, _] am_el25 am_ze33 am_cl33 am_by33 (hh := head_own') (hr := (rows_lit [(⟨_, _⟩ : Int × Int)])) (h := S.o q.as (S.end (hK _ ?_))))))))
            clear hK K
            refine hR3 _ _ ?_
            refine roundW (Wk.rem0 0 [_, _]) ?_
            refine roundU [0, 3] [1, 6, 23, 24, 25, 26, 48, 49] ⟨(dn ++ [pq], l1 ++ l2), hpn⟩ ?_ (keep_c (he := (by first | rfl | (simp; done))) (h := (keep_c (he := (by first | rfl | (simp; done))) (h := keep_n)))) (slots_c (he := (by first | rfl | (congr 1; simp; done))) (h := trivial)) (.c (.c (.c (.c (.c (.c (.c (.c .n))))))))
            skip
            all_goals (dsimp only; omega)
      · simp only [List.length_cons] at hpl
        have hidx : (l)[pre.length]? = some s := by rw [← hp]; simp
        have hsok : okBar s := hlo s (by rw [← hp]; simp)
        have hpb := pcCnt_bd d (cutOf s) pre (fun b hb => hlo b (by rw [← hp]; simp [hb]))
        have hgt := pcM_get pre d (cutOf s)
        have hsc := hsok.2.2.1
        have hsc2 := hsok.2.2.2.1
        refine Ev.sr fun K hK => S.o q.lss (S.end (hK _ ?_))
        clear hK K
        refine Ev.ud (fun c7 => ?_) (fun c7 => ?_)
        · first
        | (first | omega | contradiction)
        | refine Ev.seq ?_
          refine Ev.block ?_
          refine Ev.sr fun K hK => S.o (q.ix am_el22 am_cl49 (hl := (by first | exact ati hidx (by omega) | exact atig (by omega)))) (S.o (q.lsA [_, _, _, _, _] am_ag49 am_cl49) (S.nn (q.al am_ze49) (S.sv [_, _, _, _, _] true [_] am_in49 am_cl49 (h := S.end (hK _ ?_)))))
          clear hK K
          refine Ev.seq ?_
          refine Ev.sr fun K hK => S.o (q.fa 1 am_fi49_1 am_cl3) (S.o (q.lv am_ag3) (S.o q.mv (S.o q.neq (S.end (hK _ ?_)))))
          clear hK K
          refine Ev.cn (fun c8 => ?_) (fun c8 => ?_)
          · first
          | (first | omega | contradiction)
          | refine Ev.exit ?_
            show Ev _ _ _ _
            refine Ev.region_S fun K hK => S.o q.add (S.o q.mv (S.end (hK _ ?_)))
            clear hK K
            refine hR1 _ _ ?_
            refine roundU [0] [1, 6, 23, 24] ⟨(pre ++ [s], suf), by rw [← hp]; simp, ?_⟩ ?_ (keep_c (he := (by first | rfl | (rw [pcM_snoc, if_pos (by omega)]; done) | (rw [pcM_snoc, if_neg (by omega)]; done))) (h := keep_n)) (slots_c (he := (by first | rfl | (congr 2; simp; done))) (h := trivial)) (.c (.c (.c (.c .n))))
            trivial
            all_goals (dsimp only; simp only [List.length_cons]; omega)
          · first
          | (first | omega | contradiction)
          | refine Ev.skip ?_
            show Ev _ _ _ _
            refine Ev.sr fun K hK => S.o (q.lvA [_, _, _, _, _] am_ag49 am_cl49) (S.c0 (hF := cutOk_fun s hsok) (h := S.o q.mv (S.o q.ex (S.o q.ex (S.o q.as (S.o q.as (S.end (hK _ ?_))))))))
            clear hK K
            refine Ev.seq ?_
            refine Ev.sr fun K hK => S.o q.mv (S.o q.neq (S.end (hK _ ?_)))
            clear hK K
            refine Ev.cn (fun c9 => ?_) (fun c9 => ?_)
            · first
            | (first | omega | contradiction)
            | refine Ev.sr fun K hK => S.o q.mv (S.o q.as (S.o q.as (S.end (hK _ ?_))))
              clear hK K
              refine Ev.weaken (Wk.nsh pairC 4 2) ?_
              refine Ev.ret ?_
              refine hR1 _ _ ?_
              refine Ev.ret2 ?_
              refine ⟨?_, rfl⟩
              first
               | (rw [show pcV l d = [] from if_neg (fun h => absurd h.1 ‹_›), show pcE l d = 1 from if_neg ‹_›]; done)
               | (rw [show pcV l d = [] from if_neg (fun h => absurd h.2 ‹_›), show pcE l d = 11 from (if_pos ‹_›).trans (if_neg ‹_›)]; done)
               | (rw [show pcV l d = l' from hfin.symm, show pcE l d = 0 from (if_pos hok).trans (if_pos hsz)]; done)
               | (exfalso; omega)
            · first
            | (first | omega | contradiction)
            | refine Ev.skip ?_
              show Ev _ _ _ _
              refine Ev.region_S fun K hK => S.o q.mv (S.o q.mv (S.o (q.lk (vv := (Value.int .i64)) klI am_mt55) (S.o (q.fa 2 am_fi49_2 am_cl3) (S.o (q.lv am_ag3) (S.o q.add (S.mu (vv := (Value.int .i64)) [_] klI am_mt55 (fun _ => rfl) (hn := S.end (hK _ ?_))))))))
              clear hK K
              show Ev _ _ _ _
              refine Ev.region_S fun K hK => S.o q.add (S.o q.mv (S.end (hK _ ?_)))
              clear hK K
              refine hR1 _ _ ?_
              refine roundU [0] [1, 6, 23, 24] ⟨(pre ++ [s], suf), by rw [← hp]; simp, ?_⟩ ?_ (keep_c (he := (by first | rfl | (rw [pcM_snoc, if_pos (by omega)]; done) | (rw [pcM_snoc, if_neg (by omega)]; done))) (h := keep_n)) (slots_c (he := (by first | rfl | (congr 2; simp; done))) (h := trivial)) (.c (.c (.c (.c .n))))
              trivial
              all_goals (dsimp only; simp only [List.length_cons]; omega)
        · first
        | (first | omega | contradiction)
        | refine Ev.exit ?_
          refine hR1 _ _ ?_
          show Ev _ _ _ _
          refine Ev.sr fun K hK => S.o q.as (S.end (hK _ ?_))
          clear hK K
          refine Ev.seq ?_
          refine Ev.sr fun K hK => S.o q.mv (SeqL.weaken (Wk.frzm [6, 48] [] (by intro d hd; simp only [List.mem_cons, List.not_mem_nil, or_false] at hd; rcases hd with rfl | rfl <;> rfl) (hex := ⟨6, rfl⟩)) (S.nn (q.rg am_mt55) (S.end (hK _ ?_))))
          clear hK K
          refine Ev.block ?_
          refine Ev.weaken (Wk.rem0 1 []) ?_
          refine Ev.weaken (Wk.nown pairC 11 33 2) ?_
          refine Ev.loopU (ι := {q : List (Int × Int) × List (Int × Int) // (q.1 ++ q.2).Perm (pcM l d)}) [1, 2] [1, 6, 23, 24, 25, 26, 48, 49] (fun ⟨(dn, rm), _⟩ => [(11, .als 1 0 (dn).length)]) (fun ⟨(dn, rm), _⟩ => [(0, ⟨false, 0, 1, [[.rem 3 [] ((rm).map (rowK (Value.int .i64) (Value.int .i64)))]], true⟩), (1, ⟨true, 33, 2, (dn).map pairC, true⟩)]) (fun ⟨(dn, rm), _⟩ => rm.length) ⟨([], pcM l d), List.Perm.refl _⟩ (.c (.c (.c (.c (.c (.c (.c (.c .n)))))))) (keep_c (he := (by first | rfl | (simp; done))) (h := (keep_c (he := (by first | rfl | (simp; done))) (h := keep_n)))) (slots_c (he := (by first | rfl | (congr 1; simp; done))) (h := trivial)) ?_
          rintro ⟨⟨dn, rm⟩, hpm⟩ R3 hR3
          dsimp only [List.cons_append, List.nil_append, List.length_cons, List.length_nil]
          simp only at hpm
          have hdl : dn.length ≤ 60 := by
            have h1 := hpm.length_eq
            have h2 := (pcM_spec d l).2.1
            rw [List.length_append] at h1
            omega
          refine Ev.sr fun K hK => ?_
          refine S.nx (kv := (Value.int .i64)) (vv := (Value.int .i64)) [_] (h0 := ?_) (h1 := ?_)
          · intro hl10
            refine S.o q.ex (S.end (hK _ ?_))
            clear hK K
            refine Ev.uf ?_
            refine Ev.exit ?_
            refine hR3 _ _ ?_
            show Ev _ _ _ _
            refine Ev.sr fun K hK => S.o q.mv (S.cRdx (ι := List (Int × Int)) (Φ := fun l' => l'.Perm dn ∧ l'.Pairwise fun x y => y.1 ≤ x.1) (lf := fun l' => [(0, ⟨true, 33, 2, l'.map pairC, true⟩)]) [1] 2 (hob := (keep_c (he := rfl) (h := keep_n))) (hF := sortPiece_fun dn (by omega)) (hn' := fun _ => below1 (by decide)) (h := fun l' hl' => ?_))
            have hfin : l' = pcV l d := (pcM_sort hlo (hl'.1.trans (by have h := hpm; rw [‹rm = []›, List.append_nil] at h; exact h)) hl'.2).trans (if_pos ⟨hok, hsz⟩).symm
            rw [← hl'.1.length_eq]
            refine S.end (hK _ ?_)
            clear hK K
            refine Ev.sr fun K hK => S.o q.mv (S.o q.as (S.o q.as (S.end (hK _ ?_))))
            clear hK K
            refine Ev.weaken (Wk.frz 4 [_]) ?_
            refine Ev.ret ?_
            refine Ev.ret2 ?_
            refine ⟨?_, rfl⟩
            first
             | (rw [show pcV l d = [] from if_neg (fun h => absurd h.1 ‹_›), show pcE l d = 1 from if_neg ‹_›]; done)
             | (rw [show pcV l d = [] from if_neg (fun h => absurd h.2 ‹_›), show pcE l d = 11 from (if_pos ‹_›).trans (if_neg ‹_›)]; done)
             | (rw [show pcV l d = l' from hfin.symm, show pcE l d = 0 from (if_pos hok).trans (if_pos hsz)]; done)
             | (exfalso; omega)
          · intro l1 pq l2 hlq
            have hpn := perm_next hpm hlq
            have hlm : (l1 ++ l2).length < rm.length := by rw [hlq]; simp
            refine S.o q.ex (S.end (hK _ ?_))
            clear hK K
            refine Ev.ut ?_
            refine Ev.block ?_
            refine Ev.sr fun K hK => S.o (q.en (kv := (Value.int .i64)) (vv := (Value.int .i64)) (l1 := [])) (S.o q.ex (S.o q.ex (S.o q.as (S.o q.as (S.end (hK _ ?_))))))
            clear hK K
            refine Ev.region_S fun K hK => S.o q.mv (S.o q.mv (S.o q.mv (S.o (q.bd [_, _] am_ze33 am_pl33) (S.nn (q.bs [[_, _]] true am_el25 am_ze33 am_cl33) (S.ap' [_, _] am_el25 am_ze33 am_cl33 am_by33 (hh := head_own') (hr := (rows_lit [(⟨_, _⟩ : Int × Int)])) (h := S.o q.as (S.end (hK _ ?_))))))))
            clear hK K
            refine hR3 _ _ ?_
            refine roundW (Wk.rem0 0 [_, _]) ?_
            refine roundU [0, 3] [1, 6, 23, 24, 25, 26, 48, 49] ⟨(dn ++ [pq], l1 ++ l2), hpn⟩ ?_ (keep_c (he := (by first | rfl | (simp; done))) (h := (keep_c (he := (by first | rfl | (simp; done))) (h := keep_n)))) (slots_c (he := (by first | rfl | (congr 1; simp; done))) (h := trivial)) (.c (.c (.c (.c (.c (.c (.c (.c .n))))))))
            skip
            all_goals (dsimp only; omega)
end Go.Proofs.YtddogeicmhbidaaGreatDoor
