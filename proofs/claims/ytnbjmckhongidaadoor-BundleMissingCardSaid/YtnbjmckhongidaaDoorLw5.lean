/-
  The law BundleMissing, walked.
  Conditions: none.
-/
import Derived.Test.YtnbjmckhongidaaDoorDl1
import Derived.Test.YtnbjmckhongidaaDoorLw3
namespace Go.Proofs.YtnbjmckhongidaaDoor
open Go Go.AM
set_option linter.unusedSimpArgs false
set_option linter.unusedVariables false
set_option maxRecDepth 100000
set_option maxHeartbeats 1000000

def nsm : List UInt8 := [110, 111, 83, 117, 99, 104, 77, 97, 114, 107]
theorem miss1_fun (x : Bar) : Fun Tryd.prog 32 [.agg x.c] (Ret (.lit (.bool (decide (x.mark = nsm)))) []) := by
  refine Fun.of (nt := 6) (rs := [.tmp 2]) Tryd.func32 rfl rfl rfl rfl rfl ?_
  refine Ev.sr fun K hK => S.nn (q.bx [_, _, _, _, _] true) (S.o q.as (S.end (hK _ ?_)))
  clear hK K
  refine Ev.sr fun K hK => S.o (q.fa 0 am_fi42_0 am_cl9) (S.o (q.lv am_ag9) (S.o q.seqs (S.o q.as (S.end (hK _ ?_)))))
  clear hK K
  refine Ev.ret ?_
  refine Ev.ret1 ?_
  refine ⟨?_, rfl⟩
  rfl

theorem split_at {T : Type} {V : List T} {k : Nat} {x : T} (h : V[k]? = some x) : V = V.take k ++ x :: V.drop (k + 1) := by
  obtain ⟨h1, h2⟩ := List.getElem?_eq_some_iff.1 h
  rw [← h2, List.getElem_cons_drop, List.take_append_drop]
theorem set_at {T : Type} {V : List T} {k : Nat} {x : T} (y : T) (h : V[k]? = some x) : V.set k y = V.take k ++ y :: V.drop (k + 1) := by
  have h1 := (List.getElem?_eq_some_iff.1 h).1
  exact List.set_eq_take_append_cons_drop.trans (if_pos h1)
structure Miss (l : List Bar) (W : List Bundle) (F : List (Int × List UInt8)) : Prop where
  w : bunW W
  e : chkE l W = 0
  v : chkV l W = F
theorem miss_of {l : List Bar} {W : List Bundle} {F : List (Int × List UInt8)} (h : okSched l) (h1 : okBuns W) (h2 : checkP l W = F) : Miss l W F :=
  ⟨fun b hb => okBun_w (h1.2.1 b hb), (chk_ok ⟨h, h1⟩).2, (chk_ok ⟨h, h1⟩).1.trans h2⟩
theorem miss_facts {l : List Bar} {most k : Int} (h0 : makeE l most = 0) (hk : 0 ≤ k ∧ k < (makeV l most).length) : ∃ x, (makeV l most)[k.toNat]? = some x ∧ x ∈ makeV l most ∧ 0 ≤ x.mass ∧ x.mass ≤ 1099511627776 ∧
    Miss l ((makeV l most).take k.toNat ++ (makeV l most).drop (k + 1).toNat) [(1, x.mark)] ∧ Miss l ((makeV l most).set k.toNat (heavier x)) [(4, x.tag)] ∧
    ((∀ b ∈ l, b.mark ≠ nsm) → Miss l ((makeV l most).set k.toNat (renamed nsm x)) [(1, x.mark), (3, x.tag)]) := by
  have M := made_of h0
  obtain ⟨x, hx⟩ : ∃ x, (makeV l most)[k.toNat]? = some x := ⟨_, List.getElem?_eq_getElem (by omega)⟩
  have hm := List.mem_of_getElem? hx
  have hok := M.ok.2.1 x hm
  have e := split_at hx
  have M2 : Made l most ((makeV l most).take k.toNat ++ x :: (makeV l most).drop (k.toNat + 1)) := by rw [← e]; exact M
  refine ⟨x, hx, hm, hok.2.2.2.2.1, hok.2.2.2.2.2, ?_, ?_, fun hno => ?_⟩
  · rw [show (k + 1).toNat = k.toNat + 1 by omega]
    exact miss_of M.sched M2.out.1 M2.out.2
  · rw [set_at _ hx]
    exact miss_of M.sched M2.heavy.1 M2.heavy.2
  · rw [set_at _ hx]
    have h := M2.wrong (mk := nsm) (by decide) hno
    exact miss_of M.sched h.1 h.2
theorem no_mark {l : List Bar} (h : ¬ ∃ x ∈ l, decide (x.mark = nsm) = true) : ∀ b ∈ l, b.mark ≠ nsm := fun b hb e => h ⟨b, hb, decide_eq_true e⟩
theorem missing_law (l : List Bar) (most k : Int) (hlen : l.length ≤ 140737488355328) (hi : (Lit.int .u8 k).wf = true) : Fun Tryd.prog 7 [.sh 5 (l.map Bar.c), .lit (.int .i64 most), .lit (.int .u8 k)] (Ret (.lit (.bool true)) []) := by
  obtain ⟨hk0, hk1⟩ := wf_u8 hi
  have hml := makeV_le l most
  refine Fun.of (nt := 131) (rs := [.tmp 6]) Tryd.func7 rfl rfl rfl rfl rfl ?_
  refine Ev.sr fun K hK => S.o q.as (S.end (hK _ ?_))
  clear hK K
  refine Ev.seq ?_
  refine Ev.sr fun K hK => S.c0 (hF := awake_fun) (h := S.o q.nott (S.end (hK _ ?_)))
  clear hK K
  refine Ev.cf ?_
  refine Ev.skip ?_
  show Ev _ _ _ _
  refine Ev.seq ?_
  refine Ev.sr fun K hK => S.o q.mv (S.c0 (hF := large_fun _ (by omega)) (h := S.end (hK _ ?_)))
  clear hK K
  refine Ev.cd (fun c1 => ?_) (fun c1 => ?_)
  · first
  | (first | omega | contradiction)
  | refine Ev.sr fun K hK => S.o q.as (S.end (hK _ ?_))
    clear hK K
    refine Ev.ret ?_
    refine Ev.ret1 ?_
    refine ⟨?_, rfl⟩
    first | rfl | (exact lawT ‹_›) | (exfalso; omega) | contradiction | (exfalso; simp at *; done)
  · first
  | (first | omega | contradiction)
  | refine Ev.skip ?_
    show Ev _ _ _ _
    have hsm := Decidable.not_not.1 ‹¬ ¬ smallL l 8›
    have hw := small_w hsm
    have hl8 := hsm.1
    refine Ev.sr fun K hK => S.o q.mv (S.o q.mv (S.c0 (hF := bmake_fun _ _ (by omega) (by assumption)) (h := S.o q.mv (S.o q.ex (S.o q.ex (S.o q.as (S.o q.as (S.end (hK _ ?_)))))))))
    clear hK K
    refine Ev.seq ?_
    refine Ev.sr fun K hK => S.o q.mv (S.o q.neq (S.bn q.mv (fun c2 => ?_) (fun c2 => ?_)))
    · first
    | (first | omega | contradiction)
    | refine S.sk (S.sk (S.sk (S.o q.pt (S.o q.mv (S.sk (S.sk (S.sk (S.o q.pt (S.end (hK _ ?_))))))))))
      clear hK K
      refine Ev.ct ?_
      refine Ev.sr fun K hK => S.o q.as (S.end (hK _ ?_))
      clear hK K
      refine Ev.ret ?_
      refine Ev.ret1 ?_
      refine ⟨?_, rfl⟩
      first | rfl | (exact lawT ‹_›) | (exfalso; omega) | contradiction | (exfalso; simp at *; done)
    · first
    | (first | omega | contradiction)
    | refine S.o q.mv (S.o (q.lens am_el25) (S.o q.eql (S.o q.pf (S.bd q.mv (fun c3 => ?_) (fun c3 => ?_)))))
      · first
      | (first | omega | contradiction)
      | refine S.sk (S.sk (S.sk (S.o q.pt (S.end (hK _ ?_)))))
        clear hK K
        refine Ev.ct ?_
        refine Ev.sr fun K hK => S.o q.as (S.end (hK _ ?_))
        clear hK K
        refine Ev.ret ?_
        refine Ev.ret1 ?_
        refine ⟨?_, rfl⟩
        first | rfl | (exact lawT ‹_›) | (exfalso; omega) | contradiction | (exfalso; simp at *; done)
      · first
      | (first | omega | contradiction)
      | refine S.o q.mv (S.o (q.lens am_el25) (S.o q.gtr (S.o q.pf (S.end (hK _ ?_)))))
        clear hK K
        refine Ev.cd (fun c4 => ?_) (fun c4 => ?_)
        · first
        | (first | omega | contradiction)
        | refine Ev.sr fun K hK => S.o q.as (S.end (hK _ ?_))
          clear hK K
          refine Ev.ret ?_
          refine Ev.ret1 ?_
          refine ⟨?_, rfl⟩
          first | rfl | (exact lawT ‹_›) | (exfalso; omega) | contradiction | (exfalso; simp at *; done)
        · first
        | (first | omega | contradiction)
        | refine Ev.skip ?_
          show Ev _ _ _ _
          have hE : makeE l most = 0 := by omega
          refine Ev.sr fun K hK => S.o q.mv (S.o (q.cvi am_un3 am_us5) (S.o q.mv (S.o (q.lens am_el25) (S.o q.rem (S.o q.as (S.end (hK _ ?_)))))))
          clear hK K
          obtain ⟨hj0, hj1⟩ : 0 ≤ k % ((makeV l most).length : Int) ∧ k % ((makeV l most).length : Int) < ((makeV l most).length : Int) := ⟨Int.emod_nonneg _ (by omega), Int.emod_lt_of_pos _ (by omega)⟩
          generalize k % ((makeV l most).length : Int) = j at *
          obtain ⟨x, hx, hxm, hx0, hx1, hM1, hM2, hM3⟩ := miss_facts hE ⟨hj0, hj1⟩
          have e1 := hM1.e
          have v1 := hM1.v
          have e2 := hM2.e
          have v2 := hM2.v
          have hdl : ((makeV l most).take j.toNat ++ (makeV l most).drop (j + 1).toNat).length ≤ 1000 := by simp only [List.length_append, List.length_take, List.length_drop]; omega
          refine Ev.sr fun K hK => S.o q.mv (S.o q.mv (S.c1 (hF := cloneBun_fun _ (by omega)) (h := S.o q.mv (S.o q.mv (S.o q.add (S.cR [0] 2 [_] (hob := (keep_c (he := rfl) (h := keep_n))) (hF := deleteBun_R _ _ _ (by omega) (by omega) (by omega) (by omega)) (hn' := belowL rfl rfl) (h := ?_)))))))
          refine SeqL.weaken (Wk.frz 47 []) ?_
          refine S.c0 (hF := bcheck_fun l _ (by omega) (by omega) hw hM1.w) (h := S.o q.mv (S.o q.ex (S.o q.ex (S.o q.as (S.o q.as (S.end (hK _ ?_)))))))
          clear hK K
          refine Ev.seq ?_
          refine Ev.sr fun K hK => S.o q.mv (S.o q.neq (S.bn q.mv (fun c5 => ?_) (fun c5 => ?_)))
          · first
          | (first | omega | contradiction)
          | refine S.sk (S.sk (S.sk (S.sk (S.sk (S.sk (S.sk (S.sk (S.sk (S.sk (S.o q.pt (S.end (hK _ ?_))))))))))))
            clear hK K
            refine Ev.ct ?_
            refine Ev.sr fun K hK => S.o q.as (S.end (hK _ ?_))
            clear hK K
            refine Ev.ret ?_
            refine Ev.ret1 ?_
            refine ⟨?_, rfl⟩
            first | rfl | (exact lawT ‹_›) | (exfalso; omega) | contradiction | (exfalso; simp at *; done)
          · first
          | (first | omega | contradiction)
          | refine S.o q.mv (S.o q.mv (S.o q.mv (S.o (q.ix am_el25 am_cl46 (hl := (by first | exact ati hx (by omega) | exact atig (by omega)))) (S.o (q.fs 1 am_fi46_1 am_cl9) (S.o (q.ls am_ag9) (S.o (q.bd [_, _] am_ze57 am_pl57) (S.nn (q.bs [[_, _]] true am_el35 am_ze57 am_cl57) (S.c0 (hF := eqFnd_fun _ [(1, x.mark)] (by rw [v1]; simp) (by simp)) (h := S.o q.not (S.o q.pf (S.end (hK _ ?_))))))))))))
            clear hK K
            refine Ev.cn (fun c6 => ?_) (fun c6 => ?_)
            · first
            | (first | omega | contradiction)
            | refine Ev.sr fun K hK => S.o q.as (S.end (hK _ ?_))
              clear hK K
              refine Ev.ret ?_
              refine Ev.ret1 ?_
              refine ⟨?_, rfl⟩
              first | rfl | (exact lawT ‹_›) | (exfalso; omega) | contradiction | (exfalso; simp at *; done)
            · first
            | (first | omega | contradiction)
            | refine Ev.skip ?_
              show Ev _ _ _ _
              refine Ev.sr fun K hK => S.o q.mv (S.c1 (hF := cloneBun_fun _ (by omega)) (h := S.o q.as (S.end (hK _ ?_))))
              clear hK K
              refine Ev.sr fun K hK => S.o q.mv (S.o q.mv (S.o q.mv (S.o q.mv (S.o (q.ia am_el25 am_cl46) (S.o (q.fa 3 am_fi46_3 am_cl3) (S.o (q.lx am_ag3 (hl := (by first | exact at_ hx (by omega) | exact at_g (by omega)))) (S.o q.add (S.o q.rem (S.o (q.ia am_el25 am_cl46) (S.o (q.fa 3 am_fi46_3 am_cl3) (S.sx (heavier x) [_] am_in3 am_cl3 (hl := (by first | exact at_ hx (by omega) | exact at_g (by omega))) (h := S.end (hK _ ?_)))))))))))))
              clear hK K
              refine Ev.sr fun K hK => S.o q.mv (S.o q.mv ?_)
              refine SeqL.weaken (Wk.frz 80 [_]) ?_
              refine S.c0 (hF := bcheck_fun l ((makeV l most).set j.toNat (heavier x)) (by omega) (by rw [List.length_set]; omega) hw hM2.w) (h := S.o q.mv (S.o q.ex (S.o q.ex (S.o q.as (S.o q.as (S.end (hK _ ?_)))))))
              clear hK K
              refine Ev.seq ?_
              refine Ev.sr fun K hK => S.o q.mv (S.o q.neq (S.bn q.mv (fun c7 => ?_) (fun c7 => ?_)))
              · first
              | (first | omega | contradiction)
              | refine S.sk (S.sk (S.sk (S.sk (S.sk (S.sk (S.sk (S.sk (S.sk (S.sk (S.o q.pt (S.end (hK _ ?_))))))))))))
                clear hK K
                refine Ev.ct ?_
                refine Ev.sr fun K hK => S.o q.as (S.end (hK _ ?_))
                clear hK K
                refine Ev.ret ?_
                refine Ev.ret1 ?_
                refine ⟨?_, rfl⟩
                first | rfl | (exact lawT ‹_›) | (exfalso; omega) | contradiction | (exfalso; simp at *; done)
              · first
              | (first | omega | contradiction)
              | refine S.o q.mv (S.o q.mv (S.o q.mv (S.o (q.ix am_el25 am_cl46 (hl := (by first | exact ati hx (by omega) | exact atig (by omega)))) (S.o (q.fs 0 am_fi46_0 am_cl9) (S.o (q.ls am_ag9) (S.o (q.bd [_, _] am_ze57 am_pl57) (S.nn (q.bs [[_, _]] true am_el35 am_ze57 am_cl57) (S.c0 (hF := eqFnd_fun _ [(4, x.tag)] (by rw [v2]; simp) (by simp)) (h := S.o q.not (S.o q.pf (S.end (hK _ ?_))))))))))))
                clear hK K
                refine Ev.cn (fun c8 => ?_) (fun c8 => ?_)
                · first
                | (first | omega | contradiction)
                | refine Ev.sr fun K hK => S.o q.as (S.end (hK _ ?_))
                  clear hK K
                  refine Ev.ret ?_
                  refine Ev.ret1 ?_
                  refine ⟨?_, rfl⟩
                  first | rfl | (exact lawT ‹_›) | (exfalso; omega) | contradiction | (exfalso; simp at *; done)
                · first
                | (first | omega | contradiction)
                | refine Ev.skip ?_
                  show Ev _ _ _ _
                  refine Ev.sr fun K hK => S.o q.mv (S.c1 (hF := cloneBun_fun _ (by omega)) (h := S.o q.as (S.end (hK _ ?_))))
                  clear hK K
                  refine Ev.sr fun K hK => S.o q.mv (S.o q.mv (S.o (q.ia am_el25 am_cl46) (S.o (q.fa 1 am_fi46_1 am_cl9) (S.sx (renamed nsm x) [_, _] am_in9 am_cl9 (hl := (by first | exact at_ hx (by omega) | exact at_g (by omega))) (h := S.end (hK _ ?_))))))
                  clear hK K
                  refine Ev.seq ?_
                  refine Ev.sr fun K hK => S.o q.mv (S.c0 (hF := containsFuncBar0 _ _ miss1_fun l (by omega)) (h := S.end (hK _ ?_)))
                  clear hK K
                  refine Ev.cd (fun c9 => ?_) (fun c9 => ?_)
                  · first
                  | (first | omega | contradiction)
                  | refine Ev.sr fun K hK => S.o q.as (S.end (hK _ ?_))
                    clear hK K
                    refine Ev.ret ?_
                    refine Ev.ret1 ?_
                    refine ⟨?_, rfl⟩
                    first | rfl | (exact lawT ‹_›) | (exfalso; omega) | contradiction | (exfalso; simp at *; done)
                  · first
                  | (first | omega | contradiction)
                  | refine Ev.skip ?_
                    show Ev _ _ _ _
                    have hM := hM3 (no_mark ‹_›)
                    have e3 := hM.e
                    have v3 := hM.v
                    refine Ev.sr fun K hK => S.o q.mv (S.o q.mv ?_)
                    refine SeqL.weaken (Wk.frz 108 [_, _]) ?_
                    refine S.c0 (hF := bcheck_fun l ((makeV l most).set j.toNat (renamed nsm x)) (by omega) (by rw [List.length_set]; omega) hw hM.w) (h := S.o q.mv (S.o q.ex (S.o q.ex (S.o q.as (S.o q.as (S.end (hK _ ?_)))))))
                    clear hK K
                    refine Ev.sm (tbs [(0, 0), (1, 1), (2, 3), (3, 7), (3, 7), (3, 7), (6, 55), (7, 119), (8, 247), (9, 503), (3, 7), (3, 7), (12, 3079), (13, 7175), (14, 15367), (15, 31751), (16, 65527), (17, 131071), (18, 262143), (19, 524287)]) 17 fun K hK => M.o q.mv (M.o q.eql (M.bd q.mv (fun c10 => ?_) (fun c10 => ?_)))
                    · first
                    | (first | omega | contradiction)
                    | refine M.o q.mv (M.o q.mv (M.o q.mv (M.o (q.ix am_el25 am_cl46 (hl := (by first | exact ati hx (by omega) | exact atig (by omega)))) (M.o (q.fs 1 am_fi46_1 am_cl9) (M.o (q.ls am_ag9) (M.o (q.bd [_, _] am_ze57 am_pl57) (M.o q.mv (M.o q.mv (M.o (q.ix am_el25 am_cl46 (hl := (by first | exact ati hx (by omega) | exact atig (by omega)))) (M.o (q.fs 0 am_fi46_0 am_cl9) (M.o (q.ls am_ag9) (M.o (q.bd [_, _] am_ze57 am_pl57) (M.nn [_] (q.bs [[_, _], [_, _]] true am_el35 am_ze57 am_cl57) (h := M.end [_, _, _] (h := S.c0 (hF := eqFnd_fun _ [(1, x.mark), (3, x.tag)] (by rw [v3]; simp) (by simp)) (h := S.o q.pt (S.o q.as (S.end (hK _ ?_)))))))))))))))))))
                      clear hK K
                      refine Ev.ret ?_
                      refine Ev.ret1 ?_
                      refine ⟨?_, rfl⟩
                      first | rfl | (exact lawT ‹_›) | (exfalso; omega) | contradiction | (exfalso; simp at *; done)
                    · first
                    | (first | omega | contradiction)
                    | refine M.sk (M.sk (M.sk (M.sk (M.sk (M.sk (M.sk (M.sk (M.sk (M.sk (M.sk (M.sk (M.sk (M.sk (M.end [_, _] (h := S.sk (S.o q.pf (S.o q.as (S.end (hK _ ?_)))))))))))))))))))
                      clear hK K
                      refine Ev.ret ?_
                      refine Ev.ret1 ?_
                      refine ⟨?_, rfl⟩
                      first | rfl | (exact lawT ‹_›) | (exfalso; omega) | contradiction | (exfalso; simp at *; done)
end Go.Proofs.YtnbjmckhongidaaDoor
