/-
  Layer 41: the law of the changes that reach a schedule.
  Conditions: none.
-/
import Derived.Test.YtccddakkegelkaaGreatDoorRv2
namespace Go.Proofs.YtccddakkegelkaaGreatDoor
open Go Go.AM
set_option linter.unusedSimpArgs false
set_option linter.unusedVariables false
set_option maxRecDepth 100000
set_option maxHeartbeats 2000000

/-- What the law's walk asks. -/
structure ReachF (a b : List Bar) (l : List Chg) (m : List Bar) (A : List Chg) (T : List UInt8) : Prop where
  lw : chgW l
  ln : l.length ≤ 16
  av : appV a b l = m
  ae : appE a b l = 0
  mn : m.length = b.length
  mo : okSched m
  mw : schedW m
  ms : sortedT m = T
  an : A.length ≤ 16
  ak : ¬ ∃ c ∈ A, decide (¬ c.1 = 1) = true
  emp : l.length = 0 → a.length = 0 ∧ b.length = 0
  name : ∀ i c, l[i]? = some c → c.1 ≠ 3 → appV a b (l.eraseIdx i) = [] ∧ appE a b (l.eraseIdx i) = 9
  line : ∀ i c, l[i]? = some c → c.1 = 3 → (appV a b (l.eraseIdx i)).length + 1 = b.length ∧ appE a b (l.eraseIdx i) = 0
theorem reachF {a b m : List Bar} {l A : List Chg} {T : List UInt8} (hra : a.length ≤ 8) (hrb : b.length ≤ 8) (ha : okSched a) (hb : okSched b) (hwb : schedW b) (hL : cmpP a b = l) (hM : reachP a b = m) (hA : cmpP m b = A) (hT : sortedT b = T) : ReachF a b l m A T := by
  subst hL hM hA hT
  have hp := reach_perm ha hb
  have h1 := reach_apply ha hb
  have hm := okSched_perm hp hb
  have hln := cmp_len a b
  have han := cmp_len (reachP a b) b
  have hpl := hp.length_eq
  refine ⟨okChgs_w (cmp_okChgs ha hb), by omega, h1.1, h1.2, hpl, hm, schedW_perm hp hwb, sorted_perm hp hm hb, by omega, ?_, cmp_empty, fun i c hi hc => less_name ha hb hi hc, fun i c hi hc => less_line ha hb hi hc⟩
  rintro ⟨c, hc, h⟩
  rw [decide_eq_true_eq] at h
  exact h (again_kept hb hp c hc)
theorem reach1_fun (c : Chg) : Fun Tryz.prog 11 [.agg (findC c)] (Ret (.lit (.bool (decide (¬ c.1 = 1)))) []) := by
  refine Fun.of (nt := 6) (rs := [.tmp 2]) Tryz.func11 rfl rfl rfl rfl rfl ?_
  refine Ev.sr fun K hK => S.nn (q.bx [_, _] true) (S.o q.as (S.end (hK _ ?_)))
  clear hK K
  refine Ev.sr fun K hK => S.o (q.fa 0 am_fi34_0 am_cl3) (S.o (q.lv am_ag3) (S.o q.neq (S.o q.as (S.end (hK _ ?_)))))
  clear hK K
  refine Ev.ret ?_
  refine Ev.ret1 ?_
  refine ⟨?_, rfl⟩
  first | rfl | (rw [decide_not]; done)

theorem wf_u8r {k : Int} (h : (Go.Lit.int .u8 k).wf = true) : 0 ≤ k ∧ k ≤ 255 := by
  have e1 : IntKind.u8.min = 0 := rfl
  have e2 : IntKind.u8.max = 255 := rfl
  simp only [Go.Lit.wf, e1, e2, Bool.and_eq_true, decide_eq_true_eq] at h
  exact h
theorem reach_law (a b : List Bar) (k : Int) (ha : a.length ≤ 140737488355328) (hwa : schedW a) (hb : b.length ≤ 140737488355328) (hwb : schedW b) (hk : (Go.Lit.int .u8 k).wf = true) : Fun Tryz.prog 3 [.sh 5 (a.map Bar.c), .sh 5 (b.map Bar.c), .lit (.int .u8 k)] (Ret (.lit (.bool true)) []) := by
  obtain ⟨hk0, hk1⟩ := wf_u8r hk
  have hab : ∀ x ∈ [a, b], x.length ≤ 140737488355328 ∧ schedW x := by
    intro x hx
    simp only [List.mem_cons, List.not_mem_nil, or_false] at hx
    rcases hx with rfl | rfl
    · exact ⟨ha, hwa⟩
    · exact ⟨hb, hwb⟩
  refine Fun.of (nt := 119) (rs := [.tmp 6]) Tryz.func3 rfl rfl rfl rfl rfl ?_
  refine Ev.sr fun K hK => S.o q.as (S.end (hK _ ?_))
  clear hK K
  refine Ev.seq ?_
  refine Ev.sr fun K hK => S.c0 (hF := awake_fun) (h := S.o q.nott (S.end (hK _ ?_)))
  clear hK K
  refine Ev.cf ?_
  refine Ev.skip ?_
  show Ev _ _ _ _
  refine Ev.seq ?_
  refine Ev.sr fun K hK => S.o q.mv (S.o q.mv (S.nn (q.bs [[_], [_]] true am_el51 am_ze22 am_cl22) ?_))
  refine SeqL.weaken (Wk.frzl (f := barsC) [a, b] 20 []) ?_
  refine S.c0 (hF := right_fun [a, b] (by simp) hab) (h := S.o q.not (S.end (hK _ ?_)))
  clear hK K
  refine Ev.c (fun c1 => ?_) (fun c1 => ?_)
  · first
  | (first | omega | contradiction)
  | refine Ev.sr fun K hK => S.o q.as (S.end (hK _ ?_))
    clear hK K
    refine Ev.ret ?_
    refine Ev.ret1 ?_
    refine ⟨?_, rfl⟩
    first | rfl | exact lawT (by omega) | (exfalso; omega) | contradiction | exact absurd rfl ‹_› | exact absurd ‹_› F.ak
  · first
  | (first | omega | contradiction)
  | refine Ev.skip ?_
    show Ev _ _ _ _
    have hr := right_yes ‹_›
    obtain ⟨hra, hoa⟩ := hr a (by simp)
    obtain ⟨hrb, hob⟩ := hr b (by simp)
    obtain ⟨l, hL⟩ : ∃ l, cmpP a b = l := ⟨_, rfl⟩
    obtain ⟨m, hM⟩ : ∃ m, reachP a b = m := ⟨_, rfl⟩
    obtain ⟨A, hA⟩ : ∃ A, cmpP m b = A := ⟨_, rfl⟩
    obtain ⟨T, hT⟩ : ∃ T, sortedT b = T := ⟨_, rfl⟩
    have F := reachF hra hrb hoa hob hwb hL hM hA hT
    have hln := F.ln
    have hmn := F.mn
    have han := F.an
    refine Ev.sr fun K hK => S.o q.mv (S.o q.mv (S.c0 (hF := cmpOk_fun hL hoa hob hwa hwb) (h := S.o q.mv (S.o q.ex (S.o q.ex (S.o q.as (S.o q.as (S.end (hK _ ?_)))))))))
    clear hK K
    refine Ev.sr fun K hK => S.o q.mv (S.o q.mv (S.o q.mv (S.c0 (hF := applyOk_fun F.av F.ae hoa hob (by omega) hwa hwb F.lw) (h := S.o q.mv (S.o q.ex (S.o q.ex (S.o q.as (S.o q.as (S.end (hK _ ?_))))))))))
    clear hK K
    refine Ev.seq ?_
    refine Ev.sr fun K hK => S.o q.mv (S.o q.neq (S.bn q.mv (fun c2 => ?_) (fun c2 => ?_)))
    · first
    | (first | omega | contradiction)
    | refine S.sk (S.sk (S.o q.pt (S.o q.mv (S.sk (S.sk (S.sk (S.sk (S.sk (S.o q.pt (S.o q.mv (S.sk (S.sk (S.sk (S.sk (S.sk (S.o q.pt (S.end (hK _ ?_))))))))))))))))))
      clear hK K
      refine Ev.ct ?_
      refine Ev.sr fun K hK => S.o q.as (S.end (hK _ ?_))
      clear hK K
      refine Ev.ret ?_
      refine Ev.ret1 ?_
      refine ⟨?_, rfl⟩
      first | rfl | exact lawT (by omega) | (exfalso; omega) | contradiction | exact absurd rfl ‹_› | exact absurd ‹_› F.ak
    · first
    | (first | omega | contradiction)
    | refine S.o q.mv (S.o q.neq (S.o q.pf (S.bn q.mv (fun c3 => ?_) (fun c3 => ?_))))
      · first
      | (first | omega | contradiction)
      | refine S.sk (S.sk (S.sk (S.sk (S.sk (S.o q.pt (S.o q.mv (S.sk (S.sk (S.sk (S.sk (S.sk (S.o q.pt (S.end (hK _ ?_))))))))))))))
        clear hK K
        refine Ev.ct ?_
        refine Ev.sr fun K hK => S.o q.as (S.end (hK _ ?_))
        clear hK K
        refine Ev.ret ?_
        refine Ev.ret1 ?_
        refine ⟨?_, rfl⟩
        first | rfl | exact lawT (by omega) | (exfalso; omega) | contradiction | exact absurd rfl ‹_› | exact absurd ‹_› F.ak
      · first
      | (first | omega | contradiction)
      | refine S.o q.mv (S.o (q.lens am_el22) (S.o q.mv (S.o (q.lens am_el22) (S.o q.neq (S.o q.pf (S.bn q.mv (fun c4 => ?_) (fun c4 => ?_)))))))
        · first
        | (first | omega | contradiction)
        | refine S.sk (S.sk (S.sk (S.sk (S.sk (S.o q.pt (S.end (hK _ ?_)))))))
          clear hK K
          refine Ev.ct ?_
          refine Ev.sr fun K hK => S.o q.as (S.end (hK _ ?_))
          clear hK K
          refine Ev.ret ?_
          refine Ev.ret1 ?_
          refine ⟨?_, rfl⟩
          first | rfl | exact lawT (by omega) | (exfalso; omega) | contradiction | exact absurd rfl ‹_› | exact absurd ‹_› F.ak
        · first
        | (first | omega | contradiction)
        | refine S.o q.mv (S.c0 (hF := sortedT_fun F.ms F.mo F.mw) (h := S.o q.mv (S.c0 (hF := sortedT_fun hT hob hwb) (h := S.o q.snes (S.o q.pf (S.end (hK _ ?_)))))))
          clear hK K
          refine Ev.cn (fun c5 => ?_) (fun c5 => ?_)
          · first
          | (first | omega | contradiction)
          | refine Ev.sr fun K hK => S.o q.as (S.end (hK _ ?_))
            clear hK K
            refine Ev.ret ?_
            refine Ev.ret1 ?_
            refine ⟨?_, rfl⟩
            first | rfl | exact lawT (by omega) | (exfalso; omega) | contradiction | exact absurd rfl ‹_› | exact absurd ‹_› F.ak
          · first
          | (first | omega | contradiction)
          | refine Ev.skip ?_
            show Ev _ _ _ _
            refine Ev.sr fun K hK => S.o q.mv (S.o q.mv (S.c0 (hF := cmpOk_fun hA F.mo hob F.mw hwb) (h := S.o q.mv (S.o q.ex (S.o q.ex (S.o q.as (S.o q.as (S.end (hK _ ?_)))))))))
            clear hK K
            refine Ev.seq ?_
            refine Ev.sr fun K hK => S.o q.mv (S.o q.neq (S.bn q.mv (fun c6 => ?_) (fun c6 => ?_)))
            · first
            | (first | omega | contradiction)
            | refine S.sk (S.sk (S.o q.pt (S.end (hK _ ?_))))
              clear hK K
              refine Ev.ct ?_
              refine Ev.sr fun K hK => S.o q.as (S.end (hK _ ?_))
              clear hK K
              refine Ev.ret ?_
              refine Ev.ret1 ?_
              refine ⟨?_, rfl⟩
              first | rfl | exact lawT (by omega) | (exfalso; omega) | contradiction | exact absurd rfl ‹_› | exact absurd ‹_› F.ak
            · first
            | (first | omega | contradiction)
            | refine S.o q.mv (S.c0 (hF := containsFuncChg0 _ (fun c : Chg => decide (¬ c.1 = 1)) reach1_fun A (by omega)) (h := S.o q.pf (S.end (hK _ ?_))))
              clear hK K
              refine Ev.cd (fun c7 => ?_) (fun c7 => ?_)
              · first
              | (first | omega | contradiction)
              | refine Ev.sr fun K hK => S.o q.as (S.end (hK _ ?_))
                clear hK K
                refine Ev.ret ?_
                refine Ev.ret1 ?_
                refine ⟨?_, rfl⟩
                first | rfl | exact lawT (by omega) | (exfalso; omega) | contradiction | exact absurd rfl ‹_› | exact absurd ‹_› F.ak
              · first
              | (first | omega | contradiction)
              | refine Ev.skip ?_
                show Ev _ _ _ _
                refine Ev.seq ?_
                refine Ev.sr fun K hK => S.o q.mv (S.o (q.lens am_el25) (S.o q.eql (S.end (hK _ ?_))))
                clear hK K
                refine Ev.cd (fun c8 => ?_) (fun c8 => ?_)
                · first
                | (first | omega | contradiction)
                | obtain ⟨e1, e2⟩ := F.emp (by omega)
                  refine Ev.sr fun K hK => S.o q.mv (S.o (q.lens am_el22) (S.o q.eql (S.bd q.mv (fun c9 => ?_) (fun c9 => ?_))))
                  · first
                  | (first | omega | contradiction)
                  | refine S.o q.mv (S.o (q.lens am_el22) (S.o q.eql (S.o q.pt (S.o q.as (S.end (hK _ ?_))))))
                    clear hK K
                    refine Ev.ret ?_
                    refine Ev.ret1 ?_
                    refine ⟨?_, rfl⟩
                    first | rfl | exact lawT (by omega) | (exfalso; omega) | contradiction | exact absurd rfl ‹_› | exact absurd ‹_› F.ak
                  · first
                  | (first | omega | contradiction)
                  | refine S.sk (S.sk (S.sk (S.o q.pf (S.o q.as (S.end (hK _ ?_))))))
                    clear hK K
                    refine Ev.ret ?_
                    refine Ev.ret1 ?_
                    refine ⟨?_, rfl⟩
                    first | rfl | exact lawT (by omega) | (exfalso; omega) | contradiction | exact absurd rfl ‹_› | exact absurd ‹_› F.ak
                · first
                | (first | omega | contradiction)
                | refine Ev.skip ?_
                  show Ev _ _ _ _
                  refine Ev.sr fun K hK => S.o q.mv (S.o (q.cvi am_un3 am_us5) (S.o q.mv (S.o (q.lens am_el25) (S.o q.rem (S.o q.as (S.end (hK _ ?_)))))))
                  clear hK K
                  obtain ⟨i, hi⟩ : ∃ i, k % (l.length : Int) = i := ⟨_, rfl⟩
                  rw [hi]
                  have hi0 : 0 ≤ i := by rw [← hi]; exact Int.emod_nonneg _ (by omega)
                  have hi1 : i < (l.length : Int) := by rw [← hi]; exact Int.emod_lt_of_pos _ (by omega)
                  obtain ⟨c, hc⟩ : ∃ c, l[i.toNat]? = some c := ⟨_, List.getElem?_eq_getElem (by omega)⟩
                  obtain ⟨D, hD⟩ : ∃ D, l.take i.toNat ++ l.drop (i + 1).toNat = D := ⟨_, rfl⟩
                  have hDe : l.eraseIdx i.toNat = D := by rw [← hD, List.eraseIdx_eq_take_drop_succ, show (i + 1).toNat = i.toNat + 1 by omega]
                  have hDl : D.length ≤ l.length := by rw [← hDe]; exact (erase_sub _ _).length_le
                  have hDw : chgW D := fun x hx => F.lw x (by rw [← hDe] at hx; exact (erase_sub _ _).subset hx)
                  have f1 := F.name _ _ hc
                  have f2 := F.line _ _ hc
                  rw [hDe] at f1 f2
                  obtain ⟨V, hX⟩ : ∃ V, appV a b D = V := ⟨_, rfl⟩
                  obtain ⟨E, hY⟩ : ∃ E, appE a b D = E := ⟨_, rfl⟩
                  rw [hX, hY] at f1 f2
                  refine Ev.sr fun K hK => S.o q.mv (S.o q.mv (S.o q.mv (S.c1 (hF := cloneChg_fun _ (by omega)) (h := S.o q.mv (S.o q.mv (S.o q.add (S.cR [1] 3 [_] (hob := (keep_c (he := rfl) (h := keep_n))) (hF := deleteChg_R _ _ _ (by omega) (by omega) (by omega) (by omega)) (hn' := belowL rfl rfl) (h := ?_))))))))
                  refine SeqL.weaken (Wk.frz 92 []) ?_
                  rw [hD]
                  refine S.c0 (hF := applyOk_fun hX hY hoa hob (by omega) hwa hwb hDw) (h := S.o q.mv (S.o q.ex (S.o q.ex (S.o q.as (S.o q.as (S.end (hK _ ?_)))))))
                  clear hK K
                  refine Ev.seq ?_
                  refine Ev.sr fun K hK => S.o q.mv (S.o q.mv (S.o (q.ix am_el25 am_cl34 (hl := (by first | exact ati hc (by omega) | exact atig (by omega)))) (S.o (q.fs 0 am_fi34_0 am_cl3) (S.o (q.ls am_ag3) (S.o q.eql (S.end (hK _ ?_)))))))
                  clear hK K
                  refine Ev.cd (fun c10 => ?_) (fun c10 => ?_)
                  · first
                  | (first | omega | contradiction)
                  | obtain ⟨g1, g2⟩ := f2 (by omega)
                    refine Ev.sr fun K hK => S.o q.mv (S.o q.eql (S.bd q.mv (fun c11 => ?_) (fun c11 => ?_)))
                    · first
                    | (first | omega | contradiction)
                    | refine S.o q.mv (S.o (q.lens am_el22) (S.o q.mv (S.o (q.lens am_el22) (S.o q.sub (S.o q.eql (S.o q.pt (S.o q.as (S.end (hK _ ?_)))))))))
                      clear hK K
                      refine Ev.ret ?_
                      refine Ev.ret1 ?_
                      refine ⟨?_, rfl⟩
                      first | rfl | exact lawT (by omega) | (exfalso; omega) | contradiction | exact absurd rfl ‹_› | exact absurd ‹_› F.ak
                    · first
                    | (first | omega | contradiction)
                    | refine S.sk (S.sk (S.sk (S.sk (S.sk (S.sk (S.o q.pf (S.o q.as (S.end (hK _ ?_)))))))))
                      clear hK K
                      refine Ev.ret ?_
                      refine Ev.ret1 ?_
                      refine ⟨?_, rfl⟩
                      first | rfl | exact lawT (by omega) | (exfalso; omega) | contradiction | exact absurd rfl ‹_› | exact absurd ‹_› F.ak
                  · first
                  | (first | omega | contradiction)
                  | refine Ev.skip ?_
                    show Ev _ _ _ _
                    obtain ⟨g1, g2⟩ := f1 (by omega)
                    have g3 : V.length = 0 := by rw [g1]; rfl
                    refine Ev.sr fun K hK => S.o q.mv (S.o q.eql (S.bd q.mv (fun c12 => ?_) (fun c12 => ?_)))
                    · first
                    | (first | omega | contradiction)
                    | refine S.o q.mv (S.o (q.lens am_el22) (S.o q.eql (S.o q.pt (S.o q.as (S.end (hK _ ?_))))))
                      clear hK K
                      refine Ev.ret ?_
                      refine Ev.ret1 ?_
                      refine ⟨?_, rfl⟩
                      first | rfl | exact lawT (by omega) | (exfalso; omega) | contradiction | exact absurd rfl ‹_› | exact absurd ‹_› F.ak
                    · first
                    | (first | omega | contradiction)
                    | refine S.sk (S.sk (S.sk (S.o q.pf (S.o q.as (S.end (hK _ ?_))))))
                      clear hK K
                      refine Ev.ret ?_
                      refine Ev.ret1 ?_
                      refine ⟨?_, rfl⟩
                      first | rfl | exact lawT (by omega) | (exfalso; omega) | contradiction | exact absurd rfl ‹_› | exact absurd ‹_› F.ak
end Go.Proofs.YtccddakkegelkaaGreatDoor
