/-
  The law BundleMore, walked.
  Conditions: none.
-/
import Derived.Test.YtnbjmckhongidaaDoorLw1
namespace Go.Proofs.YtnbjmckhongidaaDoor
open Go Go.AM
set_option linter.unusedSimpArgs false
set_option linter.unusedVariables false
set_option maxRecDepth 100000
set_option maxHeartbeats 1000000

theorem wf_u32 {n : Int} (h : (Lit.int .u32 n).wf = true) : 0 ≤ n ∧ n ≤ 4294967295 := by
  have := h
  simp [Lit.wf, IntKind.min, IntKind.max, IntKind.bits, IntKind.signed] at this
  omega
theorem more_or {l : List Bar} {most k : Int} (h : makeE l most = 0) (hk : 0 ≤ k) : (1 ≤ most ∧ most ≤ 1099511627776) ∧ ((1099511627776 < most + k ∧ makeE l (most + k) = 2) ∨ (most + k ≤ 1099511627776 ∧ makeE l (most + k) = 0 ∧ (makeV l (most + k)).length ≤ (makeV l most).length)) := ⟨(makeE_ok h).2.1, more_law h hk⟩
theorem blaw_more (l : List Bar) (most k : Int) (hlen : l.length ≤ 140737488355328) (hi : (Lit.int .u32 k).wf = true) : Fun Tryd.prog 4 [.sh 5 (l.map Bar.c), .lit (.int .i64 most), .lit (.int .u32 k)] (Ret (.lit (.bool true)) []) := by
  obtain ⟨hk0, hk1⟩ := wf_u32 hi
  have hml := makeV_le l most
  have hmk := makeV_le l (most + k)
  have hmw := makeV_le l 1099511627776
  refine Fun.of (nt := 71) (rs := [.tmp 6]) Tryd.func4 rfl rfl rfl rfl rfl ?_
  refine Ev.sr fun K hK => S.o q.as (S.end (hK _ ?_))
  clear hK K
  refine Ev.seq ?_
  refine Ev.sr fun K hK => S.c0 (hF := awake_fun) (h := S.o q.nott (S.end (hK _ ?_)))
  clear hK K
  refine Ev.cf ?_
  refine Ev.skip ?_
  show Ev _ _ _ _
  refine Ev.seq ?_
  refine Ev.sr fun K hK => S.o q.mv (S.c0 (hF := large_fun _ (by omega)) (h := S.end (hK _ ?_)))
  clear hK K
  refine Ev.cd (fun c1 => ?_) (fun c1 => ?_)
  · first
  | (first | omega | contradiction)
  | refine Ev.sr fun K hK => S.o q.as (S.end (hK _ ?_))
    clear hK K
    refine Ev.ret ?_
    refine Ev.ret1 ?_
    refine ⟨?_, rfl⟩
    first | rfl | exact lawT rfl | exact lawT (by omega) | (exfalso; omega) | contradiction | (exfalso; have h9 := whole_law ‹_›; omega) | (rw [makeV_bad ‹_›]; rfl) | (exfalso; rw [makeV_bad ‹_›] at *; contradiction)
  · first
  | (first | omega | contradiction)
  | refine Ev.skip ?_
    show Ev _ _ _ _
    refine Ev.seq ?_
    have hsm := Decidable.not_not.1 ‹¬ ¬ smallL l 8›
    have hw := small_w hsm
    have hl8 := hsm.1
    refine Ev.sr fun K hK => S.o q.mv (S.c0 (hF := bmake_fun _ _ (by omega) (by assumption)) (h := S.o q.mv (S.o q.ex (S.o q.ex (S.o q.as (S.o q.as (S.end (hK _ ?_))))))))
    clear hK K
    refine Ev.sr fun K hK => S.o q.mv (S.o q.eql (S.bd q.mv (fun c2 => ?_) (fun c2 => ?_)))
    · first
    | (first | omega | contradiction)
    | refine S.o q.mv (S.o (q.lens am_el25) (S.o q.mv (S.o (q.lens am_el22) (S.o q.neq (S.o q.pt (S.end (hK _ ?_)))))))
      clear hK K
      refine Ev.cn (fun c3 => ?_) (fun c3 => ?_)
      · first
      | (first | omega | contradiction)
      | refine Ev.sr fun K hK => S.o q.as (S.end (hK _ ?_))
        clear hK K
        refine Ev.ret ?_
        refine Ev.ret1 ?_
        refine ⟨?_, rfl⟩
        first | rfl | exact lawT rfl | exact lawT (by omega) | (exfalso; omega) | contradiction | (exfalso; have h9 := whole_law ‹_›; omega) | (rw [makeV_bad ‹_›]; rfl) | (exfalso; rw [makeV_bad ‹_›] at *; contradiction)
      · first
      | (first | omega | contradiction)
      | refine Ev.skip ?_
        show Ev _ _ _ _
        refine Ev.sr fun K hK => S.o q.mv (S.o q.mv (S.c0 (hF := bmake_fun _ _ (by omega) (by assumption)) (h := S.o q.mv (S.o q.ex (S.o q.ex (S.o q.as (S.o q.as (S.end (hK _ ?_)))))))))
        clear hK K
        refine Ev.seq ?_
        refine Ev.sr fun K hK => S.o q.mv (S.o q.neq (S.end (hK _ ?_)))
        clear hK K
        refine Ev.cn (fun c4 => ?_) (fun c4 => ?_)
        · first
        | (first | omega | contradiction)
        | refine Ev.sr fun K hK => S.o q.mv (S.o (q.lens am_el25) (S.o q.eql (S.o q.as (S.end (hK _ ?_)))))
          clear hK K
          refine Ev.ret ?_
          refine Ev.ret1 ?_
          refine ⟨?_, rfl⟩
          first | rfl | exact lawT rfl | exact lawT (by omega) | (exfalso; omega) | contradiction | (exfalso; have h9 := whole_law ‹_›; omega) | (rw [makeV_bad ‹_›]; rfl) | (exfalso; rw [makeV_bad ‹_›] at *; contradiction)
        · first
        | (first | omega | contradiction)
        | refine Ev.skip ?_
          show Ev _ _ _ _
          obtain ⟨⟨hr1, hr2⟩, hor⟩ := more_or (k := k) ‹_› hk0
          refine Ev.sr fun K hK => S.o q.mv (S.o q.mv (S.o q.mv (S.o (q.cvi am_un3 am_us33) (S.o q.add (S.c0 (hF := bmake_fun _ _ (by omega) (by assumption)) (h := S.o q.mv (S.o q.ex (S.o q.ex (S.o q.as (S.o q.as (S.end (hK _ ?_))))))))))))
          clear hK K
          refine Ev.sr fun K hK => S.o q.mv (S.o q.eql (S.bd q.mv (fun c5 => ?_) (fun c5 => ?_)))
          · first
          | (first | omega | contradiction)
          | refine S.o q.mv (S.o q.mv (S.o (q.cvi am_un3 am_us33) (S.o q.add (S.o q.gtr (S.o q.pt (S.bd q.mv (fun c6 => ?_) (fun c6 => ?_)))))))
            · first
            | (first | omega | contradiction)
            | refine S.sk (S.sk (S.sk (S.sk (S.sk (S.sk (S.sk (S.sk (S.sk (S.o q.pt (S.o q.as (S.end (hK _ ?_))))))))))))
              clear hK K
              refine Ev.ret ?_
              refine Ev.ret1 ?_
              refine ⟨?_, rfl⟩
              first | rfl | exact lawT rfl | exact lawT (by omega) | (exfalso; omega) | contradiction | (exfalso; have h9 := whole_law ‹_›; omega) | (rw [makeV_bad ‹_›]; rfl) | (exfalso; rw [makeV_bad ‹_›] at *; contradiction)
            · first
            | (first | omega | contradiction)
            | refine S.o q.mv (S.o q.eql (S.bd q.mv (fun c7 => ?_) (fun c7 => ?_)))
              · first
              | (first | omega | contradiction)
              | refine S.o q.mv (S.o (q.lens am_el25) (S.o q.mv (S.o (q.lens am_el25) (S.o q.leq (S.o q.pt (S.o q.pf (S.o q.as (S.end (hK _ ?_)))))))))
                clear hK K
                refine Ev.ret ?_
                refine Ev.ret1 ?_
                refine ⟨?_, rfl⟩
                first | rfl | exact lawT rfl | exact lawT (by omega) | (exfalso; omega) | contradiction | (exfalso; have h9 := whole_law ‹_›; omega) | (rw [makeV_bad ‹_›]; rfl) | (exfalso; rw [makeV_bad ‹_›] at *; contradiction)
              · first
              | (first | omega | contradiction)
              | refine S.sk (S.sk (S.sk (S.sk (S.sk (S.o q.pf (S.o q.pf (S.o q.as (S.end (hK _ ?_)))))))))
                clear hK K
                refine Ev.ret ?_
                refine Ev.ret1 ?_
                refine ⟨?_, rfl⟩
                first | rfl | exact lawT rfl | exact lawT (by omega) | (exfalso; omega) | contradiction | (exfalso; have h9 := whole_law ‹_›; omega) | (rw [makeV_bad ‹_›]; rfl) | (exfalso; rw [makeV_bad ‹_›] at *; contradiction)
          · first
          | (first | omega | contradiction)
          | refine S.sk (S.sk (S.sk (S.sk (S.sk (S.o q.pf (S.o q.mv (S.o q.mv (S.o q.eql (S.bd q.mv (fun c8 => ?_) (fun c8 => ?_))))))))))
            · first
            | (first | omega | contradiction)
            | refine S.o q.mv (S.o (q.lens am_el25) (S.o q.mv (S.o (q.lens am_el25) (S.o q.leq (S.o q.pt (S.o q.pf (S.o q.as (S.end (hK _ ?_)))))))))
              clear hK K
              refine Ev.ret ?_
              refine Ev.ret1 ?_
              refine ⟨?_, rfl⟩
              first | rfl | exact lawT rfl | exact lawT (by omega) | (exfalso; omega) | contradiction | (exfalso; have h9 := whole_law ‹_›; omega) | (rw [makeV_bad ‹_›]; rfl) | (exfalso; rw [makeV_bad ‹_›] at *; contradiction)
            · first
            | (first | omega | contradiction)
            | refine S.sk (S.sk (S.sk (S.sk (S.sk (S.o q.pf (S.o q.pf (S.o q.as (S.end (hK _ ?_)))))))))
              clear hK K
              refine Ev.ret ?_
              refine Ev.ret1 ?_
              refine ⟨?_, rfl⟩
              first | rfl | exact lawT rfl | exact lawT (by omega) | (exfalso; omega) | contradiction | (exfalso; have h9 := whole_law ‹_›; omega) | (rw [makeV_bad ‹_›]; rfl) | (exfalso; rw [makeV_bad ‹_›] at *; contradiction)
    · first
    | (first | omega | contradiction)
    | refine S.sk (S.sk (S.sk (S.sk (S.sk (S.o q.pf (S.end (hK _ ?_)))))))
      clear hK K
      refine Ev.cf ?_
      refine Ev.skip ?_
      show Ev _ _ _ _
      refine Ev.sr fun K hK => S.o q.mv (S.o q.mv (S.c0 (hF := bmake_fun _ _ (by omega) (by assumption)) (h := S.o q.mv (S.o q.ex (S.o q.ex (S.o q.as (S.o q.as (S.end (hK _ ?_)))))))))
      clear hK K
      refine Ev.seq ?_
      refine Ev.sr fun K hK => S.o q.mv (S.o q.neq (S.end (hK _ ?_)))
      clear hK K
      refine Ev.cn (fun c9 => ?_) (fun c9 => ?_)
      · first
      | (first | omega | contradiction)
      | refine Ev.sr fun K hK => S.o q.mv (S.o (q.lens am_el25) (S.o q.eql (S.o q.as (S.end (hK _ ?_)))))
        clear hK K
        refine Ev.ret ?_
        refine Ev.ret1 ?_
        refine ⟨?_, rfl⟩
        first | rfl | exact lawT rfl | exact lawT (by omega) | (exfalso; omega) | contradiction | (exfalso; have h9 := whole_law ‹_›; omega) | (rw [makeV_bad ‹_›]; rfl) | (exfalso; rw [makeV_bad ‹_›] at *; contradiction)
      · first
      | (first | omega | contradiction)
      | refine Ev.skip ?_
        show Ev _ _ _ _
        obtain ⟨⟨hr1, hr2⟩, hor⟩ := more_or (k := k) ‹_› hk0
        refine Ev.sr fun K hK => S.o q.mv (S.o q.mv (S.o q.mv (S.o (q.cvi am_un3 am_us33) (S.o q.add (S.c0 (hF := bmake_fun _ _ (by omega) (by assumption)) (h := S.o q.mv (S.o q.ex (S.o q.ex (S.o q.as (S.o q.as (S.end (hK _ ?_))))))))))))
        clear hK K
        refine Ev.sr fun K hK => S.o q.mv (S.o q.eql (S.bd q.mv (fun c10 => ?_) (fun c10 => ?_)))
        · first
        | (first | omega | contradiction)
        | refine S.o q.mv (S.o q.mv (S.o (q.cvi am_un3 am_us33) (S.o q.add (S.o q.gtr (S.o q.pt (S.bd q.mv (fun c11 => ?_) (fun c11 => ?_)))))))
          · first
          | (first | omega | contradiction)
          | refine S.sk (S.sk (S.sk (S.sk (S.sk (S.sk (S.sk (S.sk (S.sk (S.o q.pt (S.o q.as (S.end (hK _ ?_))))))))))))
            clear hK K
            refine Ev.ret ?_
            refine Ev.ret1 ?_
            refine ⟨?_, rfl⟩
            first | rfl | exact lawT rfl | exact lawT (by omega) | (exfalso; omega) | contradiction | (exfalso; have h9 := whole_law ‹_›; omega) | (rw [makeV_bad ‹_›]; rfl) | (exfalso; rw [makeV_bad ‹_›] at *; contradiction)
          · first
          | (first | omega | contradiction)
          | refine S.o q.mv (S.o q.eql (S.bd q.mv (fun c12 => ?_) (fun c12 => ?_)))
            · first
            | (first | omega | contradiction)
            | refine S.o q.mv (S.o (q.lens am_el25) (S.o q.mv (S.o (q.lens am_el25) (S.o q.leq (S.o q.pt (S.o q.pf (S.o q.as (S.end (hK _ ?_)))))))))
              clear hK K
              refine Ev.ret ?_
              refine Ev.ret1 ?_
              refine ⟨?_, rfl⟩
              first | rfl | exact lawT rfl | exact lawT (by omega) | (exfalso; omega) | contradiction | (exfalso; have h9 := whole_law ‹_›; omega) | (rw [makeV_bad ‹_›]; rfl) | (exfalso; rw [makeV_bad ‹_›] at *; contradiction)
            · first
            | (first | omega | contradiction)
            | refine S.sk (S.sk (S.sk (S.sk (S.sk (S.o q.pf (S.o q.pf (S.o q.as (S.end (hK _ ?_)))))))))
              clear hK K
              refine Ev.ret ?_
              refine Ev.ret1 ?_
              refine ⟨?_, rfl⟩
              first | rfl | exact lawT rfl | exact lawT (by omega) | (exfalso; omega) | contradiction | (exfalso; have h9 := whole_law ‹_›; omega) | (rw [makeV_bad ‹_›]; rfl) | (exfalso; rw [makeV_bad ‹_›] at *; contradiction)
        · first
        | (first | omega | contradiction)
        | refine S.sk (S.sk (S.sk (S.sk (S.sk (S.o q.pf (S.o q.mv (S.o q.mv (S.o q.eql (S.bd q.mv (fun c13 => ?_) (fun c13 => ?_))))))))))
          · first
          | (first | omega | contradiction)
          | refine S.o q.mv (S.o (q.lens am_el25) (S.o q.mv (S.o (q.lens am_el25) (S.o q.leq (S.o q.pt (S.o q.pf (S.o q.as (S.end (hK _ ?_)))))))))
            clear hK K
            refine Ev.ret ?_
            refine Ev.ret1 ?_
            refine ⟨?_, rfl⟩
            first | rfl | exact lawT rfl | exact lawT (by omega) | (exfalso; omega) | contradiction | (exfalso; have h9 := whole_law ‹_›; omega) | (rw [makeV_bad ‹_›]; rfl) | (exfalso; rw [makeV_bad ‹_›] at *; contradiction)
          · first
          | (first | omega | contradiction)
          | refine S.sk (S.sk (S.sk (S.sk (S.sk (S.o q.pf (S.o q.pf (S.o q.as (S.end (hK _ ?_)))))))))
            clear hK K
            refine Ev.ret ?_
            refine Ev.ret1 ?_
            refine ⟨?_, rfl⟩
            first | rfl | exact lawT rfl | exact lawT (by omega) | (exfalso; omega) | contradiction | (exfalso; have h9 := whole_law ‹_›; omega) | (rw [makeV_bad ‹_›]; rfl) | (exfalso; rw [makeV_bad ‹_›] at *; contradiction)
end Go.Proofs.YtnbjmckhongidaaDoor
