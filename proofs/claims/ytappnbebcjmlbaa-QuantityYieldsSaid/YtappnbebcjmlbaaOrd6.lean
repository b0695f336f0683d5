/-
  The law QuantityYields, walked.
  Conditions: none.
-/
import Derived.Test.YtappnbebcjmlbaaQ1
import Derived.Test.YtappnbebcjmlbaaOrd1
import Derived.Test.YtappnbebcjmlbaaOrd3
import Derived.Test.YtappnbebcjmlbaaOrd5
namespace Go.Proofs.Ytappnbebcjmlbaa
open Go Go.AM
set_option linter.unusedSimpArgs false
set_option linter.unusedVariables false
set_option maxRecDepth 100000
set_option maxHeartbeats 1000000
theorem beq_no2 {b : Bool} (h : (b == b) = false) : False := by simp at h
theorem single_w {n : Nat} : ∀ (l : List (Int × Int)) {i : Nat}, n ≤ 60 → ∀ x ∈ singleP n i l, x.2.1.length ≤ 140737488355328
  | [], _, _, x, hx => by cases hx
  | y :: l, i, hn, x, hx => by
    rw [singleP] at hx
    rcases List.mem_cons.1 hx with rfl | hx
    · simp only [unit_len]; omega
    · exact single_w l hn x hx

theorem ordE_30 {l : List Bar} {p : List Pat} {d : Int} (hp : p.length ≤ 1000) : ordE l p d = pcE l d := by
  unfold ordE
  by_cases h : pcE l d = 0
  · rw [if_pos h, if_neg (by omega), h]
  · rw [if_neg h]
theorem Ord30_fun {l : List Bar} {p : List Pat} {d : Int} (hlen : l.length ≤ 140737488355328) (hw : schedW l) (hp : p.length ≤ 1000) (hpw : patW p) :
    Fun Try.prog 24 [.sh 5 (l.map Bar.c), .sh 3 (p.map patC), .lit (.int .i64 d)] (Ret (.tup [.lit (.bool (ordV l p d)), .lit (.int .i64 (pcE l d))]) []) := by
  have h := Ordered_fun l p d hlen hw (by omega) hpw
  rw [ordE_30 hp] at h
  exact h
theorem OrdV_fun {l : List Bar} {p : List Pat} {d : Int} {v : Bool} (hv : ordV l p d = v) (hE : pcE l d = 0) (hlen : l.length ≤ 140737488355328) (hw : schedW l) (hp : p.length ≤ 1000) (hpw : patW p) :
    Fun Try.prog 24 [.sh 5 (l.map Bar.c), .sh 3 (p.map patC), .lit (.int .i64 d)] (Ret (.tup [.lit (.bool v), .lit (.int .i64 0)]) []) := by
  have h := Ord30_fun (d := d) hlen hw hp hpw
  rw [hv, hE] at h
  exact h
theorem OrdN_fun {l : List Bar} {d : Int} {v : Bool} (hv : ordV l [] d = v) (hE : pcE l d = 0) (hlen : l.length ≤ 140737488355328) (hw : schedW l) :
    Fun Try.prog 24 [.sh 5 (l.map Bar.c), .lit (.slice none 0 0), .lit (.int .i64 d)] (Ret (.tup [.lit (.bool v), .lit (.int .i64 0)]) []) := by
  have h := OrdV_fun hv hE hlen hw (by decide) (fun x hx => by cases hx)
  refine ⟨h.1, fun E xs hx => h.2 E xs ?_⟩
  simp only [FVs] at hx ⊢
  obtain ⟨y1, ys1, rfl, k1, y2, ys2, rfl, k2, k3⟩ := hx
  refine ⟨y1, _, rfl, k1, y2, _, rfl, ?_, k3⟩
  simp only [FV] at k2 ⊢
  exact ⟨none, 0, [], k2, Nat.le_refl _, rfl, fun h => absurd rfl h⟩
theorem pcV_good {l : List Bar} {d : Int} (hE : pcE l d = 0) : (∀ b ∈ l, okBar b) ∧ l.length ≤ 60 ∧ pcV l d = pcP l d := by
  unfold pcE at hE
  by_cases hok : okSched l
  · rw [if_pos hok] at hE
    by_cases hs : d ∈ sizes
    · exact ⟨hok.2.1, hok.1, if_pos ⟨hok, hs⟩⟩
    · rw [if_neg hs] at hE; omega
  · rw [if_neg hok] at hE; omega
theorem pc_counts {l : List Bar} {d : Int} (hE : pcE l d = 0) : ∀ y ∈ pcV l d, 1 ≤ y.2 ∧ y.2 ≤ 1000000 := by
  obtain ⟨h1, h2, h3⟩ := pcV_good hE
  intro y hy
  rw [h3, pcP_mem h1] at hy
  have h4 := pcCnt_pos h1 hy.1
  have h5 := (pcCnt_bd d y.1 l h1).2
  omega
theorem bne_no {b : Bool} (h : (b != b) = true) : False := by simp at h
theorem yields_law (l : List Bar) (p : List Pat) (d : Int) (hlen : l.length ≤ 140737488355328) (hpl0 : p.length ≤ 140737488355328) : Fun Try.prog 6 [.sh 5 (l.map Bar.c), .sh 3 (p.map patC), .lit (.int .i64 d)] (Ret (.lit (.bool true)) []) := by
  obtain ⟨z, hz⟩ : ∃ z, pcV l d = z := ⟨_, rfl⟩
  have hzl : z.length ≤ 60 := hz ▸ pcV_len l d
  have hrl : (List.replicate z.length (0 : Int)).length = z.length := List.length_replicate
  refine Fun.of (nt := 131) (rs := [.tmp 6]) Try.func6 rfl rfl rfl rfl rfl ?_
  refine Ev.sr fun K hK => S.o q.as (S.end (hK _ ?_))
  clear hK K
  refine Ev.seq ?_
  refine Ev.sr fun K hK => S.c0 (hF := awake_fun) (h := S.o q.nott (S.end (hK _ ?_)))
  clear hK K
  refine Ev.cf ?_
  refine Ev.skip ?_
  show Ev _ _ _ _
  refine Ev.seq ?_
  refine Ev.sr fun K hK => S.o q.mv (S.c0 (hF := small_fun _ _ (by omega)) (h := S.o q.not (S.bn q.mv (fun c1 => ?_) (fun c1 => ?_))))
  · first
  | (first | omega | contradiction)
  | refine S.sk (S.sk (S.sk (S.o q.pt (S.o q.mv (S.sk (S.sk (S.o q.pt (S.end (hK _ ?_)))))))))
    clear hK K
    refine Ev.ct ?_
    refine Ev.sr fun K hK => S.o q.as (S.end (hK _ ?_))
    clear hK K
    refine Ev.ret ?_
    refine Ev.ret1 ?_
    refine ⟨?_, rfl⟩
    first | rfl | exact lawT (by omega) | (exfalso; omega) | contradiction | (exfalso; exact beq_no2 ‹_›) | (exfalso; exact bne_no ‹_›)
  · first
  | (first | omega | contradiction)
  | refine S.o q.mv (S.o (q.lens am_el47) (S.o q.gtr (S.o q.pf (S.bd q.mv (fun c2 => ?_) (fun c2 => ?_)))))
    · first
    | (first | omega | contradiction)
    | refine S.sk (S.sk (S.o q.pt (S.end (hK _ ?_))))
      clear hK K
      refine Ev.ct ?_
      refine Ev.sr fun K hK => S.o q.as (S.end (hK _ ?_))
      clear hK K
      refine Ev.ret ?_
      refine Ev.ret1 ?_
      refine ⟨?_, rfl⟩
      first | rfl | exact lawT (by omega) | (exfalso; omega) | contradiction | (exfalso; exact beq_no2 ‹_›) | (exfalso; exact bne_no ‹_›)
    · first
    | (first | omega | contradiction)
    | refine S.o q.mv (S.c0 (hF := containsMemPat _ (fun x : Pat => decide (30 < (x.2.1.length : Int))) p (fun s _ => bigYields_fun s) (by omega)) (h := S.o q.pf (S.end (hK _ ?_))))
      clear hK K
      refine Ev.cd (fun c3 => ?_) (fun c3 => ?_)
      · first
      | (first | omega | contradiction)
      | refine Ev.sr fun K hK => S.o q.as (S.end (hK _ ?_))
        clear hK K
        refine Ev.ret ?_
        refine Ev.ret1 ?_
        refine ⟨?_, rfl⟩
        first | rfl | exact lawT (by omega) | (exfalso; omega) | contradiction | (exfalso; exact beq_no2 ‹_›) | (exfalso; exact bne_no ‹_›)
      · first
      | (first | omega | contradiction)
      | refine Ev.skip ?_
        show Ev _ _ _ _
        have hw := small_w ‹smallL l 8›
        have hpb := pats_w ‹_›
        have hpw : patW p := fun x hx => by have := hpb x hx; omega
        refine Ev.sr fun K hK => S.o q.mv (S.o q.mv (S.o q.mv (S.c0 (hF := Ord30_fun (by omega) hw (by omega) hpw) (h := S.o q.mv (S.o q.ex (S.o q.ex (S.o q.as (S.o q.as (S.end (hK _ ?_))))))))))
        clear hK K
        refine Ev.sr fun K hK => S.o q.mv (S.o q.mv (S.c0 (hF := (hz ▸ Pieces_fun l d hlen hw)) (h := S.o q.mv (S.o q.ex (S.o q.ex (S.o q.as (S.o q.as (S.end (hK _ ?_)))))))))
        clear hK K
        refine Ev.seq ?_
        refine Ev.sr fun K hK => S.o q.mv (S.o q.neq (S.bn q.mv (fun c4 => ?_) (fun c4 => ?_)))
        · first
        | (first | omega | contradiction)
        | refine S.sk (S.sk (S.o q.pt (S.end (hK _ ?_))))
          clear hK K
          refine Ev.ct ?_
          have hv : ordV l p d = false := (ord_bad (by omega)).2
          rw [hv]
          refine Ev.sr fun K hK => S.o q.mv (S.o q.mv (S.o q.eql (S.bd q.mv (fun c5 => ?_) (fun c5 => ?_))))
          · first
          | (first | omega | contradiction)
          | refine S.o q.mv (S.o q.not (S.o q.pt (S.o q.as (S.end (hK _ ?_)))))
            clear hK K
            refine Ev.ret ?_
            refine Ev.ret1 ?_
            refine ⟨?_, rfl⟩
            first | rfl | exact lawT (by omega) | (exfalso; omega) | contradiction | (exfalso; exact beq_no2 ‹_›) | (exfalso; exact bne_no ‹_›)
          · first
          | (first | omega | contradiction)
          | refine S.sk (S.sk (S.o q.pf (S.o q.as (S.end (hK _ ?_)))))
            clear hK K
            refine Ev.ret ?_
            refine Ev.ret1 ?_
            refine ⟨?_, rfl⟩
            first | rfl | exact lawT (by omega) | (exfalso; omega) | contradiction | (exfalso; exact beq_no2 ‹_›) | (exfalso; exact bne_no ‹_›)
        · first
        | (first | omega | contradiction)
        | refine S.o q.mv (S.o q.neq (S.o q.pf (S.end (hK _ ?_))))
          clear hK K
          refine Ev.cn (fun c6 => ?_) (fun c6 => ?_)
          · first
          | (first | omega | contradiction)
          | have hv : ordV l p d = false := (ord_bad (by omega)).2
            rw [hv]
            refine Ev.sr fun K hK => S.o q.mv (S.o q.mv (S.o q.eql (S.bd q.mv (fun c7 => ?_) (fun c7 => ?_))))
            · first
            | (first | omega | contradiction)
            | refine S.o q.mv (S.o q.not (S.o q.pt (S.o q.as (S.end (hK _ ?_)))))
              clear hK K
              refine Ev.ret ?_
              refine Ev.ret1 ?_
              refine ⟨?_, rfl⟩
              first | rfl | exact lawT (by omega) | (exfalso; omega) | contradiction | (exfalso; exact beq_no2 ‹_›) | (exfalso; exact bne_no ‹_›)
            · first
            | (first | omega | contradiction)
            | refine S.sk (S.sk (S.o q.pf (S.o q.as (S.end (hK _ ?_)))))
              clear hK K
              refine Ev.ret ?_
              refine Ev.ret1 ?_
              refine ⟨?_, rfl⟩
              first | rfl | exact lawT (by omega) | (exfalso; omega) | contradiction | (exfalso; exact beq_no2 ‹_›) | (exfalso; exact bne_no ‹_›)
          · first
          | (first | omega | contradiction)
          | refine Ev.skip ?_
            show Ev _ _ _ _
            have hE : pcE l d = 0 := by omega
            have hcz : ∀ y ∈ z, 1 ≤ y.2 ∧ y.2 ≤ 1000000 := hz ▸ pc_counts hE
            have hrv : ordV l p.reverse d = ordV l p d := by rw [(ord_good (p := p.reverse) hz hE (by rw [List.length_reverse]; omega)).2, (ord_good (p := p) hz hE (by omega)).2, decide_eq_decide, yields_rev]
            have hnv : ordV l [] d = decide ((z.length : Int) = 0) := by rw [(ord_good (p := []) hz hE (by decide)).2, decide_eq_decide, yields_nil fun y hy => (hcz y hy).1]; omega
            have hsv : ordV l (singleP z.length 0 z) d = true := by rw [(ord_good (p := singleP z.length 0 z) hz hE (by rw [singleP_len]; omega)).2, decide_eq_true (yields_single hcz)]
            refine Ev.sr fun K hK => S.o q.mv (S.c1 (hF := clonePat_fun _ (by omega)) (h := S.o q.as (S.end (hK _ ?_))))
            clear hK K
            refine Ev.sr fun K hK => S.o q.mv (S.cR [0] _ [_] (hob := (keep_c (he := rfl) (h := keep_n))) (hF := reversePat_fun _ (by omega)) (hn' := below1 (by decide)) (h := S.end (hK _ ?_)))
            clear hK K
            refine Ev.weaken (Wk.frz 11 []) ?_
            refine Ev.sr fun K hK => S.o q.mv (S.o q.mv (S.o q.mv (S.c0 (hF := OrdV_fun hrv hE hlen hw (by rw [List.length_reverse]; omega) (fun x hx => hpw x (List.mem_reverse.1 hx))) (h := S.o q.mv (S.o q.ex (S.o q.ex (S.o q.as (S.o q.as (S.end (hK _ ?_))))))))))
            clear hK K
            refine Ev.sr fun K hK => S.o q.mv (S.o q.mv (S.c0 (hF := OrdN_fun hnv hE hlen hw) (h := S.o q.mv (S.o q.ex (S.o q.ex (S.o q.as (S.o q.as (S.end (hK _ ?_)))))))))
            clear hK K
            refine Ev.seq ?_
            refine Ev.sr fun K hK => S.o q.mv (S.o q.neq (S.bn q.mv (fun c8 => ?_) (fun c8 => ?_)))
            · first
            | (first | omega | contradiction)
            | refine S.sk (S.sk (S.sk (S.o q.pt (S.o q.mv (S.sk (S.sk (S.o q.pt (S.o q.mv (S.sk (S.sk (S.sk (S.sk (S.sk (S.o q.pt (S.end (hK _ ?_))))))))))))))))
              clear hK K
              refine Ev.ct ?_
              refine Ev.sr fun K hK => S.o q.as (S.end (hK _ ?_))
              clear hK K
              refine Ev.ret ?_
              refine Ev.ret1 ?_
              refine ⟨?_, rfl⟩
              first | rfl | exact lawT (by omega) | (exfalso; omega) | contradiction | (exfalso; exact beq_no2 ‹_›) | (exfalso; exact bne_no ‹_›)
            · first
            | (first | omega | contradiction)
            | refine S.o q.mv (S.o q.mv (S.o (q.bneq am_un4) (S.o q.pf (S.bb q.mv (fun c9 => ?_) (fun c9 => ?_)))))
              · first
              | (first | omega | contradiction)
              | refine S.sk (S.sk (S.o q.pt (S.o q.mv (S.sk (S.sk (S.sk (S.sk (S.sk (S.o q.pt (S.end (hK _ ?_)))))))))))
                clear hK K
                refine Ev.ct ?_
                refine Ev.sr fun K hK => S.o q.as (S.end (hK _ ?_))
                clear hK K
                refine Ev.ret ?_
                refine Ev.ret1 ?_
                refine ⟨?_, rfl⟩
                first | rfl | exact lawT (by omega) | (exfalso; omega) | contradiction | (exfalso; exact beq_no2 ‹_›) | (exfalso; exact bne_no ‹_›)
              · first
              | (first | omega | contradiction)
              | refine S.o q.mv (S.o q.neq (S.o q.pf (S.bn q.mv (fun c10 => ?_) (fun c10 => ?_))))
                · first
                | (first | omega | contradiction)
                | refine S.sk (S.sk (S.sk (S.sk (S.sk (S.o q.pt (S.end (hK _ ?_)))))))
                  clear hK K
                  refine Ev.ct ?_
                  refine Ev.sr fun K hK => S.o q.as (S.end (hK _ ?_))
                  clear hK K
                  refine Ev.ret ?_
                  refine Ev.ret1 ?_
                  refine ⟨?_, rfl⟩
                  first | rfl | exact lawT (by omega) | (exfalso; omega) | contradiction | (exfalso; exact beq_no2 ‹_›) | (exfalso; exact bne_no ‹_›)
                · first
                | (first | omega | contradiction)
                | refine S.o q.mv (S.o q.mv (S.o (q.lens am_el57) (S.o q.eql (S.o (q.bneq am_un4) (S.o q.pf (S.end (hK _ ?_)))))))
                  clear hK K
                  refine Ev.c (fun c11 => ?_) (fun c11 => ?_)
                  · first
                  | (first | omega | contradiction)
                  | refine Ev.sr fun K hK => S.o q.as (S.end (hK _ ?_))
                    clear hK K
                    refine Ev.ret ?_
                    refine Ev.ret1 ?_
                    refine ⟨?_, rfl⟩
                    first | rfl | exact lawT (by omega) | (exfalso; omega) | contradiction | (exfalso; exact beq_no2 ‹_›) | (exfalso; exact bne_no ‹_›)
                  · first
                  | (first | omega | contradiction)
                  | refine Ev.skip ?_
                    show Ev _ _ _ _
                    refine Ev.sr fun K hK => S.o q.as (S.end (hK _ ?_))
                    clear hK K
                    refine Ev.seq ?_
                    refine Ev.sr fun K hK => S.o q.mv (S.o (q.lens am_el57) (S.o q.mv (S.end (hK _ ?_))))
                    clear hK K
                    refine Ev.block ?_
                    refine Ev.weaken (Wk.nown patC 16 50 3) ?_
                    refine Ev.loopU (ι := {p : List (Int × Int) × List (Int × Int) // p.1 ++ p.2 = z ∧ True}) [1] [0, 2, 6, 9, 97, 98] (fun ⟨(pre, suf), _⟩ => [(99, .lit (.int .i64 ((pre.length : Int)))), (16, .als 0 0 (singleP z.length 0 pre).length)]) (fun ⟨(pre, suf), _⟩ => [(0, ⟨true, 50, 3, (singleP z.length 0 pre).map patC, true⟩)]) (fun ⟨(pre, suf), _⟩ => suf.length) ⟨([], z), rfl, trivial⟩ (.c (.c (.c (.c (.c (.c .n)))))) (keep_c (he := (by first | rfl | (rw [singleP_snoc, Nat.zero_add]; done) | (rw [singleP_snoc, Nat.zero_add]; simp; done))) (h := keep_n)) (slots_c (he := (by first | rfl | (congr 2; simp; done))) (h := (slots_c (he := (by first | rfl | (congr 1; simp [singleP_len]; done))) (h := trivial)))) ?_
                    rintro ⟨⟨pre, suf⟩, hp, hinv⟩ R0 hR0
                    dsimp only [List.cons_append, List.nil_append, List.length_cons, List.length_nil]
                    simp only at hp hinv
                    have hpl : pre.length + suf.length = (z).length := by rw [← hp, List.length_append]
                    rcases suf with _ | ⟨s, suf⟩
                    · rw [List.append_nil] at hp; subst pre; simp only [List.length_nil] at hpl
                      refine Ev.sr fun K hK => S.o q.lss (S.end (hK _ ?_))
                      clear hK K
                      refine Ev.ud (fun c12 => ?_) (fun c12 => ?_)
                      · first
                      | (first | omega | contradiction)
                      | refine Ev.seq ?_
                        refine Ev.block ?_
                        refine Ev.sr fun K hK => S.o q.mv (S.o (q.ix am_el57 am_cl63 (hl := (by first | exact atig (by omega)))) (S.o (q.lsA [_, _] am_ag63 am_cl63) (S.nn (q.al am_ze63) (S.o q.as (S.sv [_, _] true [_] am_in63 am_cl63 (h := S.end (hK _ ?_)))))))
                        clear hK K
                        refine Ev.sm (tbs [(0, 0), (1, 1), (2, 3), (0, 0), (4, 8), (5, 31), (0, 0), (7, 127)]) 7 fun K hK => M.o q.mv (M.o (q.lens am_el57) (M.nn [_] (q.mkf (f := intC) (0) am_el38 am_ze3 am_cl3 am_by3) (h := M.o (q.fa 1 am_fi63_1 am_cl3) (M.o (q.lv am_ag3) (M.oN (q.bd [_, _, _] am_ze50 am_pl50) (hb := by simp only [List.all_cons, List.all_nil, Bool.and_true]; exact rfl) (M.nn [_, _] (q.al am_ze50) (h := M.end [_, _, _, _] (h := S.sv [_, _, _] false [_, _, _] am_in50 am_cl50 (h := S.end (hK _ ?_))))))))))
                        clear hK K
                        refine Ev.sr fun K hK => S.o (q.fa 1 am_fi50_1 am_cl38) (S.o (q.lv am_ag38) (S.o q.mv (S.o (q.ia am_el38 am_cl3) (S.sx _ [_, _, _] am_in3 am_cl3 (hl := (by first | exact at_g (by omega))) (h := S.end (hK _ ?_))))))
                        clear hK K
                        refine Ev.region_S fun K hK => S.o q.mv (S.o (q.lvA [_, _, _] am_ag50 am_cl50) ?_)
                        refine SeqL.weaken (Wk.frzA (f := intC) (unitL z.length pre.length) 115 1 [_, _, _] (hm := (by rw [unit_len, hrl]))) ?_
                        refine S.nn (q.bs [[_, _, _]] true am_el47 am_ze50 am_cl50) (S.ap' [_, _, _] am_el47 am_ze50 am_cl50 am_by50 (hh := head_own') (hr := (rows_lit [((0, unitL z.length pre.length, s.2) : Pat)])) (h := S.o q.as (S.end (hK _ ?_))))
                        clear hK K
                        show Ev _ _ _ _
                        refine Ev.region_S fun K hK => S.o q.add (S.o q.mv (S.end (hK _ ?_)))
                        clear hK K
                        refine hR0 _ _ ?_
                        refine roundU [31] [0, 2, 6, 9, 97, 98] ⟨(pre ++ [s], suf), by rw [← hp]; simp, ?_⟩ ?_ (keep_c (he := (by first | rfl | (rw [singleP_snoc, Nat.zero_add]; done) | (rw [singleP_snoc, Nat.zero_add]; simp; done))) (h := keep_n)) (slots_c (he := (by first | rfl | (congr 2; simp; done))) (h := (slots_c (he := (by first | rfl | (congr 1; simp [singleP_len]; done))) (h := trivial)))) (.c (.c (.c (.c (.c (.c .n))))))
                        trivial
                        all_goals (dsimp only; simp only [List.length_cons]; omega)
                      · first
                      | (first | omega | contradiction)
                      | refine Ev.exit ?_
                        refine hR0 _ _ ?_
                        show Ev _ _ _ _
                        refine Ev.weaken (Wk.frz 16 []) ?_
                        refine Ev.sr fun K hK => S.o q.mv (S.o q.mv (S.o q.mv (S.c0 (hF := OrdV_fun hsv hE hlen hw (by rw [singleP_len]; omega) (single_w z hzl)) (h := S.o q.mv (S.o q.ex (S.o q.ex (S.o q.as (S.o q.as (S.end (hK _ ?_))))))))))
                        clear hK K
                        refine Ev.sr fun K hK => S.o q.mv (S.o q.eql (S.bd q.mv (fun c13 => ?_) (fun c13 => ?_)))
                        · first
                        | (first | omega | contradiction)
                        | refine S.o q.mv (S.o q.pt (S.o q.as (S.end (hK _ ?_))))
                          clear hK K
                          refine Ev.ret ?_
                          refine Ev.ret1 ?_
                          refine ⟨?_, rfl⟩
                          first | rfl | exact lawT (by omega) | (exfalso; omega) | contradiction | (exfalso; exact beq_no2 ‹_›) | (exfalso; exact bne_no ‹_›)
                        · first
                        | (first | omega | contradiction)
                        | refine S.sk (S.o q.pf (S.o q.as (S.end (hK _ ?_))))
                          clear hK K
                          refine Ev.ret ?_
                          refine Ev.ret1 ?_
                          refine ⟨?_, rfl⟩
                          first | rfl | exact lawT (by omega) | (exfalso; omega) | contradiction | (exfalso; exact beq_no2 ‹_›) | (exfalso; exact bne_no ‹_›)
                    · simp only [List.length_cons] at hpl
                      have hidx : (z)[pre.length]? = some s := by rw [← hp]; simp
                      have hrep : (List.replicate z.length (0 : Int))[pre.length]? = some 0 := by rw [List.getElem?_replicate, if_pos (by omega)]
                      have hspl := singleP_len z.length pre 0
                      refine Ev.sr fun K hK => S.o q.lss (S.end (hK _ ?_))
                      clear hK K
                      refine Ev.ud (fun c14 => ?_) (fun c14 => ?_)
                      · first
                      | (first | omega | contradiction)
                      | refine Ev.seq ?_
                        refine Ev.block ?_
                        refine Ev.sr fun K hK => S.o q.mv (S.o (q.ix am_el57 am_cl63 (hl := (by first | exact ati hidx (by omega) | exact ati hrep (by omega) | exact atig (by omega)))) (S.o (q.lsA [_, _] am_ag63 am_cl63) (S.nn (q.al am_ze63) (S.o q.as (S.sv [_, _] true [_] am_in63 am_cl63 (h := S.end (hK _ ?_)))))))
                        clear hK K
                        refine Ev.sm (tbs [(0, 0), (1, 1), (2, 3), (0, 0), (4, 8), (5, 31), (0, 0), (7, 127)]) 7 fun K hK => M.o q.mv (M.o (q.lens am_el57) (M.nn [_] (q.mkf (f := intC) (0) am_el38 am_ze3 am_cl3 am_by3) (h := M.o (q.fa 1 am_fi63_1 am_cl3) (M.o (q.lv am_ag3) (M.oN (q.bd [_, _, _] am_ze50 am_pl50) (hb := by simp only [List.all_cons, List.all_nil, Bool.and_true]; exact rfl) (M.nn [_, _] (q.al am_ze50) (h := M.end [_, _, _, _] (h := S.sv [_, _, _] false [_, _, _] am_in50 am_cl50 (h := S.end (hK _ ?_))))))))))
                        clear hK K
                        refine Ev.sr fun K hK => S.o (q.fa 1 am_fi50_1 am_cl38) (S.o (q.lv am_ag38) (S.o q.mv (S.o (q.ia am_el38 am_cl3) (S.sx _ [_, _, _] am_in3 am_cl3 (hl := (by first | exact at_ hidx (by omega) | exact at_ hrep (by omega) | exact at_g (by omega))) (h := S.end (hK _ ?_))))))
                        clear hK K
                        refine Ev.region_S fun K hK => S.o q.mv (S.o (q.lvA [_, _, _] am_ag50 am_cl50) ?_)
                        refine SeqL.weaken (Wk.frzA (f := intC) (unitL z.length pre.length) 115 1 [_, _, _] (hm := (by rw [unit_len, hrl]))) ?_
                        refine S.nn (q.bs [[_, _, _]] true am_el47 am_ze50 am_cl50) (S.ap' [_, _, _] am_el47 am_ze50 am_cl50 am_by50 (hh := head_own') (hr := (rows_lit [((0, unitL z.length pre.length, s.2) : Pat)])) (h := S.o q.as (S.end (hK _ ?_))))
                        clear hK K
                        show Ev _ _ _ _
                        refine Ev.region_S fun K hK => S.o q.add (S.o q.mv (S.end (hK _ ?_)))
                        clear hK K
                        refine hR0 _ _ ?_
                        refine roundU [31] [0, 2, 6, 9, 97, 98] ⟨(pre ++ [s], suf), by rw [← hp]; simp, ?_⟩ ?_ (keep_c (he := (by first | rfl | (rw [singleP_snoc, Nat.zero_add]; done) | (rw [singleP_snoc, Nat.zero_add]; simp; done))) (h := keep_n)) (slots_c (he := (by first | rfl | (congr 2; simp; done))) (h := (slots_c (he := (by first | rfl | (congr 1; simp [singleP_len]; done))) (h := trivial)))) (.c (.c (.c (.c (.c (.c .n))))))
                        trivial
                        all_goals (dsimp only; simp only [List.length_cons]; omega)
                      · first
                      | (first | omega | contradiction)
                      | refine Ev.exit ?_
                        refine hR0 _ _ ?_
                        show Ev _ _ _ _
                        refine Ev.weaken (Wk.frz 16 []) ?_
                        refine Ev.sr fun K hK => S.o q.mv (S.o q.mv (S.o q.mv (S.c0 (hF := OrdV_fun hsv hE hlen hw (by rw [singleP_len]; omega) (single_w z hzl)) (h := S.o q.mv (S.o q.ex (S.o q.ex (S.o q.as (S.o q.as (S.end (hK _ ?_))))))))))
                        clear hK K
                        refine Ev.sr fun K hK => S.o q.mv (S.o q.eql (S.bd q.mv (fun c15 => ?_) (fun c15 => ?_)))
                        · first
                        | (first | omega | contradiction)
                        | refine S.o q.mv (S.o q.pt (S.o q.as (S.end (hK _ ?_))))
                          clear hK K
                          refine Ev.ret ?_
                          refine Ev.ret1 ?_
                          refine ⟨?_, rfl⟩
                          first | rfl | exact lawT (by omega) | (exfalso; omega) | contradiction | (exfalso; exact beq_no2 ‹_›) | (exfalso; exact bne_no ‹_›)
                        · first
                        | (first | omega | contradiction)
                        | refine S.sk (S.o q.pf (S.o q.as (S.end (hK _ ?_))))
                          clear hK K
                          refine Ev.ret ?_
                          refine Ev.ret1 ?_
                          refine ⟨?_, rfl⟩
                          first | rfl | exact lawT (by omega) | (exfalso; omega) | contradiction | (exfalso; exact beq_no2 ‹_›) | (exfalso; exact bne_no ‹_›)
end Go.Proofs.Ytappnbebcjmlbaa
