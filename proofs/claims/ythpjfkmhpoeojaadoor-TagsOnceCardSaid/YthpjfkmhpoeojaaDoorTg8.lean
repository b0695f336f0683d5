/-
  Tags: Revise.
  Conditions: none.
-/
import Derived.Test.YthpjfkmhpoeojaaDoorTg7
namespace Go.Proofs.YthpjfkmhpoeojaaDoor
open Go Go.AM
set_option linter.unusedSimpArgs false
set_option linter.unusedVariables false
set_option maxRecDepth 100000
set_option maxHeartbeats 4000000

theorem reviseR (es : List Ent) (a b : List Bar) (most : Int) (hl : es.length ≤ 1000000) (ha : a.length ≤ 140737488355328) (hb : b.length ≤ 1000000) (hwa : schedW a) (hwb : schedW b) : FunR Tryd.prog 11 [.adr 0 0 0, .sh 5 (a.map Bar.c), .sh 5 (b.map Bar.c), .lit (.int .i64 most)] [(0, ⟨false, 76, 1, [[.als 1 0 (es).length]], false⟩), (1, ⟨true, 78, 5, (es).map Ent.c, true⟩)] 2
    (Ret (.tup [.sh 1 ((revF es a b most).map strC), .sh 1 ((revN es a b most).map strC), .lit (.int .i64 (revE es.length a b most))]) [(0, ⟨false, 76, 1, [[.als 2 0 (revV es a b most).length]], false⟩), (2, ⟨true, 78, 5, (revV es a b most).map Ent.c, true⟩)]) := by
  refine FunR.of (nt := 159) (rs := [.tmp 8, .tmp 9, .tmp 10]) Tryd.func11 rfl rfl rfl rfl rfl ?_
  refine Ev.sr fun K hK => S.nn (q.bx [_] true) (S.o q.as (S.o q.as (S.o q.as (S.end (hK _ ?_)))))
  clear hK K
  refine Ev.seq ?_
  refine Ev.weaken (Wk.mv 0 [_]) ?_
  refine Ev.sr fun K hK => S.o q.mv (S.peqa (by kernel_rfl : Tryd.prog.underlying 27 = some (.pointer 76)) (h := S.o q.mv (S.o (q.lv am_ag23) (S.c0 (hF := schedValid_fun a (by omega) hwa) (h := S.o q.not (S.o q.pf (S.bn q.mv (fun c1 => ?_) (fun c1 => ?_))))))))
  · first
  | (first | omega | contradiction)
  | refine S.sk (S.sk (S.sk (S.o q.pt (S.end (hK _ ?_)))))
    clear hK K
    refine Ev.ct ?_
    have hR := rev_bad (es := es) (a := a) (b := b) (most := most) (by first | (intro h; exact ‹¬ okSched a› h.1) | (intro h; exact ‹¬ okSched b› h.2))
    rw [hR.e, hR.v, hR.f, hR.n]
    refine Ev.sr fun K hK => S.o q.as (S.o q.as (S.o q.as (S.end (hK _ ?_))))
    clear hK K
    refine Ev.weaken (Wk.nsh strC 8 1) ?_
    refine Ev.weaken (Wk.nsh strC 9 1) ?_
    refine Ev.ret ?_
    refine Ev.rr3 [0, 1, 3] (keepR_d (h := (keepR_g (h := (keepR_c (h := keepR_n)))))) (leadsB rfl) ?_
    refine ⟨?_, ?_⟩
    all_goals first | rfl | (simp; done)
  · first
  | (first | omega | contradiction)
  | refine S.o q.mv (S.c0 (hF := schedValid_fun b (by omega) hwb) (h := S.o q.not (S.o q.pf (S.end (hK _ ?_)))))
    clear hK K
    refine Ev.cn (fun c2 => ?_) (fun c2 => ?_)
    · first
    | (first | omega | contradiction)
    | have hR := rev_bad (es := es) (a := a) (b := b) (most := most) (by first | (intro h; exact ‹¬ okSched a› h.1) | (intro h; exact ‹¬ okSched b› h.2))
      rw [hR.e, hR.v, hR.f, hR.n]
      refine Ev.sr fun K hK => S.o q.as (S.o q.as (S.o q.as (S.end (hK _ ?_))))
      clear hK K
      refine Ev.weaken (Wk.nsh strC 8 1) ?_
      refine Ev.weaken (Wk.nsh strC 9 1) ?_
      refine Ev.ret ?_
      refine Ev.rr3 [0, 1, 3] (keepR_d (h := (keepR_g (h := (keepR_c (h := keepR_n)))))) (leadsB rfl) ?_
      refine ⟨?_, ?_⟩
      all_goals first | rfl | (simp; done)
    · first
    | (first | omega | contradiction)
    | refine Ev.skip ?_
      show Ev _ _ _ _
      refine Ev.sr fun K hK => S.nn (v := .hd 4) (o := ⟨true, 80, 2, ([] : List (List UInt8)).map (rowU (str)), true⟩) (q.mm am_mt80) (S.o q.as (S.end (hK _ ?_)))
      clear hK K
      refine Ev.seq ?_
      refine Ev.sr fun K hK => S.o (q.lv am_ag23) (S.o (q.lens am_el23) (S.o q.mv (S.end (hK _ ?_))))
      clear hK K
      refine Ev.block ?_
      refine Ev.loopR (ι := {p : List (Bar) × List (Bar) // p.1 ++ p.2 = a ∧ True}) [0, 1, 3, 2, 4] [0, 2, 3, 5, 8, 9, 10, 11, 39, 40] (fun ⟨(pre, suf), _⟩ => [(41, .lit (.int .i64 ((pre.length : Int))))]) (fun ⟨(pre, suf), _⟩ => [(0, ⟨false, 76, 1, [[.als 2 0 (es).length]], false⟩), (2, ⟨true, 78, 5, (es).map Ent.c, true⟩), (3, ⟨false, 23, 1, [[.sh 5 ((a).map Bar.c)]], true⟩), (4, ⟨true, 80, 2, (goneM pre b).map (rowU (str)), true⟩)]) (fun ⟨(pre, suf), _⟩ => suf.length) ⟨([], a), rfl, trivial⟩ (.c (.c (.c (.c (.c (.c (.c (.c (.c (.c .n)))))))))) (kR_d (he := (by first | rfl | (simp; done))) (h := (kR_g (h := (kR_c (he := (by first | rfl | (simp; done))) (h := (kR_c (he := (by first | rfl | (simp; done))) (h := (kR_c (he := (by first | rfl | (rw [goneM_in ‹_›]; done) | (rw [goneM_out ‹_›]; done))) (h := kR_n)))))))))) (slots_c (he := (by first | rfl | (congr 2; simp; done))) (h := trivial)) ?_
      rintro ⟨⟨pre, suf⟩, hp, hinv⟩ R0 hR0
      dsimp only [List.cons_append, List.nil_append, List.length_cons, List.length_nil]
      simp only at hp hinv
      have hpl : pre.length + suf.length = (a).length := by rw [← hp, List.length_append]
      rcases suf with _ | ⟨s, suf⟩
      · rw [List.append_nil] at hp; subst pre; simp only [List.length_nil] at hpl
        refine Ev.sr fun K hK => S.o q.lss (S.end (hK _ ?_))
        clear hK K
        refine Ev.ud (fun c3 => ?_) (fun c3 => ?_)
        · first | omega | contradiction | (exfalso; simp at *; done)
        · first
        | (first | omega | contradiction)
        | refine Ev.exit ?_
          refine hR0 _ _ ?_
          show Ev _ _ _ _
          refine Ev.weaken (Wk.frzv 5 [_, _, _]) ?_
          have hS : okSched a ∧ okSched b := ⟨‹_›, ‹_›⟩
          have hkl := revK_le a b
          refine Ev.sr fun K hK => S.o q.mv (S.c1 (hF := cloneBar_fun b (by omega)) (h := S.o q.mf (S.cR [5] 7 [_, _, _, _] (hob := (keep_c (he := rfl) (h := keep_n))) (hF := delFuncBarR _ _ (fun x => decide (keptP x a)) b (fun s hs => revise1_fun a s (by omega) (hwb s hs) hwa) (by omega)) (hn' := belowL rfl rfl) (h := S.o q.as (S.end (hK _ ?_))))))
          clear hK K
          refine Ev.sr fun K hK => S.o q.mv (S.o q.mv ?_)
          refine SeqL.weaken (Wk.frz 59 [_, _, _]) ?_
          refine S.c0 (hF := bmake_fun (revK a b) most (by omega) (revK_w hwb)) (h := S.o q.mv (S.o q.ex (S.o q.ex (S.o q.as (S.o q.as (S.end (hK _ ?_)))))))
          clear hK K
          refine Ev.seq ?_
          refine Ev.block ?_
          refine Ev.sr fun K hK => S.o q.mv (S.o q.neq (S.o q.as (S.end (hK _ ?_))))
          clear hK K
          refine Ev.cn (fun c4 => ?_) (fun c4 => ?_)
          · first
          | (first | omega | contradiction)
          | have hR := rev_mk (es := es) hS ‹_›
            rw [hR.e, hR.v, hR.f, hR.n]
            refine Ev.sr fun K hK => S.o q.mv (S.o q.as (S.o q.as (S.o q.as (S.end (hK _ ?_)))))
            clear hK K
            refine Ev.weaken (Wk.nsh strC 8 1) ?_
            refine Ev.weaken (Wk.nsh strC 9 1) ?_
            refine Ev.ret ?_
            refine Ev.rr3 [0, 1, 2] (keepR_d (h := (keepR_g (h := (keepR_c (h := keepR_n)))))) (leadsB rfl) ?_
            refine ⟨?_, ?_⟩
            all_goals first | rfl | (simp; done)
          · first
          | (first | omega | contradiction)
          | have hvl := makeV_le (revK a b) most
            refine Ev.sr fun K hK => S.o q.mv (S.o q.nc (S.o (q.fa 0 am_fi76_0 am_cl74) (S.o (q.lv am_ag74) (S.o (q.lena am_el74) (S.o q.mv (S.o (q.lens am_el31) (S.o q.add (S.o q.gtr (S.o q.as (S.end (hK _ ?_)))))))))))
            clear hK K
            refine Ev.cd (fun c5 => ?_) (fun c5 => ?_)
            · first
            | (first | omega | contradiction)
            | have hR := rev_full (es := es) hS (by omega) ‹_›
              rw [hR.e, hR.v, hR.f, hR.n]
              refine Ev.sr fun K hK => S.o q.as (S.o q.as (S.o q.as (S.end (hK _ ?_))))
              clear hK K
              refine Ev.weaken (Wk.nsh strC 8 1) ?_
              refine Ev.weaken (Wk.nsh strC 9 1) ?_
              refine Ev.ret ?_
              refine Ev.rr3 [0, 1, 2] (keepR_d (h := (keepR_g (h := (keepR_c (h := keepR_n)))))) (leadsB rfl) ?_
              refine ⟨?_, ?_⟩
              all_goals first | rfl | (simp; done)
            · first
            | (first | omega | contradiction)
            | refine Ev.skip ?_
              show Ev _ _ _ _
              have hR := rev_ok (es := es) (most := most) hS (by omega) ‹_›
              rw [hR.e, hR.v, hR.f, hR.n]
              refine Ev.sr fun K hK => S.o q.as (S.o q.as (S.end (hK _ ?_)))
              clear hK K
              refine Ev.seq ?_
              refine Ev.sr fun K hK => S.o q.mv (S.o q.nc (S.o (q.fa 0 am_fi76_0 am_cl74) (S.o (q.lv am_ag74) (S.o (q.lena am_el74) (S.o q.mv (S.end (hK _ ?_)))))))
              clear hK K
              refine Ev.block ?_
              refine Ev.weaken (Wk.nown strC 17 9 1) ?_
              refine Ev.loopR (ι := {p : List (Ent) × List (Ent) // p.1 ++ p.2 = es ∧ True}) [0, 1, 2, 4, 7] [0, 2, 3, 8, 9, 10, 11, 15, 16, 18, 39, 40, 41, 42, 58, 60, 61, 62, 63, 64, 65, 66, 68, 69, 70, 71, 73, 74, 75, 76, 77, 78, 79, 80, 82] (fun ⟨(pre, suf), _⟩ => [(83, .lit (.int .i64 ((pre.length : Int)))), (17, .als 4 0 (offT (goneM a b) pre).length)]) (fun ⟨(pre, suf), _⟩ => [(0, ⟨false, 76, 1, [[.als 2 0 (pre.map (rvE (goneM a b)) ++ suf).length]], false⟩), (2, ⟨true, 78, 5, (pre.map (rvE (goneM a b)) ++ suf).map Ent.c, true⟩), (3, ⟨true, 80, 2, (goneM a b).map (rowU (str)), true⟩), (4, ⟨true, 9, 1, (offT (goneM a b) pre).map strC, true⟩)]) (fun ⟨(pre, suf), _⟩ => suf.length) ⟨([], es), rfl, trivial⟩ (.c (.c (.c (.c (.c (.c (.c (.c (.c (.c (.c (.c (.c (.c (.c (.c (.c (.c (.c (.c (.c (.c (.c (.c (.c (.c (.c (.c (.c (.c (.c (.c (.c (.c (.c .n))))))))))))))))))))))))))))))))))) (kR_d (he := (by first | rfl | (rw [Int.toNat_natCast, hrs]; done) | (rw [rv_same (rvE_no (M := goneM a b) (e := s) (dec_f c11))]; done) | (rw [rv_same (rvE_off (M := goneM a b) (e := s) (nb_f c12))]; done) | (simp; done))) (h := (kR_g (h := (kR_c (he := (by first | rfl | exact congrArg (List.map Ent.c) hrs | exact congrArg (List.map Ent.c) (rv_same (rvE_no (dec_f c11))) | exact congrArg (List.map Ent.c) (rv_same (rvE_off (nb_f c12))))) (h := (kR_c (he := (by first | rfl | (simp; done))) (h := (kR_c (he := (by first | rfl | (rw [hot]; done) | (rw [offT_no (dec_f c11)]; done) | (rw [offT_off (nb_f c12)]; done))) (h := kR_n)))))))))) (slots_c (he := (by first | rfl | (congr 2; simp; done))) (h := (slots_c (he := (by first | rfl | (rw [hot]; done) | (rw [offT_no (dec_f c11)]; done) | (rw [offT_off (nb_f c12)]; done))) (h := trivial)))) ?_
              rintro ⟨⟨pre, suf⟩, hp, hinv⟩ R3 hR3
              dsimp only [List.cons_append, List.nil_append, List.length_cons, List.length_nil]
              simp only at hp hinv
              have hpl : pre.length + suf.length = (es).length := by rw [← hp, List.length_append]
              rcases suf with _ | ⟨s, suf⟩
              · rw [List.append_nil] at hp; simp only [List.length_nil] at hpl
                subst pre
                refine Ev.sr fun K hK => S.o q.lss (S.end (hK _ ?_))
                clear hK K
                refine Ev.ud (fun c6 => ?_) (fun c6 => ?_)
                · first | omega | contradiction | (exfalso; simp at *; done)
                · first
                | (first | omega | contradiction)
                | refine Ev.exit ?_
                  refine hR3 _ _ ?_
                  show Ev _ _ _ _
                  refine Ev.sr fun K hK => S.o q.as (S.end (hK _ ?_))
                  clear hK K
                  refine Ev.seq ?_
                  refine Ev.sr fun K hK => S.o q.mv (S.o (q.lens am_el31) (S.o q.mv (S.end (hK _ ?_))))
                  clear hK K
                  refine Ev.block ?_
                  refine Ev.weaken (Wk.nown strC 18 9 1) ?_
                  refine Ev.loopR (ι := {q : List Bundle × List Bundle × Int // q.1 ++ q.2.1 = makeV (revK a b) most ∧ 1 ≤ q.2.2 ∧ ∀ m, 1 ≤ m → m < q.2.2 → used (addB (es.map (rvE (goneM a b))) q.1) m}) [0, 1, 2, 4, 5] [0, 2, 3, 8, 9, 10, 15, 16, 39, 40, 41, 42, 58, 60, 61, 62, 63, 64, 65, 66, 68, 69, 70, 71, 73, 74, 75, 76, 77, 78, 79, 80, 83, 84, 122, 123] (fun ⟨(pre, suf, n), _⟩ => [(124, .lit (.int .i64 ((pre.length : Int)))), (23, .lit (.int .i64 (n))), (17, .als 3 0 (offT (goneM a b) es).length), (18, .als 4 0 (onT (es.map (rvE (goneM a b))) pre).length)]) (fun ⟨(pre, suf, n), _⟩ => [(0, ⟨false, 76, 1, [[.als 2 0 (addB (es.map (rvE (goneM a b))) pre).length]], false⟩), (2, ⟨true, 78, 5, (addB (es.map (rvE (goneM a b))) pre).map Ent.c, true⟩), (3, ⟨true, 9, 1, (offT (goneM a b) es).map strC, true⟩), (4, ⟨true, 9, 1, (onT (es.map (rvE (goneM a b))) pre).map strC, true⟩)]) (fun ⟨(pre, suf, n), _⟩ => suf.length) ⟨([], makeV (revK a b) most, 1), rfl, Int.le_refl 1, fun m h1 h2 => by (have h3 : m < 1 := h2); omega⟩ (.c (.c (.c (.c (.c (.c (.c (.c (.c (.c (.c (.c (.c (.c (.c (.c (.c (.c (.c (.c (.c (.c (.c (.c (.c (.c (.c (.c (.c (.c (.c (.c (.c (.c (.c (.c .n)))))))))))))))))))))))))))))))))))) (kR_d (he := (by first | rfl | (simp [addB]; done) | (rw [addB_at hnn]; done))) (h := (kR_g (h := (kR_c (he := (by first | rfl | (simp [addB]; done) | (rw [addB_at hnn]; done))) (h := (kR_c (he := (by first | rfl | (simp; done))) (h := (kR_c (he := (by first | rfl | (rw [onT_nil]; done) | (rw [onT_at hnn]; done))) (h := kR_n)))))))))) (slots_c (he := (by first | rfl | (congr 2; simp; done))) (h := (slots_c (he := (by first | rfl | (simp; done) | (congr 2; omega))) (h := (slots_c (he := (by first | rfl | (simp; done) | (congr 2; omega))) (h := (slots_c (he := (by first | rfl | (rw [onT_nil]; done) | (rw [onT_at hnn]; done))) (h := trivial)))))))) ?_
                  rintro ⟨⟨pre, suf, n⟩, hp, hn1, hn2⟩ R5 hR5
                  dsimp only [List.cons_append, List.nil_append, List.length_cons, List.length_nil]
                  simp only at hp hn1 hn2
                  have hpl : pre.length + suf.length = (makeV (revK a b) most).length := by rw [← hp, List.length_append]
                  have hal := addB_len pre (es.map (rvE (goneM a b)))
                  rw [List.length_map] at hal
                  have hnb := used_bd hn2
                  have honl := onT_len (es.map (rvE (goneM a b))) pre
                  have hofl := offT_len (goneM a b) es
                  rcases suf with _ | ⟨s, suf⟩
                  · rw [List.append_nil] at hp; subst hp; simp only [List.length_nil] at hpl
                    refine Ev.sr fun K hK => S.o q.lss (S.end (hK _ ?_))
                    clear hK K
                    refine Ev.ud (fun c7 => ?_) (fun c7 => ?_)
                    · first | omega | contradiction | (exfalso; simp at *; done)
                    · first
                    | (first | omega | contradiction)
                    | refine Ev.exit ?_
                      refine hR5 _ _ ?_
                      show Ev _ _ _ _
                      refine Ev.sr fun K hK => S.o q.mv (S.o q.mv (S.o q.as (S.o q.as (S.o q.as (S.end (hK _ ?_))))))
                      clear hK K
                      refine Ev.weaken (Wk.frz 8 [_, _, _]) ?_
                      refine Ev.weaken (Wk.frz 9 [_, _]) ?_
                      refine Ev.ret ?_
                      refine Ev.rr3 [0, 1, 2] (keepR_d (h := (keepR_g (h := (keepR_c (h := keepR_n)))))) (leadsB rfl) ?_
                      refine ⟨?_, ?_⟩
                      all_goals first | rfl | (simp; done)
                  · simp only [List.length_cons] at hpl
                    have hidx : (makeV (revK a b) most)[pre.length]? = some s := by rw [← hp]; simp
                    refine Ev.sr fun K hK => S.o q.lss (S.end (hK _ ?_))
                    clear hK K
                    refine Ev.ud (fun c8 => ?_) (fun c8 => ?_)
                    · first
                    | (first | omega | contradiction)
                    | refine Ev.seq ?_
                      refine Ev.block ?_
                      refine Ev.sr fun K hK => S.o (q.ix am_el31 am_cl38 (hl := (by first | exact ati hidx (by omega) | exact atig (by omega)))) (S.o (q.lsA [_, _, _, _] am_ag38 am_cl38) (S.nn (q.al am_ze38) (S.sv [_, _, _, _] true [_, _, _, _] am_in38 am_cl38 (h := S.end (hK _ ?_)))))
                      clear hK K
                      refine Ev.seq ?_
                      refine Ev.block ?_
                      refine Ev.loopR (ι := {n : Int // 1 ≤ n ∧ ∀ m, 1 ≤ m → m < n → used (addB (es.map (rvE (goneM a b))) pre) m}) [0, 1, 2, 3, 4, 5] [0, 2, 3, 8, 9, 10, 15, 16, 25, 39, 40, 41, 42, 58, 60, 61, 62, 63, 64, 65, 66, 68, 69, 70, 71, 73, 74, 75, 76, 77, 78, 79, 80, 83, 84, 122, 123, 124, 125, 126, 127] (fun ⟨n, _⟩ => [(23, .lit (.int .i64 (n))), (17, .als 3 0 (offT (goneM a b) es).length), (18, .als 4 0 (onT (es.map (rvE (goneM a b))) pre).length)]) (fun ⟨n, _⟩ => [(0, ⟨false, 76, 1, [[.als 2 0 (addB (es.map (rvE (goneM a b))) pre).length]], false⟩), (2, ⟨true, 78, 5, (addB (es.map (rvE (goneM a b))) pre).map Ent.c, true⟩), (3, ⟨true, 9, 1, (offT (goneM a b) es).map strC, true⟩), (4, ⟨true, 9, 1, (onT (es.map (rvE (goneM a b))) pre).map strC, true⟩), (5, ⟨false, 38, 4, [[.lit (str (s.tag)), .lit (str (s.mark)), .lit (.int .i64 (s.count)), .lit (.int .i64 (s.mass))]], true⟩)]) (fun ⟨n, _⟩ => ((addB (es.map (rvE (goneM a b))) pre).length + 2 - n).toNat) ⟨n, hn1, hn2⟩ (.c (.c (.c (.c (.c (.c (.c (.c (.c (.c (.c (.c (.c (.c (.c (.c (.c (.c (.c (.c (.c (.c (.c (.c (.c (.c (.c (.c (.c (.c (.c (.c (.c (.c (.c (.c (.c (.c (.c (.c (.c .n))))))))))))))))))))))))))))))))))))))))) (kR_d (he := (by first | rfl | (simp; done))) (h := (kR_g (h := (kR_c (he := (by first | rfl | (simp; done))) (h := (kR_c (he := (by first | rfl | (simp; done))) (h := (kR_c (he := (by first | rfl | (simp; done))) (h := (kR_c (he := (by first | rfl | (simp; done))) (h := kR_n)))))))))))) (slots_c (he := (by first | rfl | (simp; done) | (congr 2; omega))) (h := (slots_c (he := (by first | rfl | (simp; done) | (congr 2; omega))) (h := (slots_c (he := (by first | rfl | (simp; done) | (congr 2; omega))) (h := trivial)))))) ?_
                      rintro ⟨n, hn1, hn2⟩ R7 hR7
                      dsimp only [List.cons_append, List.nil_append, List.length_cons, List.length_nil]
                      have hnb := used_bd hn2
                      have hil := itoa_len (N := n) (by omega) (by omega)
                      refine Ev.seq ?_
                      refine Ev.sr fun K hK => S.o q.mv (S.o q.mv (S.c0 (hF := itoa41_fun (by omega) (by omega)) (h := S.o q.sadd (S.cR [0, 2] 6 [_, _, _, _, _] (hob := (keep_d (he := rfl) (h := (keep_c (he := rfl) (h := keep_n))))) (hF := findR (addB (es.map (rvE (goneM a b))) pre) (tagN n) (by omega)) (hn' := belowL rfl rfl) (h := S.o q.geq (S.end (hK _ ?_)))))))
                      clear hK K
                      refine Ev.cd (fun c9 => ?_) (fun c9 => ?_)
                      · first
                      | (first | omega | contradiction)
                      | refine Ev.skip ?_
                        show Ev _ _ _ _
                        refine Ev.block ?_
                        refine Ev.region_S fun K hK => S.o q.mv (S.o q.add (S.o q.as (S.end (hK _ ?_))))
                        clear hK K
                        refine hR7 _ _ ?_
                        refine roundR [0, 1, 2, 3, 4, 5] [0, 2, 3, 8, 9, 10, 15, 16, 25, 39, 40, 41, 42, 58, 60, 61, 62, 63, 64, 65, 66, 68, 69, 70, 71, 73, 74, 75, 76, 77, 78, 79, 80, 83, 84, 122, 123, 124, 125, 126, 127] ⟨n + 1, by omega, ?_⟩ ?_ (kR_d (he := (by first | rfl | (simp; done))) (h := (kR_g (h := (kR_c (he := (by first | rfl | (simp; done))) (h := (kR_c (he := (by first | rfl | (simp; done))) (h := (kR_c (he := (by first | rfl | (simp; done))) (h := (kR_c (he := (by first | rfl | (simp; done))) (h := kR_n)))))))))))) (slots_c (he := (by first | rfl | (simp; done) | (congr 2; omega))) (h := (slots_c (he := (by first | rfl | (simp; done) | (congr 2; omega))) (h := (slots_c (he := (by first | rfl | (simp; done) | (congr 2; omega))) (h := trivial)))))) (.c (.c (.c (.c (.c (.c (.c (.c (.c (.c (.c (.c (.c (.c (.c (.c (.c (.c (.c (.c (.c (.c (.c (.c (.c (.c (.c (.c (.c (.c (.c (.c (.c (.c (.c (.c (.c (.c (.c (.c (.c .n)))))))))))))))))))))))))))))))))))))))))
                        intro m h1 h2; rcases Int.lt_or_le m n with h3 | h3
                        · exact hn2 m h1 h3
                        · rw [show m = n by omega]; exact (show 0 ≤ tgI _ _ from ‹tgI (addB (es.map (rvE (goneM a b))) pre) (tagN n) ≥ 0›)
                        all_goals (dsimp only; omega)
                      · first
                      | (first | omega | contradiction)
                      | refine Ev.exit ?_
                        refine hR7 _ _ ?_
                        show Ev _ _ _ _
                        have hnn : newN (addB (es.map (rvE (goneM a b))) pre) = n := newN_eq hn1 (by first | assumption | (show ¬ (0 ≤ tgI _ _); omega)) hn2
                        refine Ev.sr fun K hK => S.o q.mv (S.c0 (hF := itoa41_fun (by omega) (by omega)) (h := S.o q.sadd (S.o (q.fa 0 am_fi38_0 am_cl9) (S.sv [_, _, _, _] true [_, _, _, _] am_in9 am_cl9 (h := S.end (hK _ ?_))))))
                        clear hK K
                        refine Ev.shm (f0 := 0) (d0 := 140) (f1 := 1) (d1 := 141) (f2 := 2) (d2 := 142) (f3 := 3) (d3 := 143) (L0 := #[false, false, false, false, false, false, false, false, false, false, false, false]) (L1 := #[true, false, false, false, false, false, false, false, false, false, false, false]) (L2 := #[true, true, false, false, false, false, false, false, false, false, false, false]) (L3 := #[true, true, true, false, false, false, false, false, false, false, false, false]) (L4 := #[true, true, true, true, false, false, false, false, false, false, false, false]) (st := 76) (ft := 74) (r := 0) (m := 8) 0 (F := (by exact ⟨rfl, ⟨rfl, rfl⟩, rfl, ⟨rfl, rfl, rfl⟩, ⟨_, _, _, rfl⟩, ⟨_, _, _, rfl⟩, am_fi76_0, (by rw [am_cl74]; decide), rfl, (by kernel_rfl), (by kernel_rfl), (by kernel_rfl), (by kernel_rfl), (by kernel_rfl), (by kernel_rfl)⟩)) (h4 := (by kernel_rfl)) (ho := (by exact rfl)) (hx := (by exact rfl)) (hm := (by exact rfl)) (hck := (by exact rfl)) (h := fun K hK => ?_)
                        refine HT.two (i := 4) (j := 5) #[true, true, true, true, true, false, false, false, false, false, false, false] #[true, true, true, true, false, true, false, false, false, false, false, false] trivial (by kernel_rfl) (by kernel_rfl) (by kernel_rfl) rfl rfl (by decide) (by decide) (S.o (q.lv am_ag74) (S.end ?_)) (S.o (q.lvA [_, _, _, _] am_ag38 am_cl38) (S.end ?_))
                        · skip
                          refine HT.one (i := 5) #[true, true, true, true, true, true, false, false, false, false, false, false] trivial (by kernel_rfl) (by kernel_rfl) rfl (by decide) (S.o (q.lvA [_, _, _, _] am_ag38 am_cl38) (S.end ?_))
                          refine HT.one (i := 6) #[true, true, true, true, true, true, true, false, false, false, false, false] trivial (by kernel_rfl) (by kernel_rfl) rfl (by decide) (S.o (q.bd [_, _, _, _, _] am_ze78 am_pl78) (S.end ?_))
                          refine HT.one (i := 7) #[true, true, true, true, true, true, true, true, false, false, false, false] trivial (by kernel_rfl) (by kernel_rfl) rfl (by decide) (S.nn (q.bs [[_, _, _, _, _]] true am_el74 am_ze78 am_cl78) (S.end ?_))
                          refine HT.one (i := 8) #[true, true, true, true, true, true, true, true, true, false, false, false] trivial (by kernel_rfl) (by kernel_rfl) rfl (by decide) (S.ap' [_, _, _, _, _] am_el74 am_ze78 am_cl78 am_by78 (hh := head_own') (hr := (rows_lit [newE ⟨tagN n, s.mark, s.count, s.mass⟩])) (h := S.end ?_))
                          refine HT.one (i := 9) #[true, true, true, true, true, true, true, true, true, true, false, false] trivial (by kernel_rfl) (by kernel_rfl) rfl (by decide) (S.o q.nc (S.end ?_))
                          refine HT.one (i := 10) #[true, true, true, true, true, true, true, true, true, true, true, false] trivial (by kernel_rfl) (by kernel_rfl) rfl (by decide) (S.o (q.fa 0 am_fi76_0 am_cl74) (S.end ?_))
                          refine HT.one (i := 11) #[true, true, true, true, true, true, true, true, true, true, true, true] trivial (by kernel_rfl) (by kernel_rfl) rfl (by decide) (S.sv [_] false [_, _, _, _, _] am_in74 am_cl74 (h := S.end ?_))
                          refine HT.nil trivial (by kernel_rfl) (hK _ ?_)
                          clear hK K
                          refine Ev.region_S fun K hK => S.o q.mv (S.o (q.fa 0 am_fi38_0 am_cl9) (S.o (q.lv am_ag9) (S.nn (q.bs [[_]] true am_el28 am_ze9 am_cl9) (S.ap' [_, _, _, _, _, _] am_el28 am_ze9 am_cl9 am_by9 (hh := head_own') (hr := (rows_lit [tagN n])) (h := S.o q.as (S.end (hK _ ?_)))))))
                          clear hK K
                          show Ev _ _ _ _
                          refine Ev.region_S fun K hK => S.o q.add (S.o q.mv (S.end (hK _ ?_)))
                          clear hK K
                          refine hR5 _ _ ?_
                          refine roundR [0, 1, 7, 3, 9] [0, 2, 3, 8, 9, 10, 15, 16, 39, 40, 41, 42, 58, 60, 61, 62, 63, 64, 65, 66, 68, 69, 70, 71, 73, 74, 75, 76, 77, 78, 79, 80, 83, 84, 122, 123] ⟨(pre ++ [s], suf, n), by rw [← hp]; simp, hn1, ?_⟩ ?_ (kR_d (he := (by first | rfl | (simp [addB]; done) | (rw [addB_at hnn]; done))) (h := (kR_g (h := (kR_c (he := (by first | rfl | (simp [addB]; done) | (rw [addB_at hnn]; done))) (h := (kR_c (he := (by first | rfl | (simp; done))) (h := (kR_c (he := (by first | rfl | (rw [onT_nil]; done) | (rw [onT_at hnn]; done))) (h := kR_n)))))))))) (slots_c (he := (by first | rfl | (congr 2; simp; done))) (h := (slots_c (he := (by first | rfl | (simp; done) | (congr 2; omega))) (h := (slots_c (he := (by first | rfl | (simp; done) | (congr 2; omega))) (h := (slots_c (he := (by first | rfl | (rw [onT_nil]; done) | (rw [onT_at hnn]; done))) (h := trivial)))))))) (.c (.c (.c (.c (.c (.c (.c (.c (.c (.c (.c (.c (.c (.c (.c (.c (.c (.c (.c (.c (.c (.c (.c (.c (.c (.c (.c (.c (.c (.c (.c (.c (.c (.c (.c (.c .n))))))))))))))))))))))))))))))))))))
                          intro m h1 h2
                          show used (addB (es.map (rvE (goneM a b))) (pre ++ [s])) m
                          rw [addB_at hnn]
                          exact used_mono _ (hn2 m h1 h2)
                          all_goals (dsimp only; simp only [List.length_cons]; omega)
                        · skip
                          refine HT.two (i := 4) (j := 6) #[true, true, true, true, true, true, false, false, false, false, false, false] #[true, true, true, true, false, true, true, false, false, false, false, false] trivial (by kernel_rfl) (by kernel_rfl) (by kernel_rfl) rfl rfl (by decide) (by decide) (S.o (q.lv am_ag74) (S.end ?_)) (S.o (q.bd [_, _, _, _, _] am_ze78 am_pl78) (S.end ?_))
                          · skip
                            refine HT.one (i := 6) #[true, true, true, true, true, true, true, false, false, false, false, false] trivial (by kernel_rfl) (by kernel_rfl) rfl (by decide) (S.o (q.bd [_, _, _, _, _] am_ze78 am_pl78) (S.end ?_))
                            refine HT.one (i := 7) #[true, true, true, true, true, true, true, true, false, false, false, false] trivial (by kernel_rfl) (by kernel_rfl) rfl (by decide) (S.nn (q.bs [[_, _, _, _, _]] true am_el74 am_ze78 am_cl78) (S.end ?_))
                            refine HT.one (i := 8) #[true, true, true, true, true, true, true, true, true, false, false, false] trivial (by kernel_rfl) (by kernel_rfl) rfl (by decide) (S.ap' [_, _, _, _, _] am_el74 am_ze78 am_cl78 am_by78 (hh := head_own') (hr := (rows_lit [newE ⟨tagN n, s.mark, s.count, s.mass⟩])) (h := S.end ?_))
                            refine HT.one (i := 9) #[true, true, true, true, true, true, true, true, true, true, false, false] trivial (by kernel_rfl) (by kernel_rfl) rfl (by decide) (S.o q.nc (S.end ?_))
                            refine HT.one (i := 10) #[true, true, true, true, true, true, true, true, true, true, true, false] trivial (by kernel_rfl) (by kernel_rfl) rfl (by decide) (S.o (q.fa 0 am_fi76_0 am_cl74) (S.end ?_))
                            refine HT.one (i := 11) #[true, true, true, true, true, true, true, true, true, true, true, true] trivial (by kernel_rfl) (by kernel_rfl) rfl (by decide) (S.sv [_] false [_, _, _, _, _] am_in74 am_cl74 (h := S.end ?_))
                            refine HT.nil trivial (by kernel_rfl) (hK _ ?_)
                            clear hK K
                            refine Ev.region_S fun K hK => S.o q.mv (S.o (q.fa 0 am_fi38_0 am_cl9) (S.o (q.lv am_ag9) (S.nn (q.bs [[_]] true am_el28 am_ze9 am_cl9) (S.ap' [_, _, _, _, _, _] am_el28 am_ze9 am_cl9 am_by9 (hh := head_own') (hr := (rows_lit [tagN n])) (h := S.o q.as (S.end (hK _ ?_)))))))
                            clear hK K
                            show Ev _ _ _ _
                            refine Ev.region_S fun K hK => S.o q.add (S.o q.mv (S.end (hK _ ?_)))
                            clear hK K
                            refine hR5 _ _ ?_
                            refine roundR [0, 1, 7, 3, 9] [0, 2, 3, 8, 9, 10, 15, 16, 39, 40, 41, 42, 58, 60, 61, 62, 63, 64, 65, 66, 68, 69, 70, 71, 73, 74, 75, 76, 77, 78, 79, 80, 83, 84, 122, 123] ⟨(pre ++ [s], suf, n), by rw [← hp]; simp, hn1, ?_⟩ ?_ (kR_d (he := (by first | rfl | (simp [addB]; done) | (rw [addB_at hnn]; done))) (h := (kR_g (h := (kR_c (he := (by first | rfl | (simp [addB]; done) | (rw [addB_at hnn]; done))) (h := (kR_c (he := (by first | rfl | (simp; done))) (h := (kR_c (he := (by first | rfl | (rw [onT_nil]; done) | (rw [onT_at hnn]; done))) (h := kR_n)))))))))) (slots_c (he := (by first | rfl | (congr 2; simp; done))) (h := (slots_c (he := (by first | rfl | (simp; done) | (congr 2; omega))) (h := (slots_c (he := (by first | rfl | (simp; done) | (congr 2; omega))) (h := (slots_c (he := (by first | rfl | (rw [onT_nil]; done) | (rw [onT_at hnn]; done))) (h := trivial)))))))) (.c (.c (.c (.c (.c (.c (.c (.c (.c (.c (.c (.c (.c (.c (.c (.c (.c (.c (.c (.c (.c (.c (.c (.c (.c (.c (.c (.c (.c (.c (.c (.c (.c (.c (.c (.c .n))))))))))))))))))))))))))))))))))))
                            intro m h1 h2
                            show used (addB (es.map (rvE (goneM a b))) (pre ++ [s])) m
                            rw [addB_at hnn]
                            exact used_mono _ (hn2 m h1 h2)
                            all_goals (dsimp only; simp only [List.length_cons]; omega)
                          · skip
                            refine HT.two (i := 4) (j := 7) #[true, true, true, true, true, true, true, false, false, false, false, false] #[true, true, true, true, false, true, true, true, false, false, false, false] trivial (by kernel_rfl) (by kernel_rfl) (by kernel_rfl) rfl rfl (by decide) (by decide) (S.o (q.lv am_ag74) (S.end ?_)) (S.nn (q.bs [[_, _, _, _, _]] true am_el74 am_ze78 am_cl78) (S.end ?_))
                            · skip
                              refine HT.one (i := 7) #[true, true, true, true, true, true, true, true, false, false, false, false] trivial (by kernel_rfl) (by kernel_rfl) rfl (by decide) (S.nn (q.bs [[_, _, _, _, _]] true am_el74 am_ze78 am_cl78) (S.end ?_))
                              refine HT.one (i := 8) #[true, true, true, true, true, true, true, true, true, false, false, false] trivial (by kernel_rfl) (by kernel_rfl) rfl (by decide) (S.ap' [_, _, _, _, _] am_el74 am_ze78 am_cl78 am_by78 (hh := head_own') (hr := (rows_lit [newE ⟨tagN n, s.mark, s.count, s.mass⟩])) (h := S.end ?_))
                              refine HT.one (i := 9) #[true, true, true, true, true, true, true, true, true, true, false, false] trivial (by kernel_rfl) (by kernel_rfl) rfl (by decide) (S.o q.nc (S.end ?_))
                              refine HT.one (i := 10) #[true, true, true, true, true, true, true, true, true, true, true, false] trivial (by kernel_rfl) (by kernel_rfl) rfl (by decide) (S.o (q.fa 0 am_fi76_0 am_cl74) (S.end ?_))
                              refine HT.one (i := 11) #[true, true, true, true, true, true, true, true, true, true, true, true] trivial (by kernel_rfl) (by kernel_rfl) rfl (by decide) (S.sv [_] false [_, _, _, _, _] am_in74 am_cl74 (h := S.end ?_))
                              refine HT.nil trivial (by kernel_rfl) (hK _ ?_)
                              clear hK K
                              refine Ev.region_S fun K hK => S.o q.mv (S.o (q.fa 0 am_fi38_0 am_cl9) (S.o (q.lv am_ag9) (S.nn (q.bs [[_]] true am_el28 am_ze9 am_cl9) (S.ap' [_, _, _, _, _, _] am_el28 am_ze9 am_cl9 am_by9 (hh := head_own') (hr := (rows_lit [tagN n])) (h := S.o q.as (S.end (hK _ ?_)))))))
                              clear hK K
                              show Ev _ _ _ _
                              refine Ev.region_S fun K hK => S.o q.add (S.o q.mv (S.end (hK _ ?_)))
                              clear hK K
                              refine hR5 _ _ ?_
                              refine roundR [0, 1, 7, 3, 9] [0, 2, 3, 8, 9, 10, 15, 16, 39, 40, 41, 42, 58, 60, 61, 62, 63, 64, 65, 66, 68, 69, 70, 71, 73, 74, 75, 76, 77, 78, 79, 80, 83, 84, 122, 123] ⟨(pre ++ [s], suf, n), by rw [← hp]; simp, hn1, ?_⟩ ?_ (kR_d (he := (by first | rfl | (simp [addB]; done) | (rw [addB_at hnn]; done))) (h := (kR_g (h := (kR_c (he := (by first | rfl | (simp [addB]; done) | (rw [addB_at hnn]; done))) (h := (kR_c (he := (by first | rfl | (simp; done))) (h := (kR_c (he := (by first | rfl | (rw [onT_nil]; done) | (rw [onT_at hnn]; done))) (h := kR_n)))))))))) (slots_c (he := (by first | rfl | (congr 2; simp; done))) (h := (slots_c (he := (by first | rfl | (simp; done) | (congr 2; omega))) (h := (slots_c (he := (by first | rfl | (simp; done) | (congr 2; omega))) (h := (slots_c (he := (by first | rfl | (rw [onT_nil]; done) | (rw [onT_at hnn]; done))) (h := trivial)))))))) (.c (.c (.c (.c (.c (.c (.c (.c (.c (.c (.c (.c (.c (.c (.c (.c (.c (.c (.c (.c (.c (.c (.c (.c (.c (.c (.c (.c (.c (.c (.c (.c (.c (.c (.c (.c .n))))))))))))))))))))))))))))))))))))
                              intro m h1 h2
                              show used (addB (es.map (rvE (goneM a b))) (pre ++ [s])) m
                              rw [addB_at hnn]
                              exact used_mono _ (hn2 m h1 h2)
                              all_goals (dsimp only; simp only [List.length_cons]; omega)
                            · skip
                              refine HT.one (i := 4) #[true, true, true, true, true, true, true, true, false, false, false, false] trivial (by kernel_rfl) (by kernel_rfl) rfl (by decide) (S.o (q.lv am_ag74) (S.end ?_))
                              refine HT.one (i := 8) #[true, true, true, true, true, true, true, true, true, false, false, false] trivial (by kernel_rfl) (by kernel_rfl) rfl (by decide) (S.ap' [_, _, _, _, _] am_el74 am_ze78 am_cl78 am_by78 (hh := head_own') (hr := (rows_lit [newE ⟨tagN n, s.mark, s.count, s.mass⟩])) (h := S.end ?_))
                              refine HT.one (i := 9) #[true, true, true, true, true, true, true, true, true, true, false, false] trivial (by kernel_rfl) (by kernel_rfl) rfl (by decide) (S.o q.nc (S.end ?_))
                              refine HT.one (i := 10) #[true, true, true, true, true, true, true, true, true, true, true, false] trivial (by kernel_rfl) (by kernel_rfl) rfl (by decide) (S.o (q.fa 0 am_fi76_0 am_cl74) (S.end ?_))
                              refine HT.one (i := 11) #[true, true, true, true, true, true, true, true, true, true, true, true] trivial (by kernel_rfl) (by kernel_rfl) rfl (by decide) (S.sv [_] false [_, _, _, _, _] am_in74 am_cl74 (h := S.end ?_))
                              refine HT.nil trivial (by kernel_rfl) (hK _ ?_)
                              clear hK K
                              refine Ev.region_S fun K hK => S.o q.mv (S.o (q.fa 0 am_fi38_0 am_cl9) (S.o (q.lv am_ag9) (S.nn (q.bs [[_]] true am_el28 am_ze9 am_cl9) (S.ap' [_, _, _, _, _, _] am_el28 am_ze9 am_cl9 am_by9 (hh := head_own') (hr := (rows_lit [tagN n])) (h := S.o q.as (S.end (hK _ ?_)))))))
                              clear hK K
                              show Ev _ _ _ _
                              refine Ev.region_S fun K hK => S.o q.add (S.o q.mv (S.end (hK _ ?_)))
                              clear hK K
                              refine hR5 _ _ ?_
                              refine roundR [0, 1, 7, 3, 9] [0, 2, 3, 8, 9, 10, 15, 16, 39, 40, 41, 42, 58, 60, 61, 62, 63, 64, 65, 66, 68, 69, 70, 71, 73, 74, 75, 76, 77, 78, 79, 80, 83, 84, 122, 123] ⟨(pre ++ [s], suf, n), by rw [← hp]; simp, hn1, ?_⟩ ?_ (kR_d (he := (by first | rfl | (simp [addB]; done) | (rw [addB_at hnn]; done))) (h := (kR_g (h := (kR_c (he := (by first | rfl | (simp [addB]; done) | (rw [addB_at hnn]; done))) (h := (kR_c (he := (by first | rfl | (simp; done))) (h := (kR_c (he := (by first | rfl | (rw [onT_nil]; done) | (rw [onT_at hnn]; done))) (h := kR_n)))))))))) (slots_c (he := (by first | rfl | (congr 2; simp; done))) (h := (slots_c (he := (by first | rfl | (simp; done) | (congr 2; omega))) (h := (slots_c (he := (by first | rfl | (simp; done) | (congr 2; omega))) (h := (slots_c (he := (by first | rfl | (rw [onT_nil]; done) | (rw [onT_at hnn]; done))) (h := trivial)))))))) (.c (.c (.c (.c (.c (.c (.c (.c (.c (.c (.c (.c (.c (.c (.c (.c (.c (.c (.c (.c (.c (.c (.c (.c (.c (.c (.c (.c (.c (.c (.c (.c (.c (.c (.c (.c .n))))))))))))))))))))))))))))))))))))
                              intro m h1 h2
                              show used (addB (es.map (rvE (goneM a b))) (pre ++ [s])) m
                              rw [addB_at hnn]
                              exact used_mono _ (hn2 m h1 h2)
                              all_goals (dsimp only; simp only [List.length_cons]; omega)
                    · first | omega | contradiction | (exfalso; simp at *; done)
              · simp only [List.length_cons] at hpl
                have hidx : (pre.map (rvE (goneM a b)) ++ s :: suf)[pre.length]? = some s := rv_at
                have hol := offT_len (goneM a b) pre
                have hlx : (pre.map (rvE (goneM a b)) ++ s :: suf).length = pre.length + suf.length + 1 := by simp; omega
                have hids : ((pre.map (rvE (goneM a b)) ++ s :: suf).set (pre.length : Int).toNat (offE s))[pre.length]? = some (offE s) := by rw [List.getElem?_set, if_pos (by simp), if_pos (by omega)]
                refine Ev.sr fun K hK => S.o q.lss (S.end (hK _ ?_))
                clear hK K
                refine Ev.ud (fun c10 => ?_) (fun c10 => ?_)
                · first
                | (first | omega | contradiction)
                | refine Ev.seq ?_
                  refine Ev.block ?_
                  refine Ev.sr fun K hK => S.o q.mv (S.o q.as (S.end (hK _ ?_)))
                  clear hK K
                  refine Ev.sr fun K hK => S.o q.mv (S.o q.nc (S.o (q.fa 0 am_fi76_0 am_cl74) (S.o (q.lv am_ag74) (S.o q.mv (S.o (q.ia am_el74 am_cl78) (S.o q.as (S.end (hK _ ?_))))))))
                  clear hK K
                  refine Ev.sr fun K hK => S.o q.mv (S.o q.mv (S.o q.nc (S.o (q.fa 0 am_fi78_0 am_cl38) (S.o (q.fa 1 am_fi38_1 am_cl9) (S.o (q.lx am_ag9 (hl := (by first | exact at_ hidx (by omega) | exact at_ hids (by omega) | exact at_g (by omega)))) (S.o (q.lku (kv := (str)) klS am_mt80) (S.o q.mv (S.o q.ex (S.o q.ex (S.nn (q.al am_ze82) (S.sv [] true [_, _, _, _] am_in82 am_cl82 (h := S.o q.as (S.end (hK _ ?_))))))))))))))
                  clear hK K
                  refine Ev.sr fun K hK => S.o q.mv (S.bb q.mv (fun c11 => ?_) (fun c11 => ?_))
                  · first
                  | (first | omega | contradiction)
                  | refine S.o q.mv (S.o q.nc (S.o (q.fa 4 am_fi78_1 am_cl4) (S.o (q.lx am_ag4 (hl := (by first | exact at_ hidx (by omega) | exact at_ hids (by omega) | exact at_g (by omega)))) (S.o q.not (S.o q.pt (S.end (hK _ ?_)))))))
                    clear hK K
                    refine Ev.c (fun c12 => ?_) (fun c12 => ?_)
                    · first
                    | (first | omega | contradiction)
                    | have hgm : s.b.mark ∈ goneM a b := dec_t c11
                      have hoff : s.off = false := nb_t c12
                      have hrs := rv_set (M := goneM a b) (s := s) (pre := pre) (suf := suf) hgm
                      have hot := offT_in (M := goneM a b) (pre := pre) (s := s) hgm hoff
                      refine Ev.sr fun K hK => S.o q.mv (S.o q.nc (S.o (q.fa 4 am_fi78_1 am_cl4) (S.sx (offE s) [_, _, _, _] am_in4 am_cl4 (hl := (by first | exact at_ hidx (by omega) | exact at_ hids (by omega) | exact at_g (by omega))) (h := S.end (hK _ ?_)))))
                      clear hK K
                      refine Ev.region_S fun K hK => S.o q.mv (S.o q.mv (S.o q.nc (S.o (q.fa 0 am_fi78_0 am_cl38) (S.o (q.fa 0 am_fi38_0 am_cl9) (S.o (q.lx am_ag9 (hl := (by first | exact at_ hidx (by omega) | exact at_ hids (by omega) | exact at_g (by omega)))) (S.nn (q.bs [[_]] true am_el28 am_ze9 am_cl9) (S.ap' [_, _, _, _, _] am_el28 am_ze9 am_cl9 am_by9 (hh := head_own') (hr := (rows_lit [s.b.tag])) (h := S.o q.as (S.end (hK _ ?_))))))))))
                      clear hK K
                      show Ev _ _ _ _
                      refine Ev.region_S fun K hK => S.o q.add (S.o q.mv (S.end (hK _ ?_)))
                      clear hK K
                      refine hR3 _ _ ?_
                      refine roundR [0, 1, 2, 3, 7] [0, 2, 3, 8, 9, 10, 11, 15, 16, 18, 39, 40, 41, 42, 58, 60, 61, 62, 63, 64, 65, 66, 68, 69, 70, 71, 73, 74, 75, 76, 77, 78, 79, 80, 82] ⟨(pre ++ [s], suf), by rw [← hp]; simp, ?_⟩ ?_ (kR_d (he := (by first | rfl | (rw [Int.toNat_natCast, hrs]; done) | (rw [rv_same (rvE_no (M := goneM a b) (e := s) (dec_f c11))]; done) | (rw [rv_same (rvE_off (M := goneM a b) (e := s) (nb_f c12))]; done) | (simp; done))) (h := (kR_g (h := (kR_c (he := (by first | rfl | exact congrArg (List.map Ent.c) hrs | exact congrArg (List.map Ent.c) (rv_same (rvE_no (dec_f c11))) | exact congrArg (List.map Ent.c) (rv_same (rvE_off (nb_f c12))))) (h := (kR_c (he := (by first | rfl | (simp; done))) (h := (kR_c (he := (by first | rfl | (rw [hot]; done) | (rw [offT_no (dec_f c11)]; done) | (rw [offT_off (nb_f c12)]; done))) (h := kR_n)))))))))) (slots_c (he := (by first | rfl | (congr 2; simp; done))) (h := (slots_c (he := (by first | rfl | (rw [hot]; done) | (rw [offT_no (dec_f c11)]; done) | (rw [offT_off (nb_f c12)]; done))) (h := trivial)))) (.c (.c (.c (.c (.c (.c (.c (.c (.c (.c (.c (.c (.c (.c (.c (.c (.c (.c (.c (.c (.c (.c (.c (.c (.c (.c (.c (.c (.c (.c (.c (.c (.c (.c (.c .n)))))))))))))))))))))))))))))))))))
                      trivial
                      all_goals (dsimp only; simp only [List.length_cons]; omega)
                    · first
                    | (first | omega | contradiction)
                    | refine Ev.skip ?_
                      show Ev _ _ _ _
                      refine Ev.region_S fun K hK => S.o q.add (S.o q.mv (S.end (hK _ ?_)))
                      clear hK K
                      refine hR3 _ _ ?_
                      refine roundR [0, 1, 2, 3, 4] [0, 2, 3, 8, 9, 10, 11, 15, 16, 18, 39, 40, 41, 42, 58, 60, 61, 62, 63, 64, 65, 66, 68, 69, 70, 71, 73, 74, 75, 76, 77, 78, 79, 80, 82] ⟨(pre ++ [s], suf), by rw [← hp]; simp, ?_⟩ ?_ (kR_d (he := (by first | rfl | (rw [Int.toNat_natCast, hrs]; done) | (rw [rv_same (rvE_no (M := goneM a b) (e := s) (dec_f c11))]; done) | (rw [rv_same (rvE_off (M := goneM a b) (e := s) (nb_f c12))]; done) | (simp; done))) (h := (kR_g (h := (kR_c (he := (by first | rfl | exact congrArg (List.map Ent.c) hrs | exact congrArg (List.map Ent.c) (rv_same (rvE_no (dec_f c11))) | exact congrArg (List.map Ent.c) (rv_same (rvE_off (nb_f c12))))) (h := (kR_c (he := (by first | rfl | (simp; done))) (h := (kR_c (he := (by first | rfl | (rw [hot]; done) | (rw [offT_no (dec_f c11)]; done) | (rw [offT_off (nb_f c12)]; done))) (h := kR_n)))))))))) (slots_c (he := (by first | rfl | (congr 2; simp; done))) (h := (slots_c (he := (by first | rfl | (rw [hot]; done) | (rw [offT_no (dec_f c11)]; done) | (rw [offT_off (nb_f c12)]; done))) (h := trivial)))) (.c (.c (.c (.c (.c (.c (.c (.c (.c (.c (.c (.c (.c (.c (.c (.c (.c (.c (.c (.c (.c (.c (.c (.c (.c (.c (.c (.c (.c (.c (.c (.c (.c (.c (.c .n)))))))))))))))))))))))))))))))))))
                      trivial
                      all_goals (dsimp only; simp only [List.length_cons]; omega)
                  · first
                  | (first | omega | contradiction)
                  | refine S.sk (S.sk (S.sk (S.sk (S.sk (S.o q.pf (S.end (hK _ ?_)))))))
                    clear hK K
                    refine Ev.cf ?_
                    refine Ev.skip ?_
                    show Ev _ _ _ _
                    refine Ev.region_S fun K hK => S.o q.add (S.o q.mv (S.end (hK _ ?_)))
                    clear hK K
                    refine hR3 _ _ ?_
                    refine roundR [0, 1, 2, 3, 4] [0, 2, 3, 8, 9, 10, 11, 15, 16, 18, 39, 40, 41, 42, 58, 60, 61, 62, 63, 64, 65, 66, 68, 69, 70, 71, 73, 74, 75, 76, 77, 78, 79, 80, 82] ⟨(pre ++ [s], suf), by rw [← hp]; simp, ?_⟩ ?_ (kR_d (he := (by first | rfl | (rw [Int.toNat_natCast, hrs]; done) | (rw [rv_same (rvE_no (M := goneM a b) (e := s) (dec_f c11))]; done) | (rw [rv_same (rvE_off (M := goneM a b) (e := s) (nb_f c12))]; done) | (simp; done))) (h := (kR_g (h := (kR_c (he := (by first | rfl | exact congrArg (List.map Ent.c) hrs | exact congrArg (List.map Ent.c) (rv_same (rvE_no (dec_f c11))) | exact congrArg (List.map Ent.c) (rv_same (rvE_off (nb_f c12))))) (h := (kR_c (he := (by first | rfl | (simp; done))) (h := (kR_c (he := (by first | rfl | (rw [hot]; done) | (rw [offT_no (dec_f c11)]; done) | (rw [offT_off (nb_f c12)]; done))) (h := kR_n)))))))))) (slots_c (he := (by first | rfl | (congr 2; simp; done))) (h := (slots_c (he := (by first | rfl | (rw [hot]; done) | (rw [offT_no (dec_f c11)]; done) | (rw [offT_off (nb_f c12)]; done))) (h := trivial)))) (.c (.c (.c (.c (.c (.c (.c (.c (.c (.c (.c (.c (.c (.c (.c (.c (.c (.c (.c (.c (.c (.c (.c (.c (.c (.c (.c (.c (.c (.c (.c (.c (.c (.c (.c .n)))))))))))))))))))))))))))))))))))
                    trivial
                    all_goals (dsimp only; simp only [List.length_cons]; omega)
                · first | omega | contradiction | (exfalso; simp at *; done)
      · simp only [List.length_cons] at hpl
        have hidx : (a)[pre.length]? = some s := by rw [← hp]; simp
        refine Ev.sr fun K hK => S.o q.lss (S.end (hK _ ?_))
        clear hK K
        refine Ev.ud (fun c13 => ?_) (fun c13 => ?_)
        · first
        | (first | omega | contradiction)
        | refine Ev.seq ?_
          refine Ev.block ?_
          refine Ev.sr fun K hK => S.o (q.ix am_el23 am_cl67 (hl := (by first | exact ati hidx (by omega) | exact atig (by omega)))) (S.o (q.lsA [_, _, _, _, _] am_ag67 am_cl67) (S.nn (q.al am_ze67) (S.sv [_, _, _, _, _] true [_, _, _, _] am_in67 am_cl67 (h := S.end (hK _ ?_)))))
          clear hK K
          refine Ev.sr fun K hK => S.o (q.lvA [_, _, _, _, _] am_ag67 am_cl67) (S.o q.mv (S.c0 (hF := kept_fun s b (by omega) (hwa s (by rw [← hp]; simp)) hwb) (h := S.o q.not (S.end (hK _ ?_)))))
          clear hK K
          refine Ev.cn (fun c14 => ?_) (fun c14 => ?_)
          · first
          | (first | omega | contradiction)
          | refine Ev.region_S fun K hK => S.o q.mv (S.o (q.fa 0 am_fi67_0 am_cl9) (S.o (q.lv am_ag9) (S.o (q.bd [] am_ze82 am_pl82) (S.muu (kv := (str)) [_, _, _, _] klS am_mt80 (hn := S.end (hK _ ?_))))))
            clear hK K
            show Ev _ _ _ _
            refine Ev.region_S fun K hK => S.o q.add (S.o q.mv (S.end (hK _ ?_)))
            clear hK K
            refine hR0 _ _ ?_
            refine roundR [0, 1, 2, 3, 4] [0, 2, 3, 5, 8, 9, 10, 11, 39, 40] ⟨(pre ++ [s], suf), by rw [← hp]; simp, ?_⟩ ?_ (kR_d (he := (by first | rfl | (simp; done))) (h := (kR_g (h := (kR_c (he := (by first | rfl | (simp; done))) (h := (kR_c (he := (by first | rfl | (simp; done))) (h := (kR_c (he := (by first | rfl | (rw [goneM_in ‹_›]; done) | (rw [goneM_out ‹_›]; done))) (h := kR_n)))))))))) (slots_c (he := (by first | rfl | (congr 2; simp; done))) (h := trivial)) (.c (.c (.c (.c (.c (.c (.c (.c (.c (.c .n))))))))))
            trivial
            all_goals (dsimp only; simp only [List.length_cons]; omega)
          · first
          | (first | omega | contradiction)
          | refine Ev.skip ?_
            show Ev _ _ _ _
            refine Ev.region_S fun K hK => S.o q.add (S.o q.mv (S.end (hK _ ?_)))
            clear hK K
            refine hR0 _ _ ?_
            refine roundR [0, 1, 2, 3, 4] [0, 2, 3, 5, 8, 9, 10, 11, 39, 40] ⟨(pre ++ [s], suf), by rw [← hp]; simp, ?_⟩ ?_ (kR_d (he := (by first | rfl | (simp; done))) (h := (kR_g (h := (kR_c (he := (by first | rfl | (simp; done))) (h := (kR_c (he := (by first | rfl | (simp; done))) (h := (kR_c (he := (by first | rfl | (rw [goneM_in ‹_›]; done) | (rw [goneM_out ‹_›]; done))) (h := kR_n)))))))))) (slots_c (he := (by first | rfl | (congr 2; simp; done))) (h := trivial)) (.c (.c (.c (.c (.c (.c (.c (.c (.c (.c .n))))))))))
            trivial
            all_goals (dsimp only; simp only [List.length_cons]; omega)
        · first | omega | contradiction | (exfalso; simp at *; done)
end Go.Proofs.YthpjfkmhpoeojaaDoor
