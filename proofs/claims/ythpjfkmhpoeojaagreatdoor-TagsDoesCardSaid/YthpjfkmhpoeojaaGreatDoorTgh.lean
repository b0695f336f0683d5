/-
  Tags: the book and its methods, what they answer.
  Conditions: none.
-/
import Derived.Test.YthpjfkmhpoeojaaGreatDoorTg7
import Derived.Test.YthpjfkmhpoeojaaGreatDoorAmArr
import Derived.Test.YthpjfkmhpoeojaaGreatDoorMk4
import Derived.Test.YthpjfkmhpoeojaaGreatDoorAmTwo

namespace Go.Proofs.YthpjfkmhpoeojaaGreatDoor
open Go Go.AM
set_option linter.unusedSimpArgs false
set_option linter.unusedVariables false
set_option maxRecDepth 100000
set_option maxHeartbeats 4000000
theorem reviseR (es : List Ent) (a b : List Bar) (most : Int) (hl : es.length ≤ 1000000) (ha : a.length ≤ 140737488355328) (hb : b.length ≤ 1000000) (hwa : schedW a) (hwb : schedW b) : FunR Tryz.prog 10 [.adr 0 0 0, .sh 5 (a.map Bar.c), .sh 5 (b.map Bar.c), .lit (.int .i64 most)] [(0, ⟨false, 50, 1, [[.als 1 0 (es).length]], false⟩), (1, ⟨true, 81, 5, (es).map Ent.c, true⟩)] 2
    (Ret (.tup [.sh 1 ((revF es a b most).map strC), .sh 1 ((revN es a b most).map strC), .lit (.int .i64 (revE es.length a b most))]) [(0, ⟨false, 50, 1, [[.als 2 0 (revV es a b most).length]], false⟩), (2, ⟨true, 81, 5, (revV es a b most).map Ent.c, true⟩)]) := by
  refine FunR.of (nt := 159) (rs := [.tmp 8, .tmp 9, .tmp 10]) Tryz.func10 rfl rfl rfl rfl rfl ?_; refine Ev.sr fun K hK => S.nn (q.bx [_] true) (S.o q.as (S.o q.as (S.o q.as (S.end (hK _ ?_))))); clear hK K; refine Ev.seq ?_; refine Ev.weaken (Wk.mv 0 [_]) ?_; refine Ev.sr fun K hK => S.o q.mv (S.peqa (by kernel_rfl : Tryz.prog.underlying 25 = some (.pointer 50)) (h := S.o q.mv (S.o (q.lv am_ag32) (S.c0 (hF := schedValid_fun a (by omega) hwa) (h := S.o q.not (S.o q.pf (S.bn q.mv (fun c1 => ?_) (fun c1 => ?_))))))))
  · first
  | omega | contradiction
  | refine S.sk (S.sk (S.sk (S.o q.pt (S.end (hK _ ?_))))); clear hK K; refine Ev.ct ?_; have hR := rev_bad (es := es) (a := a) (b := b) (most := most) (by first | (intro h; exact ‹¬ okSched a› h.1) | (intro h; exact ‹¬ okSched b› h.2)); rw [hR.e, hR.v, hR.f, hR.n]; refine Ev.sr fun K hK => S.o q.as (S.o q.as (S.o q.as (S.end (hK _ ?_)))); clear hK K; refine Ev.weaken (Wk.nsh strC 8 1) ?_; refine Ev.weaken (Wk.nsh strC 9 1) ?_; refine Ev.ret ?_; refine Ev.rr3 [0, 1, 3] (keepR_d (h := (keepR_g (h := (keepR_c (h := keepR_n)))))) (leadsB rfl) ?_; refine ⟨?_, ?_⟩
    all_goals first | rfl | (simp; done)
  · first
  | omega | contradiction
  | refine S.o q.mv (S.c0 (hF := schedValid_fun b (by omega) hwb) (h := S.o q.not (S.o q.pf (S.end (hK _ ?_))))); clear hK K; refine Ev.cn (fun c2 => ?_) (fun c2 => ?_)
    · first
    | omega | contradiction
    | have hR := rev_bad (es := es) (a := a) (b := b) (most := most) (by first | (intro h; exact ‹¬ okSched a› h.1) | (intro h; exact ‹¬ okSched b› h.2)); rw [hR.e, hR.v, hR.f, hR.n]; refine Ev.sr fun K hK => S.o q.as (S.o q.as (S.o q.as (S.end (hK _ ?_)))); clear hK K; refine Ev.weaken (Wk.nsh strC 8 1) ?_; refine Ev.weaken (Wk.nsh strC 9 1) ?_; refine Ev.ret ?_; refine Ev.rr3 [0, 1, 3] (keepR_d (h := (keepR_g (h := (keepR_c (h := keepR_n)))))) (leadsB rfl) ?_; refine ⟨?_, ?_⟩
      all_goals first | rfl | (simp; done)
    · first
    | omega | contradiction
    | refine Ev.skip ?_; show Ev _ _ _ _; refine Ev.sr fun K hK => S.nn (v := .hd 4) (o := ⟨true, 71, 2, ([] : List (List UInt8)).map (rowU (str)), true⟩) (q.mm am_mt71) (S.o q.as (S.end (hK _ ?_))); clear hK K; refine Ev.seq ?_; refine Ev.sr fun K hK => S.o (q.lv am_ag32) (S.o (q.lens am_el32) (S.o q.mv (S.end (hK _ ?_)))); clear hK K; refine Ev.block ?_; refine Ev.loopR (ι := {p : List (Bar) × List (Bar) // p.1 ++ p.2 = a ∧ True}) [0, 1, 3, 2, 4] [0, 2, 3, 5, 8, 9, 10, 11, 39, 40] (fun ⟨(pre, suf), _⟩ => [(41, .lit (.int .i64 ((pre.length : Int))))]) (fun ⟨(pre, suf), _⟩ => [(0, ⟨false, 50, 1, [[.als 2 0 (es).length]], false⟩), (2, ⟨true, 81, 5, (es).map Ent.c, true⟩), (3, ⟨false, 32, 1, [[.sh 5 ((a).map Bar.c)]], true⟩), (4, ⟨true, 71, 2, (goneM pre b).map (rowU (str)), true⟩)]) (fun ⟨(pre, suf), _⟩ => suf.length) ⟨([], a), rfl, trivial⟩ (.c (.c (.c (.c (.c (.c (.c (.c (.c (.c .n)))))))))) (kR_d (he := (by first | rfl | (simp; done))) (h := (kR_g (h := (kR_c (he := (by first | rfl | (simp; done))) (h := (kR_c (he := (by first | rfl | (simp; done))) (h := (kR_c (he := (by first | rfl | (rw [goneM_in ‹_›]; done) | (rw [goneM_out ‹_›]; done))) (h := kR_n)))))))))) (slots_c (he := (by first | rfl | (congr 2; simp; done))) (h := trivial)) ?_; rintro ⟨⟨pre, suf⟩, hp, hinv⟩ R0 hR0; dsimp only [List.cons_append, List.nil_append, List.length_cons, List.length_nil]
      simp only at hp hinv
      have hpl : pre.length + suf.length = (a).length := by rw [← hp, List.length_append]
      rcases suf with _ | ⟨s, suf⟩
      · rw [List.append_nil] at hp; subst pre; simp only [List.length_nil] at hpl; refine Ev.sr fun K hK => S.o q.lss (S.end (hK _ ?_)); clear hK K; refine Ev.ud (fun c3 => ?_) (fun c3 => ?_)
        · first | omega | contradiction | (exfalso; simp at *; done)
        · first
        | omega | contradiction
        | refine Ev.exit ?_; refine hR0 _ _ ?_; show Ev _ _ _ _; refine Ev.weaken (Wk.frzv 5 [_, _, _]) ?_; have hS : okSched a ∧ okSched b := ⟨‹_›, ‹_›⟩; have hkl := revK_le a b; refine Ev.sr fun K hK => S.o q.mv (S.c1 (hF := cloneBar_fun b (by omega)) (h := S.o q.mf (S.cR [5] 7 [_, _, _, _] (hob := (keep_c (he := rfl) (h := keep_n))) (hF := delFuncBarR _ _ (fun x => decide (keptP x a)) b (fun s hs => revise1_fun a s (by omega) (hwb s hs) hwa) (by omega)) (hn' := belowL rfl rfl) (h := S.o q.as (S.end (hK _ ?_)))))); clear hK K; refine Ev.sr fun K hK => S.o q.mv (S.o q.mv ?_); refine SeqL.weaken (Wk.frz 59 [_, _, _]) ?_; refine S.c0 (hF := bmake_fun (revK a b) most (by omega) (revK_w hwb)) (h := S.o q.mv (S.o q.ex (S.o q.ex (S.o q.as (S.o q.as (S.end (hK _ ?_))))))); clear hK K; refine Ev.seq ?_; refine Ev.block ?_; refine Ev.sr fun K hK => S.o q.mv (S.o q.neq (S.o q.as (S.end (hK _ ?_)))); clear hK K; refine Ev.cn (fun c4 => ?_) (fun c4 => ?_)
          · first
          | omega | contradiction
          | have hR := rev_mk (es := es) hS ‹_›; rw [hR.e, hR.v, hR.f, hR.n]; refine Ev.sr fun K hK => S.o q.mv (S.o q.as (S.o q.as (S.o q.as (S.end (hK _ ?_))))); clear hK K; refine Ev.weaken (Wk.nsh strC 8 1) ?_; refine Ev.weaken (Wk.nsh strC 9 1) ?_; refine Ev.ret ?_; refine Ev.rr3 [0, 1, 2] (keepR_d (h := (keepR_g (h := (keepR_c (h := keepR_n)))))) (leadsB rfl) ?_; refine ⟨?_, ?_⟩
            all_goals first | rfl | (simp; done)
          · first
          | omega | contradiction
          | have hvl := makeV_le (revK a b) most; refine Ev.sr fun K hK => S.o q.mv (S.o q.nc (S.o (q.fa 0 am_fi50_0 am_cl48) (S.o (q.lv am_ag48) (S.o (q.lena am_el48) (S.o q.mv (S.o (q.lens am_el27) (S.o q.add (S.o q.gtr (S.o q.as (S.end (hK _ ?_))))))))))); clear hK K; refine Ev.cd (fun c5 => ?_) (fun c5 => ?_)
            · first
            | omega | contradiction
            | have hR := rev_full (es := es) hS (by omega) ‹_›; rw [hR.e, hR.v, hR.f, hR.n]; refine Ev.sr fun K hK => S.o q.as (S.o q.as (S.o q.as (S.end (hK _ ?_)))); clear hK K; refine Ev.weaken (Wk.nsh strC 8 1) ?_; refine Ev.weaken (Wk.nsh strC 9 1) ?_; refine Ev.ret ?_; refine Ev.rr3 [0, 1, 2] (keepR_d (h := (keepR_g (h := (keepR_c (h := keepR_n)))))) (leadsB rfl) ?_; refine ⟨?_, ?_⟩
              all_goals first | rfl | (simp; done)
            · first
            | omega | contradiction
            | refine Ev.skip ?_; show Ev _ _ _ _; have hR := rev_ok (es := es) (most := most) hS (by omega) ‹_›; rw [hR.e, hR.v, hR.f, hR.n]; refine Ev.sr fun K hK => S.o q.as (S.o q.as (S.end (hK _ ?_))); clear hK K; refine Ev.seq ?_; refine Ev.sr fun K hK => S.o q.mv (S.o q.nc (S.o (q.fa 0 am_fi50_0 am_cl48) (S.o (q.lv am_ag48) (S.o (q.lena am_el48) (S.o q.mv (S.end (hK _ ?_))))))); clear hK K; refine Ev.block ?_; refine Ev.weaken (Wk.nown strC 17 9 1) ?_
              refine Ev.loopR (ι := {p : List (Ent) × List (Ent) // p.1 ++ p.2 = es ∧ True}) [0, 1, 2, 4, 7] [0, 2, 3, 8, 9, 10, 11, 15, 16, 18, 39, 40, 41, 42, 58, 60, 61, 62, 63, 64, 65, 66, 68, 69, 70, 71, 73, 74, 75, 76, 77, 78, 79, 80, 82] (fun ⟨(pre, suf), _⟩ => [(83, .lit (.int .i64 ((pre.length : Int)))), (17, .als 4 0 (offT (goneM a b) pre).length)]) (fun ⟨(pre, suf), _⟩ => [(0, ⟨false, 50, 1, [[.als 2 0 (pre.map (rvE (goneM a b)) ++ suf).length]], false⟩), (2, ⟨true, 81, 5, (pre.map (rvE (goneM a b)) ++ suf).map Ent.c, true⟩), (3, ⟨true, 71, 2, (goneM a b).map (rowU (str)), true⟩), (4, ⟨true, 9, 1, (offT (goneM a b) pre).map strC, true⟩)]) (fun ⟨(pre, suf), _⟩ => suf.length) ⟨([], es), rfl, trivial⟩ (.c (.c (.c (.c (.c (.c (.c (.c (.c (.c (.c (.c (.c (.c (.c (.c (.c (.c (.c (.c (.c (.c (.c (.c (.c (.c (.c (.c (.c (.c (.c (.c (.c (.c (.c .n))))))))))))))))))))))))))))))))))) (kR_d (he := (by first | rfl | (rw [Int.toNat_natCast, hrs]; done) | (rw [rv_same (rvE_no (M := goneM a b) (e := s) (dec_f c11))]; done) | (rw [rv_same (rvE_off (M := goneM a b) (e := s) (nb_f c12))]; done) | (simp; done))) (h := (kR_g (h := (kR_c (he := (by first | rfl | exact congrArg (List.map Ent.c) hrs | exact congrArg (List.map Ent.c) (rv_same (rvE_no (dec_f c11))) | exact congrArg (List.map Ent.c) (rv_same (rvE_off (nb_f c12))))) (h := (kR_c (he := (by first | rfl | (simp; done))) (h := (kR_c (he := (by first | rfl | (rw [hot]; done) | (rw [offT_no (dec_f c11)]; done) | (rw [offT_off (nb_f c12)]; done))) (h := kR_n)))))))))) (slots_c (he := (by first | rfl | (congr 2; simp; done))) (h := (slots_c (he := (by first | rfl | (rw [hot]; done) | (rw [offT_no (dec_f c11)]; done) | (rw [offT_off (nb_f c12)]; done))) (h := trivial)))) ?_
              rintro ⟨⟨pre, suf⟩, hp, hinv⟩ R3 hR3; dsimp only [List.cons_append, List.nil_append, List.length_cons, List.length_nil]
              simp only at hp hinv
              have hpl : pre.length + suf.length = (es).length := by rw [← hp, List.length_append]
              rcases suf with _ | ⟨s, suf⟩
              · rw [List.append_nil] at hp; simp only [List.length_nil] at hpl; subst pre; refine Ev.sr fun K hK => S.o q.lss (S.end (hK _ ?_)); clear hK K; refine Ev.ud (fun c6 => ?_) (fun c6 => ?_)
                · first | omega | contradiction | (exfalso; simp at *; done)
                · first
                | omega | contradiction
                | refine Ev.exit ?_; refine hR3 _ _ ?_; show Ev _ _ _ _; refine Ev.sr fun K hK => S.o q.as (S.end (hK _ ?_)); clear hK K; refine Ev.seq ?_; refine Ev.sr fun K hK => S.o q.mv (S.o (q.lens am_el27) (S.o q.mv (S.end (hK _ ?_)))); clear hK K; refine Ev.block ?_; refine Ev.weaken (Wk.nown strC 18 9 1) ?_
                  refine Ev.loopR (ι := {q : List Bundle × List Bundle × Int // q.1 ++ q.2.1 = makeV (revK a b) most ∧ 1 ≤ q.2.2 ∧ ∀ m, 1 ≤ m → m < q.2.2 → used (addB (es.map (rvE (goneM a b))) q.1) m}) [0, 1, 2, 4, 5] [0, 2, 3, 8, 9, 10, 15, 16, 39, 40, 41, 42, 58, 60, 61, 62, 63, 64, 65, 66, 68, 69, 70, 71, 73, 74, 75, 76, 77, 78, 79, 80, 83, 84, 122, 123] (fun ⟨(pre, suf, n), _⟩ => [(124, .lit (.int .i64 ((pre.length : Int)))), (23, .lit (.int .i64 (n))), (17, .als 3 0 (offT (goneM a b) es).length), (18, .als 4 0 (onT (es.map (rvE (goneM a b))) pre).length)]) (fun ⟨(pre, suf, n), _⟩ => [(0, ⟨false, 50, 1, [[.als 2 0 (addB (es.map (rvE (goneM a b))) pre).length]], false⟩), (2, ⟨true, 81, 5, (addB (es.map (rvE (goneM a b))) pre).map Ent.c, true⟩), (3, ⟨true, 9, 1, (offT (goneM a b) es).map strC, true⟩), (4, ⟨true, 9, 1, (onT (es.map (rvE (goneM a b))) pre).map strC, true⟩)]) (fun ⟨(pre, suf, n), _⟩ => suf.length) ⟨([], makeV (revK a b) most, 1), rfl, Int.le_refl 1, fun m h1 h2 => by (have h3 : m < 1 := h2); omega⟩ (.c (.c (.c (.c (.c (.c (.c (.c (.c (.c (.c (.c (.c (.c (.c (.c (.c (.c (.c (.c (.c (.c (.c (.c (.c (.c (.c (.c (.c (.c (.c (.c (.c (.c (.c (.c .n)))))))))))))))))))))))))))))))))))) (kR_d (he := (by first | rfl | (simp [addB]; done) | (rw [addB_at hnn]; done))) (h := (kR_g (h := (kR_c (he := (by first | rfl | (simp [addB]; done) | (rw [addB_at hnn]; done))) (h := (kR_c (he := (by first | rfl | (simp; done))) (h := (kR_c (he := (by first | rfl | (rw [onT_nil]; done) | (rw [onT_at hnn]; done))) (h := kR_n)))))))))) (slots_c (he := (by first | rfl | (congr 2; simp; done))) (h := (slots_c (he := (by first | rfl | (simp; done) | (congr 2; omega))) (h := (slots_c (he := (by first | rfl | (simp; done) | (congr 2; omega))) (h := (slots_c (he := (by first | rfl | (rw [onT_nil]; done) | (rw [onT_at hnn]; done))) (h := trivial)))))))) ?_
                  rintro ⟨⟨pre, suf, n⟩, hp, hn1, hn2⟩ R5 hR5; dsimp only [List.cons_append, List.nil_append, List.length_cons, List.length_nil]
                  simp only at hp hn1 hn2
                  have hpl : pre.length + suf.length = (makeV (revK a b) most).length := by rw [← hp, List.length_append]
                  have hal := addB_len pre (es.map (rvE (goneM a b))); rw [List.length_map] at hal; have hnb := used_bd hn2; have honl := onT_len (es.map (rvE (goneM a b))) pre; have hofl := offT_len (goneM a b) es
                  rcases suf with _ | ⟨s, suf⟩
                  · rw [List.append_nil] at hp; subst hp; simp only [List.length_nil] at hpl; refine Ev.sr fun K hK => S.o q.lss (S.end (hK _ ?_)); clear hK K; refine Ev.ud (fun c7 => ?_) (fun c7 => ?_)
                    · first | omega | contradiction | (exfalso; simp at *; done)
                    · first
                    | omega | contradiction
                    | refine Ev.exit ?_; refine hR5 _ _ ?_; show Ev _ _ _ _; refine Ev.sr fun K hK => S.o q.mv (S.o q.mv (S.o q.as (S.o q.as (S.o q.as (S.end (hK _ ?_)))))); clear hK K; refine Ev.weaken (Wk.frz 8 [_, _, _]) ?_; refine Ev.weaken (Wk.frz 9 [_, _]) ?_; refine Ev.ret ?_; refine Ev.rr3 [0, 1, 2] (keepR_d (h := (keepR_g (h := (keepR_c (h := keepR_n)))))) (leadsB rfl) ?_; refine ⟨?_, ?_⟩
                      all_goals first | rfl | (simp; done)
                  · simp only [List.length_cons] at hpl
                    have hidx : (makeV (revK a b) most)[pre.length]? = some s := by rw [← hp]; simp
                    refine Ev.sr fun K hK => S.o q.lss (S.end (hK _ ?_)); clear hK K; refine Ev.ud (fun c8 => ?_) (fun c8 => ?_)
                    · first
                    | omega | contradiction
                    | refine Ev.seq ?_; refine Ev.block ?_; refine Ev.sr fun K hK => S.o (q.ix am_el27 am_cl53 (hl := (by first | exact ati hidx (by omega) | exact atig (by omega)))) (S.o (q.lsA [_, _, _, _] am_ag53 am_cl53) (S.nn (q.al am_ze53) (S.sv [_, _, _, _] true [_, _, _, _] am_in53 am_cl53 (h := S.end (hK _ ?_))))); clear hK K; refine Ev.seq ?_; refine Ev.block ?_
                      refine Ev.loopR (ι := {n : Int // 1 ≤ n ∧ ∀ m, 1 ≤ m → m < n → used (addB (es.map (rvE (goneM a b))) pre) m}) [0, 1, 2, 3, 4, 5] [0, 2, 3, 8, 9, 10, 15, 16, 25, 39, 40, 41, 42, 58, 60, 61, 62, 63, 64, 65, 66, 68, 69, 70, 71, 73, 74, 75, 76, 77, 78, 79, 80, 83, 84, 122, 123, 124, 125, 126, 127] (fun ⟨n, _⟩ => [(23, .lit (.int .i64 (n))), (17, .als 3 0 (offT (goneM a b) es).length), (18, .als 4 0 (onT (es.map (rvE (goneM a b))) pre).length)]) (fun ⟨n, _⟩ => [(0, ⟨false, 50, 1, [[.als 2 0 (addB (es.map (rvE (goneM a b))) pre).length]], false⟩), (2, ⟨true, 81, 5, (addB (es.map (rvE (goneM a b))) pre).map Ent.c, true⟩), (3, ⟨true, 9, 1, (offT (goneM a b) es).map strC, true⟩), (4, ⟨true, 9, 1, (onT (es.map (rvE (goneM a b))) pre).map strC, true⟩), (5, ⟨false, 53, 4, [[.lit (str (s.tag)), .lit (str (s.mark)), .lit (.int .i64 (s.count)), .lit (.int .i64 (s.mass))]], true⟩)]) (fun ⟨n, _⟩ => ((addB (es.map (rvE (goneM a b))) pre).length + 2 - n).toNat) ⟨n, hn1, hn2⟩ (.c (.c (.c (.c (.c (.c (.c (.c (.c (.c (.c (.c (.c (.c (.c (.c (.c (.c (.c (.c (.c (.c (.c (.c (.c (.c (.c (.c (.c (.c (.c (.c (.c (.c (.c (.c (.c (.c (.c (.c (.c .n))))))))))))))))))))))))))))))))))))))))) (kR_d (he := (by first | rfl | (simp; done))) (h := (kR_g (h := (kR_c (he := (by first | rfl | (simp; done))) (h := (kR_c (he := (by first | rfl | (simp; done))) (h := (kR_c (he := (by first | rfl | (simp; done))) (h := (kR_c (he := (by first | rfl | (simp; done))) (h := kR_n)))))))))))) (slots_c (he := (by first | rfl | (simp; done) | (congr 2; omega))) (h := (slots_c (he := (by first | rfl | (simp; done) | (congr 2; omega))) (h := (slots_c (he := (by first | rfl | (simp; done) | (congr 2; omega))) (h := trivial)))))) ?_
                      rintro ⟨n, hn1, hn2⟩ R7 hR7; dsimp only [List.cons_append, List.nil_append, List.length_cons, List.length_nil]; have hnb := used_bd hn2; have hil := itoa_len (N := n) (by omega) (by omega); refine Ev.seq ?_; refine Ev.sr fun K hK => S.o q.mv (S.o q.mv (S.c0 (hF := itoa41_fun (by omega) (by omega)) (h := S.o q.sadd (S.cR [0, 2] 6 [_, _, _, _, _] (hob := (keep_d (he := rfl) (h := (keep_c (he := rfl) (h := keep_n))))) (hF := findR (addB (es.map (rvE (goneM a b))) pre) (tagN n) (by omega)) (hn' := belowL rfl rfl) (h := S.o q.geq (S.end (hK _ ?_))))))); clear hK K; refine Ev.cd (fun c9 => ?_) (fun c9 => ?_)
                      · first
                      | omega | contradiction
                      | refine Ev.skip ?_; show Ev _ _ _ _; refine Ev.block ?_; refine Ev.region_S fun K hK => S.o q.mv (S.o q.add (S.o q.as (S.end (hK _ ?_)))); clear hK K; refine hR7 _ _ ?_; refine roundR [0, 1, 2, 3, 4, 5] [0, 2, 3, 8, 9, 10, 15, 16, 25, 39, 40, 41, 42, 58, 60, 61, 62, 63, 64, 65, 66, 68, 69, 70, 71, 73, 74, 75, 76, 77, 78, 79, 80, 83, 84, 122, 123, 124, 125, 126, 127] ⟨n + 1, by omega, ?_⟩ ?_ (kR_d (he := (by first | rfl | (simp; done))) (h := (kR_g (h := (kR_c (he := (by first | rfl | (simp; done))) (h := (kR_c (he := (by first | rfl | (simp; done))) (h := (kR_c (he := (by first | rfl | (simp; done))) (h := (kR_c (he := (by first | rfl | (simp; done))) (h := kR_n)))))))))))) (slots_c (he := (by first | rfl | (simp; done) | (congr 2; omega))) (h := (slots_c (he := (by first | rfl | (simp; done) | (congr 2; omega))) (h := (slots_c (he := (by first | rfl | (simp; done) | (congr 2; omega))) (h := trivial)))))) (.c (.c (.c (.c (.c (.c (.c (.c (.c (.c (.c (.c (.c (.c (.c (.c (.c (.c (.c (.c (.c (.c (.c (.c (.c (.c (.c (.c (.c (.c (.c (.c (.c (.c (.c (.c (.c (.c (.c (.c (.c .n)))))))))))))))))))))))))))))))))))))))))
                        intro m h1 h2; rcases Int.lt_or_le m n with h3 | h3
                        · exact hn2 m h1 h3
                        · rw [show m = n by omega]; exact (show 0 ≤ tgI _ _ from ‹tgI (addB (es.map (rvE (goneM a b))) pre) (tagN n) ≥ 0›)
                        all_goals (dsimp only; omega)
                      · first
                      | omega | contradiction
                      | refine Ev.exit ?_; refine hR7 _ _ ?_; show Ev _ _ _ _; have hnn : newN (addB (es.map (rvE (goneM a b))) pre) = n := newN_eq hn1 (by first | assumption | (show ¬ (0 ≤ tgI _ _); omega)) hn2
                        refine Ev.sr fun K hK => S.o q.mv (S.c0 (hF := itoa41_fun (by omega) (by omega)) (h := S.o q.sadd (S.o (q.fa 0 am_fi53_0 am_cl9) (S.sv [_, _, _, _] true [_, _, _, _] am_in9 am_cl9 (h := S.end (hK _ ?_)))))); clear hK K; refine Ev.shm (f0 := 0) (d0 := 140) (f1 := 1) (d1 := 141) (f2 := 2) (d2 := 142) (f3 := 3) (d3 := 143) (L0 := #[false, false, false, false, false, false, false, false, false, false, false, false]) (L1 := #[true, false, false, false, false, false, false, false, false, false, false, false]) (L2 := #[true, true, false, false, false, false, false, false, false, false, false, false]) (L3 := #[true, true, true, false, false, false, false, false, false, false, false, false]) (L4 := #[true, true, true, true, false, false, false, false, false, false, false, false]) (st := 50) (ft := 48) (r := 0) (m := 8) 0 (F := (by exact ⟨rfl, ⟨rfl, rfl⟩, rfl, ⟨rfl, rfl, rfl⟩, ⟨_, _, _, rfl⟩, ⟨_, _, _, rfl⟩, am_fi50_0, (by rw [am_cl48]; decide), rfl, (by kernel_rfl), (by kernel_rfl), (by kernel_rfl), (by kernel_rfl), (by kernel_rfl), (by kernel_rfl)⟩)) (h4 := (by kernel_rfl)) (ho := (by exact rfl)) (hx := (by exact rfl)) (hm := (by exact rfl)) (hck := (by exact rfl)) (h := fun K hK => ?_); refine HT.two (i := 4) (j := 5) trivial rfl rfl (S.o (q.lv am_ag48) (S.end ?_)) (S.o (q.lvA [_, _, _, _] am_ag53 am_cl53) (S.end ?_))
                        · skip; refine HT.one (i := 5) trivial rfl (S.o (q.lvA [_, _, _, _] am_ag53 am_cl53) (S.end ?_)); refine HT.one (i := 6) trivial rfl (S.o (q.bd [_, _, _, _, _] am_ze81 am_pl81) (S.end ?_)); refine HT.one (i := 7) trivial rfl (S.nn (q.bs [[_, _, _, _, _]] true am_el48 am_ze81 am_cl81) (S.end ?_)); refine HT.one (i := 8) trivial rfl (S.ap' [_, _, _, _, _] am_el48 am_ze81 am_cl81 am_by81 (hh := head_own') (hr := (rows_lit [newE ⟨tagN n, s.mark, s.count, s.mass⟩])) (h := S.end ?_)); refine HT.one (i := 9) trivial rfl (S.o q.nc (S.end ?_)); refine HT.one (i := 10) trivial rfl (S.o (q.fa 0 am_fi50_0 am_cl48) (S.end ?_)); refine HT.one (i := 11) trivial rfl (S.sv [_] false [_, _, _, _, _] am_in48 am_cl48 (h := S.end ?_)); refine HT.nil trivial (by kernel_rfl) (hK _ ?_); clear hK K; refine Ev.region_S fun K hK => S.o q.mv (S.o (q.fa 0 am_fi53_0 am_cl9) (S.o (q.lv am_ag9) (S.nn (q.bs [[_]] true am_el37 am_ze9 am_cl9) (S.ap' [_, _, _, _, _, _] am_el37 am_ze9 am_cl9 am_by9 (hh := head_own') (hr := (rows_lit [tagN n])) (h := S.o q.as (S.end (hK _ ?_))))))); clear hK K; show Ev _ _ _ _; refine Ev.region_S fun K hK => S.o q.add (S.o q.mv (S.end (hK _ ?_))); clear hK K; refine hR5 _ _ ?_
                          refine roundR [0, 1, 7, 3, 9] [0, 2, 3, 8, 9, 10, 15, 16, 39, 40, 41, 42, 58, 60, 61, 62, 63, 64, 65, 66, 68, 69, 70, 71, 73, 74, 75, 76, 77, 78, 79, 80, 83, 84, 122, 123] ⟨(pre ++ [s], suf, n), by rw [← hp]; simp, hn1, ?_⟩ ?_ (kR_d (he := (by first | rfl | (simp [addB]; done) | (rw [addB_at hnn]; done))) (h := (kR_g (h := (kR_c (he := (by first | rfl | (simp [addB]; done) | (rw [addB_at hnn]; done))) (h := (kR_c (he := (by first | rfl | (simp; done))) (h := (kR_c (he := (by first | rfl | (rw [onT_nil]; done) | (rw [onT_at hnn]; done))) (h := kR_n)))))))))) (slots_c (he := (by first | rfl | (congr 2; simp; done))) (h := (slots_c (he := (by first | rfl | (simp; done) | (congr 2; omega))) (h := (slots_c (he := (by first | rfl | (simp; done) | (congr 2; omega))) (h := (slots_c (he := (by first | rfl | (rw [onT_nil]; done) | (rw [onT_at hnn]; done))) (h := trivial)))))))) (.c (.c (.c (.c (.c (.c (.c (.c (.c (.c (.c (.c (.c (.c (.c (.c (.c (.c (.c (.c (.c (.c (.c (.c (.c (.c (.c (.c (.c (.c (.c (.c (.c (.c (.c (.c .n)))))))))))))))))))))))))))))))))))); intro m h1 h2
                          show used (addB (es.map (rvE (goneM a b))) (pre ++ [s])) m
                          rw [addB_at hnn]; exact used_mono _ (hn2 m h1 h2); all_goals (dsimp only; simp only [List.length_cons]; omega)
                        · skip; refine HT.two (i := 4) (j := 6) trivial rfl rfl (S.o (q.lv am_ag48) (S.end ?_)) (S.o (q.bd [_, _, _, _, _] am_ze81 am_pl81) (S.end ?_))
                          · skip; refine HT.one (i := 6) trivial rfl (S.o (q.bd [_, _, _, _, _] am_ze81 am_pl81) (S.end ?_)); refine HT.one (i := 7) trivial rfl (S.nn (q.bs [[_, _, _, _, _]] true am_el48 am_ze81 am_cl81) (S.end ?_)); refine HT.one (i := 8) trivial rfl (S.ap' [_, _, _, _, _] am_el48 am_ze81 am_cl81 am_by81 (hh := head_own') (hr := (rows_lit [newE ⟨tagN n, s.mark, s.count, s.mass⟩])) (h := S.end ?_)); refine HT.one (i := 9) trivial rfl (S.o q.nc (S.end ?_)); refine HT.one (i := 10) trivial rfl (S.o (q.fa 0 am_fi50_0 am_cl48) (S.end ?_)); refine HT.one (i := 11) trivial rfl (S.sv [_] false [_, _, _, _, _] am_in48 am_cl48 (h := S.end ?_)); refine HT.nil trivial (by kernel_rfl) (hK _ ?_); clear hK K; refine Ev.region_S fun K hK => S.o q.mv (S.o (q.fa 0 am_fi53_0 am_cl9) (S.o (q.lv am_ag9) (S.nn (q.bs [[_]] true am_el37 am_ze9 am_cl9) (S.ap' [_, _, _, _, _, _] am_el37 am_ze9 am_cl9 am_by9 (hh := head_own') (hr := (rows_lit [tagN n])) (h := S.o q.as (S.end (hK _ ?_))))))); clear hK K; show Ev _ _ _ _; refine Ev.region_S fun K hK => S.o q.add (S.o q.mv (S.end (hK _ ?_))); clear hK K; refine hR5 _ _ ?_
                            refine roundR [0, 1, 7, 3, 9] [0, 2, 3, 8, 9, 10, 15, 16, 39, 40, 41, 42, 58, 60, 61, 62, 63, 64, 65, 66, 68, 69, 70, 71, 73, 74, 75, 76, 77, 78, 79, 80, 83, 84, 122, 123] ⟨(pre ++ [s], suf, n), by rw [← hp]; simp, hn1, ?_⟩ ?_ (kR_d (he := (by first | rfl | (simp [addB]; done) | (rw [addB_at hnn]; done))) (h := (kR_g (h := (kR_c (he := (by first | rfl | (simp [addB]; done) | (rw [addB_at hnn]; done))) (h := (kR_c (he := (by first | rfl | (simp; done))) (h := (kR_c (he := (by first | rfl | (rw [onT_nil]; done) | (rw [onT_at hnn]; done))) (h := kR_n)))))))))) (slots_c (he := (by first | rfl | (congr 2; simp; done))) (h := (slots_c (he := (by first | rfl | (simp; done) | (congr 2; omega))) (h := (slots_c (he := (by first | rfl | (simp; done) | (congr 2; omega))) (h := (slots_c (he := (by first | rfl | (rw [onT_nil]; done) | (rw [onT_at hnn]; done))) (h := trivial)))))))) (.c (.c (.c (.c (.c (.c (.c (.c (.c (.c (.c (.c (.c (.c (.c (.c (.c (.c (.c (.c (.c (.c (.c (.c (.c (.c (.c (.c (.c (.c (.c (.c (.c (.c (.c (.c .n)))))))))))))))))))))))))))))))))))); intro m h1 h2
                            show used (addB (es.map (rvE (goneM a b))) (pre ++ [s])) m
                            rw [addB_at hnn]; exact used_mono _ (hn2 m h1 h2); all_goals (dsimp only; simp only [List.length_cons]; omega)
                          · skip; refine HT.two (i := 4) (j := 7) trivial rfl rfl (S.o (q.lv am_ag48) (S.end ?_)) (S.nn (q.bs [[_, _, _, _, _]] true am_el48 am_ze81 am_cl81) (S.end ?_))
                            · skip; refine HT.one (i := 7) trivial rfl (S.nn (q.bs [[_, _, _, _, _]] true am_el48 am_ze81 am_cl81) (S.end ?_)); refine HT.one (i := 8) trivial rfl (S.ap' [_, _, _, _, _] am_el48 am_ze81 am_cl81 am_by81 (hh := head_own') (hr := (rows_lit [newE ⟨tagN n, s.mark, s.count, s.mass⟩])) (h := S.end ?_)); refine HT.one (i := 9) trivial rfl (S.o q.nc (S.end ?_)); refine HT.one (i := 10) trivial rfl (S.o (q.fa 0 am_fi50_0 am_cl48) (S.end ?_)); refine HT.one (i := 11) trivial rfl (S.sv [_] false [_, _, _, _, _] am_in48 am_cl48 (h := S.end ?_)); refine HT.nil trivial (by kernel_rfl) (hK _ ?_); clear hK K; refine Ev.region_S fun K hK => S.o q.mv (S.o (q.fa 0 am_fi53_0 am_cl9) (S.o (q.lv am_ag9) (S.nn (q.bs [[_]] true am_el37 am_ze9 am_cl9) (S.ap' [_, _, _, _, _, _] am_el37 am_ze9 am_cl9 am_by9 (hh := head_own') (hr := (rows_lit [tagN n])) (h := S.o q.as (S.end (hK _ ?_))))))); clear hK K; show Ev _ _ _ _; refine Ev.region_S fun K hK => S.o q.add (S.o q.mv (S.end (hK _ ?_))); clear hK K; refine hR5 _ _ ?_
                              refine roundR [0, 1, 7, 3, 9] [0, 2, 3, 8, 9, 10, 15, 16, 39, 40, 41, 42, 58, 60, 61, 62, 63, 64, 65, 66, 68, 69, 70, 71, 73, 74, 75, 76, 77, 78, 79, 80, 83, 84, 122, 123] ⟨(pre ++ [s], suf, n), by rw [← hp]; simp, hn1, ?_⟩ ?_ (kR_d (he := (by first | rfl | (simp [addB]; done) | (rw [addB_at hnn]; done))) (h := (kR_g (h := (kR_c (he := (by first | rfl | (simp [addB]; done) | (rw [addB_at hnn]; done))) (h := (kR_c (he := (by first | rfl | (simp; done))) (h := (kR_c (he := (by first | rfl | (rw [onT_nil]; done) | (rw [onT_at hnn]; done))) (h := kR_n)))))))))) (slots_c (he := (by first | rfl | (congr 2; simp; done))) (h := (slots_c (he := (by first | rfl | (simp; done) | (congr 2; omega))) (h := (slots_c (he := (by first | rfl | (simp; done) | (congr 2; omega))) (h := (slots_c (he := (by first | rfl | (rw [onT_nil]; done) | (rw [onT_at hnn]; done))) (h := trivial)))))))) (.c (.c (.c (.c (.c (.c (.c (.c (.c (.c (.c (.c (.c (.c (.c (.c (.c (.c (.c (.c (.c (.c (.c (.c (.c (.c (.c (.c (.c (.c (.c (.c (.c (.c (.c (.c .n)))))))))))))))))))))))))))))))))))); intro m h1 h2
                              show used (addB (es.map (rvE (goneM a b))) (pre ++ [s])) m
                              rw [addB_at hnn]; exact used_mono _ (hn2 m h1 h2); all_goals (dsimp only; simp only [List.length_cons]; omega)
                            · skip; refine HT.one (i := 4) trivial rfl (S.o (q.lv am_ag48) (S.end ?_)); refine HT.one (i := 8) trivial rfl (S.ap' [_, _, _, _, _] am_el48 am_ze81 am_cl81 am_by81 (hh := head_own') (hr := (rows_lit [newE ⟨tagN n, s.mark, s.count, s.mass⟩])) (h := S.end ?_)); refine HT.one (i := 9) trivial rfl (S.o q.nc (S.end ?_)); refine HT.one (i := 10) trivial rfl (S.o (q.fa 0 am_fi50_0 am_cl48) (S.end ?_)); refine HT.one (i := 11) trivial rfl (S.sv [_] false [_, _, _, _, _] am_in48 am_cl48 (h := S.end ?_)); refine HT.nil trivial (by kernel_rfl) (hK _ ?_); clear hK K; refine Ev.region_S fun K hK => S.o q.mv (S.o (q.fa 0 am_fi53_0 am_cl9) (S.o (q.lv am_ag9) (S.nn (q.bs [[_]] true am_el37 am_ze9 am_cl9) (S.ap' [_, _, _, _, _, _] am_el37 am_ze9 am_cl9 am_by9 (hh := head_own') (hr := (rows_lit [tagN n])) (h := S.o q.as (S.end (hK _ ?_))))))); clear hK K; show Ev _ _ _ _; refine Ev.region_S fun K hK => S.o q.add (S.o q.mv (S.end (hK _ ?_))); clear hK K; refine hR5 _ _ ?_
                              refine roundR [0, 1, 7, 3, 9] [0, 2, 3, 8, 9, 10, 15, 16, 39, 40, 41, 42, 58, 60, 61, 62, 63, 64, 65, 66, 68, 69, 70, 71, 73, 74, 75, 76, 77, 78, 79, 80, 83, 84, 122, 123] ⟨(pre ++ [s], suf, n), by rw [← hp]; simp, hn1, ?_⟩ ?_ (kR_d (he := (by first | rfl | (simp [addB]; done) | (rw [addB_at hnn]; done))) (h := (kR_g (h := (kR_c (he := (by first | rfl | (simp [addB]; done) | (rw [addB_at hnn]; done))) (h := (kR_c (he := (by first | rfl | (simp; done))) (h := (kR_c (he := (by first | rfl | (rw [onT_nil]; done) | (rw [onT_at hnn]; done))) (h := kR_n)))))))))) (slots_c (he := (by first | rfl | (congr 2; simp; done))) (h := (slots_c (he := (by first | rfl | (simp; done) | (congr 2; omega))) (h := (slots_c (he := (by first | rfl | (simp; done) | (congr 2; omega))) (h := (slots_c (he := (by first | rfl | (rw [onT_nil]; done) | (rw [onT_at hnn]; done))) (h := trivial)))))))) (.c (.c (.c (.c (.c (.c (.c (.c (.c (.c (.c (.c (.c (.c (.c (.c (.c (.c (.c (.c (.c (.c (.c (.c (.c (.c (.c (.c (.c (.c (.c (.c (.c (.c (.c (.c .n)))))))))))))))))))))))))))))))))))); intro m h1 h2
                              show used (addB (es.map (rvE (goneM a b))) (pre ++ [s])) m
                              rw [addB_at hnn]; exact used_mono _ (hn2 m h1 h2); all_goals (dsimp only; simp only [List.length_cons]; omega)
                    · first | omega | contradiction | (exfalso; simp at *; done)
              · simp only [List.length_cons] at hpl; have hidx : (pre.map (rvE (goneM a b)) ++ s :: suf)[pre.length]? = some s := rv_at; have hol := offT_len (goneM a b) pre
                have hlx : (pre.map (rvE (goneM a b)) ++ s :: suf).length = pre.length + suf.length + 1 := by simp; omega
                have hids : ((pre.map (rvE (goneM a b)) ++ s :: suf).set (pre.length : Int).toNat (offE s))[pre.length]? = some (offE s) := by rw [List.getElem?_set, if_pos (by simp), if_pos (by omega)]
                refine Ev.sr fun K hK => S.o q.lss (S.end (hK _ ?_)); clear hK K; refine Ev.ud (fun c10 => ?_) (fun c10 => ?_)
                · first
                | omega | contradiction
                | refine Ev.seq ?_; refine Ev.block ?_; refine Ev.sr fun K hK => S.o q.mv (S.o q.as (S.end (hK _ ?_))); clear hK K; refine Ev.sr fun K hK => S.o q.mv (S.o q.nc (S.o (q.fa 0 am_fi50_0 am_cl48) (S.o (q.lv am_ag48) (S.o q.mv (S.o (q.ia am_el48 am_cl81) (S.o q.as (S.end (hK _ ?_)))))))); clear hK K; refine Ev.sr fun K hK => S.o q.mv (S.o q.mv (S.o q.nc (S.o (q.fa 0 am_fi81_0 am_cl53) (S.o (q.fa 1 am_fi53_1 am_cl9) (S.o (q.lx am_ag9 (hl := (by first | exact at_ hidx (by omega) | exact at_ hids (by omega) | exact at_g (by omega)))) (S.o (q.lku (kv := (str)) klS am_mt71) (S.o q.mv (S.o q.ex (S.o q.ex (S.nn (q.al am_ze73) (S.sv [] true [_, _, _, _] am_in73 am_cl73 (h := S.o q.as (S.end (hK _ ?_)))))))))))))); clear hK K; refine Ev.sr fun K hK => S.o q.mv (S.bb q.mv (fun c11 => ?_) (fun c11 => ?_))
                  · first
                  | omega | contradiction
                  | refine S.o q.mv (S.o q.nc (S.o (q.fa 4 am_fi81_1 am_cl4) (S.o (q.lx am_ag4 (hl := (by first | exact at_ hidx (by omega) | exact at_ hids (by omega) | exact at_g (by omega)))) (S.o q.not (S.o q.pt (S.end (hK _ ?_))))))); clear hK K; refine Ev.c (fun c12 => ?_) (fun c12 => ?_)
                    · first
                    | omega | contradiction
                    | have hgm : s.b.mark ∈ goneM a b := dec_t c11; have hoff : s.off = false := nb_t c12; have hrs := rv_set (M := goneM a b) (s := s) (pre := pre) (suf := suf) hgm; have hot := offT_in (M := goneM a b) (pre := pre) (s := s) hgm hoff; refine Ev.sr fun K hK => S.o q.mv (S.o q.nc (S.o (q.fa 4 am_fi81_1 am_cl4) (S.sx (offE s) [_, _, _, _] am_in4 am_cl4 (hl := (by first | exact at_ hidx (by omega) | exact at_ hids (by omega) | exact at_g (by omega))) (h := S.end (hK _ ?_))))); clear hK K; refine Ev.region_S fun K hK => S.o q.mv (S.o q.mv (S.o q.nc (S.o (q.fa 0 am_fi81_0 am_cl53) (S.o (q.fa 0 am_fi53_0 am_cl9) (S.o (q.lx am_ag9 (hl := (by first | exact at_ hidx (by omega) | exact at_ hids (by omega) | exact at_g (by omega)))) (S.nn (q.bs [[_]] true am_el37 am_ze9 am_cl9) (S.ap' [_, _, _, _, _] am_el37 am_ze9 am_cl9 am_by9 (hh := head_own') (hr := (rows_lit [s.b.tag])) (h := S.o q.as (S.end (hK _ ?_)))))))))); clear hK K; show Ev _ _ _ _; refine Ev.region_S fun K hK => S.o q.add (S.o q.mv (S.end (hK _ ?_))); clear hK K; refine hR3 _ _ ?_
                      refine roundR [0, 1, 2, 3, 7] [0, 2, 3, 8, 9, 10, 11, 15, 16, 18, 39, 40, 41, 42, 58, 60, 61, 62, 63, 64, 65, 66, 68, 69, 70, 71, 73, 74, 75, 76, 77, 78, 79, 80, 82] ⟨(pre ++ [s], suf), by rw [← hp]; simp, ?_⟩ ?_ (kR_d (he := (by first | rfl | (rw [Int.toNat_natCast, hrs]; done) | (rw [rv_same (rvE_no (M := goneM a b) (e := s) (dec_f c11))]; done) | (rw [rv_same (rvE_off (M := goneM a b) (e := s) (nb_f c12))]; done) | (simp; done))) (h := (kR_g (h := (kR_c (he := (by first | rfl | exact congrArg (List.map Ent.c) hrs | exact congrArg (List.map Ent.c) (rv_same (rvE_no (dec_f c11))) | exact congrArg (List.map Ent.c) (rv_same (rvE_off (nb_f c12))))) (h := (kR_c (he := (by first | rfl | (simp; done))) (h := (kR_c (he := (by first | rfl | (rw [hot]; done) | (rw [offT_no (dec_f c11)]; done) | (rw [offT_off (nb_f c12)]; done))) (h := kR_n)))))))))) (slots_c (he := (by first | rfl | (congr 2; simp; done))) (h := (slots_c (he := (by first | rfl | (rw [hot]; done) | (rw [offT_no (dec_f c11)]; done) | (rw [offT_off (nb_f c12)]; done))) (h := trivial)))) (.c (.c (.c (.c (.c (.c (.c (.c (.c (.c (.c (.c (.c (.c (.c (.c (.c (.c (.c (.c (.c (.c (.c (.c (.c (.c (.c (.c (.c (.c (.c (.c (.c (.c (.c .n))))))))))))))))))))))))))))))))))); trivial; all_goals (dsimp only; simp only [List.length_cons]; omega)
                    · first
                    | omega | contradiction
                    | refine Ev.skip ?_; show Ev _ _ _ _; refine Ev.region_S fun K hK => S.o q.add (S.o q.mv (S.end (hK _ ?_))); clear hK K; refine hR3 _ _ ?_; refine roundR [0, 1, 2, 3, 4] [0, 2, 3, 8, 9, 10, 11, 15, 16, 18, 39, 40, 41, 42, 58, 60, 61, 62, 63, 64, 65, 66, 68, 69, 70, 71, 73, 74, 75, 76, 77, 78, 79, 80, 82] ⟨(pre ++ [s], suf), by rw [← hp]; simp, ?_⟩ ?_ (kR_d (he := (by first | rfl | (rw [Int.toNat_natCast, hrs]; done) | (rw [rv_same (rvE_no (M := goneM a b) (e := s) (dec_f c11))]; done) | (rw [rv_same (rvE_off (M := goneM a b) (e := s) (nb_f c12))]; done) | (simp; done))) (h := (kR_g (h := (kR_c (he := (by first | rfl | exact congrArg (List.map Ent.c) hrs | exact congrArg (List.map Ent.c) (rv_same (rvE_no (dec_f c11))) | exact congrArg (List.map Ent.c) (rv_same (rvE_off (nb_f c12))))) (h := (kR_c (he := (by first | rfl | (simp; done))) (h := (kR_c (he := (by first | rfl | (rw [hot]; done) | (rw [offT_no (dec_f c11)]; done) | (rw [offT_off (nb_f c12)]; done))) (h := kR_n)))))))))) (slots_c (he := (by first | rfl | (congr 2; simp; done))) (h := (slots_c (he := (by first | rfl | (rw [hot]; done) | (rw [offT_no (dec_f c11)]; done) | (rw [offT_off (nb_f c12)]; done))) (h := trivial)))) (.c (.c (.c (.c (.c (.c (.c (.c (.c (.c (.c (.c (.c (.c (.c (.c (.c (.c (.c (.c (.c (.c (.c (.c (.c (.c (.c (.c (.c (.c (.c (.c (.c (.c (.c .n)))))))))))))))))))))))))))))))))))
                      trivial
                      all_goals (dsimp only; simp only [List.length_cons]; omega)
                  · first
                  | omega | contradiction
                  | refine S.sk (S.sk (S.sk (S.sk (S.sk (S.o q.pf (S.end (hK _ ?_))))))); clear hK K; refine Ev.cf ?_; refine Ev.skip ?_; show Ev _ _ _ _; refine Ev.region_S fun K hK => S.o q.add (S.o q.mv (S.end (hK _ ?_))); clear hK K; refine hR3 _ _ ?_
                    refine roundR [0, 1, 2, 3, 4] [0, 2, 3, 8, 9, 10, 11, 15, 16, 18, 39, 40, 41, 42, 58, 60, 61, 62, 63, 64, 65, 66, 68, 69, 70, 71, 73, 74, 75, 76, 77, 78, 79, 80, 82] ⟨(pre ++ [s], suf), by rw [← hp]; simp, ?_⟩ ?_ (kR_d (he := (by first | rfl | (rw [Int.toNat_natCast, hrs]; done) | (rw [rv_same (rvE_no (M := goneM a b) (e := s) (dec_f c11))]; done) | (rw [rv_same (rvE_off (M := goneM a b) (e := s) (nb_f c12))]; done) | (simp; done))) (h := (kR_g (h := (kR_c (he := (by first | rfl | exact congrArg (List.map Ent.c) hrs | exact congrArg (List.map Ent.c) (rv_same (rvE_no (dec_f c11))) | exact congrArg (List.map Ent.c) (rv_same (rvE_off (nb_f c12))))) (h := (kR_c (he := (by first | rfl | (simp; done))) (h := (kR_c (he := (by first | rfl | (rw [hot]; done) | (rw [offT_no (dec_f c11)]; done) | (rw [offT_off (nb_f c12)]; done))) (h := kR_n)))))))))) (slots_c (he := (by first | rfl | (congr 2; simp; done))) (h := (slots_c (he := (by first | rfl | (rw [hot]; done) | (rw [offT_no (dec_f c11)]; done) | (rw [offT_off (nb_f c12)]; done))) (h := trivial)))) (.c (.c (.c (.c (.c (.c (.c (.c (.c (.c (.c (.c (.c (.c (.c (.c (.c (.c (.c (.c (.c (.c (.c (.c (.c (.c (.c (.c (.c (.c (.c (.c (.c (.c (.c .n))))))))))))))))))))))))))))))))))); trivial; all_goals (dsimp only; simp only [List.length_cons]; omega)
                · first | omega | contradiction | (exfalso; simp at *; done)
      · simp only [List.length_cons] at hpl
        have hidx : (a)[pre.length]? = some s := by rw [← hp]; simp
        refine Ev.sr fun K hK => S.o q.lss (S.end (hK _ ?_)); clear hK K; refine Ev.ud (fun c13 => ?_) (fun c13 => ?_)
        · first
        | omega | contradiction
        | refine Ev.seq ?_; refine Ev.block ?_; refine Ev.sr fun K hK => S.o (q.ix am_el32 am_cl56 (hl := (by first | exact ati hidx (by omega) | exact atig (by omega)))) (S.o (q.lsA [_, _, _, _, _] am_ag56 am_cl56) (S.nn (q.al am_ze56) (S.sv [_, _, _, _, _] true [_, _, _, _] am_in56 am_cl56 (h := S.end (hK _ ?_))))); clear hK K; refine Ev.sr fun K hK => S.o (q.lvA [_, _, _, _, _] am_ag56 am_cl56) (S.o q.mv (S.c0 (hF := kept_fun s b (by omega) (hwa s (by rw [← hp]; simp)) hwb) (h := S.o q.not (S.end (hK _ ?_))))); clear hK K; refine Ev.cn (fun c14 => ?_) (fun c14 => ?_)
          · first
          | omega | contradiction
          | refine Ev.region_S fun K hK => S.o q.mv (S.o (q.fa 0 am_fi56_0 am_cl9) (S.o (q.lv am_ag9) (S.o (q.bd [] am_ze73 am_pl73) (S.muu (kv := (str)) [_, _, _, _] klS am_mt71 (hn := S.end (hK _ ?_)))))); clear hK K; show Ev _ _ _ _; refine Ev.region_S fun K hK => S.o q.add (S.o q.mv (S.end (hK _ ?_))); clear hK K; refine hR0 _ _ ?_; refine roundR [0, 1, 2, 3, 4] [0, 2, 3, 5, 8, 9, 10, 11, 39, 40] ⟨(pre ++ [s], suf), by rw [← hp]; simp, ?_⟩ ?_ (kR_d (he := (by first | rfl | (simp; done))) (h := (kR_g (h := (kR_c (he := (by first | rfl | (simp; done))) (h := (kR_c (he := (by first | rfl | (simp; done))) (h := (kR_c (he := (by first | rfl | (rw [goneM_in ‹_›]; done) | (rw [goneM_out ‹_›]; done))) (h := kR_n)))))))))) (slots_c (he := (by first | rfl | (congr 2; simp; done))) (h := trivial)) (.c (.c (.c (.c (.c (.c (.c (.c (.c (.c .n)))))))))); trivial; all_goals (dsimp only; simp only [List.length_cons]; omega)
          · first
          | omega | contradiction
          | refine Ev.skip ?_; show Ev _ _ _ _; refine Ev.region_S fun K hK => S.o q.add (S.o q.mv (S.end (hK _ ?_))); clear hK K; refine hR0 _ _ ?_; refine roundR [0, 1, 2, 3, 4] [0, 2, 3, 5, 8, 9, 10, 11, 39, 40] ⟨(pre ++ [s], suf), by rw [← hp]; simp, ?_⟩ ?_ (kR_d (he := (by first | rfl | (simp; done))) (h := (kR_g (h := (kR_c (he := (by first | rfl | (simp; done))) (h := (kR_c (he := (by first | rfl | (simp; done))) (h := (kR_c (he := (by first | rfl | (rw [goneM_in ‹_›]; done) | (rw [goneM_out ‹_›]; done))) (h := kR_n)))))))))) (slots_c (he := (by first | rfl | (congr 2; simp; done))) (h := trivial)) (.c (.c (.c (.c (.c (.c (.c (.c (.c (.c .n)))))))))); trivial; all_goals (dsimp only; simp only [List.length_cons]; omega)
        · first | omega | contradiction | (exfalso; simp at *; done)
end Go.Proofs.YthpjfkmhpoeojaaGreatDoor
namespace Go.Proofs.YthpjfkmhpoeojaaGreatDoor
open Go Go.AM
set_option linter.unusedSimpArgs false
set_option linter.unusedVariables false
set_option maxRecDepth 100000
set_option maxHeartbeats 1000000
theorem eqStr_fun (a b : List (List UInt8)) (ha : a.length ≤ 140737488355328) (hb : b.length ≤ 140737488355328) : Fun Tryz.prog 17 [.sh 1 (a.map strC), .sh 1 (b.map strC)] (Ret (.lit (.bool (decide (a = b)))) []) := by
  refine Fun.of (nt := 26) (rs := [.tmp 4]) Tryz.func17 rfl rfl rfl rfl rfl ?_; refine Ev.sr fun K hK => S.o q.as (S.end (hK _ ?_)); clear hK K; refine Ev.seq ?_; refine Ev.sr fun K hK => S.o q.mv (S.o (q.lens am_el37) (S.o q.mv (S.o (q.lens am_el37) (S.o q.neq (S.end (hK _ ?_)))))); clear hK K; refine Ev.cn (fun c1 => ?_) (fun c1 => ?_)
  · first
  | omega | contradiction
  | refine Ev.sr fun K hK => S.o q.as (S.end (hK _ ?_)); clear hK K; refine Ev.ret ?_; refine Ev.ret1 ?_; refine ⟨?_, rfl⟩
    first
     | exact bF (fun h => by subst h; omega)
     | exact bF (fun h => by subst h; rw [hidx] at hidx2; simp only [Option.some.injEq] at hidx2; first | contradiction | exact absurd hidx2 ‹_› | exact absurd hidx2.symm ‹_›)
     | exact bT (hinv.symm.trans (List.take_of_length_le (by omega)))
  · first
  | omega | contradiction
  | refine Ev.skip ?_; show Ev _ _ _ _; refine Ev.seq ?_; refine Ev.sr fun K hK => S.o q.mv (S.o (q.lens am_el37) (S.o q.mv (S.end (hK _ ?_)))); clear hK K; refine Ev.block ?_; refine Ev.loopU (ι := {q : List (List UInt8) × List (List UInt8) // q.1 ++ q.2 = a ∧ b.take q.1.length = q.1}) [] [0, 1, 12] (fun ⟨(pre, suf), _⟩ => [(13, .lit (.int .i64 ((pre.length : Int))))]) (fun ⟨(pre, suf), _⟩ => []) (fun ⟨(pre, suf), _⟩ => suf.length) ⟨([], a), rfl, rfl⟩ (.c (.c (.c .n))) keep_n (slots_c (he := (by first | rfl | (simp; done) | (congr 2; omega))) (h := trivial)) ?_; rintro ⟨⟨pre, suf⟩, hp, hinv⟩ R0 hR0; dsimp only [List.cons_append, List.nil_append, List.length_cons, List.length_nil]
    simp only at hp hinv
    have hpl : pre.length + suf.length = (a).length := by rw [← hp, List.length_append]
    rcases suf with _ | ⟨s, suf⟩
    · rw [List.append_nil] at hp; subst hp; simp only [List.length_nil] at hpl; refine Ev.sr fun K hK => S.o q.lss (S.end (hK _ ?_)); clear hK K; refine Ev.ud (fun c2 => ?_) (fun c2 => ?_)
      · first
      | omega | contradiction
      | refine Ev.seq ?_; refine Ev.block ?_; refine Ev.sr fun K hK => S.o q.mv (S.o q.as (S.end (hK _ ?_))); clear hK K; refine Ev.sm (tbs [(0, 0), (0, 0), (2, 3), (3, 7), (0, 0), (0, 0), (6, 48), (7, 112), (8, 255)]) 9 fun K hK => M.o q.mv (M.o q.mv (M.o (q.ix am_el37 am_cl9 (hl := (by first | exact atig (by omega)))) (M.o (q.ls am_ag9) (M.o q.mv (M.o q.mv (M.o (q.ix am_el37 am_cl9 (hl := (by first | exact atig (by omega)))) (M.o (q.ls am_ag9) (M.o q.snes (M.end [] (h := S.end (hK _ ?_))))))))))); clear hK K; refine Ev.cn (fun c3 => ?_) (fun c3 => ?_)
        · first
        | omega | contradiction
        | refine Ev.sr fun K hK => S.o q.as (S.end (hK _ ?_)); clear hK K; refine Ev.ret ?_; refine hR0 _ _ ?_; refine Ev.ret1 ?_; refine ⟨?_, rfl⟩
          first
           | exact bF (fun h => by subst h; omega)
           | exact bF (fun h => by subst h; rw [hidx] at hidx2; simp only [Option.some.injEq] at hidx2; first | contradiction | exact absurd hidx2 ‹_› | exact absurd hidx2.symm ‹_›)
           | exact bT (hinv.symm.trans (List.take_of_length_le (by omega)))
        · first
        | omega | contradiction
        | refine Ev.skip ?_; show Ev _ _ _ _; refine Ev.region_S fun K hK => S.o q.add (S.o q.mv (S.end (hK _ ?_))); clear hK K; refine hR0 _ _ ?_; refine roundU [] [0, 1, 12] ⟨(pre ++ [s], suf), by rw [← hp]; simp, ?_⟩ ?_ keep_n (slots_c (he := (by first | rfl | (simp; done) | (congr 2; omega))) (h := trivial)) (.c (.c (.c .n))); simp only [List.length_append, List.length_cons, List.length_nil, Nat.zero_add]; rw [List.take_add_one, hinv, hidx2]; simp only [Option.toList_some, List.append_cancel_left_eq, List.cons.injEq, and_true]
          first | assumption | (symm; assumption)
          all_goals (dsimp only; simp only [List.length_cons]; omega)
      · first
      | omega | contradiction
      | refine Ev.exit ?_; refine hR0 _ _ ?_; show Ev _ _ _ _; refine Ev.sr fun K hK => S.o q.as (S.end (hK _ ?_)); clear hK K; refine Ev.ret ?_; refine Ev.ret1 ?_; refine ⟨?_, rfl⟩
        first
         | exact bF (fun h => by subst h; omega)
         | exact bF (fun h => by subst h; rw [hidx] at hidx2; simp only [Option.some.injEq] at hidx2; first | contradiction | exact absurd hidx2 ‹_› | exact absurd hidx2.symm ‹_›)
         | exact bT (hinv.symm.trans (List.take_of_length_le (by omega)))
    · simp only [List.length_cons] at hpl
      have hidx : (a)[pre.length]? = some s := by rw [← hp]; simp
      obtain ⟨s2, hidx2⟩ : ∃ s2, b[pre.length]? = some s2 := ⟨_, List.getElem?_eq_getElem (by omega)⟩; refine Ev.sr fun K hK => S.o q.lss (S.end (hK _ ?_)); clear hK K; refine Ev.ud (fun c4 => ?_) (fun c4 => ?_)
      · first
      | omega | contradiction
      | refine Ev.seq ?_; refine Ev.block ?_; refine Ev.sr fun K hK => S.o q.mv (S.o q.as (S.end (hK _ ?_))); clear hK K; refine Ev.sm (tbs [(0, 0), (0, 0), (2, 3), (3, 7), (0, 0), (0, 0), (6, 48), (7, 112), (8, 255)]) 9 fun K hK => M.o q.mv (M.o q.mv (M.o (q.ix am_el37 am_cl9 (hl := (by first | exact ati hidx (by omega) | exact ati hidx2 (by omega) | exact atig (by omega)))) (M.o (q.ls am_ag9) (M.o q.mv (M.o q.mv (M.o (q.ix am_el37 am_cl9 (hl := (by first | exact ati hidx (by omega) | exact ati hidx2 (by omega) | exact atig (by omega)))) (M.o (q.ls am_ag9) (M.o q.snes (M.end [] (h := S.end (hK _ ?_))))))))))); clear hK K; refine Ev.cn (fun c5 => ?_) (fun c5 => ?_)
        · first
        | omega | contradiction
        | refine Ev.sr fun K hK => S.o q.as (S.end (hK _ ?_)); clear hK K; refine Ev.ret ?_; refine hR0 _ _ ?_; refine Ev.ret1 ?_; refine ⟨?_, rfl⟩
          first
           | exact bF (fun h => by subst h; omega)
           | exact bF (fun h => by subst h; rw [hidx] at hidx2; simp only [Option.some.injEq] at hidx2; first | contradiction | exact absurd hidx2 ‹_› | exact absurd hidx2.symm ‹_›)
           | exact bT (hinv.symm.trans (List.take_of_length_le (by omega)))
        · first
        | omega | contradiction
        | refine Ev.skip ?_; show Ev _ _ _ _; refine Ev.region_S fun K hK => S.o q.add (S.o q.mv (S.end (hK _ ?_))); clear hK K; refine hR0 _ _ ?_; refine roundU [] [0, 1, 12] ⟨(pre ++ [s], suf), by rw [← hp]; simp, ?_⟩ ?_ keep_n (slots_c (he := (by first | rfl | (simp; done) | (congr 2; omega))) (h := trivial)) (.c (.c (.c .n))); simp only [List.length_append, List.length_cons, List.length_nil, Nat.zero_add]; rw [List.take_add_one, hinv, hidx2]; simp only [Option.toList_some, List.append_cancel_left_eq, List.cons.injEq, and_true]
          first | assumption | (symm; assumption)
          all_goals (dsimp only; simp only [List.length_cons]; omega)
      · first
      | omega | contradiction
      | refine Ev.exit ?_; refine hR0 _ _ ?_; show Ev _ _ _ _; refine Ev.sr fun K hK => S.o q.as (S.end (hK _ ?_)); clear hK K; refine Ev.ret ?_; refine Ev.ret1 ?_; refine ⟨?_, rfl⟩
        first
         | exact bF (fun h => by subst h; omega)
         | exact bF (fun h => by subst h; rw [hidx] at hidx2; simp only [Option.some.injEq] at hidx2; first | contradiction | exact absurd hidx2 ‹_› | exact absurd hidx2.symm ‹_›)
         | exact bT (hinv.symm.trans (List.take_of_length_le (by omega)))
theorem new_fun : Fun Tryz.prog 7 [] (Ret (.adr 0 0 0) [(0, ⟨false, 50, 1, [[.lit (.slice none 0 0)]], true⟩)]) := by
  refine Fun.of (nt := 3) (rs := [.tmp 0]) Tryz.func7 rfl rfl rfl rfl rfl ?_; refine Ev.sr fun K hK => S.o q.as (S.end (hK _ ?_)); clear hK K; refine Ev.sr fun K hK => S.o (q.bd [_] am_ze50 am_pl50) (S.nn (q.bx [_] true) (S.o q.as (S.end (hK _ ?_)))); clear hK K; refine Ev.ret ?_; refine Ev.retg [0] (res_t res_n) ?_; refine ⟨?_, ?_⟩; all_goals rfl
theorem line_fun (mk : List UInt8) (n : Int) : Fun Tryz.prog 16 [.lit (str mk), .lit (.int .i64 n)] (Ret (.agg (Bar.c ⟨mk, 10, 2, 0, [n]⟩)) []) := by
  refine Fun.of (nt := 9) (rs := [.cell 4 56]) Tryz.func16 rfl rfl rfl rfl rfl ?_; refine Ev.sr fun K hK => S.nn (q.al am_ze56) (S.end (hK _ ?_)); clear hK K; refine Ev.sr fun K hK => S.o q.mv (S.o q.mv (S.nn (q.bs [[_]] true am_el54 am_ze3 am_cl3) (SeqL.weaken (Wk.frzl (f := intC) [_] 7 [_]) (S.o (q.bd [_, _, _, _, _] am_ze56 am_pl56) (S.sv [_, _, _, _, _] true [] am_in56 am_cl56 (h := S.end (hK _ ?_))))))); clear hK K; refine Ev.ret ?_; refine Ev.retv1 (res_c [_, _, _, _, _] am_ag56 am_cl56 res_n) ?_; refine ⟨?_, rfl⟩; rfl
theorem exIssueR : FunR Tryz.prog 13 [.adr 0 0 0, .sh 4 (exI.map Bundle.c)] [(0, ⟨false, 50, 1, [[.als 1 0 (([] : List Ent)).length]], false⟩), (1, ⟨true, 81, 5, (([] : List Ent)).map Ent.c, true⟩)] 2 (Ret (.lit (.int .i64 0)) [(0, ⟨false, 50, 1, [[.als 2 0 (exE).length]], false⟩), (2, ⟨true, 81, 5, (exE).map Ent.c, true⟩)]) := by
  have h := issueR [] exI (by decide) (by decide) ex_bw
  rwa [ex_isu.1, ex_isu.2] at h
theorem exReviseR : FunR Tryz.prog 10 [.adr 0 0 0, .sh 5 ([exA, exB1].map Bar.c), .sh 5 ([exA, exB2].map Bar.c), .lit (.int .i64 1099511627776)] [(0, ⟨false, 50, 1, [[.als 1 0 (exE).length]], false⟩), (1, ⟨true, 81, 5, (exE).map Ent.c, true⟩)] 2 (Ret (.tup [.sh 1 ([([116, 50] : List UInt8)].map strC), .sh 1 ([([116, 51] : List UInt8)].map strC), .lit (.int .i64 0)]) [(0, ⟨false, 50, 1, [[.als 2 0 (revV exE [exA, exB1] [exA, exB2] 1099511627776).length]], false⟩), (2, ⟨true, 81, 5, (revV exE [exA, exB1] [exA, exB2] 1099511627776).map Ent.c, true⟩)]) := by
  have h := reviseR exE [exA, exB1] [exA, exB2] 1099511627776 (by decide) (by decide) (by decide) ex_w.1 ex_w.2
  rwa [ex_rev.1, ex_rev.2.1, ex_rev.2.2] at h
theorem awake_fun : Fun Tryz.prog 5 [] (Ret (.lit (.bool true)) []) := by
  refine Fun.of (nt := 40) (rs := [.tmp 0]) Tryz.func5 rfl rfl rfl rfl rfl ?_; refine Ev.sr fun K hK => S.o q.as (S.end (hK _ ?_)); clear hK K; refine Ev.sr fun K hK => S.c1g (hF := new_fun) (h := S.o q.as (S.end (hK _ ?_))); clear hK K; refine Ev.seq ?_; refine Ev.weaken (Wk.nilv (f := Ent.c) 0 0 81 5 []) ?_; refine Ev.sr fun K hK => S.o q.mv (S.peqa (by kernel_rfl : Tryz.prog.underlying 25 = some (.pointer 50)) (h := S.o q.mv (S.o q.mv (S.o (q.bd [_, _, _, _] am_ze53 am_pl53) (S.o (q.bd [_, _, _, _] am_ze53 am_pl53) (S.nn (q.bs [[_, _, _, _], [_, _, _, _]] true am_el27 am_ze53 am_cl53) ?_)))))); refine SeqL.weaken (Wk.frzl (f := Bundle.c) exI 12 [_, _]) ?_; refine S.cR [0, 1] 4 [_, _] (hob := (keep_d (he := rfl) (h := (keep_c (he := rfl) (h := keep_n))))) (hF := exIssueR) (hn' := belowL rfl rfl) (h := S.o q.neq (S.o q.pf (S.end (hK _ ?_)))); clear hK K; refine Ev.cn (fun c1 => ?_) (fun c1 => ?_)
  · first
  | omega | contradiction
  | refine Ev.sr fun K hK => S.o q.as (S.end (hK _ ?_)); clear hK K; refine Ev.ret ?_; refine Ev.ret1 ?_; refine ⟨?_, rfl⟩
    first | rfl | exact lawT rfl | exact lawT (by decide) | (exfalso; omega) | contradiction | (exfalso; simp at *; done)
  · first
  | omega | contradiction
  | refine Ev.skip ?_; show Ev _ _ _ _; refine Ev.sr fun K hK => S.o q.mv (S.c0 (hF := line_fun _ _) (h := S.c0 (hF := line_fun _ _) (h := S.nn (q.bs [[_, _, _, _, _], [_, _, _, _, _]] true am_el32 am_ze56 am_cl56) ?_))); refine SeqL.weaken (Wk.frzl (f := Bar.c) [exA, exB1] 20 [_, _]) ?_; refine S.c0 (hF := line_fun _ _) (h := S.c0 (hF := line_fun _ _) (h := S.nn (q.bs [[_, _, _, _, _], [_, _, _, _, _]] true am_el32 am_ze56 am_cl56) ?_)); refine SeqL.weaken (Wk.frzl (f := Bar.c) [exA, exB2] 23 [_, _]) ?_; refine S.cR [0, 3] 7 [_, _] (hob := (keep_d (he := rfl) (h := (keep_c (he := rfl) (h := keep_n))))) (hF := exReviseR) (hn' := belowL rfl rfl) (h := S.o q.mv (S.o q.ex (S.o q.ex (S.o q.ex (S.o q.as (S.o q.as (S.o q.as (S.end (hK _ ?_))))))))); clear hK K; refine Ev.sr fun K hK => S.o q.mv (S.o q.eql (S.bd q.mv (fun c2 => ?_) (fun c2 => ?_)))
    · first
    | omega | contradiction
    | refine S.o q.mv (S.nn (q.bs [[_]] true am_el37 am_ze9 am_cl9) ?_); refine SeqL.weaken (Wk.frzl (f := strC) [([116, 50] : List UInt8)] 32 [_, _]) ?_; refine S.c0 (hF := eqStr_fun [[116, 50]] [[116, 50]] (by decide) (by decide)) (h := S.o q.pt (S.bd q.mv (fun c3 => ?_) (fun c3 => ?_)))
      · first
      | omega | contradiction
      | refine S.o q.mv (S.nn (q.bs [[_]] true am_el37 am_ze9 am_cl9) ?_); refine SeqL.weaken (Wk.frzl (f := strC) [([116, 51] : List UInt8)] 37 [_, _]) ?_; refine S.c0 (hF := eqStr_fun [[116, 51]] [[116, 51]] (by decide) (by decide)) (h := S.o q.pt (S.o q.as (S.end (hK _ ?_)))); clear hK K; refine Ev.ret ?_; refine Ev.ret1 ?_; refine ⟨?_, rfl⟩
        first | rfl | exact lawT rfl | exact lawT (by decide) | (exfalso; omega) | contradiction | (exfalso; simp at *; done)
      · first
      | omega | contradiction
      | refine S.sk (S.sk (S.sk (S.o q.pf (S.o q.as (S.end (hK _ ?_)))))); clear hK K; refine Ev.ret ?_; refine Ev.ret1 ?_; refine ⟨?_, rfl⟩
        first | rfl | exact lawT rfl | exact lawT (by decide) | (exfalso; omega) | contradiction | (exfalso; simp at *; done)
    · first
    | omega | contradiction
    | refine S.sk (S.sk (S.sk (S.o q.pf (S.o q.mv (S.sk (S.sk (S.sk (S.o q.pf (S.o q.as (S.end (hK _ ?_))))))))))); clear hK K; refine Ev.ret ?_; refine Ev.ret1 ?_; refine ⟨?_, rfl⟩
      first | rfl | exact lawT rfl | exact lawT (by decide) | (exfalso; omega) | contradiction | (exfalso; simp at *; done)
end Go.Proofs.YthpjfkmhpoeojaaGreatDoor
namespace Go.Proofs.YthpjfkmhpoeojaaGreatDoor
open Go Go.AM
set_option linter.unusedSimpArgs false
set_option linter.unusedVariables false
set_option maxRecDepth 100000
set_option maxHeartbeats 1000000
structure Act where
  kind : Int
  most : Int
  tag : List UInt8
  l : List Bundle
  a : List Bar
  b : List Bar
def Act.c : Act → List AV
  | ⟨k, m, t, l, a, b⟩ => [.lit (.int .i64 k), .lit (.int .i64 m), .lit (str t), .sh 4 (l.map Bundle.c), .sh 5 (a.map Bar.c), .sh 5 (b.map Bar.c)]
def Act.w (x : Act) : Prop := x.tag.length ≤ 140737488355328 ∧ x.l.length ≤ 140737488355328 ∧ x.a.length ≤ 140737488355328 ∧ x.b.length ≤ 140737488355328
def fewX (x : Act) : Prop := (shortB x.l 20 ∨ x.l.length > 900 ∧ shortB x.l 1005) ∧ x.tag.length ≤ 60 ∧ smallL x.a 10 ∧ smallL x.b 10
instance (x) : Decidable (fewX x) := by unfold fewX; infer_instance
def fewP (l : List Act) : Prop := l.length ≤ 10 ∧ ∀ x ∈ l, fewX x
instance (l) : Decidable (fewP l) := by unfold fewP; infer_instance
theorem fewT {x : Act} (h : ¬ fewX x) : AV.lit (.bool true) = .lit (.bool (!decide (fewX x))) := by rw [decide_eq_false h]; rfl
theorem fewF {x : Act} (h : fewX x) : AV.lit (.bool false) = .lit (.bool (!decide (fewX x))) := by rw [decide_eq_true h]; rfl
theorem fewD {x : Act} (h : (shortB x.l 20 ∨ x.l.length > 900 ∧ shortB x.l 1005) ∧ x.tag.length ≤ 60 ∧ smallL x.a 10) : AV.lit (.bool (!decide (smallL x.b 10))) = .lit (.bool (!decide (fewX x))) := by
  have : smallL x.b 10 ↔ fewX x := ⟨fun h2 => ⟨h.1, h.2.1, h.2.2, h2⟩, fun h2 => h2.2.2.2⟩; rw [decide_eq_decide.2 this]
theorem few1_fun (x : Act) (hx : x.w) : Fun Tryz.prog 19 [.agg x.c] (Ret (.lit (.bool (!decide (fewX x)))) []) := by
  obtain ⟨hx1, hx2, hx3, hx4⟩ := hx; refine Fun.of (nt := 37) (rs := [.tmp 2]) Tryz.func19 rfl rfl rfl rfl rfl ?_; refine Ev.sr fun K hK => S.nn (q.bx [_, _, _, _, _, _] true) (S.o q.as (S.end (hK _ ?_))); clear hK K; refine Ev.sr fun K hK => S.o (q.fa 3 am_fi34_3 am_cl27) (S.o (q.lv am_ag27) (S.c0 (hF := short_fun x.l 20 (by omega)) (h := S.o q.not (S.bn q.mv (fun c1 => ?_) (fun c1 => ?_)))))
  · first
  | omega | contradiction
  | refine S.o (q.fa 3 am_fi34_3 am_cl27) (S.o (q.lv am_ag27) (S.o (q.lens am_el27) (S.o q.gtr (S.bd q.mv (fun c2 => ?_) (fun c2 => ?_)))))
    · first
    | omega | contradiction
    | refine S.o (q.fa 3 am_fi34_3 am_cl27) (S.o (q.lv am_ag27) (S.c0 (hF := short_fun x.l 1005 (by omega)) (h := S.o q.pt (S.o q.not (S.o q.pt (S.bn q.mv (fun c3 => ?_) (fun c3 => ?_)))))))
      · first
      | omega | contradiction
      | refine S.sk (S.sk (S.sk (S.sk (S.o q.pt (S.o q.mv (S.sk (S.sk (S.sk (S.sk (S.o q.pt (S.o q.mv (S.sk (S.sk (S.sk (S.sk (S.o q.pt (S.o q.as (S.end (hK _ ?_))))))))))))))))))); clear hK K; refine Ev.ret ?_; refine Ev.ret1 ?_; refine ⟨?_, rfl⟩
        first
         | rfl
         | exact fewT (x := x) (fun h => by (obtain ⟨h1 | h1, h2, h3, h4⟩ := h <;> first | contradiction | omega | exact absurd h1 ‹_› | exact absurd h1.2 ‹_› | (have := h1.1; omega)))
         | exact fewD (x := x) ⟨by first | exact .inl ‹_› | exact .inr ⟨by omega, ‹_›⟩, by omega, by assumption⟩
         | exact fewF (x := x) ⟨by first | exact .inl ‹_› | exact .inr ⟨by omega, ‹_›⟩, by omega, by assumption, by assumption⟩
      · first
      | omega | contradiction
      | refine S.o (q.fa 2 am_fi34_2 am_cl9) (S.o (q.lv am_ag9) (S.o (q.slen am_el9 am_un9) (S.o q.gtr (S.o q.pf (S.bd q.mv (fun c4 => ?_) (fun c4 => ?_))))))
        · first
        | omega | contradiction
        | refine S.sk (S.sk (S.sk (S.sk (S.o q.pt (S.o q.mv (S.sk (S.sk (S.sk (S.sk (S.o q.pt (S.o q.as (S.end (hK _ ?_))))))))))))); clear hK K; refine Ev.ret ?_; refine Ev.ret1 ?_; refine ⟨?_, rfl⟩
          first
           | rfl
           | exact fewT (x := x) (fun h => by (obtain ⟨h1 | h1, h2, h3, h4⟩ := h <;> first | contradiction | omega | exact absurd h1 ‹_› | exact absurd h1.2 ‹_› | (have := h1.1; omega)))
           | exact fewD (x := x) ⟨by first | exact .inl ‹_› | exact .inr ⟨by omega, ‹_›⟩, by omega, by assumption⟩
           | exact fewF (x := x) ⟨by first | exact .inl ‹_› | exact .inr ⟨by omega, ‹_›⟩, by omega, by assumption, by assumption⟩
        · first
        | omega | contradiction
        | refine S.o (q.fa 4 am_fi34_4 am_cl32) (S.o (q.lv am_ag32) (S.c0 (hF := small_fun x.a 10 (by omega)) (h := S.o q.not (S.o q.pf (S.bn q.mv (fun c5 => ?_) (fun c5 => ?_))))))
          · first
          | omega | contradiction
          | refine S.sk (S.sk (S.sk (S.sk (S.o q.pt (S.o q.as (S.end (hK _ ?_))))))); clear hK K; refine Ev.ret ?_; refine Ev.ret1 ?_; refine ⟨?_, rfl⟩
            first
             | rfl
             | exact fewT (x := x) (fun h => by (obtain ⟨h1 | h1, h2, h3, h4⟩ := h <;> first | contradiction | omega | exact absurd h1 ‹_› | exact absurd h1.2 ‹_› | (have := h1.1; omega)))
             | exact fewD (x := x) ⟨by first | exact .inl ‹_› | exact .inr ⟨by omega, ‹_›⟩, by omega, by assumption⟩
             | exact fewF (x := x) ⟨by first | exact .inl ‹_› | exact .inr ⟨by omega, ‹_›⟩, by omega, by assumption, by assumption⟩
          · first
          | omega | contradiction
          | refine S.o (q.fa 5 am_fi34_5 am_cl32) (S.o (q.lv am_ag32) (S.c0 (hF := small_fun x.b 10 (by omega)) (h := S.o q.not (S.o q.pf (S.o q.as (S.end (hK _ ?_))))))); clear hK K; refine Ev.ret ?_; refine Ev.ret1 ?_; refine ⟨?_, rfl⟩
            first
             | rfl
             | exact fewT (x := x) (fun h => by (obtain ⟨h1 | h1, h2, h3, h4⟩ := h <;> first | contradiction | omega | exact absurd h1 ‹_› | exact absurd h1.2 ‹_› | (have := h1.1; omega)))
             | exact fewD (x := x) ⟨by first | exact .inl ‹_› | exact .inr ⟨by omega, ‹_›⟩, by omega, by assumption⟩
             | exact fewF (x := x) ⟨by first | exact .inl ‹_› | exact .inr ⟨by omega, ‹_›⟩, by omega, by assumption, by assumption⟩
    · first
    | omega | contradiction
    | refine S.sk (S.sk (S.sk (S.o q.pf (S.o q.notf (S.o q.pt (S.o q.mv (S.sk (S.sk (S.sk (S.sk (S.o q.pt (S.o q.mv (S.sk (S.sk (S.sk (S.sk (S.o q.pt (S.o q.mv (S.sk (S.sk (S.sk (S.sk (S.o q.pt (S.o q.as (S.end (hK _ ?_)))))))))))))))))))))))))); clear hK K; refine Ev.ret ?_; refine Ev.ret1 ?_; refine ⟨?_, rfl⟩
      first
       | rfl
       | exact fewT (x := x) (fun h => by (obtain ⟨h1 | h1, h2, h3, h4⟩ := h <;> first | contradiction | omega | exact absurd h1 ‹_› | exact absurd h1.2 ‹_› | (have := h1.1; omega)))
       | exact fewD (x := x) ⟨by first | exact .inl ‹_› | exact .inr ⟨by omega, ‹_›⟩, by omega, by assumption⟩
       | exact fewF (x := x) ⟨by first | exact .inl ‹_› | exact .inr ⟨by omega, ‹_›⟩, by omega, by assumption, by assumption⟩
  · first
  | omega | contradiction
  | refine S.sk (S.sk (S.sk (S.sk (S.sk (S.sk (S.sk (S.sk (S.sk (S.sk (S.o q.pf (S.o q.mv (S.o (q.fa 2 am_fi34_2 am_cl9) (S.o (q.lv am_ag9) (S.o (q.slen am_el9 am_un9) (S.o q.gtr (S.o q.pf (S.bd q.mv (fun c6 => ?_) (fun c6 => ?_))))))))))))))))))
    · first
    | omega | contradiction
    | refine S.sk (S.sk (S.sk (S.sk (S.o q.pt (S.o q.mv (S.sk (S.sk (S.sk (S.sk (S.o q.pt (S.o q.as (S.end (hK _ ?_))))))))))))); clear hK K; refine Ev.ret ?_; refine Ev.ret1 ?_; refine ⟨?_, rfl⟩
      first
       | rfl
       | exact fewT (x := x) (fun h => by (obtain ⟨h1 | h1, h2, h3, h4⟩ := h <;> first | contradiction | omega | exact absurd h1 ‹_› | exact absurd h1.2 ‹_› | (have := h1.1; omega)))
       | exact fewD (x := x) ⟨by first | exact .inl ‹_› | exact .inr ⟨by omega, ‹_›⟩, by omega, by assumption⟩
       | exact fewF (x := x) ⟨by first | exact .inl ‹_› | exact .inr ⟨by omega, ‹_›⟩, by omega, by assumption, by assumption⟩
    · first
    | omega | contradiction
    | refine S.o (q.fa 4 am_fi34_4 am_cl32) (S.o (q.lv am_ag32) (S.c0 (hF := small_fun x.a 10 (by omega)) (h := S.o q.not (S.o q.pf (S.bn q.mv (fun c7 => ?_) (fun c7 => ?_))))))
      · first
      | omega | contradiction
      | refine S.sk (S.sk (S.sk (S.sk (S.o q.pt (S.o q.as (S.end (hK _ ?_))))))); clear hK K; refine Ev.ret ?_; refine Ev.ret1 ?_; refine ⟨?_, rfl⟩
        first
         | rfl
         | exact fewT (x := x) (fun h => by (obtain ⟨h1 | h1, h2, h3, h4⟩ := h <;> first | contradiction | omega | exact absurd h1 ‹_› | exact absurd h1.2 ‹_› | (have := h1.1; omega)))
         | exact fewD (x := x) ⟨by first | exact .inl ‹_› | exact .inr ⟨by omega, ‹_›⟩, by omega, by assumption⟩
         | exact fewF (x := x) ⟨by first | exact .inl ‹_› | exact .inr ⟨by omega, ‹_›⟩, by omega, by assumption, by assumption⟩
      · first
      | omega | contradiction
      | refine S.o (q.fa 5 am_fi34_5 am_cl32) (S.o (q.lv am_ag32) (S.c0 (hF := small_fun x.b 10 (by omega)) (h := S.o q.not (S.o q.pf (S.o q.as (S.end (hK _ ?_))))))); clear hK K; refine Ev.ret ?_; refine Ev.ret1 ?_; refine ⟨?_, rfl⟩
        first
         | rfl
         | exact fewT (x := x) (fun h => by (obtain ⟨h1 | h1, h2, h3, h4⟩ := h <;> first | contradiction | omega | exact absurd h1 ‹_› | exact absurd h1.2 ‹_› | (have := h1.1; omega)))
         | exact fewD (x := x) ⟨by first | exact .inl ‹_› | exact .inr ⟨by omega, ‹_›⟩, by omega, by assumption⟩
         | exact fewF (x := x) ⟨by first | exact .inl ‹_› | exact .inr ⟨by omega, ‹_›⟩, by omega, by assumption, by assumption⟩
theorem indexFuncInAct (g : FuncId) (p : Act → Bool) (l : List Act) (hg : ∀ s ∈ l, Fun Tryz.prog g [.agg s.c] (Ret (.lit (.bool (p s))) [])) (hlen : l.length ≤ 140737488355328) :
    Fun Tryz.prog 39 [.sh 6 (l.map Act.c), .fn (.func g) [] []] (Ret (.lit (.int .i64 (idxP p l 0))) []) := by
  refine Fun.of (nt := 19) (rs := [.tmp 4]) Tryz.func39 rfl rfl rfl rfl rfl ?_; refine Ev.sr fun K hK => S.o q.as (S.end (hK _ ?_)); clear hK K; refine Ev.seq ?_; refine Ev.sr fun K hK => S.o q.mv (S.o (q.lens am_el22) (S.o q.mv (S.end (hK _ ?_)))); clear hK K; refine Ev.block ?_; refine Ev.loopU (ι := {q : List Act × List Act // q.1 ++ q.2 = l ∧ ∀ x ∈ q.1, p x = false}) [] [0, 1, 7] (fun ⟨(pre, suf), _⟩ => [(8, .lit (.int .i64 ((pre.length : Int))))]) (fun ⟨(pre, suf), _⟩ => []) (fun ⟨(pre, suf), _⟩ => suf.length) ⟨([], l), rfl, fun x hx => by simp at hx⟩ (.c (.c (.c .n))) keep_n (slots_c (he := (by first | rfl | (simp; done) | (congr 2; omega))) (h := trivial)) ?_; rintro ⟨⟨pre, suf⟩, hp, hinv⟩ R0 hR0; dsimp only [List.cons_append, List.nil_append, List.length_cons, List.length_nil]
  simp only at hp hinv
  have hpl : pre.length + suf.length = (l).length := by rw [← hp, List.length_append]
  rcases suf with _ | ⟨s, suf⟩
  · rw [List.append_nil] at hp; subst hp; simp only [List.length_nil] at hpl; refine Ev.sr fun K hK => S.o q.lss (S.end (hK _ ?_)); clear hK K; refine Ev.ud (fun c1 => ?_) (fun c1 => ?_)
    · first
    | omega | contradiction
    | refine Ev.seq ?_; refine Ev.block ?_; refine Ev.sr fun K hK => S.o q.mv (S.o q.as (S.end (hK _ ?_))); clear hK K; refine Ev.sr fun K hK => S.o q.mv (S.o q.mv (S.o q.mv (S.o (q.ix am_el22 am_cl34 (hl := (by first | exact atig (by omega)))) (S.o (q.lsA [_, _, _, _, _, _] am_ag34 am_cl34) (S.c0 (hF := hg s (by rw [← hp]; simp)) (h := S.end (hK _ ?_))))))); clear hK K; refine Ev.c (fun c2 => ?_) (fun c2 => ?_)
      · first
      | omega | contradiction
      | refine Ev.sr fun K hK => S.o q.mv (S.o q.as (S.end (hK _ ?_))); clear hK K; refine Ev.ret ?_; refine hR0 _ _ ?_; refine Ev.ret1 ?_; refine ⟨?_, rfl⟩
        first | (congr 2; rw [← hp, idxP_append p pre _ 0 hinv, idxP, if_pos ‹_›]; omega) | (congr 2; rw [idxP_none p pre 0 hinv])
      · first
      | omega | contradiction
      | refine Ev.skip ?_; show Ev _ _ _ _; refine Ev.region_S fun K hK => S.o q.add (S.o q.mv (S.end (hK _ ?_))); clear hK K; refine hR0 _ _ ?_; refine roundU [] [0, 1, 7] ⟨(pre ++ [s], suf), by rw [← hp]; simp, ?_⟩ ?_ keep_n (slots_c (he := (by first | rfl | (simp; done) | (congr 2; omega))) (h := trivial)) (.c (.c (.c .n)))
        intro x hx; simp only [List.mem_append, List.mem_singleton] at hx; rcases hx with hx | rfl
        · exact hinv x hx
        · assumption
        all_goals (dsimp only; simp only [List.length_cons]; omega)
    · first
    | omega | contradiction
    | refine Ev.exit ?_; refine hR0 _ _ ?_; show Ev _ _ _ _; refine Ev.sr fun K hK => S.o q.as (S.end (hK _ ?_)); clear hK K; refine Ev.ret ?_; refine Ev.ret1 ?_; refine ⟨?_, rfl⟩
      first | (congr 2; rw [← hp, idxP_append p pre _ 0 hinv, idxP, if_pos ‹_›]; omega) | (congr 2; rw [idxP_none p pre 0 hinv])
  · simp only [List.length_cons] at hpl
    have hidx : (l)[pre.length]? = some s := by rw [← hp]; simp
    refine Ev.sr fun K hK => S.o q.lss (S.end (hK _ ?_)); clear hK K; refine Ev.ud (fun c3 => ?_) (fun c3 => ?_)
    · first
    | omega | contradiction
    | refine Ev.seq ?_; refine Ev.block ?_; refine Ev.sr fun K hK => S.o q.mv (S.o q.as (S.end (hK _ ?_))); clear hK K; refine Ev.sr fun K hK => S.o q.mv (S.o q.mv (S.o q.mv (S.o (q.ix am_el22 am_cl34 (hl := (by first | exact ati hidx (by omega) | exact atig (by omega)))) (S.o (q.lsA [_, _, _, _, _, _] am_ag34 am_cl34) (S.c0 (hF := hg s (by rw [← hp]; simp)) (h := S.end (hK _ ?_))))))); clear hK K; refine Ev.c (fun c4 => ?_) (fun c4 => ?_)
      · first
      | omega | contradiction
      | refine Ev.sr fun K hK => S.o q.mv (S.o q.as (S.end (hK _ ?_))); clear hK K; refine Ev.ret ?_; refine hR0 _ _ ?_; refine Ev.ret1 ?_; refine ⟨?_, rfl⟩
        first | (congr 2; rw [← hp, idxP_append p pre _ 0 hinv, idxP, if_pos ‹_›]; omega) | (congr 2; rw [idxP_none p pre 0 hinv])
      · first
      | omega | contradiction
      | refine Ev.skip ?_; show Ev _ _ _ _; refine Ev.region_S fun K hK => S.o q.add (S.o q.mv (S.end (hK _ ?_))); clear hK K; refine hR0 _ _ ?_; refine roundU [] [0, 1, 7] ⟨(pre ++ [s], suf), by rw [← hp]; simp, ?_⟩ ?_ keep_n (slots_c (he := (by first | rfl | (simp; done) | (congr 2; omega))) (h := trivial)) (.c (.c (.c .n)))
        intro x hx; simp only [List.mem_append, List.mem_singleton] at hx; rcases hx with hx | rfl
        · exact hinv x hx
        · assumption
        all_goals (dsimp only; simp only [List.length_cons]; omega)
    · first
    | omega | contradiction
    | refine Ev.exit ?_; refine hR0 _ _ ?_; show Ev _ _ _ _; refine Ev.sr fun K hK => S.o q.as (S.end (hK _ ?_)); clear hK K; refine Ev.ret ?_; refine Ev.ret1 ?_; refine ⟨?_, rfl⟩
      first | (congr 2; rw [← hp, idxP_append p pre _ 0 hinv, idxP, if_pos ‹_›]; omega) | (congr 2; rw [idxP_none p pre 0 hinv])
theorem containsFuncInAct (g : FuncId) (p : Act → Bool) (l : List Act) (hg : ∀ s ∈ l, Fun Tryz.prog g [.agg s.c] (Ret (.lit (.bool (p s))) [])) (hlen : l.length ≤ 140737488355328) :
    Fun Tryz.prog 18 [.sh 6 (l.map Act.c), .fn (.func g) [] []] (Ret (.lit (.bool (decide (∃ x ∈ l, p x = true)))) []) := by
  have hd : (decide (∃ x ∈ l, p x = true)) = decide (0 ≤ idxP p l 0) := by simp only [idxP_nonneg p l 0 (Int.le_refl _)]
  rw [hd]; refine Fun.of (nt := 9) (rs := [.tmp 4]) Tryz.func18 rfl rfl rfl rfl rfl ?_; refine Ev.sr fun K hK => S.o q.as (S.end (hK _ ?_)); clear hK K; refine Ev.sr fun K hK => S.o q.mv (S.o q.mv (S.c0 (hF := indexFuncInAct g p l hg hlen) (h := S.o q.geq (S.o q.as (S.end (hK _ ?_)))))); clear hK K; refine Ev.ret ?_; refine Ev.ret1 ?_; refine ⟨?_, rfl⟩; rfl
theorem few_eq (l : List Act) : (!decide (∃ x ∈ l, (!decide (fewX x)) = true)) = decide (∀ x ∈ l, fewX x) := by
  by_cases h : ∀ x ∈ l, fewX x
  · rw [decide_eq_true h, decide_eq_false]
    · rfl
    · rintro ⟨x, hx, e⟩
      simp [h x hx] at e
  · rw [decide_eq_false h, decide_eq_true]
    · rfl
    · exact Classical.byContradiction fun h' => h fun x hx => Classical.byContradiction fun h2 => h' ⟨x, hx, by simp [h2]⟩
theorem fewG {l : List Act} (h : l.length ≤ 10) : AV.lit (.bool (!decide (∃ x ∈ l, (!decide (fewX x)) = true))) = .lit (.bool (decide (fewP l))) := by
  rw [few_eq]; have : (∀ x ∈ l, fewX x) ↔ fewP l := ⟨fun h2 => ⟨h, h2⟩, fun h2 => h2.2⟩; rw [decide_eq_decide.2 this]
theorem few_fun (l : List Act) (hlen : l.length ≤ 140737488355328) (hw : ∀ x ∈ l, x.w) : Fun Tryz.prog 6 [.sh 6 (l.map Act.c)] (Ret (.lit (.bool (decide (fewP l)))) []) := by
  refine Fun.of (nt := 11) (rs := [.tmp 2]) Tryz.func6 rfl rfl rfl rfl rfl ?_; refine Ev.sr fun K hK => S.o q.as (S.end (hK _ ?_)); clear hK K; refine Ev.sr fun K hK => S.o q.mv (S.o (q.lens am_el22) (S.o q.leq (S.bd q.mv (fun c1 => ?_) (fun c1 => ?_))))
  · first
  | omega | contradiction
  | refine S.o q.mv (S.c0 (hF := containsFuncInAct _ (fun x => !decide (fewX x)) l (fun s hs => few1_fun s (hw s hs)) (by omega)) (h := S.o q.not (S.o q.pt (S.o q.as (S.end (hK _ ?_)))))); clear hK K; refine Ev.ret ?_; refine Ev.ret1 ?_; refine ⟨?_, rfl⟩
    first | rfl | exact bF (fun h => by have := h.1; omega) | exact fewG (by omega)
  · first
  | omega | contradiction
  | refine S.sk (S.sk (S.sk (S.o q.pf (S.o q.as (S.end (hK _ ?_)))))); clear hK K; refine Ev.ret ?_; refine Ev.ret1 ?_; refine ⟨?_, rfl⟩
    first | rfl | exact bF (fun h => by have := h.1; omega) | exact fewG (by omega)
end Go.Proofs.YthpjfkmhpoeojaaGreatDoor
namespace Go.Proofs.YthpjfkmhpoeojaaGreatDoor
open Go Go.AM
set_option linter.unusedSimpArgs false
set_option linter.unusedVariables false
set_option maxRecDepth 100000
set_option maxHeartbeats 1000000
def actE (es : List Ent) (x : Act) : List Ent := if x.kind = 0 then isuV es x.l else if x.kind = 1 then canV es x.tag else revV es x.a x.b x.most
def actT (es : List Ent) (x : Act) : List (List UInt8) := if x.kind = 0 then (if isuE es x.l = 0 then x.l.map (·.tag) else []) else if x.kind = 1 then [] else revN es x.a x.b x.most
def madeE (l : List Act) : List Ent := l.foldl actE []
def madeT : List Act → List (List UInt8) := fun l => (l.foldl (fun (q : List Ent × List (List UInt8)) x => (actE q.1 x, q.2 ++ actT q.1 x)) ([], [])).2
theorem madeE_snoc (l : List Act) (x : Act) : madeE (l ++ [x]) = actE (madeE l) x := by simp [madeE, List.foldl_append]
theorem isuV_len {es : List Ent} (l : List Bundle) (h : es.length ≤ 1000) : (isuV es l).length ≤ 1000 := by
  by_cases h0 : isuE es l = 0
  · rw [isuV, if_pos h0, List.length_append, List.length_map]
    unfold isuE at h0
    split at h0
    · split at h0
      · cases h0
      · split at h0
        · cases h0
        · omega
    · cases h0
  · rw [isuV, if_neg h0]; exact h
theorem canV_len (es : List Ent) (t : List UInt8) : (canV es t).length = es.length := by
  unfold canV
  split
  · rw [List.length_set]
  · rfl
theorem revV_len {es : List Ent} (a b : List Bar) (most : Int) (h : es.length ≤ 1000) : (revV es a b most).length ≤ 1000 := by
  by_cases h0 : revE es.length a b most = 0
  · rw [revV, if_pos h0, addB_len, List.length_map]
    unfold revE at h0
    split at h0
    · split at h0
      · split at h0
        · cases h0
        · omega
      · contradiction
    · cases h0
  · rw [revV, if_neg h0]; exact h
theorem madeE_len (l : List Act) : (madeE l).length ≤ 1000 := by
  refine snoc_ind (P := fun l => (madeE l).length ≤ 1000) (by simp [madeE]) (fun l x ih => ?_) l; rw [madeE_snoc, actE]
  split
  · exact isuV_len _ ih
  · split
    · rw [canV_len]; exact ih
    · exact revV_len _ _ _ ih
structure Mk0 (l : List Act) (x : Act) (es : List Ent) (ts : List (List UInt8)) : Prop where
  e : madeE (l ++ [x]) = es
  t : madeT (l ++ [x]) = ts
end Go.Proofs.YthpjfkmhpoeojaaGreatDoor
namespace Go.Proofs.YthpjfkmhpoeojaaGreatDoor
open Go Go.AM
set_option linter.unusedSimpArgs false
set_option linter.unusedVariables false
set_option maxRecDepth 100000
set_option maxHeartbeats 1000000
def tgs (es : List Ent) : List (List UInt8) := es.map (·.b.tag)
def hasB (l : List Bundle) (t : List UInt8) : Prop := ∃ b ∈ l, (fun b : Bundle => decide (b.tag = t)) b = true
instance (l t) : Decidable (hasB l t) := inferInstanceAs (Decidable (∃ b ∈ l, (fun b : Bundle => decide (b.tag = t)) b = true))
structure OnceR (es : List Ent) (t : List UInt8) : Prop where
  c : staV es t = 1 ∧ canE es t = 0 ∨ staV es t = 2 ∧ canE es t = 13
  e : staE (canV es t) t = 0
  v : staV (canV es t) t = 2
  ie : isuE (canV es t) [⟨t, [97], 1, 0⟩] = 15
  iv : isuV (canV es t) [⟨t, [97], 1, 0⟩] = canV es t
  k : canE (canV es t) t = 13
  w : bunW [⟨t, [97], 1, 0⟩]
end Go.Proofs.YthpjfkmhpoeojaaGreatDoor
namespace Go.Proofs.YthpjfkmhpoeojaaGreatDoor
open Go Go.AM
set_option linter.unusedSimpArgs false
set_option linter.unusedVariables false
set_option maxRecDepth 100000
set_option maxHeartbeats 1000000
def rKept (a b : List Bar) (mk : List UInt8) : Bool := match barAt a mk, barAt b mk with
  | some x, some y => decide (sameD x y) && decide (x.count = y.count)
  | _, _ => false
theorem rKept_a {a b : List Bar} {mk : List UInt8} (h : ¬ 0 ≤ markI a mk) : rKept a b mk = false := by
  unfold rKept
  rw [barAt_none (by omega)]
theorem rKept_b {a b : List Bar} {mk : List UInt8} (h : ¬ 0 ≤ markI b mk) : rKept a b mk = false := by
  unfold rKept
  rw [barAt_none (l := b) (by omega)]
  cases barAt a mk <;> rfl
theorem rKept_ab {a b : List Bar} {mk : List UInt8} {x y : Bar} (ha : barAt a mk = some x) (hb : barAt b mk = some y) : rKept a b mk = (decide (sameD x y) && decide (x.count = y.count)) := by
  unfold rKept
  rw [ha, hb]
theorem rKept_n {a b : List Bar} {mk : List UInt8} {x y : Bar} (ha : barAt a mk = some x) (hb : barAt b mk = some y) (h : ¬ sameD x y) : rKept a b mk = false := by
  rw [rKept_ab ha hb, decide_eq_false h]; rfl
theorem rKept_y {a b : List Bar} {mk : List UInt8} {x y : Bar} (ha : barAt a mk = some x) (hb : barAt b mk = some y) (h : sameD x y) : rKept a b mk = decide (x.count = y.count) := by
  rw [rKept_ab ha hb, decide_eq_true h]; rfl
theorem barAt_in {a : List Bar} (h : okSched a) {x : Bar} (hx : x ∈ a) : barAt a x.mark = some x ∧ 0 ≤ markI a x.mark := by
  have h0 : 0 ≤ markI a x.mark := (idxP_nonneg _ _ _ (Int.le_refl _)).2 ⟨x, hx, by simp⟩; obtain ⟨y, h1, _, h2, h3⟩ := barAt_some h0; have e := mark_one h.2.2 h2 hx h3; subst e; exact ⟨h1, h0⟩
theorem sameD_symm {x y : Bar} (h : sameD x y) : sameD y x := ⟨h.1.symm, h.2.1.symm, h.2.2.symm⟩
theorem rKept_iff {a b : List Bar} (hA : okSched a) (hB : okSched b) {x : Bar} (hx : x ∈ a) : rKept a b x.mark = true ↔ keptP x b := by
  constructor
  · intro h
    by_cases hb : 0 ≤ markI b x.mark
    · obtain ⟨y, h1, _, h2, h3⟩ := barAt_some hb; rw [rKept_ab (barAt_in hA hx).1 h1, Bool.and_eq_true, decide_eq_true_iff, decide_eq_true_iff] at h; exact ⟨y, h2, decide_eq_true ⟨h3, h.2.symm, hA.2.1 x hx, hB.2.1 y h2, h.1⟩⟩
    · rw [rKept_b hb] at h; cases h
  · rintro ⟨c, hc, h⟩; obtain ⟨h1, h2, _, _, h3⟩ := of_decide_eq_true h; have h4 := (barAt_in hB hc).1; rw [h1] at h4; rw [rKept_y (barAt_in hA hx).1 h4 h3]; exact decide_eq_true h2.symm
theorem rKept_sw {a b : List Bar} (hA : okSched a) (hB : okSched b) {y : Bar} (hy : y ∈ b) (h : rKept a b y.mark = true) : keptP y a := by
  by_cases ha : 0 ≤ markI a y.mark
  · obtain ⟨x, h1, _, h2, h3⟩ := barAt_some ha; exact kept_swap hy h2 hB.2.2 h3 ((rKept_iff hA hB h2).1 (by rw [h3]; exact h))
  · rw [rKept_a ha] at h; cases h
theorem gone_iff {a b : List Bar} (hA : okSched a) (hB : okSched b) (k : List UInt8) : k ∈ goneM a b ↔ 0 ≤ markI a k ∧ rKept a b k = false := by
  rw [goneM_mem]
  constructor
  · rintro ⟨x, hx, h1, rfl⟩; refine ⟨(barAt_in hA hx).2, ?_⟩
    cases h : rKept a b x.mark with
    | false => rfl
    | true => exact absurd ((rKept_iff hA hB hx).1 h) h1
  · rintro ⟨h1, h2⟩; obtain ⟨x, _, _, h3, h4⟩ := barAt_some h1; refine ⟨x, h3, fun h => ?_, h4⟩; have := (rKept_iff hA hB h3).2 h; rw [h4, h2] at this
    cases this
def kpG (a b : List Bar) (l : List Bundle) : List (List UInt8) := (l.filter fun v => decide (v.mark ∈ goneM a b)).map (·.tag)
def kpR (a b : List Bar) (l : List Bundle) : List Bundle := l.filter fun v => !decide (v.mark ∈ goneM a b)
structure Kp (a b : List Bar) (pre : List Bundle) (s : Bundle) (x : List (List UInt8)) (y : List Bundle) : Prop where
  g : kpG a b (pre ++ [s]) = x
  r : kpR a b (pre ++ [s]) = y
structure KpE (es : List Ent) (a b : List Bar) (most : Int) (nb : List Bundle) : Prop where
  op : openL (revV es a b most) = kpR a b (openL es) ++ nb
  on : revN es a b most = nb.map (·.tag)
  off : revF es a b most = kpG a b (openL es)
  new : ∀ v ∈ nb, ¬ v.tag ∈ tgs es ∧ 0 ≤ markI b v.mark ∧ rKept a b v.mark = false
  hA : okSched a
  hB : okSched b
  rng : 1 ≤ most ∧ most ≤ 1099511627776
theorem kept_at (a : List Bar) (mk : List UInt8) (hw : schedW a) : ∃ x, (0 ≤ markI a mk → a[(markI a mk).toNat]? = some x) ∧ (0 ≤ markI a mk → barAt a mk = some x) ∧ x.w := by
  by_cases h : 0 ≤ markI a mk
  · obtain ⟨y, h1, h2, h3, _⟩ := barAt_some h; exact ⟨y, fun _ => h2, fun _ => h1, hw y h3⟩
  · exact ⟨⟨[], 0, 0, 0, []⟩, fun h' => absurd h' h, fun h' => absurd h' h, by decide, by decide⟩
structure Again (es : List Ent) (b : List Bar) (most : Int) : Prop where
  e : revE es.length b b most = 0
  v : revV es b b most = es
  f : revF es b b most = []
  n : revN es b b most = []
end Go.Proofs.YthpjfkmhpoeojaaGreatDoor
