/-
  Tags: TagsKept, walked.
  Conditions: none.
-/
import Derived.Test.YthpjfkmhpoeojaaDoorTgh
namespace Go.Proofs.YthpjfkmhpoeojaaDoor
open Go Go.AM
set_option linter.unusedSimpArgs false
set_option linter.unusedVariables false
set_option maxRecDepth 100000
set_option maxHeartbeats 4000000

theorem rkept_fun (a b : List Bar) (mk : List UInt8) (ha : a.length ≤ 140737488355328) (hb : b.length ≤ 140737488355328) (hwa : schedW a) (hwb : schedW b) : Fun Tryd.prog 14 [.sh 5 (a.map Bar.c), .sh 5 (b.map Bar.c), .lit (str mk)] (Ret (.lit (.bool (rKept a b mk))) []) := by
  obtain ⟨x, hx, hxa, hxw⟩ := kept_at a mk hwa
  obtain ⟨y, hy, hyb, hyw⟩ := kept_at b mk hwb
  have hx2 := hxw.2
  have hy2 := hyw.2
  refine Fun.of (nt := 45) (rs := [.tmp 6]) Tryd.func14 rfl rfl rfl rfl rfl ?_
  refine Ev.sr fun K hK => S.o q.as (S.end (hK _ ?_))
  clear hK K
  refine Ev.sr fun K hK => S.o q.mv (S.o q.mv (S.c0 (hF := rfind_fun _ _ (by omega)) (h := S.o q.mv (S.o q.mv (S.c0 (hF := rfind_fun _ _ (by omega)) (h := S.o q.as (S.o q.as (S.end (hK _ ?_)))))))))
  clear hK K
  refine Ev.sm (tbs [(0, 0), (1, 1), (2, 3), (3, 7), (4, 15), (5, 31), (6, 63), (7, 127), (7, 127), (9, 511), (10, 1023), (7, 127), (7, 127), (13, 6271), (14, 14463), (15, 32767), (16, 65535), (17, 131071), (18, 262143), (18, 262143), (20, 1048575), (21, 2097151), (22, 4194303), (18, 262143), (18, 262143), (25, 25427967), (26, 58982399), (27, 126091263), (28, 268435455), (29, 536870911), (30, 1073741823)]) 30 fun K hK => M.o q.mv (M.o q.geq (M.bd q.mv (fun c1 => ?_) (fun c1 => ?_)))
  · first
  | (first | omega | contradiction)
  | refine M.o q.mv (M.o q.geq (M.o q.pt (M.bd q.mv (fun c2 => ?_) (fun c2 => ?_))))
    · first
    | (first | omega | contradiction)
    | refine M.o q.mv (M.o q.mv (M.o (q.ix am_el23 am_cl67 (hl := (by first | exact ati (hx (by omega)) (by omega) | exact ati (hy (by omega)) (by omega) | exact atig (by omega)))) (M.o (q.lsA [_, _, _, _, _] am_ag67 am_cl67) (M.o q.mv (M.o q.mv (M.o (q.ix am_el23 am_cl67 (hl := (by first | exact ati (hx (by omega)) (by omega) | exact ati (hy (by omega)) (by omega) | exact atig (by omega)))) (M.o (q.lsA [_, _, _, _, _] am_ag67 am_cl67) (M.c0 (hF := rsame_fun x y (by omega) (by omega)) (h := M.o q.pt (M.bd q.mv (fun c3 => ?_) (fun c3 => ?_)))))))))))
      · first
      | (first | omega | contradiction)
      | refine M.o q.mv (M.o q.mv (M.o (q.ix am_el23 am_cl67 (hl := (by first | exact ati (hx (by omega)) (by omega) | exact ati (hy (by omega)) (by omega) | exact atig (by omega)))) (M.o (q.fs 2 am_fi67_2 am_cl3) (M.o (q.ls am_ag3) (M.o q.mv (M.o q.mv (M.o (q.ix am_el23 am_cl67 (hl := (by first | exact ati (hx (by omega)) (by omega) | exact ati (hy (by omega)) (by omega) | exact atig (by omega)))) (M.o (q.fs 2 am_fi67_2 am_cl3) (M.o (q.ls am_ag3) (M.o q.eql (M.o q.pt (M.end [] (h := S.o q.as (S.end (hK _ ?_)))))))))))))))
        clear hK K
        refine Ev.ret ?_
        refine Ev.ret1 ?_
        refine ⟨?_, rfl⟩
        first
         | rfl
         | (rw [rKept_a (a := a) (b := b) (mk := mk) (by omega)]; done)
         | (rw [rKept_b (a := a) (b := b) (mk := mk) (by omega)]; done)
         | (rw [rKept_n (hxa (by omega)) (hyb (by omega)) ‹¬ sameD x y›]; done)
         | (rw [rKept_y (hxa (by omega)) (hyb (by omega)) ‹sameD x y›]; done)
      · first
      | (first | omega | contradiction)
      | refine M.sk (M.sk (M.sk (M.sk (M.sk (M.sk (M.sk (M.sk (M.sk (M.sk (M.sk (M.o q.pf (M.end [] (h := S.o q.as (S.end (hK _ ?_)))))))))))))))
        clear hK K
        refine Ev.ret ?_
        refine Ev.ret1 ?_
        refine ⟨?_, rfl⟩
        first
         | rfl
         | (rw [rKept_a (a := a) (b := b) (mk := mk) (by omega)]; done)
         | (rw [rKept_b (a := a) (b := b) (mk := mk) (by omega)]; done)
         | (rw [rKept_n (hxa (by omega)) (hyb (by omega)) ‹¬ sameD x y›]; done)
         | (rw [rKept_y (hxa (by omega)) (hyb (by omega)) ‹sameD x y›]; done)
    · first
    | (first | omega | contradiction)
    | refine M.sk (M.sk (M.sk (M.sk (M.sk (M.sk (M.sk (M.sk (M.sk (M.o q.pf (M.o q.mv (M.sk (M.sk (M.sk (M.sk (M.sk (M.sk (M.sk (M.sk (M.sk (M.sk (M.sk (M.o q.pf (M.end [] (h := S.o q.as (S.end (hK _ ?_))))))))))))))))))))))))))
      clear hK K
      refine Ev.ret ?_
      refine Ev.ret1 ?_
      refine ⟨?_, rfl⟩
      first
       | rfl
       | (rw [rKept_a (a := a) (b := b) (mk := mk) (by omega)]; done)
       | (rw [rKept_b (a := a) (b := b) (mk := mk) (by omega)]; done)
       | (rw [rKept_n (hxa (by omega)) (hyb (by omega)) ‹¬ sameD x y›]; done)
       | (rw [rKept_y (hxa (by omega)) (hyb (by omega)) ‹sameD x y›]; done)
  · first
  | (first | omega | contradiction)
  | refine M.sk (M.sk (M.o q.pf (M.o q.mv (M.sk (M.sk (M.sk (M.sk (M.sk (M.sk (M.sk (M.sk (M.sk (M.o q.pf (M.o q.mv (M.sk (M.sk (M.sk (M.sk (M.sk (M.sk (M.sk (M.sk (M.sk (M.sk (M.sk (M.o q.pf (M.end [] (h := S.o q.as (S.end (hK _ ?_))))))))))))))))))))))))))))))
    clear hK K
    refine Ev.ret ?_
    refine Ev.ret1 ?_
    refine ⟨?_, rfl⟩
    first
     | rfl
     | (rw [rKept_a (a := a) (b := b) (mk := mk) (by omega)]; done)
     | (rw [rKept_b (a := a) (b := b) (mk := mk) (by omega)]; done)
     | (rw [rKept_n (hxa (by omega)) (hyb (by omega)) ‹¬ sameD x y›]; done)
     | (rw [rKept_y (hxa (by omega)) (hyb (by omega)) ‹sameD x y›]; done)
def idxS (l : List (List UInt8)) (t : List UInt8) : Int := idxP (fun x => decide (t = x)) l 0
theorem idxS_in (l : List (List UInt8)) (t : List UInt8) : 0 ≤ idxS l t ↔ t ∈ l := by
  unfold idxS
  rw [idxP_nonneg _ _ _ (Int.le_refl _)]
  simp
theorem indexStr_fun (l : List (List UInt8)) (t : List UInt8) (hlen : l.length ≤ 140737488355328) : Fun Tryd.prog 42 [.sh 1 (l.map strC), .lit (str t)] (Ret (.lit (.int .i64 (idxS l t))) []) := by
  unfold idxS
  refine Fun.of (nt := 19) (rs := [.tmp 4]) Tryd.func42 rfl rfl rfl rfl rfl ?_
  refine Ev.sr fun K hK => S.o q.as (S.end (hK _ ?_))
  clear hK K
  refine Ev.seq ?_
  refine Ev.sr fun K hK => S.o q.mv (S.o (q.lens am_el28) (S.o q.mv (S.end (hK _ ?_))))
  clear hK K
  refine Ev.block ?_
  refine Ev.loopU (ι := {q : List (List UInt8) × List (List UInt8) // q.1 ++ q.2 = l ∧ ∀ x ∈ q.1, (fun x => decide (t = x)) x = false}) [] [0, 1, 7] (fun ⟨(pre, suf), _⟩ => [(8, .lit (.int .i64 ((pre.length : Int))))]) (fun ⟨(pre, suf), _⟩ => []) (fun ⟨(pre, suf), _⟩ => suf.length) ⟨([], l), rfl, fun x hx => by simp at hx⟩ (.c (.c (.c .n))) keep_n (slots_c (he := (by first | rfl | (simp; done) | (congr 2; omega))) (h := trivial)) ?_
  rintro ⟨⟨pre, suf⟩, hp, hinv⟩ R0 hR0
  dsimp only [List.cons_append, List.nil_append, List.length_cons, List.length_nil]
  simp only at hp hinv
  have hpl : pre.length + suf.length = (l).length := by rw [← hp, List.length_append]
  rcases suf with _ | ⟨s, suf⟩
  · rw [List.append_nil] at hp; subst hp; simp only [List.length_nil] at hpl
    refine Ev.sr fun K hK => S.o q.lss (S.end (hK _ ?_))
    clear hK K
    refine Ev.ud (fun c1 => ?_) (fun c1 => ?_)
    · first | omega | contradiction | (exfalso; simp at *; done)
    · first
    | (first | omega | contradiction)
    | refine Ev.exit ?_
      refine hR0 _ _ ?_
      show Ev _ _ _ _
      refine Ev.sr fun K hK => S.o q.as (S.end (hK _ ?_))
      clear hK K
      refine Ev.ret ?_
      refine Ev.ret1 ?_
      refine ⟨?_, rfl⟩
      first | (congr 2; rw [← hp, idxP_append _ pre _ 0 hinv, idxP, if_pos (decide_eq_true ‹_›)]; omega) | (congr 2; rw [idxP_none _ pre 0 hinv])
  · simp only [List.length_cons] at hpl
    have hidx : (l)[pre.length]? = some s := by rw [← hp]; simp
    refine Ev.sr fun K hK => S.o q.lss (S.end (hK _ ?_))
    clear hK K
    refine Ev.ud (fun c2 => ?_) (fun c2 => ?_)
    · first
    | (first | omega | contradiction)
    | refine Ev.seq ?_
      refine Ev.block ?_
      refine Ev.sr fun K hK => S.o q.mv (S.o q.as (S.end (hK _ ?_)))
      clear hK K
      refine Ev.sr fun K hK => S.o q.mv (S.o q.mv (S.o q.mv (S.o (q.ix am_el28 am_cl9 (hl := (by first | exact ati hidx (by omega) | exact atig (by omega)))) (S.o (q.ls am_ag9) (S.o q.seqs (S.end (hK _ ?_)))))))
      clear hK K
      refine Ev.cd (fun c3 => ?_) (fun c3 => ?_)
      · first
      | (first | omega | contradiction)
      | refine Ev.sr fun K hK => S.o q.mv (S.o q.as (S.end (hK _ ?_)))
        clear hK K
        refine Ev.ret ?_
        refine hR0 _ _ ?_
        refine Ev.ret1 ?_
        refine ⟨?_, rfl⟩
        first | (congr 2; rw [← hp, idxP_append _ pre _ 0 hinv, idxP, if_pos (decide_eq_true ‹_›)]; omega) | (congr 2; rw [idxP_none _ pre 0 hinv])
      · first
      | (first | omega | contradiction)
      | refine Ev.skip ?_
        show Ev _ _ _ _
        refine Ev.region_S fun K hK => S.o q.add (S.o q.mv (S.end (hK _ ?_)))
        clear hK K
        refine hR0 _ _ ?_
        refine roundU [] [0, 1, 7] ⟨(pre ++ [s], suf), by rw [← hp]; simp, ?_⟩ ?_ keep_n (slots_c (he := (by first | rfl | (simp; done) | (congr 2; omega))) (h := trivial)) (.c (.c (.c .n)))
        intro x hx; simp only [List.mem_append, List.mem_singleton] at hx; rcases hx with hx | rfl
        · exact hinv x hx
        · exact decide_eq_false ‹_›
        all_goals (dsimp only; simp only [List.length_cons]; omega)
    · first | omega | contradiction | (exfalso; simp at *; done)
theorem containsStr_fun (l : List (List UInt8)) (t : List UInt8) (hlen : l.length ≤ 140737488355328) : Fun Tryd.prog 16 [.sh 1 (l.map strC), .lit (str t)] (Ret (.lit (.bool (decide (t ∈ l)))) []) := by
  refine Fun.of (nt := 9) (rs := [.tmp 4]) Tryd.func16 rfl rfl rfl rfl rfl ?_
  refine Ev.sr fun K hK => S.o q.as (S.end (hK _ ?_))
  clear hK K
  refine Ev.sr fun K hK => S.o q.mv (S.o q.mv (S.c0 (hF := indexStr_fun l t hlen) (h := S.o q.geq (S.o q.as (S.end (hK _ ?_))))))
  clear hK K
  refine Ev.ret ?_
  refine Ev.ret1 ?_
  refine ⟨?_, rfl⟩
  (congr 2; rw [decide_eq_decide]; exact idxS_in l t)
theorem eqBunT_fun (a b : List Bundle) (ha : a.length ≤ 140737488355328) (hb : b.length ≤ 140737488355328) : Fun Tryd.prog 12 [.sh 4 (a.map Bundle.c), .sh 4 (b.map Bundle.c)] (Ret (.lit (.bool (decide (a = b)))) []) := by
  refine Fun.of (nt := 26) (rs := [.tmp 4]) Tryd.func12 rfl rfl rfl rfl rfl ?_
  refine Ev.sr fun K hK => S.o q.as (S.end (hK _ ?_))
  clear hK K
  refine Ev.seq ?_
  refine Ev.sr fun K hK => S.o q.mv (S.o (q.lens am_el31) (S.o q.mv (S.o (q.lens am_el31) (S.o q.neq (S.end (hK _ ?_))))))
  clear hK K
  refine Ev.cn (fun c1 => ?_) (fun c1 => ?_)
  · first
  | (first | omega | contradiction)
  | refine Ev.sr fun K hK => S.o q.as (S.end (hK _ ?_))
    clear hK K
    refine Ev.ret ?_
    refine Ev.ret1 ?_
    refine ⟨?_, rfl⟩
    first
     | exact bF (fun h => by subst h; omega)
     | exact bF (fun h => by subst h; rw [hidx] at hidx2; cases hidx2; simp at *)
     | exact bT (hinv.symm.trans (List.take_of_length_le (by omega)))
  · first
  | (first | omega | contradiction)
  | refine Ev.skip ?_
    show Ev _ _ _ _
    refine Ev.seq ?_
    refine Ev.sr fun K hK => S.o q.mv (S.o (q.lens am_el31) (S.o q.mv (S.end (hK _ ?_))))
    clear hK K
    refine Ev.block ?_
    refine Ev.loopU (ι := {q : List Bundle × List Bundle // q.1 ++ q.2 = a ∧ b.take q.1.length = q.1}) [] [0, 1, 12] (fun ⟨(pre, suf), _⟩ => [(13, .lit (.int .i64 ((pre.length : Int))))]) (fun ⟨(pre, suf), _⟩ => []) (fun ⟨(pre, suf), _⟩ => suf.length) ⟨([], a), rfl, rfl⟩ (.c (.c (.c .n))) keep_n (slots_c (he := (by first | rfl | (simp; done) | (congr 2; omega))) (h := trivial)) ?_
    rintro ⟨⟨pre, suf⟩, hp, hinv⟩ R0 hR0
    dsimp only [List.cons_append, List.nil_append, List.length_cons, List.length_nil]
    simp only at hp hinv
    have hpl : pre.length + suf.length = (a).length := by rw [← hp, List.length_append]
    rcases suf with _ | ⟨s, suf⟩
    · rw [List.append_nil] at hp; subst hp; simp only [List.length_nil] at hpl
      refine Ev.sr fun K hK => S.o q.lss (S.end (hK _ ?_))
      clear hK K
      refine Ev.ud (fun c2 => ?_) (fun c2 => ?_)
      · first
      | (first | omega | contradiction)
      | refine Ev.seq ?_
        refine Ev.block ?_
        refine Ev.sr fun K hK => S.o q.mv (S.o q.as (S.end (hK _ ?_)))
        clear hK K
        refine Ev.sm (tbs [(0, 0), (0, 0), (2, 3), (3, 7), (0, 0), (0, 0), (6, 48), (7, 112), (8, 255)]) 9 fun K hK => M.o q.mv (M.o q.mv (M.o (q.ix am_el31 am_cl38 (hl := (by first | exact atig (by omega)))) (M.o (q.lsA [_, _, _, _] am_ag38 am_cl38) (M.o q.mv (M.o q.mv (M.o (q.ix am_el31 am_cl38 (hl := (by first | exact atig (by omega)))) (M.o (q.lsA [_, _, _, _] am_ag38 am_cl38) (M.o (q.sneq am_eq38 (am_sq38 _ _ _ _ _ _ _ _)) (M.end [] (h := S.end (hK _ ?_)))))))))))
        clear hK K
        refine Ev.c (fun c3 => ?_) (fun c3 => ?_)
        · first
        | (first | omega | contradiction)
        | refine Ev.sr fun K hK => S.o q.as (S.end (hK _ ?_))
          clear hK K
          refine Ev.ret ?_
          refine hR0 _ _ ?_
          refine Ev.ret1 ?_
          refine ⟨?_, rfl⟩
          first
           | exact bF (fun h => by subst h; omega)
           | exact bF (fun h => by subst h; rw [hidx] at hidx2; cases hidx2; simp at *)
           | exact bT (hinv.symm.trans (List.take_of_length_le (by omega)))
        · first
        | (first | omega | contradiction)
        | refine Ev.skip ?_
          show Ev _ _ _ _
          refine Ev.region_S fun K hK => S.o q.add (S.o q.mv (S.end (hK _ ?_)))
          clear hK K
          refine hR0 _ _ ?_
          refine roundU [] [0, 1, 12] ⟨(pre ++ [s], suf), by rw [← hp]; simp, ?_⟩ ?_ keep_n (slots_c (he := (by first | rfl | (simp; done) | (congr 2; omega))) (h := trivial)) (.c (.c (.c .n)))
          simp only [List.length_append, List.length_cons, List.length_nil, Nat.zero_add]
          rw [List.take_add_one, hinv, hidx2]
          simp at *
          obtain ⟨x1, x2, x3, x4⟩ := s
          obtain ⟨y1, y2, y3, y4⟩ := s2
          simp_all
          all_goals (dsimp only; simp only [List.length_cons]; omega)
      · first
      | (first | omega | contradiction)
      | refine Ev.exit ?_
        refine hR0 _ _ ?_
        show Ev _ _ _ _
        refine Ev.sr fun K hK => S.o q.as (S.end (hK _ ?_))
        clear hK K
        refine Ev.ret ?_
        refine Ev.ret1 ?_
        refine ⟨?_, rfl⟩
        first
         | exact bF (fun h => by subst h; omega)
         | exact bF (fun h => by subst h; rw [hidx] at hidx2; cases hidx2; simp at *)
         | exact bT (hinv.symm.trans (List.take_of_length_le (by omega)))
    · simp only [List.length_cons] at hpl
      have hidx : (a)[pre.length]? = some s := by rw [← hp]; simp
      obtain ⟨s2, hidx2⟩ : ∃ s2, b[pre.length]? = some s2 := ⟨_, List.getElem?_eq_getElem (by omega)⟩
      refine Ev.sr fun K hK => S.o q.lss (S.end (hK _ ?_))
      clear hK K
      refine Ev.ud (fun c4 => ?_) (fun c4 => ?_)
      · first
      | (first | omega | contradiction)
      | refine Ev.seq ?_
        refine Ev.block ?_
        refine Ev.sr fun K hK => S.o q.mv (S.o q.as (S.end (hK _ ?_)))
        clear hK K
        refine Ev.sm (tbs [(0, 0), (0, 0), (2, 3), (3, 7), (0, 0), (0, 0), (6, 48), (7, 112), (8, 255)]) 9 fun K hK => M.o q.mv (M.o q.mv (M.o (q.ix am_el31 am_cl38 (hl := (by first | exact ati hidx (by omega) | exact ati hidx2 (by omega) | exact atig (by omega)))) (M.o (q.lsA [_, _, _, _] am_ag38 am_cl38) (M.o q.mv (M.o q.mv (M.o (q.ix am_el31 am_cl38 (hl := (by first | exact ati hidx (by omega) | exact ati hidx2 (by omega) | exact atig (by omega)))) (M.o (q.lsA [_, _, _, _] am_ag38 am_cl38) (M.o (q.sneq am_eq38 (am_sq38 _ _ _ _ _ _ _ _)) (M.end [] (h := S.end (hK _ ?_)))))))))))
        clear hK K
        refine Ev.c (fun c5 => ?_) (fun c5 => ?_)
        · first
        | (first | omega | contradiction)
        | refine Ev.sr fun K hK => S.o q.as (S.end (hK _ ?_))
          clear hK K
          refine Ev.ret ?_
          refine hR0 _ _ ?_
          refine Ev.ret1 ?_
          refine ⟨?_, rfl⟩
          first
           | exact bF (fun h => by subst h; omega)
           | exact bF (fun h => by subst h; rw [hidx] at hidx2; cases hidx2; simp at *)
           | exact bT (hinv.symm.trans (List.take_of_length_le (by omega)))
        · first
        | (first | omega | contradiction)
        | refine Ev.skip ?_
          show Ev _ _ _ _
          refine Ev.region_S fun K hK => S.o q.add (S.o q.mv (S.end (hK _ ?_)))
          clear hK K
          refine hR0 _ _ ?_
          refine roundU [] [0, 1, 12] ⟨(pre ++ [s], suf), by rw [← hp]; simp, ?_⟩ ?_ keep_n (slots_c (he := (by first | rfl | (simp; done) | (congr 2; omega))) (h := trivial)) (.c (.c (.c .n)))
          simp only [List.length_append, List.length_cons, List.length_nil, Nat.zero_add]
          rw [List.take_add_one, hinv, hidx2]
          simp at *
          obtain ⟨x1, x2, x3, x4⟩ := s
          obtain ⟨y1, y2, y3, y4⟩ := s2
          simp_all
          all_goals (dsimp only; simp only [List.length_cons]; omega)
      · first
      | (first | omega | contradiction)
      | refine Ev.exit ?_
        refine hR0 _ _ ?_
        show Ev _ _ _ _
        refine Ev.sr fun K hK => S.o q.as (S.end (hK _ ?_))
        clear hK K
        refine Ev.ret ?_
        refine Ev.ret1 ?_
        refine ⟨?_, rfl⟩
        first
         | exact bF (fun h => by subst h; omega)
         | exact bF (fun h => by subst h; rw [hidx] at hidx2; cases hidx2; simp at *)
         | exact bT (hinv.symm.trans (List.take_of_length_le (by omega)))
theorem kept_law (l : List Act) (a b : List Bar) (most : Int) (hlen : l.length ≤ 140737488355328) (hw : ∀ x ∈ l, x.w) (ha : a.length ≤ 140737488355328) (hb : b.length ≤ 140737488355328) : Fun Tryd.prog 3 [.sh 6 (l.map Act.c), .sh 5 (a.map Bar.c), .sh 5 (b.map Bar.c), .lit (.int .i64 most)] (Ret (.lit (.bool true)) []) := by
  refine Fun.of (nt := 189) (rs := [.tmp 8]) Tryd.func3 rfl rfl rfl rfl rfl ?_
  refine Ev.sr fun K hK => S.o q.as (S.end (hK _ ?_))
  clear hK K
  refine Ev.seq ?_
  refine Ev.sr fun K hK => S.c0 (hF := awake_fun) (h := S.o q.nott (S.end (hK _ ?_)))
  clear hK K
  refine Ev.cf ?_
  refine Ev.skip ?_
  show Ev _ _ _ _
  refine Ev.seq ?_
  refine Ev.sr fun K hK => S.o q.mv (S.c0 (hF := few_fun _ (by omega) (by assumption)) (h := S.o q.not (S.bn q.mv (fun c1 => ?_) (fun c1 => ?_))))
  · first
  | (first | omega | contradiction)
  | refine S.sk (S.sk (S.sk (S.o q.pt (S.o q.mv (S.sk (S.sk (S.sk (S.o q.pt (S.end (hK _ ?_))))))))))
    clear hK K
    refine Ev.ct ?_
    refine Ev.sr fun K hK => S.o q.as (S.end (hK _ ?_))
    clear hK K
    refine Ev.ret ?_
    refine Ev.ret1 ?_
    refine ⟨?_, rfl⟩
    first | rfl | exact lawT rfl | (exfalso; omega) | contradiction | (exfalso; simp at *; done) | (simp; done)
  · first
  | (first | omega | contradiction)
  | refine S.o q.mv (S.c0 (hF := small_fun _ _ (by omega)) (h := S.o q.not (S.o q.pf (S.bn q.mv (fun c2 => ?_) (fun c2 => ?_)))))
    · first
    | (first | omega | contradiction)
    | refine S.sk (S.sk (S.sk (S.o q.pt (S.end (hK _ ?_)))))
      clear hK K
      refine Ev.ct ?_
      refine Ev.sr fun K hK => S.o q.as (S.end (hK _ ?_))
      clear hK K
      refine Ev.ret ?_
      refine Ev.ret1 ?_
      refine ⟨?_, rfl⟩
      first | rfl | exact lawT rfl | (exfalso; omega) | contradiction | (exfalso; simp at *; done) | (simp; done)
    · first
    | (first | omega | contradiction)
    | refine S.o q.mv (S.c0 (hF := small_fun _ _ (by omega)) (h := S.o q.not (S.o q.pf (S.end (hK _ ?_)))))
      clear hK K
      refine Ev.cn (fun c3 => ?_) (fun c3 => ?_)
      · first
      | (first | omega | contradiction)
      | refine Ev.sr fun K hK => S.o q.as (S.end (hK _ ?_))
        clear hK K
        refine Ev.ret ?_
        refine Ev.ret1 ?_
        refine ⟨?_, rfl⟩
        first | rfl | exact lawT rfl | (exfalso; omega) | contradiction | (exfalso; simp at *; done) | (simp; done)
      · first
      | (first | omega | contradiction)
      | refine Ev.skip ?_
        show Ev _ _ _ _
        have hf : fewP l := by first | assumption | exact Decidable.not_not.1 ‹_›
        have hl10 := hf.1
        have hsa : smallL a 10 := by first | assumption | exact Decidable.not_not.1 ‹_›
        have hsb : smallL b 10 := by first | assumption | exact Decidable.not_not.1 ‹_›
        have hwa := small_w hsa
        have hwb := small_w hsb
        have hla := hsa.1
        have hlb := hsb.1
        refine Ev.sr fun K hK => S.o q.mv (S.cg 2 [_, _] (hF := made_fun _ (by assumption) (by omega)) (hn' := belowL rfl rfl) (h := S.o q.mv (S.o q.ex (S.o q.ex (S.o q.as (S.o q.as (S.end (hK _ ?_))))))))
        clear hK K
        refine Ev.seq ?_
        obtain ⟨hG, hT⟩ := made_good l
        have hel := hG.len
        have hol := openL_len (madeE l)
        have htl : (madeT l).length = (madeE l).length := by rw [hT]; exact tgs_len _
        have hG2 := (rev_good (a := a) (b := b) (most := most) hG).1
        have hel2 := hG2.len
        have hol2 := openL_len (revV (madeE l) a b most)
        refine Ev.sr fun K hK => S.o q.mv (S.peqa (by kernel_rfl : Tryd.prog.underlying 27 = some (.pointer 76)) (h := S.end (hK _ ?_)))
        clear hK K
        refine Ev.cf ?_
        refine Ev.skip ?_
        show Ev _ _ _ _
        refine Ev.sr fun K hK => S.o q.mv (S.cR [0, 1] 2 [_, _] (hob := (keep_d (he := rfl) (h := (keep_c (he := rfl) (h := keep_n))))) (hF := openR (madeE l) (by omega)) (hn' := belowL rfl rfl) (h := S.o q.as (S.end (hK _ ?_))))
        clear hK K
        refine Ev.sr fun K hK => S.o q.mv (S.o q.mv (S.o q.mv (S.o q.mv (S.cR [0, 1] 3 [_, _] (hob := (keep_d (he := rfl) (h := (keep_c (he := rfl) (h := keep_n))))) (hF := reviseR (madeE l) a b most (by omega) (by omega) (by omega) hwa hwb) (hn' := belowL rfl rfl) (h := S.o q.mv (S.o q.ex (S.o q.ex (S.o q.ex (S.o q.as (S.o q.as (S.o q.as (S.end (hK _ ?_)))))))))))))
        clear hK K
        refine Ev.sr fun K hK => S.o q.mv (S.cR [0, 2] 3 [_, _] (hob := (keep_d (he := rfl) (h := (keep_c (he := rfl) (h := keep_n))))) (hF := openR (revV (madeE l) a b most) (by omega)) (hn' := belowL rfl rfl) (h := S.o q.as (S.end (hK _ ?_))))
        clear hK K
        refine Ev.seq ?_
        refine Ev.sr fun K hK => S.o q.mv (S.o q.neq (S.end (hK _ ?_)))
        clear hK K
        refine Ev.cn (fun c4 => ?_) (fun c4 => ?_)
        · first
        | (first | omega | contradiction)
        | obtain ⟨e1, e2, e3⟩ := kept_err (es := madeE l) (a := a) (b := b) (most := most) (by omega)
          rw [e1, e2, e3]
          refine Ev.sr fun K hK => S.o q.mv (S.o (q.lens am_el28) (S.o q.eql (S.bd q.mv (fun c5 => ?_) (fun c5 => ?_))))
          · first
          | (first | omega | contradiction)
          | refine S.o q.mv (S.o (q.lens am_el28) (S.o q.eql (S.o q.pt (S.bd q.mv (fun c6 => ?_) (fun c6 => ?_)))))
            · first
            | (first | omega | contradiction)
            | refine S.o q.mv (S.o q.mv (S.c0 (hF := eqBunT_fun (openL (madeE l)) (openL (madeE l)) (by omega) (by omega)) (h := S.o q.pt (S.o q.as (S.end (hK _ ?_))))))
              clear hK K
              refine Ev.ret ?_
              refine Ev.ret1 ?_
              refine ⟨?_, rfl⟩
              first | rfl | exact lawT rfl | (exfalso; omega) | contradiction | (exfalso; simp at *; done) | (simp; done)
            · first
            | (first | omega | contradiction)
            | refine S.sk (S.sk (S.sk (S.o q.pf (S.o q.as (S.end (hK _ ?_))))))
              clear hK K
              refine Ev.ret ?_
              refine Ev.ret1 ?_
              refine ⟨?_, rfl⟩
              first | rfl | exact lawT rfl | (exfalso; omega) | contradiction | (exfalso; simp at *; done) | (simp; done)
          · first
          | (first | omega | contradiction)
          | refine S.sk (S.sk (S.sk (S.o q.pf (S.o q.mv (S.sk (S.sk (S.sk (S.o q.pf (S.o q.as (S.end (hK _ ?_)))))))))))
            clear hK K
            refine Ev.ret ?_
            refine Ev.ret1 ?_
            refine ⟨?_, rfl⟩
            first | rfl | exact lawT rfl | (exfalso; omega) | contradiction | (exfalso; simp at *; done) | (simp; done)
        · first
        | (first | omega | contradiction)
        | refine Ev.skip ?_
          show Ev _ _ _ _
          have hE : revE (madeE l).length a b most = 0 := by omega
          obtain ⟨nb, KE⟩ := kept_ex hG hE
          have hA := KE.hA
          have hB := KE.hB
          have hgl := kpG_len a b (openL (madeE l))
          have hrl := kpR_len a b (openL (madeE l))
          have hAg := kept_again (most := most) hG2 hB KE.rng
          have hXl : (kpR a b (openL (madeE l)) ++ nb).length = (kpR a b (openL (madeE l))).length + nb.length := List.length_append
          have hXo : (kpR a b (openL (madeE l)) ++ nb).length = (openL (revV (madeE l) a b most)).length := by rw [KE.op]
          have hnl : (nb.map (·.tag)).length = nb.length := List.length_map _
          rw [KE.op, KE.on, KE.off]
          refine Ev.sr fun K hK => S.o q.as (S.end (hK _ ?_))
          clear hK K
          refine Ev.sr fun K hK => S.o q.as (S.end (hK _ ?_))
          clear hK K
          refine Ev.seq ?_
          refine Ev.sr fun K hK => S.o q.mv (S.o (q.lens am_el31) (S.o q.mv (S.end (hK _ ?_))))
          clear hK K
          refine Ev.block ?_
          refine Ev.weaken (Wk.nown Bundle.c 16 38 4) ?_
          refine Ev.weaken (Wk.nown strC 17 9 1) ?_
          refine Ev.loopU (ι := {p : List (Bundle) × List (Bundle) // p.1 ++ p.2 = (openL (madeE l)) ∧ True}) [0, 2, 3, 4] [1, 2, 3, 8, 9, 10, 12, 13, 14, 15, 72, 73] (fun ⟨(pre, suf), _⟩ => [(74, .lit (.int .i64 ((pre.length : Int)))), (16, .als 2 0 (kpR a b pre).length), (17, .als 3 0 (kpG a b pre).length)]) (fun ⟨(pre, suf), _⟩ => [(0, ⟨false, 76, 1, [[.als 1 0 (revV (madeE l) a b most).length]], false⟩), (1, ⟨true, 78, 5, (revV (madeE l) a b most).map Ent.c, true⟩), (2, ⟨true, 38, 4, (kpR a b pre).map Bundle.c, true⟩), (3, ⟨true, 9, 1, (kpG a b pre).map strC, true⟩)]) (fun ⟨(pre, suf), _⟩ => suf.length) ⟨([], (openL (madeE l))), rfl, trivial⟩ (.c (.c (.c (.c (.c (.c (.c (.c (.c (.c (.c (.c .n)))))))))))) (keep_d (he := (by first | rfl | (simp; done))) (h := (keep_c (he := (by first | rfl | (simp; done))) (h := (keep_c (he := (by first | rfl | (rw [hK.r]; done))) (h := (keep_c (he := (by first | rfl | (rw [hK.g]; done))) (h := keep_n)))))))) (slots_c (he := (by first | rfl | (congr 2; simp; done))) (h := (slots_c (he := (by first | rfl | (rw [hK.r]; done))) (h := (slots_c (he := (by first | rfl | (rw [hK.g]; done))) (h := trivial)))))) ?_
          rintro ⟨⟨pre, suf⟩, hp, hinv⟩ R0 hR0
          dsimp only [List.cons_append, List.nil_append, List.length_cons, List.length_nil]
          simp only at hp hinv
          have hpl : pre.length + suf.length = ((openL (madeE l))).length := by rw [← hp, List.length_append]
          rcases suf with _ | ⟨s, suf⟩
          · rw [List.append_nil] at hp; simp only [List.length_nil] at hpl
            subst hp
            refine Ev.sr fun K hK => S.o q.lss (S.end (hK _ ?_))
            clear hK K
            refine Ev.ud (fun c7 => ?_) (fun c7 => ?_)
            · first | omega | contradiction | (exfalso; simp at *; done)
            · first
            | (first | omega | contradiction)
            | refine Ev.exit ?_
              refine hR0 _ _ ?_
              show Ev _ _ _ _
              refine Ev.seq ?_
              refine Ev.weaken (Wk.frz 17 [_, _, _]) ?_
              refine Ev.weaken (Wk.frz 16 [_, _]) ?_
              refine Ev.sr fun K hK => S.o q.mv (S.o q.mv (S.c0 (hF := eqStr_fun (kpG a b (openL (madeE l))) (kpG a b (openL (madeE l))) (by omega) (by omega)) (h := S.o q.not (S.bn q.mv (fun c8 => ?_) (fun c8 => ?_)))))
              · first
              | (first | omega | contradiction)
              | refine S.sk (S.sk (S.sk (S.sk (S.sk (S.sk (S.sk (S.sk (S.o q.pt (S.o q.mv (S.sk (S.sk (S.sk (S.sk (S.sk (S.sk (S.sk (S.o q.pt (S.end (hK _ ?_)))))))))))))))))))
                clear hK K
                refine Ev.ct ?_
                refine Ev.sr fun K hK => S.o q.as (S.end (hK _ ?_))
                clear hK K
                refine Ev.ret ?_
                refine Ev.ret1 ?_
                refine ⟨?_, rfl⟩
                first | rfl | exact lawT rfl | (exfalso; omega) | contradiction | (exfalso; simp at *; done) | (simp; done)
              · first
              | (first | omega | contradiction)
              | refine S.o q.mv (S.o (q.lens am_el31) (S.o q.mv (S.o (q.lens am_el31) (S.o q.mv (S.o (q.lens am_el28) (S.o q.add (S.o q.neq (S.o q.pf (S.bn q.mv (fun c9 => ?_) (fun c9 => ?_))))))))))
                · first
                | (first | omega | contradiction)
                | refine S.sk (S.sk (S.sk (S.sk (S.sk (S.sk (S.sk (S.o q.pt (S.end (hK _ ?_)))))))))
                  clear hK K
                  refine Ev.ct ?_
                  refine Ev.sr fun K hK => S.o q.as (S.end (hK _ ?_))
                  clear hK K
                  refine Ev.ret ?_
                  refine Ev.ret1 ?_
                  refine ⟨?_, rfl⟩
                  first | rfl | exact lawT rfl | (exfalso; omega) | contradiction | (exfalso; simp at *; done) | (simp; done)
                · first
                | (first | omega | contradiction)
                | refine S.o q.mv (S.o q.mv (S.o (q.lens am_el31) (S.o (q.sh am_el31 am_cl38) (S.o q.mv (S.c0 (hF := eqBunT_fun (List.take (((kpR a b (openL (madeE l))).length : Int).toNat - (0 : Int).toNat) (List.drop (0 : Int).toNat (kpR a b (openL (madeE l)) ++ nb))) (kpR a b (openL (madeE l))) (by rw [List.length_take, List.length_drop]; omega) (by omega)) (h := S.o q.not (S.o q.pf (S.end (hK _ ?_)))))))))
                  clear hK K
                  refine Ev.cn (fun c10 => ?_) (fun c10 => ?_)
                  · first
                  | (first | omega | contradiction)
                  | refine Ev.sr fun K hK => S.o q.as (S.end (hK _ ?_))
                    clear hK K
                    refine Ev.ret ?_
                    refine Ev.ret1 ?_
                    refine ⟨?_, rfl⟩
                    first | rfl | exact lawT rfl | (exfalso; omega) | contradiction | (exfalso; simp at *; done) | (simp; done)
                  · first
                  | (first | omega | contradiction)
                  | refine Ev.skip ?_
                    show Ev _ _ _ _
                    refine Ev.seq ?_
                    refine Ev.sr fun K hK => S.o q.mv (S.o q.mv (S.o (q.lens am_el31) (S.o (q.sh am_el31 am_cl38) ?_)))
                    rw [show (List.take ((((kpR a b (openL (madeE l)) ++ nb).map Bundle.c).length : Int).toNat - ((kpR a b (openL (madeE l))).length : Int).toNat) (List.drop ((kpR a b (openL (madeE l))).length : Int).toNat (kpR a b (openL (madeE l)) ++ nb))) = nb by simp; exact List.take_of_length_le (by omega)]
                    refine S.o (q.lens am_el31) (S.o q.mv (S.end (hK _ ?_)))
                    clear hK K
                    refine Ev.block ?_
                    refine Ev.loopU (ι := {p : List (Bundle) × List (Bundle) // p.1 ++ p.2 = nb ∧ True}) [0, 1] [1, 2, 3, 9, 10, 12, 13, 14, 15, 16, 17, 72, 73, 74, 75, 103, 104, 106, 107, 109, 110, 111, 112, 113, 114, 115, 118, 119, 121, 122, 123, 124, 125, 126, 127, 128] (fun ⟨(pre, suf), _⟩ => [(129, .lit (.int .i64 ((pre.length : Int))))]) (fun ⟨(pre, suf), _⟩ => [(0, ⟨false, 76, 1, [[.als 1 0 (revV (madeE l) a b most).length]], false⟩), (1, ⟨true, 78, 5, (revV (madeE l) a b most).map Ent.c, true⟩)]) (fun ⟨(pre, suf), _⟩ => suf.length) ⟨([], nb), rfl, trivial⟩ (.c (.c (.c (.c (.c (.c (.c (.c (.c (.c (.c (.c (.c (.c (.c (.c (.c (.c (.c (.c (.c (.c (.c (.c (.c (.c (.c (.c (.c (.c (.c (.c (.c (.c (.c (.c .n)))))))))))))))))))))))))))))))))))) (keep_d (he := (by first | rfl | (simp; done))) (h := (keep_c (he := (by first | rfl | (simp; done))) (h := keep_n)))) (slots_c (he := (by first | rfl | (congr 2; simp; done))) (h := trivial)) ?_
                    rintro ⟨⟨pre, suf⟩, hp, hinv⟩ R2 hR2
                    dsimp only [List.cons_append, List.nil_append, List.length_cons, List.length_nil]
                    simp only at hp hinv
                    have hpl : pre.length + suf.length = (nb).length := by rw [← hp, List.length_append]
                    rcases suf with _ | ⟨s, suf⟩
                    · rw [List.append_nil] at hp; simp only [List.length_nil] at hpl
                      skip
                      refine Ev.sr fun K hK => S.o q.lss (S.end (hK _ ?_))
                      clear hK K
                      refine Ev.ud (fun c11 => ?_) (fun c11 => ?_)
                      · first | omega | contradiction | (exfalso; simp at *; done)
                      · first
                      | (first | omega | contradiction)
                      | refine Ev.exit ?_
                        refine hR2 _ _ ?_
                        show Ev _ _ _ _
                        refine Ev.sr fun K hK => S.o q.mv (S.o q.mv (S.o q.mv (S.o q.mv (S.cR [0, 1] 3 [_, _] (hob := (keep_d (he := rfl) (h := (keep_c (he := rfl) (h := keep_n))))) (hF := reviseR (revV (madeE l) a b most) b b most (by omega) (by omega) (by omega) hwb hwb) (hn' := belowL rfl rfl) (h := ?_)))))
                        rw [hAg.e, hAg.v, hAg.f, hAg.n]
                        refine S.o q.mv (S.o q.ex (S.o q.ex (S.o q.ex (S.o q.as (S.o q.as (S.o q.as (S.end (hK _ ?_))))))))
                        clear hK K
                        refine Ev.sr fun K hK => S.o q.mv (S.o q.eql (S.bd q.mv (fun c12 => ?_) (fun c12 => ?_)))
                        · first
                        | (first | omega | contradiction)
                        | refine S.o q.mv (S.o (q.lens am_el28) (S.o q.eql (S.o q.pt (S.bd q.mv (fun c13 => ?_) (fun c13 => ?_)))))
                          · first
                          | (first | omega | contradiction)
                          | refine S.o q.mv (S.o (q.lens am_el28) (S.o q.eql (S.o q.pt (S.bd q.mv (fun c14 => ?_) (fun c14 => ?_)))))
                            · first
                            | (first | omega | contradiction)
                            | refine S.o q.mv (S.cR [0, 2] 3 [_, _] (hob := (keep_d (he := rfl) (h := (keep_c (he := rfl) (h := keep_n))))) (hF := openR (revV (madeE l) a b most) (by omega)) (hn' := belowL rfl rfl) (h := ?_))
                              rw [KE.op]
                              refine S.o q.mv (S.c0 (hF := eqBunT_fun (kpR a b (openL (madeE l)) ++ nb) (kpR a b (openL (madeE l)) ++ nb) (by omega) (by omega)) (h := S.o q.pt (S.o q.as (S.end (hK _ ?_)))))
                              clear hK K
                              refine Ev.ret ?_
                              refine Ev.ret1 ?_
                              refine ⟨?_, rfl⟩
                              first | rfl | exact lawT rfl | (exfalso; omega) | contradiction | (exfalso; simp at *; done) | (simp; done)
                            · first
                            | (first | omega | contradiction)
                            | refine S.sk (S.sk (S.sk (S.sk (S.o q.pf (S.o q.as (S.end (hK _ ?_)))))))
                              clear hK K
                              refine Ev.ret ?_
                              refine Ev.ret1 ?_
                              refine ⟨?_, rfl⟩
                              first | rfl | exact lawT rfl | (exfalso; omega) | contradiction | (exfalso; simp at *; done) | (simp; done)
                          · first
                          | (first | omega | contradiction)
                          | refine S.sk (S.sk (S.sk (S.o q.pf (S.o q.mv (S.sk (S.sk (S.sk (S.sk (S.o q.pf (S.o q.as (S.end (hK _ ?_))))))))))))
                            clear hK K
                            refine Ev.ret ?_
                            refine Ev.ret1 ?_
                            refine ⟨?_, rfl⟩
                            first | rfl | exact lawT rfl | (exfalso; omega) | contradiction | (exfalso; simp at *; done) | (simp; done)
                        · first
                        | (first | omega | contradiction)
                        | refine S.sk (S.sk (S.sk (S.o q.pf (S.o q.mv (S.sk (S.sk (S.sk (S.o q.pf (S.o q.mv (S.sk (S.sk (S.sk (S.sk (S.o q.pf (S.o q.as (S.end (hK _ ?_)))))))))))))))))
                          clear hK K
                          refine Ev.ret ?_
                          refine Ev.ret1 ?_
                          refine ⟨?_, rfl⟩
                          first | rfl | exact lawT rfl | (exfalso; omega) | contradiction | (exfalso; simp at *; done) | (simp; done)
                    · simp only [List.length_cons] at hpl
                      have hidx : nb[pre.length]? = some s := by rw [← hp]; simp
                      have hidy : (nb.map (·.tag))[pre.length]? = some s.tag := by rw [← hp]; simp
                      obtain ⟨hn1, hn2, hn3⟩ := KE.new s (by rw [← hp]; simp)
                      rw [← hT] at hn1
                      skip
                      refine Ev.sr fun K hK => S.o q.lss (S.end (hK _ ?_))
                      clear hK K
                      refine Ev.ud (fun c15 => ?_) (fun c15 => ?_)
                      · first
                      | (first | omega | contradiction)
                      | refine Ev.seq ?_
                        refine Ev.block ?_
                        refine Ev.sr fun K hK => S.o q.mv (S.o (q.ix am_el31 am_cl38 (hl := (by first | exact ati hidx (by omega) | exact ati hidy (by omega) | exact atig (by omega)))) (S.o (q.lsA [_, _, _, _] am_ag38 am_cl38) (S.nn (q.al am_ze38) (S.o q.as (S.sv [_, _, _, _] true [_, _] am_in38 am_cl38 (h := S.end (hK _ ?_)))))))
                        clear hK K
                        refine Ev.sm (tbs [(0, 0), (1, 1), (0, 0), (0, 0), (4, 12), (5, 28), (6, 63), (7, 127), (8, 255), (8, 255), (10, 767), (11, 2047), (12, 4095), (13, 8191), (14, 16383), (14, 16383), (16, 49151), (17, 131071), (18, 262143), (19, 524287), (20, 1048575), (21, 2097151), (21, 2097151), (21, 2097151), (24, 10485759), (25, 33554431), (26, 67108863)]) 27 fun K hK => M.o (q.fa 0 am_fi38_0 am_cl9) (M.o (q.lv am_ag9) (M.o q.mv (M.o q.mv (M.o (q.ix am_el28 am_cl9 (hl := (by first | exact ati hidx (by omega) | exact ati hidy (by omega) | exact atig (by omega)))) (M.o (q.ls am_ag9) (M.o q.snes (M.bn q.mv (fun c16 => ?_) (fun c16 => ?_))))))))
                        · first
                        | (first | omega | contradiction)
                        | refine M.sk (M.sk (M.sk (M.sk (M.o q.pt (M.o q.mv (M.sk (M.sk (M.sk (M.sk (M.sk (M.o q.pt (M.o q.mv (M.sk (M.sk (M.sk (M.sk (M.sk (M.o q.pt (M.end [_, _, _] (h := S.end (hK _ ?_)))))))))))))))))))))
                          clear hK K
                          refine Ev.ct ?_
                          refine Ev.sr fun K hK => S.o q.as (S.end (hK _ ?_))
                          clear hK K
                          refine Ev.ret ?_
                          refine hR2 _ _ ?_
                          refine Ev.ret1 ?_
                          refine ⟨?_, rfl⟩
                          first | rfl | exact lawT rfl | (exfalso; omega) | contradiction | (exfalso; simp at *; done) | (simp; done)
                        · first
                        | (first | omega | contradiction)
                        | refine M.o q.mv (M.o (q.fa 0 am_fi38_0 am_cl9) (M.o (q.lv am_ag9) (M.c0 (hF := containsStr_fun (madeT l) s.tag (by omega)) (h := M.o q.pf (M.bd q.mv (fun c17 => ?_) (fun c17 => ?_))))))
                          · first
                          | (first | omega | contradiction)
                          | refine M.sk (M.sk (M.sk (M.sk (M.sk (M.o q.pt (M.o q.mv (M.sk (M.sk (M.sk (M.sk (M.sk (M.o q.pt (M.end [_, _, _] (h := S.end (hK _ ?_)))))))))))))))
                            clear hK K
                            refine Ev.ct ?_
                            refine Ev.sr fun K hK => S.o q.as (S.end (hK _ ?_))
                            clear hK K
                            refine Ev.ret ?_
                            refine hR2 _ _ ?_
                            refine Ev.ret1 ?_
                            refine ⟨?_, rfl⟩
                            first | rfl | exact lawT rfl | (exfalso; omega) | contradiction | (exfalso; simp at *; done) | (simp; done)
                          · first
                          | (first | omega | contradiction)
                          | refine M.o q.mv (M.o (q.fa 1 am_fi38_1 am_cl9) (M.o (q.lv am_ag9) (M.c0 (hF := rfind_fun b s.mark (by omega)) (h := M.o q.lss (M.o q.pf (M.bd q.mv (fun c18 => ?_) (fun c18 => ?_)))))))
                            · first
                            | (first | omega | contradiction)
                            | refine M.sk (M.sk (M.sk (M.sk (M.sk (M.o q.pt (M.end [_, _, _] (h := S.end (hK _ ?_))))))))
                              clear hK K
                              refine Ev.ct ?_
                              refine Ev.sr fun K hK => S.o q.as (S.end (hK _ ?_))
                              clear hK K
                              refine Ev.ret ?_
                              refine hR2 _ _ ?_
                              refine Ev.ret1 ?_
                              refine ⟨?_, rfl⟩
                              first | rfl | exact lawT rfl | (exfalso; omega) | contradiction | (exfalso; simp at *; done) | (simp; done)
                            · first
                            | (first | omega | contradiction)
                            | refine M.o q.mv (M.o q.mv (M.o (q.fa 1 am_fi38_1 am_cl9) (M.o (q.lv am_ag9) (M.c0 (hF := rkept_fun a b s.mark (by omega) (by omega) hwa hwb) (h := ?_)))))
                              rw [hn3]
                              refine M.o q.pf (M.end [_, _, _] (h := S.end (hK _ ?_)))
                              clear hK K
                              refine Ev.c (fun c19 => ?_) (fun c19 => ?_)
                              · first
                              | (first | omega | contradiction)
                              | refine Ev.sr fun K hK => S.o q.as (S.end (hK _ ?_))
                                clear hK K
                                refine Ev.ret ?_
                                refine hR2 _ _ ?_
                                refine Ev.ret1 ?_
                                refine ⟨?_, rfl⟩
                                first | rfl | exact lawT rfl | (exfalso; omega) | contradiction | (exfalso; simp at *; done) | (simp; done)
                              · first
                              | (first | omega | contradiction)
                              | refine Ev.skip ?_
                                show Ev _ _ _ _
                                refine Ev.region_S fun K hK => S.o q.add (S.o q.mv (S.end (hK _ ?_)))
                                clear hK K
                                refine hR2 _ _ ?_
                                refine roundU [0, 1] [1, 2, 3, 9, 10, 12, 13, 14, 15, 16, 17, 72, 73, 74, 75, 103, 104, 106, 107, 109, 110, 111, 112, 113, 114, 115, 118, 119, 121, 122, 123, 124, 125, 126, 127, 128] ⟨(pre ++ [s], suf), by rw [← hp]; simp, ?_⟩ ?_ (keep_d (he := (by first | rfl | (simp; done))) (h := (keep_c (he := (by first | rfl | (simp; done))) (h := keep_n)))) (slots_c (he := (by first | rfl | (congr 2; simp; done))) (h := trivial)) (.c (.c (.c (.c (.c (.c (.c (.c (.c (.c (.c (.c (.c (.c (.c (.c (.c (.c (.c (.c (.c (.c (.c (.c (.c (.c (.c (.c (.c (.c (.c (.c (.c (.c (.c (.c .n))))))))))))))))))))))))))))))))))))
                                trivial
                                all_goals (dsimp only; simp only [List.length_cons]; omega)
                      · first | omega | contradiction | (exfalso; simp at *; done)
          · simp only [List.length_cons] at hpl
            have hidx : (openL (madeE l))[pre.length]? = some s := by rw [← hp]; simp
            have hgp := kpG_len a b pre
            have hrp := kpR_len a b pre
            refine Ev.sr fun K hK => S.o q.lss (S.end (hK _ ?_))
            clear hK K
            refine Ev.ud (fun c20 => ?_) (fun c20 => ?_)
            · first
            | (first | omega | contradiction)
            | refine Ev.seq ?_
              refine Ev.block ?_
              refine Ev.sr fun K hK => S.o (q.ix am_el31 am_cl38 (hl := (by first | exact ati hidx (by omega) | exact atig (by omega)))) (S.o (q.lsA [_, _, _, _] am_ag38 am_cl38) (S.nn (q.al am_ze38) (S.sv [_, _, _, _] true [_, _, _, _] am_in38 am_cl38 (h := S.end (hK _ ?_)))))
              clear hK K
              refine Ev.sr fun K hK => S.o q.mv (S.o (q.fa 1 am_fi38_1 am_cl9) (S.o (q.lv am_ag9) (S.c0 (hF := rfind_fun a s.mark (by omega)) (h := S.o q.geq (S.bd q.mv (fun c21 => ?_) (fun c21 => ?_))))))
              · first
              | (first | omega | contradiction)
              | refine S.o q.mv (S.o q.mv (S.o (q.fa 1 am_fi38_1 am_cl9) (S.o (q.lv am_ag9) (S.c0 (hF := rkept_fun a b s.mark (by omega) (by omega) hwa hwb) (h := S.o q.not (S.o q.pt (S.end (hK _ ?_))))))))
                clear hK K
                refine Ev.c (fun c22 => ?_) (fun c22 => ?_)
                · first
                | (first | omega | contradiction)
                | have hK := kp_out hA hB (pre := pre) (s := s) (by omega) (by first | assumption | exact nb_t ‹_›)
                  refine Ev.region_S fun K hK => S.o q.mv (S.o (q.fa 0 am_fi38_0 am_cl9) (S.o (q.lv am_ag9) (S.nn (q.bs [[_]] true am_el28 am_ze9 am_cl9) (S.ap' [_, _, _, _, _] am_el28 am_ze9 am_cl9 am_by9 (hh := head_own') (hr := (rows_lit [s.tag])) (h := S.o q.as (S.end (hK _ ?_)))))))
                  clear hK K
                  show Ev _ _ _ _
                  refine Ev.region_S fun K hK => S.o q.add (S.o q.mv (S.end (hK _ ?_)))
                  clear hK K
                  refine hR0 _ _ ?_
                  refine roundU [0, 1, 2, 6] [1, 2, 3, 8, 9, 10, 12, 13, 14, 15, 72, 73] ⟨(pre ++ [s], suf), by rw [← hp]; simp, ?_⟩ ?_ (keep_d (he := (by first | rfl | (simp; done))) (h := (keep_c (he := (by first | rfl | (simp; done))) (h := (keep_c (he := (by first | rfl | (rw [hK.r]; done))) (h := (keep_c (he := (by first | rfl | (rw [hK.g]; done))) (h := keep_n)))))))) (slots_c (he := (by first | rfl | (congr 2; simp; done))) (h := (slots_c (he := (by first | rfl | (rw [hK.r]; done))) (h := (slots_c (he := (by first | rfl | (rw [hK.g]; done))) (h := trivial)))))) (.c (.c (.c (.c (.c (.c (.c (.c (.c (.c (.c (.c .n))))))))))))
                  trivial
                  all_goals (dsimp only; simp only [List.length_cons]; omega)
                · first
                | (first | omega | contradiction)
                | have hK := kp_in hA hB (pre := pre) (s := s) (fun h => by first | omega | assumption | exact nb_f ‹_›)
                  refine Ev.region_S fun K hK => S.o q.mv (S.o (q.lvA [_, _, _, _] am_ag38 am_cl38) (S.nn (q.bs [[_, _, _, _]] true am_el31 am_ze38 am_cl38) (S.ap' [_, _, _, _, _] am_el31 am_ze38 am_cl38 am_by38 (hh := head_own') (hr := (rows_lit [s])) (h := S.o q.as (S.end (hK _ ?_))))))
                  clear hK K
                  show Ev _ _ _ _
                  refine Ev.region_S fun K hK => S.o q.add (S.o q.mv (S.end (hK _ ?_)))
                  clear hK K
                  refine hR0 _ _ ?_
                  refine roundU [0, 1, 6, 3] [1, 2, 3, 8, 9, 10, 12, 13, 14, 15, 72, 73] ⟨(pre ++ [s], suf), by rw [← hp]; simp, ?_⟩ ?_ (keep_d (he := (by first | rfl | (simp; done))) (h := (keep_c (he := (by first | rfl | (simp; done))) (h := (keep_c (he := (by first | rfl | (rw [hK.r]; done))) (h := (keep_c (he := (by first | rfl | (rw [hK.g]; done))) (h := keep_n)))))))) (slots_c (he := (by first | rfl | (congr 2; simp; done))) (h := (slots_c (he := (by first | rfl | (rw [hK.r]; done))) (h := (slots_c (he := (by first | rfl | (rw [hK.g]; done))) (h := trivial)))))) (.c (.c (.c (.c (.c (.c (.c (.c (.c (.c (.c (.c .n))))))))))))
                  trivial
                  all_goals (dsimp only; simp only [List.length_cons]; omega)
              · first
              | (first | omega | contradiction)
              | refine S.sk (S.sk (S.sk (S.sk (S.sk (S.sk (S.o q.pf (S.end (hK _ ?_))))))))
                clear hK K
                refine Ev.cf ?_
                have hK := kp_in hA hB (pre := pre) (s := s) (fun h => by first | omega | assumption | exact nb_f ‹_›)
                refine Ev.region_S fun K hK => S.o q.mv (S.o (q.lvA [_, _, _, _] am_ag38 am_cl38) (S.nn (q.bs [[_, _, _, _]] true am_el31 am_ze38 am_cl38) (S.ap' [_, _, _, _, _] am_el31 am_ze38 am_cl38 am_by38 (hh := head_own') (hr := (rows_lit [s])) (h := S.o q.as (S.end (hK _ ?_))))))
                clear hK K
                show Ev _ _ _ _
                refine Ev.region_S fun K hK => S.o q.add (S.o q.mv (S.end (hK _ ?_)))
                clear hK K
                refine hR0 _ _ ?_
                refine roundU [0, 1, 6, 3] [1, 2, 3, 8, 9, 10, 12, 13, 14, 15, 72, 73] ⟨(pre ++ [s], suf), by rw [← hp]; simp, ?_⟩ ?_ (keep_d (he := (by first | rfl | (simp; done))) (h := (keep_c (he := (by first | rfl | (simp; done))) (h := (keep_c (he := (by first | rfl | (rw [hK.r]; done))) (h := (keep_c (he := (by first | rfl | (rw [hK.g]; done))) (h := keep_n)))))))) (slots_c (he := (by first | rfl | (congr 2; simp; done))) (h := (slots_c (he := (by first | rfl | (rw [hK.r]; done))) (h := (slots_c (he := (by first | rfl | (rw [hK.g]; done))) (h := trivial)))))) (.c (.c (.c (.c (.c (.c (.c (.c (.c (.c (.c (.c .n))))))))))))
                trivial
                all_goals (dsimp only; simp only [List.length_cons]; omega)
            · first | omega | contradiction | (exfalso; simp at *; done)
end Go.Proofs.YthpjfkmhpoeojaaDoor
