/-
  bundle.Parse.
  Conditions: none.
-/
import Derived.Test.YtnbjmckhongidaaGreatDoorBr1
import Derived.Test.YtnbjmckhongidaaGreatDoorMk1
import Derived.Test.YtnbjmckhongidaaGreatDoorMk3
import Derived.Test.YtnbjmckhongidaaGreatDoorAmLate4
import Derived.Shelf.Lay
import Derived.Ground.NamesProg
import Derived.Test.YtnbjmckhongidaaGreatDoorBld
namespace Go.Proofs.YtnbjmckhongidaaGreatDoor
open Go Go.AM
set_option linter.unusedSimpArgs false
set_option linter.unusedVariables false
set_option maxRecDepth 100000
set_option maxHeartbeats 1000000

open Go.Shelf in
shelf_lay LaysC.n172 Nm 172 at Tryz as lays172
theorem atoiOk_fun {w : List UInt8} {v : Int} (hl : w.length ≤ 1000000) (h : Go.Lib.atoiAll w = .ok v) : Fun Tryz.prog 55 [.lit (str w)] (Ret (.tup [.lit (.int .i64 v), .lit .nilIface]) []) :=
  atoi_ok lays172 ⟨_, Tryz.func55, rfl, rfl⟩ (by omega) h
theorem atoiBad_fun {w : List UInt8} (hl : w.length ≤ 1000000) (h : ∀ v, Go.Lib.atoiAll w ≠ .ok v) : Fun Tryz.prog 55 [.lit (str w)] (fun v l => ∃ N : Nat, True ∧ v = .tup [.lit (.int .i64 (atoiV w)), .lit (.iface 138 (.pointer (some ⟨N, 0, none⟩)))] ∧ l = []) :=
  atoi_bad lays172 ⟨_, Tryz.func55, rfl, rfl⟩ (by decide) (by decide) (s := w) (by omega) h
theorem itoaAll_fun {n : Int} (h0 : -9223372036854775808 ≤ n) (h1 : n ≤ 9223372036854775807) : Fun Tryz.prog 18 [.lit (.int .i64 n)] (Ret (.lit (str (Go.Lib.itoa n))) []) :=
  itoa_fun lays171 ⟨_, Tryz.func18, rfl, rfl⟩ (g := 1) (by kernel_rfl) (by unfold laidG; exact List.mem_singleton.2 rfl) h0 h1
theorem un_if52 : Tryz.prog.underlying 52 = some (.interface #[("Error", 58)]) := by kernel_rfl
theorem bnumber_fun (w : List UInt8) (hw : w.length ≤ 1000000) : Fun Tryz.prog 40 [.lit (str w)] (Ret (.tup [.lit (.int .i64 (atoiV w)), .lit (.bool (decide (numOk15 w)))]) []) := by
  obtain ⟨hb1, hb2⟩ := atoiV_bd w
  refine Fun.of (nt := 29) (rs := [.tmp 2, .tmp 3]) Tryz.func40 rfl rfl rfl rfl rfl ?_
  refine Ev.sr fun K hK => S.o q.as (S.o q.as (S.end (hK _ ?_)))
  clear hK K
  refine Ev.sr fun K hK => S.o q.mv ?_
  rcases atoi_two w with ⟨v, hv⟩ | hv
  · skip
    refine S.c0 (hF := atoiOk_fun hw hv) (h := S.o q.mv (S.o q.ex (S.o q.ex (S.o q.as (S.o q.as (S.end (hK _ ?_)))))))
    clear hK K
    refine Ev.sr fun K hK => S.o q.mv (S.o q.mv (S.o (q.ifn un_if52) (S.o q.mv (S.o q.mv (S.o (q.slen am_el9 am_un9) (S.o q.leq (S.o q.pt (S.bd q.mv (fun c1 => ?_) (fun c1 => ?_)))))))))
    · first
    | (first | omega | contradiction)
    | refine S.o q.mv (S.o q.geq (S.o q.pt (S.bd q.mv (fun c2 => ?_) (fun c2 => ?_))))
      · first
      | (first | omega | contradiction)
      | refine S.o q.mv (S.c0 (hF := itoaAll_fun (by first | omega | (have := Go.Lib.atoiAll_bounds hv; omega)) (by first | omega | (have := Go.Lib.atoiAll_bounds hv; omega))) (h := S.o q.mv (S.o q.seqs (S.o q.pt (S.o q.as (S.o q.as (S.end (hK _ ?_))))))))
        clear hK K
        refine Ev.ret ?_
        refine Ev.ret2 ?_
        refine ⟨?_, rfl⟩
        first
         | (rw [decide_eq_false (num_not hv)]; done)
         | (rw [atoiV_ok hv, decide_eq_false (fun h => by have h1 := (num_iff hv).1 h; omega)]; done)
         | (rw [atoiV_ok hv, decide_eq_false (fun h => by have h1 := (num_iff hv).1 h; simp_all)]; done)
         | (rw [atoiV_ok hv, num_dec hv (by omega) (by omega)]; done)
      · first
      | (first | omega | contradiction)
      | refine S.sk (S.sk (S.sk (S.sk (S.o q.pf (S.o q.as (S.o q.as (S.end (hK _ ?_))))))))
        clear hK K
        refine Ev.ret ?_
        refine Ev.ret2 ?_
        refine ⟨?_, rfl⟩
        first
         | (rw [decide_eq_false (num_not hv)]; done)
         | (rw [atoiV_ok hv, decide_eq_false (fun h => by have h1 := (num_iff hv).1 h; omega)]; done)
         | (rw [atoiV_ok hv, decide_eq_false (fun h => by have h1 := (num_iff hv).1 h; simp_all)]; done)
         | (rw [atoiV_ok hv, num_dec hv (by omega) (by omega)]; done)
    · first
    | (first | omega | contradiction)
    | refine S.sk (S.sk (S.o q.pf (S.o q.mv (S.sk (S.sk (S.sk (S.sk (S.o q.pf (S.o q.as (S.o q.as (S.end (hK _ ?_))))))))))))
      clear hK K
      refine Ev.ret ?_
      refine Ev.ret2 ?_
      refine ⟨?_, rfl⟩
      first
       | (rw [decide_eq_false (num_not hv)]; done)
       | (rw [atoiV_ok hv, decide_eq_false (fun h => by have h1 := (num_iff hv).1 h; omega)]; done)
       | (rw [atoiV_ok hv, decide_eq_false (fun h => by have h1 := (num_iff hv).1 h; simp_all)]; done)
       | (rw [atoiV_ok hv, num_dec hv (by omega) (by omega)]; done)
  · skip
    refine S.c0v (hF := atoiBad_fun hw hv) (h := fun N _ => (S.o q.mv (S.o q.ex (S.o q.ex (S.o q.as (S.o q.as (S.end (hK _ ?_))))))))
    clear hK K
    refine Ev.sr fun K hK => S.o q.mv (S.o q.mv (S.o (q.ifi un_if52) (S.o q.mv (S.sk (S.sk (S.sk (S.o q.pf (S.o q.mv (S.sk (S.sk (S.o q.pf (S.o q.mv (S.sk (S.sk (S.sk (S.sk (S.o q.pf (S.o q.as (S.o q.as (S.end (hK _ ?_)))))))))))))))))))))
    clear hK K
    refine Ev.ret ?_
    refine Ev.ret2 ?_
    refine ⟨?_, rfl⟩
    first
     | (rw [decide_eq_false (num_not hv)]; done)
     | (rw [atoiV_ok hv, decide_eq_false (fun h => by have h1 := (num_iff hv).1 h; omega)]; done)
     | (rw [atoiV_ok hv, decide_eq_false (fun h => by have h1 := (num_iff hv).1 h; simp_all)]; done)
     | (rw [atoiV_ok hv, num_dec hv (by omega) (by omega)]; done)

theorem number_yes (w : List UInt8) (hw : w.length ≤ 1000000) (h : numOk15 w) : Fun Tryz.prog 40 [.lit (str w)] (Ret (.tup [.lit (.int .i64 (atoiV w)), .lit (.bool true)]) []) := by
  have := bnumber_fun w hw
  rwa [decide_eq_true h] at this
theorem number_no (w : List UInt8) (hw : w.length ≤ 1000000) (h : ¬ numOk15 w) : Fun Tryz.prog 40 [.lit (str w)] (Ret (.tup [.lit (.int .i64 (atoiV w)), .lit (.bool false)]) []) := by
  have := bnumber_fun w hw
  rwa [decide_eq_false h] at this
theorem split_le {s : List UInt8} : ∀ w ∈ splitG 0 32 s, w.length ≤ s.length := fun w h => by
  have hel : ∀ (c : UInt8) (ws : List (List UInt8)), ∀ w ∈ ws, w.length ≤ (joinS [c] ws).length := by
    intro c ws
    induction ws with
    | nil => intro w h; cases h
    | cons x l ih =>
      intro w h
      rw [joinS, List.length_append]
      rcases List.mem_cons.1 h with rfl | h
      · omega
      · have h1 := ih w h
        rcases l with _ | ⟨y, l⟩
        · cases h
        · rw [sepcat_cons, List.length_cons]; omega
  have := hel 32 _ w h
  rwa [join_split 0 32 (by decide) s] at this
theorem read_short_fun (s : List UInt8) (hs : s.length ≤ 262144) (h4 : ¬ (splitG 0 32 s).length = 4) : Fun Tryz.prog 24 [.lit (str s)] (Ret (.tup [.agg zeroU.c, .lit (.bool false)]) []) := by
  have hsc := splitG_len 0 32 s
  have hc0 : Go.Lib.countByte s 32 ≤ s.length := List.count_le_length
  refine Fun.of (nt := 56) (rs := [.cell 2 46, .tmp 3]) Tryz.func24 rfl rfl rfl rfl rfl ?_
  refine Ev.sr fun K hK => S.nn (q.al am_ze46) (S.o q.as (S.end (hK _ ?_)))
  clear hK K
  refine Ev.sr fun K hK => S.o q.mv (S.c0 (hF := split_fun s 32 (by omega)) (h := S.o q.as (S.end (hK _ ?_))))
  clear hK K
  refine Ev.seq ?_
  refine Ev.sr fun K hK => S.o q.mv (S.o (q.lens am_el57) (S.o q.neq (S.bn q.mv (fun c1 => ?_) (fun c1 => ?_))))
  · first
  | (first | omega | contradiction)
  | refine S.sk (S.sk (S.sk (S.sk (S.sk (S.o q.pt (S.o q.mv (S.sk (S.sk (S.sk (S.sk (S.sk (S.o q.pt (S.end (hK _ ?_))))))))))))))
    clear hK K
    refine Ev.ct ?_
    refine Ev.sr fun K hK => S.o (q.bd [_, _, _, _] am_ze46 am_pl46) (S.sv [_, _, _, _] true [] am_in46 am_cl46 (h := S.o q.as (S.end (hK _ ?_))))
    clear hK K
    refine Ev.ret ?_
    refine Ev.retv2 (res_c [_, _, _, _] am_ag46 am_cl46 (res_t res_n)) ?_
    refine ⟨?_, rfl⟩
    rfl
  · first
  | (first | omega | contradiction)
  | refine S.o q.mv (S.o (q.ix am_el57 am_cl9 (hl := (by first | exact atig (by omega)))) (S.o (q.ls am_ag9) (S.c0 (hF := isName_fun _ (by omega)) (h := S.o q.not (S.o q.pf (S.bn q.mv (fun c2 => ?_) (fun c2 => ?_)))))))
    · first
    | (first | omega | contradiction)
    | refine S.sk (S.sk (S.sk (S.sk (S.sk (S.o q.pt (S.end (hK _ ?_)))))))
      clear hK K
      refine Ev.ct ?_
      refine Ev.sr fun K hK => S.o (q.bd [_, _, _, _] am_ze46 am_pl46) (S.sv [_, _, _, _] true [] am_in46 am_cl46 (h := S.o q.as (S.end (hK _ ?_))))
      clear hK K
      refine Ev.ret ?_
      refine Ev.retv2 (res_c [_, _, _, _] am_ag46 am_cl46 (res_t res_n)) ?_
      refine ⟨?_, rfl⟩
      rfl
    · first
    | (first | omega | contradiction)
    | refine S.o q.mv (S.o (q.ix am_el57 am_cl9 (hl := (by first | exact atig (by omega)))) (S.o (q.ls am_ag9) (S.c0 (hF := isName_fun _ (by omega)) (h := S.o q.not (S.o q.pf (S.end (hK _ ?_)))))))
      clear hK K
      refine Ev.cn (fun c3 => ?_) (fun c3 => ?_)
      · first
      | (first | omega | contradiction)
      | refine Ev.sr fun K hK => S.o (q.bd [_, _, _, _] am_ze46 am_pl46) (S.sv [_, _, _, _] true [] am_in46 am_cl46 (h := S.o q.as (S.end (hK _ ?_))))
        clear hK K
        refine Ev.ret ?_
        refine Ev.retv2 (res_c [_, _, _, _] am_ag46 am_cl46 (res_t res_n)) ?_
        refine ⟨?_, rfl⟩
        rfl
      · first
      | (first | omega | contradiction)
      | refine Ev.skip ?_
        show Ev _ _ _ _
        omega
theorem read_four_fun (z t m a c : List UInt8) (hs : z.length ≤ 262144) (hW : splitG 0 32 z = [t, m, a, c]) : Fun Tryz.prog 24 [.lit (str z)] (Ret (.tup [.agg (readF z).c, .lit (.bool (readB z).isSome)]) []) := by
  obtain ⟨e1, e2⟩ := read_four hW
  have hle : ∀ w ∈ splitG 0 32 z, w.length ≤ 262144 := fun w h => by have := split_le w h; omega
  rw [hW] at hle
  have ht := hle t (by simp)
  have hm := hle m (by simp)
  have ha := hle a (by simp)
  have hc := hle c (by simp)
  have i0 : [t, m, a, c][0]? = some t := rfl
  have i1 : [t, m, a, c][1]? = some m := rfl
  have i2 : [t, m, a, c][2]? = some a := rfl
  have i3 : [t, m, a, c][3]? = some c := rfl
  rw [e1, e2]
  clear e1 e2
  refine Fun.of (nt := 56) (rs := [.cell 2 46, .tmp 3]) Tryz.func24 rfl rfl rfl rfl rfl ?_
  refine Ev.sr fun K hK => S.nn (q.al am_ze46) (S.o q.as (S.end (hK _ ?_)))
  clear hK K
  refine Ev.sr fun K hK => S.o q.mv (S.c0 (hF := split_fun z 32 (by omega)) (h := S.o q.as (S.end (hK _ ?_))))
  clear hK K
  refine Ev.seq ?_
  rw [hW]
  refine Ev.sr fun K hK => S.o q.mv (S.o (q.lens am_el57) (S.o q.neq (S.bn q.mv (fun c1 => ?_) (fun c1 => ?_))))
  · first
  | (first | omega | contradiction)
  | refine S.sk (S.sk (S.sk (S.sk (S.sk (S.o q.pt (S.o q.mv (S.sk (S.sk (S.sk (S.sk (S.sk (S.o q.pt (S.end (hK _ ?_))))))))))))))
    clear hK K
    refine Ev.ct ?_
    refine Ev.sr fun K hK => S.o (q.bd [_, _, _, _] am_ze46 am_pl46) (S.sv [_, _, _, _] true [] am_in46 am_cl46 (h := S.o q.as (S.end (hK _ ?_))))
    clear hK K
    refine Ev.ret ?_
    refine Ev.retv2 (res_c [_, _, _, _] am_ag46 am_cl46 (res_t res_n)) ?_
    refine ⟨?_, rfl⟩
    first
     | (rw [if_neg (fun h => absurd h.1 ‹¬ IsName t›), decide_eq_false ‹¬ IsName t›]; rfl)
     | (rw [if_neg (fun h => absurd h.2 ‹¬ IsName m›), decide_eq_false ‹¬ IsName m›, Bool.false_and, Bool.and_false]; rfl)
     | (rw [if_pos ⟨‹IsName t›, ‹IsName m›⟩, decide_eq_true ‹IsName t›, decide_eq_true ‹IsName m›, decide_eq_true hna]; rfl)
     | (rw [if_pos ⟨‹IsName t›, ‹IsName m›⟩, decide_eq_true ‹IsName t›, decide_eq_true ‹IsName m›, decide_eq_false hna]; rfl)
  · first
  | (first | omega | contradiction)
  | refine S.o q.mv (S.o (q.ix am_el57 am_cl9 (hl := (by first | exact ati i0 (by omega) | exact ati i1 (by omega) | exact ati i2 (by omega) | exact ati i3 (by omega) | exact atig (by omega)))) (S.o (q.ls am_ag9) (S.c0 (hF := isName_fun _ (by omega)) (h := S.o q.not (S.o q.pf (S.bn q.mv (fun c2 => ?_) (fun c2 => ?_)))))))
    · first
    | (first | omega | contradiction)
    | refine S.sk (S.sk (S.sk (S.sk (S.sk (S.o q.pt (S.end (hK _ ?_)))))))
      clear hK K
      refine Ev.ct ?_
      refine Ev.sr fun K hK => S.o (q.bd [_, _, _, _] am_ze46 am_pl46) (S.sv [_, _, _, _] true [] am_in46 am_cl46 (h := S.o q.as (S.end (hK _ ?_))))
      clear hK K
      refine Ev.ret ?_
      refine Ev.retv2 (res_c [_, _, _, _] am_ag46 am_cl46 (res_t res_n)) ?_
      refine ⟨?_, rfl⟩
      first
       | (rw [if_neg (fun h => absurd h.1 ‹¬ IsName t›), decide_eq_false ‹¬ IsName t›]; rfl)
       | (rw [if_neg (fun h => absurd h.2 ‹¬ IsName m›), decide_eq_false ‹¬ IsName m›, Bool.false_and, Bool.and_false]; rfl)
       | (rw [if_pos ⟨‹IsName t›, ‹IsName m›⟩, decide_eq_true ‹IsName t›, decide_eq_true ‹IsName m›, decide_eq_true hna]; rfl)
       | (rw [if_pos ⟨‹IsName t›, ‹IsName m›⟩, decide_eq_true ‹IsName t›, decide_eq_true ‹IsName m›, decide_eq_false hna]; rfl)
    · first
    | (first | omega | contradiction)
    | refine S.o q.mv (S.o (q.ix am_el57 am_cl9 (hl := (by first | exact ati i0 (by omega) | exact ati i1 (by omega) | exact ati i2 (by omega) | exact ati i3 (by omega) | exact atig (by omega)))) (S.o (q.ls am_ag9) (S.c0 (hF := isName_fun _ (by omega)) (h := S.o q.not (S.o q.pf (S.end (hK _ ?_)))))))
      clear hK K
      refine Ev.cn (fun c3 => ?_) (fun c3 => ?_)
      · first
      | (first | omega | contradiction)
      | refine Ev.sr fun K hK => S.o (q.bd [_, _, _, _] am_ze46 am_pl46) (S.sv [_, _, _, _] true [] am_in46 am_cl46 (h := S.o q.as (S.end (hK _ ?_))))
        clear hK K
        refine Ev.ret ?_
        refine Ev.retv2 (res_c [_, _, _, _] am_ag46 am_cl46 (res_t res_n)) ?_
        refine ⟨?_, rfl⟩
        first
         | (rw [if_neg (fun h => absurd h.1 ‹¬ IsName t›), decide_eq_false ‹¬ IsName t›]; rfl)
         | (rw [if_neg (fun h => absurd h.2 ‹¬ IsName m›), decide_eq_false ‹¬ IsName m›, Bool.false_and, Bool.and_false]; rfl)
         | (rw [if_pos ⟨‹IsName t›, ‹IsName m›⟩, decide_eq_true ‹IsName t›, decide_eq_true ‹IsName m›, decide_eq_true hna]; rfl)
         | (rw [if_pos ⟨‹IsName t›, ‹IsName m›⟩, decide_eq_true ‹IsName t›, decide_eq_true ‹IsName m›, decide_eq_false hna]; rfl)
      · first
      | (first | omega | contradiction)
      | refine Ev.skip ?_
        show Ev _ _ _ _
        refine Ev.sr fun K hK => S.o q.mv (S.o (q.ix am_el57 am_cl9 (hl := (by first | exact ati i0 (by omega) | exact ati i1 (by omega) | exact ati i2 (by omega) | exact ati i3 (by omega) | exact atig (by omega)))) (S.o (q.ls am_ag9) ?_))
        by_cases hna : numOk15 a
        · skip
          refine S.c0 (hF := number_yes _ (by omega) hna) (h := S.o q.mv (S.o q.ex (S.o q.ex (S.o q.as (S.o q.as (S.end (hK _ ?_)))))))
          clear hK K
          refine Ev.sr fun K hK => S.o q.mv (S.o (q.ix am_el57 am_cl9 (hl := (by first | exact ati i0 (by omega) | exact ati i1 (by omega) | exact ati i2 (by omega) | exact ati i3 (by omega) | exact atig (by omega)))) (S.o (q.ls am_ag9) (S.c0 (hF := bnumber_fun _ (by omega)) (h := S.o q.mv (S.o q.ex (S.o q.ex (S.o q.as (S.o q.as (S.end (hK _ ?_))))))))))
          clear hK K
          refine Ev.sz (tbs [(0, 0), (1, 1), (2, 3), (0, 0), (4, 8), (5, 24), (0, 0), (0, 0), (8, 255), (0, 0), (10, 512), (11, 1536), (12, 3584), (11, 2047), (14, 16383)]) 13 fun K hK => M.o q.mv (M.o (q.ix am_el57 am_cl9 (hl := (by first | exact ati i0 (by omega) | exact ati i1 (by omega) | exact ati i2 (by omega) | exact ati i3 (by omega) | exact atig (by omega)))) (M.o (q.ls am_ag9) (M.o q.mv (M.o (q.ix am_el57 am_cl9 (hl := (by first | exact ati i0 (by omega) | exact ati i1 (by omega) | exact ati i2 (by omega) | exact ati i3 (by omega) | exact atig (by omega)))) (M.o (q.ls am_ag9) (M.o q.mv (M.o q.mv (M.o (q.bd [_, _, _, _] am_ze46 am_pl46) (M.o q.mv (M.o q.mv (M.o q.mv (M.o q.pt (M.ste [_, _, _, _] true [true, true, true, true, true, true, true, true, true, true, true, false, false] [] [_] am_in46 am_cl46 (hfr := FreeL.skip (FreeL.skip (FreeL.skip (FreeL.skip (FreeL.skip (FreeL.skip (FreeL.skip (FreeL.skip (FreeL.skip (FreeL.skip (FreeL.skip (FreeL.o q.mv (FreeL.o q.pt (.nil)))))))))))))) (h := S.o q.as (S.end (hK _ ?_))))))))))))))))
          clear hK K
          refine Ev.ret ?_
          refine Ev.retv2 (res_c [_, _, _, _] am_ag46 am_cl46 (res_t res_n)) ?_
          refine ⟨?_, rfl⟩
          first
           | (rw [if_neg (fun h => absurd h.1 ‹¬ IsName t›), decide_eq_false ‹¬ IsName t›]; rfl)
           | (rw [if_neg (fun h => absurd h.2 ‹¬ IsName m›), decide_eq_false ‹¬ IsName m›, Bool.false_and, Bool.and_false]; rfl)
           | (rw [if_pos ⟨‹IsName t›, ‹IsName m›⟩, decide_eq_true ‹IsName t›, decide_eq_true ‹IsName m›, decide_eq_true hna]; rfl)
           | (rw [if_pos ⟨‹IsName t›, ‹IsName m›⟩, decide_eq_true ‹IsName t›, decide_eq_true ‹IsName m›, decide_eq_false hna]; rfl)
        · skip
          refine S.c0 (hF := number_no _ (by omega) hna) (h := S.o q.mv (S.o q.ex (S.o q.ex (S.o q.as (S.o q.as (S.end (hK _ ?_)))))))
          clear hK K
          refine Ev.sr fun K hK => S.o q.mv (S.o (q.ix am_el57 am_cl9 (hl := (by first | exact ati i0 (by omega) | exact ati i1 (by omega) | exact ati i2 (by omega) | exact ati i3 (by omega) | exact atig (by omega)))) (S.o (q.ls am_ag9) (S.c0 (hF := bnumber_fun _ (by omega)) (h := S.o q.mv (S.o q.ex (S.o q.ex (S.o q.as (S.o q.as (S.end (hK _ ?_))))))))))
          clear hK K
          refine Ev.sz (tbs [(0, 0), (1, 1), (2, 3), (0, 0), (4, 8), (5, 24), (0, 0), (0, 0), (8, 255), (0, 0), (10, 512), (11, 1536), (12, 3584), (11, 2047), (14, 16383)]) 13 fun K hK => M.o q.mv (M.o (q.ix am_el57 am_cl9 (hl := (by first | exact ati i0 (by omega) | exact ati i1 (by omega) | exact ati i2 (by omega) | exact ati i3 (by omega) | exact atig (by omega)))) (M.o (q.ls am_ag9) (M.o q.mv (M.o (q.ix am_el57 am_cl9 (hl := (by first | exact ati i0 (by omega) | exact ati i1 (by omega) | exact ati i2 (by omega) | exact ati i3 (by omega) | exact atig (by omega)))) (M.o (q.ls am_ag9) (M.o q.mv (M.o q.mv (M.o (q.bd [_, _, _, _] am_ze46 am_pl46) (M.o q.mv (M.o q.mv (M.sk (M.o q.pf (M.ste [_, _, _, _] true [true, true, true, true, true, true, true, true, true, true, true, false, false] [] [_] am_in46 am_cl46 (hfr := FreeL.skip (FreeL.skip (FreeL.skip (FreeL.skip (FreeL.skip (FreeL.skip (FreeL.skip (FreeL.skip (FreeL.skip (FreeL.skip (FreeL.skip (FreeL.s (FreeL.o q.pf (.nil)))))))))))))) (h := S.o q.as (S.end (hK _ ?_))))))))))))))))
          clear hK K
          refine Ev.ret ?_
          refine Ev.retv2 (res_c [_, _, _, _] am_ag46 am_cl46 (res_t res_n)) ?_
          refine ⟨?_, rfl⟩
          first
           | (rw [if_neg (fun h => absurd h.1 ‹¬ IsName t›), decide_eq_false ‹¬ IsName t›]; rfl)
           | (rw [if_neg (fun h => absurd h.2 ‹¬ IsName m›), decide_eq_false ‹¬ IsName m›, Bool.false_and, Bool.and_false]; rfl)
           | (rw [if_pos ⟨‹IsName t›, ‹IsName m›⟩, decide_eq_true ‹IsName t›, decide_eq_true ‹IsName m›, decide_eq_true hna]; rfl)
           | (rw [if_pos ⟨‹IsName t›, ‹IsName m›⟩, decide_eq_true ‹IsName t›, decide_eq_true ‹IsName m›, decide_eq_false hna]; rfl)
theorem read_fun (s : List UInt8) (hs : s.length ≤ 262144) : Fun Tryz.prog 24 [.lit (str s)] (Ret (.tup [.agg (readF s).c, .lit (.bool (readB s).isSome)]) []) := by
  by_cases h4 : (splitG 0 32 s).length = 4
  · obtain ⟨t, m, a, c, hW⟩ := four h4
    exact read_four_fun s t m a c hs hW
  · obtain ⟨e1, e2⟩ := read_short h4
    rw [e1, e2]
    exact read_short_fun s hs h4
theorem read_none {l : List UInt8} (hs : l.length ≤ 262144) (h : readB l = none) : Fun Tryz.prog 24 [.lit (str l)] (Ret (.tup [.agg (readF l).c, .lit (.bool false)]) []) := by
  have := read_fun l hs
  rwa [h] at this
theorem read_some {l : List UInt8} {x : Bundle} (hs : l.length ≤ 262144) (h : readB l = some x) : Fun Tryz.prog 24 [.lit (str l)] (Ret (.tup [.agg x.c, .lit (.bool true)]) []) := by
  have := read_fun l hs
  rwa [h, readF_some h] at this
theorem Parse_fun (z : List UInt8) (hz : z.length ≤ 140737488355328) : Fun Tryz.prog 9 [.lit (str z)] (Ret (.tup [.sh 4 ((parseV z).map Bundle.c), .agg [.lit (.int .i64 (parseL z)), .lit (.int .i64 (parseC z))], .lit (.int .i64 (parseE z))]) []) := by
  refine Fun.of (nt := 50) (rs := [.tmp 2, .cell 3 31, .tmp 4]) Tryz.func9 rfl rfl rfl rfl rfl ?_
  refine Ev.sr fun K hK => S.o q.as (S.nn (q.al am_ze31) (S.o q.as (S.end (hK _ ?_))))
  clear hK K
  refine Ev.seq ?_
  refine Ev.sr fun K hK => S.o q.mv (S.o (q.slen am_el9 am_un9) (S.o q.gtr (S.end (hK _ ?_))))
  clear hK K
  refine Ev.cd (fun c1 => ?_) (fun c1 => ?_)
  · first
  | (first | omega | contradiction)
  | obtain ⟨e1, e2, e3, e4⟩ := parse_long (s := z) (by omega)
    rw [e1, e2, e3, e4]
    refine Ev.sr fun K hK => S.o (q.bd [_, _] am_ze31 am_pl31) (S.o q.as (S.sv [_, _] true [] am_in31 am_cl31 (h := S.o q.as (S.end (hK _ ?_)))))
    clear hK K
    refine Ev.weaken (Wk.nsh Bundle.c 2 4) ?_
    refine Ev.ret ?_
    refine Ev.retv3 (res_t (res_c [_, _] am_ag31 am_cl31 (res_t res_n))) ?_
    refine ⟨?_, rfl⟩
    first | rfl | (rw [e1, e2, e3, e4]; done) | (rw [e1, e2, e3, e4] <;> rfl)
  · first
  | (first | omega | contradiction)
  | refine Ev.skip ?_
    show Ev _ _ _ _
    have hz2 : z.length ≤ 262144 := by omega
    refine Ev.sr fun K hK => S.o q.as (S.end (hK _ ?_))
    clear hK K
    refine Ev.seq ?_
    refine Ev.sr fun K hK => S.o q.as (S.end (hK _ ?_))
    clear hK K
    refine Ev.block ?_
    refine Ev.weaken (Wk.nown Bundle.c 5 46 4) ?_
    refine Ev.loopU (ι := {q : List Bundle × List UInt8 // readL (splitG 0 10 q.2) q.1 = readR z ∧ q.1.length + q.2.length ≤ z.length ∧ bunW q.1}) [1, 0] [3] (fun ⟨(bs, r), _⟩ => [(0, .lit (str (r))), (6, .lit (.int .i64 (((bs.length : Int) + 1)))), (5, .als 0 0 (bs).length)]) (fun ⟨(bs, r), _⟩ => [(0, ⟨true, 46, 4, (bs).map Bundle.c, true⟩), (1, ⟨false, 31, 2, [[.lit (.int .i64 (0)), .lit (.int .i64 (0))]], true⟩)]) (fun ⟨(bs, r), _⟩ => r.length) ⟨([], z), rfl, by simp, fun x hx => by cases hx⟩ (.c .n) (keep_c (he := (by first | rfl | (simp; done))) (h := (keep_c (he := (by first | rfl | (simp; done))) (h := keep_n)))) (slots_c (he := (by first | rfl | (simp; done) | (congr 2; omega))) (h := (slots_c (he := (by first | rfl | exact iE (by simp; done))) (h := (slots_c (he := (by first | rfl | (simp; done) | (congr 2; omega))) (h := trivial)))))) ?_
    rintro ⟨⟨bs, r⟩, hr, hl, hw⟩ R0 hR0
    dsimp only [List.cons_append, List.nil_append, List.length_cons, List.length_nil]
    simp only at hr hl hw
    rcases r with _ | ⟨r0, r'⟩
    · rw [show readL (splitG 0 10 []) bs = (bs, 0) by simp [splitG, readL]] at hr; simp only [List.length_nil] at hl
      refine Ev.seq ?_
      refine Ev.sr fun K hK => S.o q.mv (S.o q.snes (S.end (hK _ ?_)))
      clear hK K
      refine Ev.cn (fun c2 => ?_) (fun c2 => ?_)
      · first | omega | contradiction
      · first
      | (first | omega | contradiction)
      | refine Ev.exit ?_
        refine hR0 _ _ ?_
        show Ev _ _ _ _
        refine Ev.seq ?_
        refine Ev.weaken (Wk.frz 5 [_]) ?_
        refine Ev.sr fun K hK => S.o q.mv (S.c0 (hF := bvalid_fun _ (by omega) (by assumption)) (h := S.o q.not (S.end (hK _ ?_))))
        clear hK K
        refine Ev.cn (fun c3 => ?_) (fun c3 => ?_)
        · first
        | (first | omega | contradiction)
        | obtain ⟨e1, e2, e3, e4⟩ := parse_arg hz2 hr.symm ‹¬ okBuns bs›
          refine Ev.sr fun K hK => S.o (q.bd [_, _] am_ze31 am_pl31) (S.o q.as (S.sv [_, _] true [] am_in31 am_cl31 (h := S.o q.as (S.end (hK _ ?_)))))
          clear hK K
          refine Ev.weaken (Wk.nsh Bundle.c 2 4) ?_
          refine Ev.ret ?_
          refine Ev.retv3 (res_t (res_c [_, _] am_ag31 am_cl31 (res_t res_n))) ?_
          refine ⟨?_, rfl⟩
          first | rfl | (rw [e1, e2, e3, e4]; done) | (rw [e1, e2, e3, e4] <;> rfl)
        · first
        | (first | omega | contradiction)
        | refine Ev.skip ?_
          show Ev _ _ _ _
          obtain ⟨e1, e2, e3, e4⟩ := parse_ok hz2 hr.symm ‹okBuns bs›
          refine Ev.sr fun K hK => S.o q.mv (S.o (q.bd [_, _] am_ze31 am_pl31) (S.o q.as (S.sv [_, _] true [] am_in31 am_cl31 (h := S.o q.as (S.end (hK _ ?_))))))
          clear hK K
          refine Ev.ret ?_
          refine Ev.retv3 (res_t (res_c [_, _] am_ag31 am_cl31 (res_t res_n))) ?_
          refine ⟨?_, rfl⟩
          first | rfl | (rw [e1, e2, e3, e4]; done) | (rw [e1, e2, e3, e4] <;> rfl)
    · obtain ⟨R, hR⟩ : ∃ R, r0 :: r' = R := ⟨_, rfl⟩
      have hRne : R ≠ [] := by rw [← hR]; simp
      rw [hR] at hr hl ⊢
      obtain ⟨q1, q2, q3, q4, q5⟩ := read_cut R bs hRne
      obtain ⟨⟨l, t, e⟩, hcut⟩ : ∃ p, cutB 10 R = p := ⟨_, rfl⟩
      rw [hcut] at q1 q2 q3 q4 q5
      simp only at q1 q2 q3 q4 q5
      have hRl : (r0 :: r').length = R.length := by rw [hR]
      refine Ev.seq ?_
      refine Ev.sr fun K hK => S.o q.mv (S.o q.snes (S.end (hK _ ?_)))
      clear hK K
      refine Ev.cn (fun c4 => ?_) (fun c4 => ?_)
      · first
      | (first | omega | contradiction)
      | refine Ev.skip ?_
        show Ev _ _ _ _
        refine Ev.seq ?_
        refine Ev.block ?_
        refine Ev.sr fun K hK => S.o q.mv (S.c0 (hF := strCut_fun _ 10 (by omega)) (h := S.o q.mv (S.o q.ex (S.o q.ex (S.o q.ex (S.o q.as (S.o q.as (S.o q.as (S.end (hK _ ?_))))))))))
        clear hK K
        rw [hcut]
        refine Ev.sr fun K hK => S.o q.mv ?_
        rcases hb : readB l with _ | x
        · skip
          refine S.c0 (hF := read_none (by omega) hb) (h := S.o q.mv (S.o q.ex (S.o q.ex (S.nn (q.al am_ze46) (S.sv [_, _, _, _] true [_, _] am_in46 am_cl46 (h := S.o q.as (S.end (hK _ ?_))))))))
          clear hK K
          refine Ev.seq ?_
          refine Ev.sr fun K hK => S.o q.mv (S.o q.notf (S.o q.mv (S.sk (S.sk (S.o q.pt (S.end (hK _ ?_)))))))
          clear hK K
          refine Ev.ct ?_
          obtain ⟨e1, e2, e3, e4⟩ := parse_bad (n := (bs.length : Int) + 1) (x := []) hz2 (by rw [← hr]; first | exact q3 ‹e = false› | exact q3 (by simpa using ‹(!e) = true›) | (cases he : e; (exact q3 he); (exact q4 he hb))) (by omega)
          refine Ev.sr fun K hK => S.o q.mv (S.o (q.bd [_, _] am_ze31 am_pl31) (S.o q.as (S.sv [_, _] true [_, _] am_in31 am_cl31 (h := S.o q.as (S.end (hK _ ?_))))))
          clear hK K
          refine Ev.weaken (Wk.nsh Bundle.c 2 4) ?_
          refine Ev.ret ?_
          refine hR0 _ _ ?_
          refine Ev.retv3 (res_t (res_c [_, _] am_ag31 am_cl31 (res_t res_n))) ?_
          refine ⟨?_, rfl⟩
          first | rfl | (rw [e1, e2, e3, e4]; done) | (rw [e1, e2, e3, e4] <;> rfl)
        · skip
          refine S.c0 (hF := read_some (by omega) hb) (h := S.o q.mv (S.o q.ex (S.o q.ex (S.nn (q.al am_ze46) (S.sv [_, _, _, _] true [_, _] am_in46 am_cl46 (h := S.o q.as (S.end (hK _ ?_))))))))
          clear hK K
          refine Ev.seq ?_
          refine Ev.sr fun K hK => S.o q.mv (S.o q.nott (S.o q.mv (S.o q.mv (S.o q.not (S.o q.pf (S.end (hK _ ?_)))))))
          clear hK K
          refine Ev.c (fun c5 => ?_) (fun c5 => ?_)
          · first
          | (first | omega | contradiction)
          | obtain ⟨e1, e2, e3, e4⟩ := parse_bad (n := (bs.length : Int) + 1) (x := []) hz2 (by rw [← hr]; first | exact q3 ‹e = false› | exact q3 (by simpa using ‹(!e) = true›) | (cases he : e; (exact q3 he); (exact q4 he hb))) (by omega)
            refine Ev.sr fun K hK => S.o q.mv (S.o (q.bd [_, _] am_ze31 am_pl31) (S.o q.as (S.sv [_, _] true [_, _] am_in31 am_cl31 (h := S.o q.as (S.end (hK _ ?_))))))
            clear hK K
            refine Ev.weaken (Wk.nsh Bundle.c 2 4) ?_
            refine Ev.ret ?_
            refine hR0 _ _ ?_
            refine Ev.retv3 (res_t (res_c [_, _] am_ag31 am_cl31 (res_t res_n))) ?_
            refine ⟨?_, rfl⟩
            first | rfl | (rw [e1, e2, e3, e4]; done) | (rw [e1, e2, e3, e4] <;> rfl)
          · first
          | (first | omega | contradiction)
          | refine Ev.skip ?_
            show Ev _ _ _ _
            refine Ev.region_S fun K hK => S.o q.mv (S.o (q.lvA [_, _, _, _] am_ag46 am_cl46) (S.nn (q.bs [[_, _, _, _]] true am_el22 am_ze46 am_cl46) (S.ap' [_, _, _] am_el22 am_ze46 am_cl46 am_by46 (hh := head_own') (hr := (rows_lit [x])) (h := S.o q.mv (S.o q.as (S.o q.as (S.end (hK _ ?_))))))))
            clear hK K
            show Ev _ _ _ _
            refine Ev.region_S fun K hK => S.o q.mv (S.o q.add (S.o q.as (S.end (hK _ ?_))))
            clear hK K
            refine hR0 _ _ ?_
            refine roundU [4, 1] [3] ⟨(bs ++ [x], t), ?_, ?_, ?_⟩ ?_ (keep_c (he := (by first | rfl | (simp; done))) (h := (keep_c (he := (by first | rfl | (simp; done))) (h := keep_n)))) (slots_c (he := (by first | rfl | (simp; done) | (congr 2; omega))) (h := (slots_c (he := (by first | rfl | exact iE (by simp; done))) (h := (slots_c (he := (by first | rfl | (simp; done) | (congr 2; omega))) (h := trivial)))))) (.c .n)
            all_goals first | (exact (q5 x (by first | assumption | simpa using ‹(!e) = false›) hb).symm.trans hr) | (dsimp only; omega) | (simp only [List.length_append, List.length_singleton]; omega) | (intro y hy; simp only [List.mem_append, List.mem_singleton] at hy; rcases hy with hy | rfl; (exact hw y hy); (exact readB_w hb))
            all_goals (dsimp only; omega)
      · first | omega | contradiction
end Go.Proofs.YtnbjmckhongidaaGreatDoor
namespace Go.Proofs.YtnbjmckhongidaaGreatDoor
open Go Go.AM
set_option linter.unusedSimpArgs false
set_option linter.unusedVariables false
set_option maxRecDepth 100000
set_option maxHeartbeats 1000000

def textV (l : List Bundle) : List UInt8 := if okBuns l then textU l else []
def textE (l : List Bundle) : Int := if okBuns l then 0 else 1
theorem lineX_len {b : Bundle} (h : okBun b) : (lineX b).length ≤ 90 ∧ 0 < (lineX b).length ∧ (Go.Lib.itoa b.count).length ≤ 15 ∧ (Go.Lib.itoa b.mass).length ≤ 15 := by
  have h1 := (isName_len h.1).2
  have h2 := (isName_len h.2.1).2
  have h3 := itoa_len15 (n := b.count) (by have := h.2.2.1; omega) (by have := h.2.2.2.1; omega)
  have h4 := itoa_len15 (n := b.mass) (by have := h.2.2.2.2.1; omega) h.2.2.2.2.2
  have e : lineX b = b.tag ++ ([32] ++ b.mark ++ ([32] ++ Go.Lib.itoa b.count ++ ([32] ++ Go.Lib.itoa b.mass ++ [10]))) := by simp [lineX, joinS, wordsU, sepcat]
  rw [e]
  simp only [List.length_append, List.length_singleton]
  omega
theorem textU_len : ∀ l : List Bundle, (∀ c ∈ l, okBun c) → (textU l).length ≤ 90 * l.length := by
  refine snoc_ind (fun _ => by simp [textU]) ?_
  intro l s ih h
  have := ih fun b hb => h b (by simp [hb])
  have := (lineX_len (h s (by simp))).1
  rw [textU_snoc, List.length_append, List.length_append, List.length_singleton, Nat.mul_add]
  omega
theorem wordsU_len {b : Bundle} (h : okBun b) : ∀ x ∈ wordsU b, x.length ≤ 1000000 := by
  have h1 := (isName_len h.1).2
  have h2 := (isName_len h.2.1).2
  obtain ⟨_, _, h3, h4⟩ := lineX_len h
  intro x hx
  simp only [wordsU, List.mem_cons, List.not_mem_nil, or_false] at hx
  rcases hx with rfl | rfl | rfl | rfl <;> omega
theorem Text_nil : Fun Tryz.prog 6 [.sh 4 (([] : List Bundle).map Bundle.c)] (Ret (.tup [.lit (str []), .lit (.int .i64 0)]) []) := by
  have hw : bunW [] := fun c hc => by simp at hc
  have hl0 : ([] : List Bundle).length ≤ 140737488355328 := by decide
  have hok : okBuns [] := by decide
  refine Fun.of (nt := 32) (rs := [.tmp 2, .tmp 3]) Tryz.func6 rfl rfl rfl rfl rfl ?_
  refine Ev.sr fun K hK => S.o q.as (S.o q.as (S.end (hK _ ?_)))
  clear hK K
  refine Ev.seq ?_
  refine Ev.sr fun K hK => S.o q.mv (S.c0 (hF := bvalid_fun _ (by omega) (by assumption)) (h := S.o q.not (S.end (hK _ ?_))))
  clear hK K
  refine Ev.cn (fun c1 => ?_) (fun c1 => ?_)
  · first
  | (first | omega | contradiction)
  | contradiction
  · first
  | (first | omega | contradiction)
  | refine Ev.skip ?_
    show Ev _ _ _ _
    refine Ev.sr fun K hK => S.nn (q.al am_ze50) (S.end (hK _ ?_))
    clear hK K
    refine Ev.seq ?_
    refine Ev.sr fun K hK => S.o q.mv (S.o (q.lens am_el22) (S.o q.mv (S.end (hK _ ?_))))
    clear hK K
    refine Ev.block ?_
    refine Ev.loopU (ι := Unit) [0] [2, 3, 4, 10, 11] (fun _ => [(12, .lit (.int .i64 (0)))]) (fun _ => [(0, ⟨false, 50, 2, [[.lit (.pointer none), .lit (.slice none 0 0)]], true⟩)]) (fun _ => 0) () (.c (.c (.c (.c (.c .n))))) (keep_c (he := (by first | rfl | (simp; done))) (h := keep_n)) (slots_c (he := (by first | rfl | (simp; done) | (congr 2; omega))) (h := trivial)) ?_
    rintro ⟨⟩ R0 hR0
    dsimp only [List.cons_append, List.nil_append, List.length_cons, List.length_nil]
    refine Ev.sr fun K hK => S.o q.lss (S.end (hK _ ?_))
    clear hK K
    refine Ev.ud (fun c2 => ?_) (fun c2 => ?_)
    · first
    | (first | omega | contradiction)
    | refine Ev.seq ?_
      refine Ev.block ?_
      omega
    · first
    | (first | omega | contradiction)
    | refine Ev.exit ?_
      refine hR0 _ _ ?_
      show Ev _ _ _ _
      refine Ev.sr fun K hK => S.cR [0] 1 [_] (hob := (keep_c (he := rfl) (h := keep_n))) (hF := string0_fun) (hn' := belowL rfl rfl) (h := S.o q.as (S.o q.as (S.end (hK _ ?_))))
      clear hK K
      refine Ev.ret ?_
      refine Ev.ret2 ?_
      refine ⟨?_, rfl⟩
      rfl
theorem Text_cons (l : List Bundle) (hne : l.isEmpty = false) (hl : l.length ≤ 140737488355328) (hw : bunW l) : Fun Tryz.prog 6 [.sh 4 (l.map Bundle.c)] (Ret (.tup [.lit (str (textV l)), .lit (.int .i64 (textE l))]) []) := by
  refine Fun.of (nt := 32) (rs := [.tmp 2, .tmp 3]) Tryz.func6 rfl rfl rfl rfl rfl ?_
  refine Ev.sr fun K hK => S.o q.as (S.o q.as (S.end (hK _ ?_)))
  clear hK K
  refine Ev.seq ?_
  refine Ev.sr fun K hK => S.o q.mv (S.c0 (hF := bvalid_fun _ (by omega) (by assumption)) (h := S.o q.not (S.end (hK _ ?_))))
  clear hK K
  refine Ev.cn (fun c1 => ?_) (fun c1 => ?_)
  · first
  | (first | omega | contradiction)
  | refine Ev.sr fun K hK => S.o q.as (S.o q.as (S.end (hK _ ?_)))
    clear hK K
    refine Ev.ret ?_
    refine Ev.ret2 ?_
    refine ⟨?_, rfl⟩
    first
     | (rw [show textV l = [] from if_neg ‹_›, show textE l = 1 from if_neg ‹_›]; done)
     | (rw [show textV l = textU l from if_pos hyes, show textE l = 0 from if_pos hyes]; done)
  · first
  | (first | omega | contradiction)
  | refine Ev.skip ?_
    show Ev _ _ _ _
    have hyes : okBuns l := ‹_›
    have hll := hyes.1
    have h0 : 0 < l.length := by cases l with | nil => simp at hne | cons => simp
    refine Ev.sr fun K hK => S.nn (q.al am_ze50) (S.end (hK _ ?_))
    clear hK K
    refine Ev.seq ?_
    refine Ev.weaken (Wk.nilv (f := byteC) 0 1 5 1 []) ?_
    refine Ev.sr fun K hK => S.o q.mv (S.o (q.lens am_el22) (S.o q.mv (S.end (hK _ ?_))))
    clear hK K
    refine Ev.block ?_
    refine Ev.loopU (ι := {p : List (Bundle) × List (Bundle) // p.1 ++ p.2 = l ∧ True}) [0, 1] [2, 3, 4, 10, 11] (fun ⟨(pre, suf), _⟩ => [(12, .lit (.int .i64 ((pre.length : Int))))]) (fun ⟨(pre, suf), _⟩ => [(0, ⟨false, 50, 2, [[bp (!pre.isEmpty) 0, .als 1 0 (textU pre).length]], false⟩), (1, ⟨true, 5, 1, (textU pre).map byteC, true⟩)]) (fun ⟨(pre, suf), _⟩ => suf.length) ⟨([], l), rfl, trivial⟩ (.c (.c (.c (.c (.c .n))))) (keep_d (hr := (by first | exact rfl | exact bp_ren rfl rfl)) (he := (by first | rfl | (simp only [textU_snoc, List.append_assoc]; done) | (simp only [textU_snoc, List.append_assoc, bp_snoc]; done))) (h := (keep_c (he := (by first | rfl | (simp only [textU_snoc, List.append_assoc]; done) | (simp only [textU_snoc, List.append_assoc, bp_snoc]; done))) (h := keep_n)))) (slots_c (he := (by first | rfl | (congr 2; simp; done))) (h := trivial)) ?_
    rintro ⟨⟨pre, suf⟩, hp, hinv⟩ R0 hR0
    dsimp only [List.cons_append, List.nil_append, List.length_cons, List.length_nil]
    simp only at hp hinv
    have hpl : pre.length + suf.length = (l).length := by rw [← hp, List.length_append]
    rcases suf with _ | ⟨s, suf⟩
    · rw [List.append_nil] at hp; subst pre; simp only [List.length_nil] at hpl
      have htl : 0 < (textU l).length := by
        cases l with
        | nil => simp at hne
        | cons c l =>
          have h9 := (lineX_len (hyes.2.1 c (by simp))).2.1
          simp only [textU, List.map_cons, List.flatten_cons, List.length_append]
          omega
      refine Ev.sr fun K hK => S.o q.lss (S.end (hK _ ?_))
      clear hK K
      refine Ev.ud (fun c2 => ?_) (fun c2 => ?_)
      · first | omega | contradiction
      · first
      | (first | omega | contradiction)
      | refine Ev.exit ?_
        refine hR0 _ _ ?_
        show Ev _ _ _ _
        rw [hne]
        refine Ev.sr fun K hK => S.cR [0, 1] 2 [_] (hob := (keep_d (he := rfl) (h := (keep_c (he := rfl) (h := keep_n))))) (hF := string_fun _ htl) (hn' := belowL rfl rfl) (h := S.o q.as (S.o q.as (S.end (hK _ ?_))))
        clear hK K
        refine Ev.ret ?_
        refine Ev.ret2 ?_
        refine ⟨?_, rfl⟩
        first
         | (rw [show textV l = [] from if_neg ‹_›, show textE l = 1 from if_neg ‹_›]; done)
         | (rw [show textV l = textU l from if_pos hyes, show textE l = 0 from if_pos hyes]; done)
    · simp only [List.length_cons] at hpl
      have hidx : (l)[pre.length]? = some s := by rw [← hp]; simp
      have hsk : okBun s := hyes.2.1 s (by rw [← hp]; simp)
      have hk1 := hsk.2.2.1
      have hk2 := hsk.2.2.2.1
      have hk3 := hsk.2.2.2.2.1
      have hk4 := hsk.2.2.2.2.2
      have hsl := wordsU_len hsk
      obtain ⟨hlt, hlt0, hlc, hlm⟩ := lineX_len hsk
      have hjl : (joinS [32] [s.tag, s.mark, Go.Lib.itoa s.count, Go.Lib.itoa s.mass]).length + 1 = (lineX s).length := by rw [lineX, List.length_append]; rfl
      have hpt := textU_len pre (fun c hc => hyes.2.1 c (by rw [← hp]; simp [hc]))
      refine Ev.sr fun K hK => S.o q.lss (S.end (hK _ ?_))
      clear hK K
      refine Ev.ud (fun c3 => ?_) (fun c3 => ?_)
      · first
      | (first | omega | contradiction)
      | refine Ev.seq ?_
        refine Ev.block ?_
        refine Ev.sr fun K hK => S.o (q.ix am_el22 am_cl46 (hl := (by first | exact ati hidx (by omega) | exact atig (by omega)))) (S.o (q.lsA [_, _, _, _] am_ag46 am_cl46) (S.nn (q.al am_ze46) (S.sv [_, _, _, _] true [_, _] am_in46 am_cl46 (h := S.end (hK _ ?_)))))
        clear hK K
        refine Ev.region_M (tbs [(0, 0), (1, 1), (0, 0), (3, 4), (0, 0), (5, 16), (6, 48), (0, 0), (8, 128), (9, 496), (10, 1023), (11, 2047), (12, 4095), (13, 8191)]) 10 fun K hK => M.o (q.fa 0 am_fi46_0 am_cl9) (M.o (q.lv am_ag9) (M.o (q.fa 1 am_fi46_1 am_cl9) (M.o (q.lv am_ag9) (M.o (q.fa 2 am_fi46_2 am_cl3) (M.o (q.lv am_ag3) (M.c0 (hF := itoa41_fun (by omega) (by omega)) (h := M.o (q.fa 3 am_fi46_3 am_cl3) (M.o (q.lv am_ag3) (M.c0 (hF := itoa41_fun (by omega) (by omega)) (h := M.end [_, _, _] (h := S.nn (q.bs [[_], [_], [_], [_]] true am_el57 am_ze9 am_cl9) ?_)))))))))))
        refine SeqL.weaken (Wk.frzl (f := strC) [s.tag, s.mark, Go.Lib.itoa s.count, Go.Lib.itoa s.mass] 26 [_, _, _]) ?_
        refine S.c0 (hF := join_fun [s.tag, s.mark, Go.Lib.itoa s.count, Go.Lib.itoa s.mass] (by simp) hsl) (h := S.o q.sadd ?_)
        rcases hfl : pre.isEmpty with _ | _
        · skip
          rw [show joinS [32] [s.tag, s.mark, Go.Lib.itoa s.count, Go.Lib.itoa s.mass] ++ [10] = lineX s from rfl]
          refine S.cR [0, 1] 45 [_, _, _] (hob := (keep_d (he := rfl) (h := (keep_c (he := rfl) (h := keep_n))))) (hF := writeUsed_fun (textU pre) (lineX s) (by omega)) (hn' := belowL rfl rfl) (h := S.end (hK _ ?_))
          clear hK K
          show Ev _ _ _ _
          refine Ev.region_S fun K hK => S.o q.add (S.o q.mv (S.end (hK _ ?_)))
          clear hK K
          refine hR0 _ _ ?_
          refine roundU [0, 44] [2, 3, 4, 10, 11] ⟨(pre ++ [s], suf), by rw [← hp]; simp, ?_⟩ ?_ (keep_d (hr := (by first | exact rfl | exact bp_ren rfl rfl)) (he := (by first | rfl | (simp only [textU_snoc, List.append_assoc]; done) | (simp only [textU_snoc, List.append_assoc, bp_snoc]; done))) (h := (keep_c (he := (by first | rfl | (simp only [textU_snoc, List.append_assoc]; done) | (simp only [textU_snoc, List.append_assoc, bp_snoc]; done))) (h := keep_n)))) (slots_c (he := (by first | rfl | (congr 2; simp; done))) (h := trivial)) (.c (.c (.c (.c (.c .n)))))
          trivial
          all_goals (dsimp only; simp only [List.length_cons]; omega)
        · skip
          rw [show joinS [32] [s.tag, s.mark, Go.Lib.itoa s.count, Go.Lib.itoa s.mass] ++ [10] = lineX s from rfl]
          refine S.cR [0, 1] 45 [_, _, _] (hob := (keep_d (he := rfl) (h := (keep_c (he := rfl) (h := keep_n))))) (hF := writeFresh_fun (textU pre) (lineX s) (by omega)) (hn' := belowL rfl rfl) (h := S.end (hK _ ?_))
          clear hK K
          show Ev _ _ _ _
          refine Ev.region_S fun K hK => S.o q.add (S.o q.mv (S.end (hK _ ?_)))
          clear hK K
          refine hR0 _ _ ?_
          refine roundU [0, 44] [2, 3, 4, 10, 11] ⟨(pre ++ [s], suf), by rw [← hp]; simp, ?_⟩ ?_ (keep_d (hr := (by first | exact rfl | exact bp_ren rfl rfl)) (he := (by first | rfl | (simp only [textU_snoc, List.append_assoc]; done) | (simp only [textU_snoc, List.append_assoc, bp_snoc]; done))) (h := (keep_c (he := (by first | rfl | (simp only [textU_snoc, List.append_assoc]; done) | (simp only [textU_snoc, List.append_assoc, bp_snoc]; done))) (h := keep_n)))) (slots_c (he := (by first | rfl | (congr 2; simp; done))) (h := trivial)) (.c (.c (.c (.c (.c .n)))))
          trivial
          all_goals (dsimp only; simp only [List.length_cons]; omega)
      · first | omega | contradiction
theorem Text_fun (l : List Bundle) (hl : l.length ≤ 140737488355328) (hw : bunW l) : Fun Tryz.prog 6 [.sh 4 (l.map Bundle.c)] (Ret (.tup [.lit (str (textV l)), .lit (.int .i64 (textE l))]) []) := by
  cases l with
  | nil => exact Text_nil
  | cons c l => exact Text_cons (c :: l) rfl hl hw
end Go.Proofs.YtnbjmckhongidaaGreatDoor
