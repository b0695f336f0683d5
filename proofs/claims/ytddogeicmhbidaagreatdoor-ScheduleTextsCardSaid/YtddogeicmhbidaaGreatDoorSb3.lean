/-
  Numerals, read.
  Conditions: none.
-/
import Derived.Test.YtddogeicmhbidaaGreatDoorSb1
import Derived.Shelf.Lay
import Derived.Ground.NamesProg
import Derived.Test.YtddogeicmhbidaaGreatDoorAmFree
import Derived.Test.YtddogeicmhbidaaGreatDoorNames
namespace Go.Proofs.YtddogeicmhbidaaGreatDoor
open Go Go.AM
set_option linter.unusedSimpArgs false
set_option linter.unusedVariables false
set_option maxRecDepth 100000
set_option maxHeartbeats 1000000

open Go.Shelf in
shelf_lay Lays.n160 Nm 160 at Tryz as lays160
open Go.Shelf in
shelf_lay Lays.n172 Nm 172 at Tryz as lays172
theorem trim_fun (w : List UInt8) (h0 : 0 < w.length) (hw : w.length ≤ 1000000) : Fun Tryz.prog 100 [.lit (str w), .lit (str [48, 49, 50, 51, 52, 53, 54, 55, 56, 57])] (Ret (.lit (str (Go.Lib.trimS w digC))) []) :=
  trim_F lays160 ⟨_, Tryz.func100, rfl, rfl⟩ (fun w => by kernel_rfl) (by kernel_rfl) w digC (by decide) h0 (by omega) (by decide) (by decide)
theorem atoi_fun {w : List UInt8} (h : numOk w) : Fun Tryz.prog 101 [.lit (str w)] (Ret (.tup [.lit (.int .i64 (numV w)), .lit .nilIface]) []) :=
  atoi_F lays172 ⟨_, Tryz.func101, rfl, rfl⟩ w (numV w) (by have := h.2.1; omega) (atoi_dig h.1)
theorem digits_fun (w : List UInt8) (hw : w.length ≤ 1000000) : Fun Tryz.prog 64 [.lit (str w)] (Ret (.lit (.bool (decide (digW w)))) []) := by
  refine Fun.of (nt := 10) (rs := [.tmp 2]) Tryz.func64 rfl rfl rfl rfl rfl ?_
  refine Ev.sr fun K hK => S.o q.as (S.end (hK _ ?_))
  clear hK K
  refine Ev.sr fun K hK => S.o q.mv (S.o q.snes (S.bn q.mv (fun c1 => ?_) (fun c1 => ?_)))
  · first
  | (first | omega | contradiction)
  | refine S.o q.mv (S.c0 (hF := trim_fun w (List.length_pos_iff.2 ‹_›) hw) (h := S.o q.seqs (S.o q.pt (S.o q.as (S.end (hK _ ?_))))))
    clear hK K
    refine Ev.ret ?_
    refine Ev.ret1 ?_
    refine ⟨?_, rfl⟩
    first
     | exact dI ⟨fun h => ⟨List.length_pos_iff.2 ‹_›, (trim_dig w).1 h⟩, fun h => (trim_dig w).2 h.2⟩
     | exact bF (fun h => by have h1 := h.1; simp_all)
  · first
  | (first | omega | contradiction)
  | refine S.sk (S.sk (S.sk (S.o q.pf (S.o q.as (S.end (hK _ ?_))))))
    clear hK K
    refine Ev.ret ?_
    refine Ev.ret1 ?_
    refine ⟨?_, rfl⟩
    first
     | exact dI ⟨fun h => ⟨List.length_pos_iff.2 ‹_›, (trim_dig w).1 h⟩, fun h => (trim_dig w).2 h.2⟩
     | exact bF (fun h => by have h1 := h.1; simp_all)
theorem un_if71 : Tryz.prog.underlying 71 = some (.interface #[("Error", 75)]) := by kernel_rfl
theorem numOk_z {w : List UInt8} (h1 : ((w[(0 : Int).toNat]!.toNat : Nat) : Int) = 48) (h2 : (1 : Int) < w.length) : ¬ numOk w := fun h => by
  have h3 := (atig (l := w) (i := 0) ⟨by decide, by omega⟩).2
  refine h.2.2 ⟨by omega, ?_⟩
  rw [show w[0]? = w[(0 : Int).toNat]? from rfl, h3, u8_of (show (w[(0 : Int).toNat]!).toNat = 48 by omega)]
  rfl
theorem numOk_y {w : List UInt8} (h1 : digW w) (h2 : w.length ≤ 10) (h3 : ¬ (1 : Int) < w.length ∨ ¬ ((w[(0 : Int).toNat]!.toNat : Nat) : Int) = 48) : numOk w := ⟨h1, h2, fun h => by
  rcases h3 with h3 | h3
  · omega
  · have h4 := (atig (l := w) (i := 0) ⟨by decide, by omega⟩).2
    rw [show w[(0 : Int).toNat]? = w[0]? from rfl, h.2] at h4
    simp only [Option.some.injEq] at h4
    rw [← h4] at h3
    exact h3 rfl⟩
theorem number_fun (w : List UInt8) (hw : w.length ≤ 1000000) : Fun Tryz.prog 65 [.lit (str w)] (Ret (.tup [.lit (.int .i64 (if numOk w then numV w else 0)), .lit (.bool (decide (numOk w)))]) []) := by
  have hx0 : 0 < w.length → ∃ c, w[0]? = some c := fun h => ⟨_, List.getElem?_eq_getElem h⟩
  refine Fun.of (nt := 32) (rs := [.tmp 2, .tmp 3]) Tryz.func65 rfl rfl rfl rfl rfl ?_
  refine Ev.sr fun K hK => S.o q.as (S.o q.as (S.end (hK _ ?_)))
  clear hK K
  refine Ev.seq ?_
  refine Ev.sr fun K hK => S.o q.mv (S.c0 (hF := digits_fun _ (by omega)) (h := S.o q.not (S.bn q.mv (fun c1 => ?_) (fun c1 => ?_))))
  · first
  | (first | omega | contradiction)
  | refine S.sk (S.sk (S.sk (S.o q.pt (S.o q.mv (S.sk (S.sk (S.sk (S.sk (S.sk (S.sk (S.sk (S.sk (S.o q.pt (S.end (hK _ ?_)))))))))))))))
    clear hK K
    refine Ev.ct ?_
    have hno : ¬ numOk w := by first | exact fun h => absurd h.1 ‹_› | exact (fun h => by have := h.2.1; omega) | exact numOk_z ‹_› ‹_›
    refine Ev.sr fun K hK => S.o q.as (S.o q.as (S.end (hK _ ?_)))
    clear hK K
    refine Ev.ret ?_
    refine Ev.ret2 ?_
    refine ⟨?_, rfl⟩
    first | (rw [if_neg hno, decide_eq_false hno]; done) | (rw [if_pos hok, decide_eq_true hok]; done)
  · first
  | (first | omega | contradiction)
  | refine S.o q.mv (S.o (q.slen am_el9 am_un9) (S.o q.gtr (S.o q.pf (S.bd q.mv (fun c2 => ?_) (fun c2 => ?_)))))
    · first
    | (first | omega | contradiction)
    | refine S.sk (S.sk (S.sk (S.sk (S.sk (S.sk (S.sk (S.sk (S.o q.pt (S.end (hK _ ?_))))))))))
      clear hK K
      refine Ev.ct ?_
      have hno : ¬ numOk w := by first | exact fun h => absurd h.1 ‹_› | exact (fun h => by have := h.2.1; omega) | exact numOk_z ‹_› ‹_›
      refine Ev.sr fun K hK => S.o q.as (S.o q.as (S.end (hK _ ?_)))
      clear hK K
      refine Ev.ret ?_
      refine Ev.ret2 ?_
      refine ⟨?_, rfl⟩
      first | (rw [if_neg hno, decide_eq_false hno]; done) | (rw [if_pos hok, decide_eq_true hok]; done)
    · first
    | (first | omega | contradiction)
    | refine S.o q.mv (S.o (q.slen am_el9 am_un9) (S.o q.gtr (S.bd q.mv (fun c3 => ?_) (fun c3 => ?_))))
      · first
      | (first | omega | contradiction)
      | refine S.o q.mv (S.o (q.six am_un9 (hl := (by first | exact atig (by omega)))) (S.o q.eql (S.o q.pt (S.o q.pf (S.end (hK _ ?_))))))
        clear hK K
        refine Ev.cd (fun c4 => ?_) (fun c4 => ?_)
        · first
        | (first | omega | contradiction)
        | have hno : ¬ numOk w := by first | exact fun h => absurd h.1 ‹_› | exact (fun h => by have := h.2.1; omega) | exact numOk_z ‹_› ‹_›
          refine Ev.sr fun K hK => S.o q.as (S.o q.as (S.end (hK _ ?_)))
          clear hK K
          refine Ev.ret ?_
          refine Ev.ret2 ?_
          refine ⟨?_, rfl⟩
          first | (rw [if_neg hno, decide_eq_false hno]; done) | (rw [if_pos hok, decide_eq_true hok]; done)
        · first
        | (first | omega | contradiction)
        | refine Ev.skip ?_
          show Ev _ _ _ _
          have hok : numOk w := by first | exact numOk_y ‹_› (by omega) (.inl (by omega)) | exact numOk_y ‹_› (by omega) (.inr ‹_›)
          refine Ev.sr fun K hK => S.o q.mv (S.c0 (hF := atoi_fun hok) (h := S.o q.mv (S.o q.ex (S.o q.ex (S.o q.as (S.o q.as (S.end (hK _ ?_))))))))
          clear hK K
          refine Ev.weaken (Wk.forget [2, 3]) ?_
          refine Ev.sm (tbs [(0, 0), (0, 0), (2, 2), (1, 1), (4, 15)]) 4 fun K hK => M.o q.mv (M.o q.mv (M.o (q.ifn un_if71) (M.o q.as (M.end [] (h := S.o q.as (S.end (hK _ ?_)))))))
          clear hK K
          refine Ev.ret ?_
          refine Ev.ret2 ?_
          refine ⟨?_, rfl⟩
          first | (rw [if_neg hno, decide_eq_false hno]; done) | (rw [if_pos hok, decide_eq_true hok]; done)
      · first
      | (first | omega | contradiction)
      | refine S.sk (S.sk (S.sk (S.o q.pf (S.o q.pf (S.end (hK _ ?_))))))
        clear hK K
        refine Ev.cf ?_
        refine Ev.skip ?_
        show Ev _ _ _ _
        have hok : numOk w := by first | exact numOk_y ‹_› (by omega) (.inl (by omega)) | exact numOk_y ‹_› (by omega) (.inr ‹_›)
        refine Ev.sr fun K hK => S.o q.mv (S.c0 (hF := atoi_fun hok) (h := S.o q.mv (S.o q.ex (S.o q.ex (S.o q.as (S.o q.as (S.end (hK _ ?_))))))))
        clear hK K
        refine Ev.weaken (Wk.forget [2, 3]) ?_
        refine Ev.sm (tbs [(0, 0), (0, 0), (2, 2), (1, 1), (4, 15)]) 4 fun K hK => M.o q.mv (M.o q.mv (M.o (q.ifn un_if71) (M.o q.as (M.end [] (h := S.o q.as (S.end (hK _ ?_)))))))
        clear hK K
        refine Ev.ret ?_
        refine Ev.ret2 ?_
        refine ⟨?_, rfl⟩
        first | (rw [if_neg hno, decide_eq_false hno]; done) | (rw [if_pos hok, decide_eq_true hok]; done)
end Go.Proofs.YtddogeicmhbidaaGreatDoor
namespace Go.Proofs.YtddogeicmhbidaaGreatDoor
open Go Go.AM
set_option linter.unusedSimpArgs false
set_option linter.unusedVariables false
set_option maxRecDepth 100000
set_option maxHeartbeats 2000000

def zeroB : Bar := ⟨[], 0, 0, 0, []⟩
theorem el_le (c : UInt8) : ∀ (ws : List (List UInt8)), ∀ w ∈ ws, w.length ≤ (joinS [c] ws).length
  | [], w, h => by cases h
  | x :: l, w, h => by
    rw [joinS, List.length_append]
    rcases List.mem_cons.1 h with rfl | h
    · omega
    · have h1 := el_le c l w h
      rcases l with _ | ⟨y, l⟩
      · cases h
      · rw [sepcat_cons, List.length_cons]; omega
theorem split_le {s : List UInt8} : ∀ w ∈ splitG 0 32 s, w.length ≤ s.length := fun w h => by
  have := el_le 32 _ w h
  rwa [join_split 0 32 (by decide) s] at this
theorem readB_no {s m a c k : List UInt8} {ds : List (List UInt8)} (hs : splitG 0 32 s = m :: a :: c :: k :: ds) (h : ¬ lineOk m a c k ds) : readB s = none := by
  unfold readB; rw [hs]; exact if_neg h
theorem readB_short {s : List UInt8} (h : (splitG 0 32 s).length < 5) : readB s = none := by
  unfold readB
  split
  · rename_i m a c k ds hs
    rw [hs] at h
    refine if_neg fun ho => ?_
    have := ho.2.2.2.2.2.1
    simp only [List.length_cons] at h
    omega
  · rfl
theorem line_short (s : List UInt8) (hs : s.length ≤ 262144) (h5 : (splitG 0 32 s).length < 5) : Fun Tryz.prog 39 [.lit (str s)] (Ret (.tup [.agg zeroB.c, .lit (.bool false)]) []) := by
  refine Fun.of (nt := 91) (rs := [.cell 2 49, .tmp 3]) Tryz.func39 rfl rfl rfl rfl rfl ?_
  refine Ev.sr fun K hK => S.nn (q.al am_ze49) (S.o q.as (S.end (hK _ ?_)))
  clear hK K
  refine Ev.sr fun K hK => S.o q.mv (S.c0 (hF := split_fun s 32 (by omega)) (h := S.o q.as (S.end (hK _ ?_))))
  clear hK K
  refine Ev.seq ?_
  refine Ev.sr fun K hK => S.o q.mv (S.o (q.lens am_el69) (S.o q.lss (S.bd q.mv (fun c1 => ?_) (fun c1 => ?_))))
  · first
  | (first | omega | contradiction)
  | refine S.sk (S.sk (S.sk (S.sk (S.sk (S.o q.pt (S.o q.mv (S.sk (S.sk (S.sk (S.sk (S.sk (S.o q.pt (S.o q.mv (S.sk (S.sk (S.sk (S.sk (S.sk (S.o q.pt (S.end (hK _ ?_)))))))))))))))))))))
    clear hK K
    refine Ev.ct ?_
    refine Ev.sr fun K hK => S.o (q.bd [_, _, _, _, _] am_ze49 am_pl49) (S.sv [_, _, _, _, _] true [] am_in49 am_cl49 (h := S.o q.as (S.end (hK _ ?_))))
    clear hK K
    refine Ev.weaken (Wk.nshr [[0, 0, 0, 0, 2]] 0 []) ?_
    refine Ev.ret ?_
    refine Ev.retv2 (res_c [_, _, _, _, _] am_ag49 am_cl49 (res_t res_n)) ?_
    refine ⟨?_, rfl⟩
    rfl
  · first
  | (first | omega | contradiction)
  | refine S.o q.mv (S.o (q.ix am_el69 am_cl9 (hl := (by first | exact atig (by omega)))) (S.o (q.ls am_ag9) (S.c0 (hF := isName_fun _ (by omega)) (h := S.o q.not (S.o q.pf (S.bn q.mv (fun c2 => ?_) (fun c2 => ?_)))))))
    · first
    | (first | omega | contradiction)
    | refine S.sk (S.sk (S.sk (S.sk (S.sk (S.o q.pt (S.o q.mv (S.sk (S.sk (S.sk (S.sk (S.sk (S.o q.pt (S.end (hK _ ?_))))))))))))))
      clear hK K
      refine Ev.ct ?_
      refine Ev.sr fun K hK => S.o (q.bd [_, _, _, _, _] am_ze49 am_pl49) (S.sv [_, _, _, _, _] true [] am_in49 am_cl49 (h := S.o q.as (S.end (hK _ ?_))))
      clear hK K
      refine Ev.weaken (Wk.nshr [[0, 0, 0, 0, 2]] 0 []) ?_
      refine Ev.ret ?_
      refine Ev.retv2 (res_c [_, _, _, _, _] am_ag49 am_cl49 (res_t res_n)) ?_
      refine ⟨?_, rfl⟩
      rfl
    · first
    | (first | omega | contradiction)
    | refine S.o q.mv (S.o (q.ix am_el69 am_cl9 (hl := (by first | exact atig (by omega)))) (S.o (q.ls am_ag9) (S.o (q.slen am_el9 am_un9) (S.o q.neq (S.o q.pf (S.bn q.mv (fun c3 => ?_) (fun c3 => ?_)))))))
      · first
      | (first | omega | contradiction)
      | refine S.sk (S.sk (S.sk (S.sk (S.sk (S.o q.pt (S.end (hK _ ?_)))))))
        clear hK K
        refine Ev.ct ?_
        refine Ev.sr fun K hK => S.o (q.bd [_, _, _, _, _] am_ze49 am_pl49) (S.sv [_, _, _, _, _] true [] am_in49 am_cl49 (h := S.o q.as (S.end (hK _ ?_))))
        clear hK K
        refine Ev.weaken (Wk.nshr [[0, 0, 0, 0, 2]] 0 []) ?_
        refine Ev.ret ?_
        refine Ev.retv2 (res_c [_, _, _, _, _] am_ag49 am_cl49 (res_t res_n)) ?_
        refine ⟨?_, rfl⟩
        rfl
      · first
      | (first | omega | contradiction)
      | refine S.o q.mv (S.o (q.ix am_el69 am_cl9 (hl := (by first | exact atig (by omega)))) (S.o (q.ls am_ag9) (S.c0 (hF := digits_fun _ (by omega)) (h := S.o q.not (S.o q.pf (S.end (hK _ ?_)))))))
        clear hK K
        refine Ev.cn (fun c4 => ?_) (fun c4 => ?_)
        · first
        | (first | omega | contradiction)
        | refine Ev.sr fun K hK => S.o (q.bd [_, _, _, _, _] am_ze49 am_pl49) (S.sv [_, _, _, _, _] true [] am_in49 am_cl49 (h := S.o q.as (S.end (hK _ ?_))))
          clear hK K
          refine Ev.weaken (Wk.nshr [[0, 0, 0, 0, 2]] 0 []) ?_
          refine Ev.ret ?_
          refine Ev.retv2 (res_c [_, _, _, _, _] am_ag49 am_cl49 (res_t res_n)) ?_
          refine ⟨?_, rfl⟩
          rfl
        · first
        | (first | omega | contradiction)
        | refine Ev.skip ?_
          show Ev _ _ _ _
          omega

theorem codeV_at {k : List UInt8} (h : k.length = 2) (hd : allDig k) : (0 ≤ ((k[(0 : Int).toNat]!.toNat : Nat) : Int) - 48 ∧ ((k[(0 : Int).toNat]!.toNat : Nat) : Int) - 48 ≤ 9) ∧ (0 ≤ ((k[(1 : Int).toNat]!.toNat : Nat) : Int) - 48 ∧ ((k[(1 : Int).toNat]!.toNat : Nat) : Int) - 48 ≤ 9) ∧
    10 * (((k[(0 : Int).toNat]!.toNat : Nat) : Int) - 48) + (((k[(1 : Int).toNat]!.toNat : Nat) : Int) - 48) = codeV k := by
  rcases k with _ | ⟨x, _ | ⟨y, _ | ⟨z, k⟩⟩⟩
  · simp at h
  · simp at h
  · have h1 := hd x (by simp)
    have h2 := hd y (by simp)
    show (0 ≤ ((x.toNat : Nat) : Int) - 48 ∧ ((x.toNat : Nat) : Int) - 48 ≤ 9) ∧ (0 ≤ ((y.toNat : Nat) : Int) - 48 ∧ ((y.toNat : Nat) : Int) - 48 ≤ 9) ∧ 10 * (((x.toNat : Nat) : Int) - 48) + (((y.toNat : Nat) : Int) - 48) = 10 * (((x.toNat : Nat) : Int) - 48) + (((y.toNat : Nat) : Int) - 48)
    omega
  · simp at h
theorem line_long (z m a c k d : List UInt8) (r : List (List UInt8)) (hs : z.length ≤ 262144) (hW : splitG 0 32 z = m :: a :: c :: k :: d :: r) : Fun Tryz.prog 39 [.lit (str z)] (Ret (.tup [.agg ((readB z).getD zeroB).c, .lit (.bool (readB z).isSome)]) []) := by
  have hle : ∀ w ∈ splitG 0 32 z, w.length ≤ 262144 := fun w h => by have := split_le w h; omega
  have hn := splitG_len 0 32 z
  have hc0 : Go.Lib.countByte z 32 ≤ z.length := List.count_le_length
  rw [hW] at hle hn
  have hm := hle m (by simp)
  have hk := hle k (by simp)
  have hlen : (m :: a :: c :: k :: d :: r).length = r.length + 5 := by simp
  have hL : (a :: c :: d :: r).length = r.length + 3 := by simp
  have htk : List.take ((((m :: a :: c :: k :: d :: r).map strC).length : Int).toNat - (4 : Int).toNat) (List.drop (4 : Int).toNat (m :: a :: c :: k :: d :: r)) = d :: r := by
    show List.take _ (d :: r) = _
    exact List.take_of_length_le (by simp only [List.length_map, List.length_cons]; omega)
  have htn : List.take (((((a :: c :: d :: r).map numV).map intC).length : Int).toNat - (2 : Int).toNat) (List.drop (2 : Int).toNat ((a :: c :: d :: r).map numV)) = (d :: r).map numV := by
    show List.take _ ((d :: r).map numV) = _
    exact List.take_of_length_le (by simp only [List.length_map, List.length_cons]; omega)
  have n0 : ((a :: c :: d :: r).map numV)[0]? = some (numV a) := rfl
  have n1 : ((a :: c :: d :: r).map numV)[1]? = some (numV c) := rfl
  have i0 : (m :: a :: c :: k :: d :: r)[0]? = some m := rfl
  have i1 : (m :: a :: c :: k :: d :: r)[1]? = some a := rfl
  have i2 : (m :: a :: c :: k :: d :: r)[2]? = some c := rfl
  have i3 : (m :: a :: c :: k :: d :: r)[3]? = some k := rfl
  refine Fun.of (nt := 91) (rs := [.cell 2 49, .tmp 3]) Tryz.func39 rfl rfl rfl rfl rfl ?_
  refine Ev.sr fun K hK => S.nn (q.al am_ze49) (S.o q.as (S.end (hK _ ?_)))
  clear hK K
  refine Ev.sr fun K hK => S.o q.mv (S.c0 (hF := split_fun z 32 (by omega)) (h := S.o q.as (S.end (hK _ ?_))))
  clear hK K
  refine Ev.seq ?_
  rw [hW]
  refine Ev.sr fun K hK => S.o q.mv (S.o (q.lens am_el69) (S.o q.lss (S.bd q.mv (fun c1 => ?_) (fun c1 => ?_))))
  · first
  | (first | omega | contradiction)
  | refine S.sk (S.sk (S.sk (S.sk (S.sk (S.o q.pt (S.o q.mv (S.sk (S.sk (S.sk (S.sk (S.sk (S.o q.pt (S.o q.mv (S.sk (S.sk (S.sk (S.sk (S.sk (S.o q.pt (S.end (hK _ ?_)))))))))))))))))))))
    clear hK K
    refine Ev.ct ?_
    have hno : ¬ lineOk m a c k (d :: r) := by first | exact fun h => absurd h.1 ‹_› | exact fun h => absurd h.2.2.1 ‹_› | exact (fun h => by have := h.2.1; omega)
    rw [show readB z = none from readB_no hW hno]
    refine Ev.sr fun K hK => S.o (q.bd [_, _, _, _, _] am_ze49 am_pl49) (S.sv [_, _, _, _, _] true [] am_in49 am_cl49 (h := S.o q.as (S.end (hK _ ?_))))
    clear hK K
    refine Ev.weaken (Wk.nshr [[0, 0, 0, 0, 2]] 0 []) ?_
    refine Ev.ret ?_
    refine Ev.retv2 (res_c [_, _, _, _, _] am_ag49 am_cl49 (res_t res_n)) ?_
    refine ⟨?_, rfl⟩
    first | rfl | (rw [htn]; rfl) | (rw [hrd]; rfl)
  · first
  | (first | omega | contradiction)
  | refine S.o q.mv (S.o (q.ix am_el69 am_cl9 (hl := (by first | exact ati i0 (by omega) | exact ati i1 (by omega) | exact ati i2 (by omega) | exact ati i3 (by omega) | exact ati n0 (by omega) | exact ati n1 (by omega) | exact atig (by omega)))) (S.o (q.ls am_ag9) (S.c0 (hF := isName_fun _ (by omega)) (h := S.o q.not (S.o q.pf (S.bn q.mv (fun c2 => ?_) (fun c2 => ?_)))))))
    · first
    | (first | omega | contradiction)
    | refine S.sk (S.sk (S.sk (S.sk (S.sk (S.o q.pt (S.o q.mv (S.sk (S.sk (S.sk (S.sk (S.sk (S.o q.pt (S.end (hK _ ?_))))))))))))))
      clear hK K
      refine Ev.ct ?_
      have hno : ¬ lineOk m a c k (d :: r) := by first | exact fun h => absurd h.1 ‹_› | exact fun h => absurd h.2.2.1 ‹_› | exact (fun h => by have := h.2.1; omega)
      rw [show readB z = none from readB_no hW hno]
      refine Ev.sr fun K hK => S.o (q.bd [_, _, _, _, _] am_ze49 am_pl49) (S.sv [_, _, _, _, _] true [] am_in49 am_cl49 (h := S.o q.as (S.end (hK _ ?_))))
      clear hK K
      refine Ev.weaken (Wk.nshr [[0, 0, 0, 0, 2]] 0 []) ?_
      refine Ev.ret ?_
      refine Ev.retv2 (res_c [_, _, _, _, _] am_ag49 am_cl49 (res_t res_n)) ?_
      refine ⟨?_, rfl⟩
      first | rfl | (rw [htn]; rfl) | (rw [hrd]; rfl)
    · first
    | (first | omega | contradiction)
    | refine S.o q.mv (S.o (q.ix am_el69 am_cl9 (hl := (by first | exact ati i0 (by omega) | exact ati i1 (by omega) | exact ati i2 (by omega) | exact ati i3 (by omega) | exact ati n0 (by omega) | exact ati n1 (by omega) | exact atig (by omega)))) (S.o (q.ls am_ag9) (S.o (q.slen am_el9 am_un9) (S.o q.neq (S.o q.pf (S.bn q.mv (fun c3 => ?_) (fun c3 => ?_)))))))
      · first
      | (first | omega | contradiction)
      | refine S.sk (S.sk (S.sk (S.sk (S.sk (S.o q.pt (S.end (hK _ ?_)))))))
        clear hK K
        refine Ev.ct ?_
        have hno : ¬ lineOk m a c k (d :: r) := by first | exact fun h => absurd h.1 ‹_› | exact fun h => absurd h.2.2.1 ‹_› | exact (fun h => by have := h.2.1; omega)
        rw [show readB z = none from readB_no hW hno]
        refine Ev.sr fun K hK => S.o (q.bd [_, _, _, _, _] am_ze49 am_pl49) (S.sv [_, _, _, _, _] true [] am_in49 am_cl49 (h := S.o q.as (S.end (hK _ ?_))))
        clear hK K
        refine Ev.weaken (Wk.nshr [[0, 0, 0, 0, 2]] 0 []) ?_
        refine Ev.ret ?_
        refine Ev.retv2 (res_c [_, _, _, _, _] am_ag49 am_cl49 (res_t res_n)) ?_
        refine ⟨?_, rfl⟩
        first | rfl | (rw [htn]; rfl) | (rw [hrd]; rfl)
      · first
      | (first | omega | contradiction)
      | refine S.o q.mv (S.o (q.ix am_el69 am_cl9 (hl := (by first | exact ati i0 (by omega) | exact ati i1 (by omega) | exact ati i2 (by omega) | exact ati i3 (by omega) | exact ati n0 (by omega) | exact ati n1 (by omega) | exact atig (by omega)))) (S.o (q.ls am_ag9) (S.c0 (hF := digits_fun _ (by omega)) (h := S.o q.not (S.o q.pf (S.end (hK _ ?_)))))))
        clear hK K
        refine Ev.cn (fun c4 => ?_) (fun c4 => ?_)
        · first
        | (first | omega | contradiction)
        | have hno : ¬ lineOk m a c k (d :: r) := by first | exact fun h => absurd h.1 ‹_› | exact fun h => absurd h.2.2.1 ‹_› | exact (fun h => by have := h.2.1; omega)
          rw [show readB z = none from readB_no hW hno]
          refine Ev.sr fun K hK => S.o (q.bd [_, _, _, _, _] am_ze49 am_pl49) (S.sv [_, _, _, _, _] true [] am_in49 am_cl49 (h := S.o q.as (S.end (hK _ ?_))))
          clear hK K
          refine Ev.weaken (Wk.nshr [[0, 0, 0, 0, 2]] 0 []) ?_
          refine Ev.ret ?_
          refine Ev.retv2 (res_c [_, _, _, _, _] am_ag49 am_cl49 (res_t res_n)) ?_
          refine ⟨?_, rfl⟩
          first | rfl | (rw [htn]; rfl) | (rw [hrd]; rfl)
        · first
        | (first | omega | contradiction)
        | refine Ev.skip ?_
          show Ev _ _ _ _
          obtain ⟨⟨z1, z2⟩, ⟨z3, z4⟩, z5⟩ := codeV_at (k := k) (by omega) (‹digW k› : digW k).2
          refine Ev.sr fun K hK => S.o q.as (S.end (hK _ ?_))
          clear hK K
          refine Ev.seq ?_
          refine Ev.slf (tbs [(0, 0), (1, 1), (2, 3), (0, 0), (4, 8), (5, 24), (6, 63), (0, 0), (8, 128), (9, 511), (10, 1023)]) 9 48 (.int .i64 0) fun K hK => M.o q.mv (M.o (q.ix am_el69 am_cl9 (hl := (by first | exact ati i0 (by omega) | exact ati i1 (by omega) | exact ati i2 (by omega) | exact ati i3 (by omega) | exact ati n0 (by omega) | exact ati n1 (by omega) | exact atig (by omega)))) (M.o (q.ls am_ag9) (M.o q.mv (M.o (q.ix am_el69 am_cl9 (hl := (by first | exact ati i0 (by omega) | exact ati i1 (by omega) | exact ati i2 (by omega) | exact ati i3 (by omega) | exact ati n0 (by omega) | exact ati n1 (by omega) | exact atig (by omega)))) (M.o (q.ls am_ag9) (M.nn [_] (q.bs [[_], [_]] true am_el69 am_ze9 am_cl9) (h := M.o q.mv (M.o (q.sh am_el69 am_cl9) (M.end [_, _] (h := ?_))))))))))
          show SeqL _ _ _ ⟨_, (_, ⟨true, _, _, [a, c].map strC, true⟩) :: _, _, _, _⟩ _
          rw [htk]
          refine S.ap' [_] am_el69 am_ze9 am_cl9 am_by9 (hh := head_own') (hr := rows_sh) (h := S.o (q.lena am_el69) (S.end (hK _ ?_)))
          clear hK K
          refine Ev.block ?_
          refine Ev.weaken (Wk.nown intC 5 3 1) ?_
          refine Ev.loopU (ι := {q : List (List UInt8) × List (List UInt8) // q.1 ++ q.2 = (a :: c :: d :: r) ∧ ∀ x ∈ q.1, numOk x}) [37, 38, 0] [2, 4, 47] (fun ⟨(pre, suf), _⟩ => [(48, .lit (.int .i64 ((pre.length : Int)))), (46, .als 0 0 ((a :: c :: d :: r)).length), (5, .als 1 0 (pre.map numV).length)]) (fun ⟨(pre, suf), _⟩ => [(0, ⟨true, 9, 1, ((a :: c :: d :: r)).map strC, true⟩), (1, ⟨true, 3, 1, (pre.map numV).map intC, true⟩), (2, ⟨false, 49, 5, [[.lit (str []), .lit (.int .i64 (0)), .lit (.int .i64 (0)), .lit (.int .i64 (0)), .lit (.slice none 0 0)]], true⟩)]) (fun ⟨(pre, suf), _⟩ => suf.length) ⟨([], (a :: c :: d :: r)), rfl, fun x hx => by simp at hx⟩ (.c (.c (.c .n))) (keep_c (he := (by first | rfl | (simp; done))) (h := (keep_c (he := (by first | rfl | (simp; done) | (simp [‹numOk s›]; done))) (h := (keep_c (he := (by first | rfl | (simp; done))) (h := keep_n)))))) (slots_c (he := (by first | rfl | (congr 2; simp; done))) (h := (slots_c (he := (by first | rfl | (simp; done))) (h := (slots_c (he := (by first | rfl | (congr 1; simp; done))) (h := trivial)))))) ?_
          rintro ⟨⟨pre, suf⟩, hp, hinv⟩ R0 hR0
          dsimp only [List.cons_append, List.nil_append, List.length_cons, List.length_nil]
          simp only at hp hinv
          have hpl : pre.length + suf.length = ((a :: c :: d :: r)).length := by rw [← hp, List.length_append]
          rcases suf with _ | ⟨s, suf⟩
          · rw [List.append_nil] at hp; subst hp; simp only [List.length_nil] at hpl
            refine Ev.sr fun K hK => S.o q.lss (S.end (hK _ ?_))
            clear hK K
            refine Ev.ud (fun c5 => ?_) (fun c5 => ?_)
            · first | omega | contradiction
            · first
            | (first | omega | contradiction)
            | refine Ev.exit ?_
              refine hR0 _ _ ?_
              show Ev _ _ _ _
              refine Ev.weaken (Wk.frz 5 [_, _]) ?_
              rw [show readB z = some _ from readB_of hW ⟨‹IsName m›, by omega, ‹digW k›, hinv a (by simp), hinv c (by simp), by simp, fun x hx => hinv x (by simp only [List.mem_cons] at hx ⊢; rcases hx with h | h <;> simp [h])⟩, ← z5]
              refine Ev.sm (tbs [(0, 0), (1, 1), (2, 3), (0, 0), (4, 8), (5, 24), (0, 0), (7, 64), (8, 192), (0, 0), (10, 512), (11, 1536), (12, 3584), (13, 7680), (14, 15872), (15, 32256), (0, 0), (17, 65536), (18, 196608), (19, 458752), (20, 983040), (21, 2031616), (22, 4193792), (0, 0), (24, 8388608), (25, 33554431), (26, 67108863), (27, 134217727)]) 26 fun K hK => M.o q.mv (M.o (q.ix am_el69 am_cl9 (hl := (by first | exact ati i0 (by omega) | exact ati i1 (by omega) | exact ati i2 (by omega) | exact ati i3 (by omega) | exact ati n0 (by omega) | exact ati n1 (by omega) | exact atig (by omega)))) (M.o (q.ls am_ag9) (M.o q.mv (M.o (q.ix am_el47 am_cl3 (hl := (by first | exact ati i0 (by omega) | exact ati i1 (by omega) | exact ati i2 (by omega) | exact ati i3 (by omega) | exact ati n0 (by omega) | exact ati n1 (by omega) | exact atig (by omega)))) (M.o (q.ls am_ag3) (M.o q.mv (M.o (q.ix am_el47 am_cl3 (hl := (by first | exact ati i0 (by omega) | exact ati i1 (by omega) | exact ati i2 (by omega) | exact ati i3 (by omega) | exact ati n0 (by omega) | exact ati n1 (by omega) | exact atig (by omega)))) (M.o (q.ls am_ag3) (M.o q.mv (M.o (q.ix am_el69 am_cl9 (hl := (by first | exact ati i0 (by omega) | exact ati i1 (by omega) | exact ati i2 (by omega) | exact ati i3 (by omega) | exact ati n0 (by omega) | exact ati n1 (by omega) | exact atig (by omega)))) (M.o (q.ls am_ag9) (M.o (q.six am_un9 (hl := (by first | exact ati i0 (by omega) | exact ati i1 (by omega) | exact ati i2 (by omega) | exact ati i3 (by omega) | exact ati n0 (by omega) | exact ati n1 (by omega) | exact atig (by omega)))) (M.o q.subb (M.o (q.cvi am_un3 am_us5) (M.o q.mul (M.o q.mv (M.o (q.ix am_el69 am_cl9 (hl := (by first | exact ati i0 (by omega) | exact ati i1 (by omega) | exact ati i2 (by omega) | exact ati i3 (by omega) | exact ati n0 (by omega) | exact ati n1 (by omega) | exact atig (by omega)))) (M.o (q.ls am_ag9) (M.o (q.six am_un9 (hl := (by first | exact ati i0 (by omega) | exact ati i1 (by omega) | exact ati i2 (by omega) | exact ati i3 (by omega) | exact ati n0 (by omega) | exact ati n1 (by omega) | exact atig (by omega)))) (M.o q.subb (M.o (q.cvi am_un3 am_us5) (M.o q.add (M.o q.mv (M.o (q.sh am_el47 am_cl3) (M.o (q.bd [_, _, _, _, _] am_ze49 am_pl49) (M.end [_, _] (h := S.sv [_, _, _, _, _] true [_] am_in49 am_cl49 (h := S.o q.as (S.end (hK _ ?_))))))))))))))))))))))))))))))
              clear hK K
              refine Ev.weaken (Wk.nshr [[0, 0, 0, 0, 2]] 2 [_]) ?_
              refine Ev.ret ?_
              refine Ev.retv2 (res_c [_, _, _, _, _] am_ag49 am_cl49 (res_t res_n)) ?_
              refine ⟨?_, rfl⟩
              first | rfl | (rw [htn]; rfl) | (rw [hrd]; rfl)
          · simp only [List.length_cons] at hpl
            have hidx : ((a :: c :: d :: r))[pre.length]? = some s := by rw [← hp]; simp
            have hsl : s.length ≤ 262144 := hle s (by have h := List.mem_of_getElem? hidx; simp only [List.mem_cons] at h ⊢; rcases h with h | h | h | h <;> simp [h])
            refine Ev.sr fun K hK => S.o q.lss (S.end (hK _ ?_))
            clear hK K
            refine Ev.ud (fun c6 => ?_) (fun c6 => ?_)
            · first
            | (first | omega | contradiction)
            | refine Ev.seq ?_
              refine Ev.block ?_
              refine Ev.sr fun K hK => S.o (q.ia am_el69 am_cl9) (S.o (q.lx am_ag9 (hl := (by first | exact at_ i0 (by omega) | exact at_ i1 (by omega) | exact at_ i2 (by omega) | exact at_ i3 (by omega) | exact at_ n0 (by omega) | exact at_ n1 (by omega) | exact at_ hidx (by omega) | exact at_g (by omega)))) (S.o q.as (S.end (hK _ ?_))))
              clear hK K
              refine Ev.sr fun K hK => S.o q.mv (S.c0 (hF := number_fun _ (by omega)) (h := S.o q.mv (S.o q.ex (S.o q.ex (S.o q.as (S.o q.as (S.end (hK _ ?_))))))))
              clear hK K
              refine Ev.seq ?_
              refine Ev.sr fun K hK => S.o q.mv (S.o q.not (S.end (hK _ ?_)))
              clear hK K
              refine Ev.cn (fun c7 => ?_) (fun c7 => ?_)
              · first
              | (first | omega | contradiction)
              | have hno : ¬ lineOk m a c k (d :: r) := fun h => by
                  have hin : s ∈ a :: c :: d :: r := List.mem_of_getElem? hidx
                  rcases List.mem_cons.1 hin with h1 | hin
                  · exact absurd (h1 ▸ h.2.2.2.1) ‹_›
                  · rcases List.mem_cons.1 hin with h1 | hin
                    · exact absurd (h1 ▸ h.2.2.2.2.1) ‹_›
                    · exact absurd (h.2.2.2.2.2.2 s hin) ‹_›
                have hrd : readB z = none := readB_no hW hno
                refine Ev.sr fun K hK => S.o (q.bd [_, _, _, _, _] am_ze49 am_pl49) (S.sv [_, _, _, _, _] true [_, _] am_in49 am_cl49 (h := S.o q.as (S.end (hK _ ?_))))
                clear hK K
                refine Ev.weaken (Wk.nshr [[0, 0, 0, 0, 2]] 2 [_, _]) ?_
                refine Ev.ret ?_
                refine hR0 _ _ ?_
                refine Ev.retv2 (res_c [_, _, _, _, _] am_ag49 am_cl49 (res_t res_n)) ?_
                refine ⟨?_, rfl⟩
                first | rfl | (rw [htn]; rfl) | (rw [hrd]; rfl)
              · first
              | (first | omega | contradiction)
              | refine Ev.skip ?_
                show Ev _ _ _ _
                refine Ev.region_S fun K hK => S.o q.mv (S.o q.mv (S.nn (q.bs [[_]] true am_el47 am_ze3 am_cl3) (S.ap' [_, _, _] am_el47 am_ze3 am_cl3 am_by3 (hh := head_own') (hr := (rows_lit [_])) (h := S.o q.as (S.end (hK _ ?_))))))
                clear hK K
                show Ev _ _ _ _
                refine Ev.region_S fun K hK => S.o q.add (S.o q.mv (S.end (hK _ ?_)))
                clear hK K
                refine hR0 _ _ ?_
                refine roundU [0, 4, 2] [2, 4, 47] ⟨(pre ++ [s], suf), by rw [← hp]; simp, ?_⟩ ?_ (keep_c (he := (by first | rfl | (simp; done))) (h := (keep_c (he := (by first | rfl | (simp; done) | (simp [‹numOk s›]; done))) (h := (keep_c (he := (by first | rfl | (simp; done))) (h := keep_n)))))) (slots_c (he := (by first | rfl | (congr 2; simp; done))) (h := (slots_c (he := (by first | rfl | (simp; done))) (h := (slots_c (he := (by first | rfl | (congr 1; simp; done))) (h := trivial)))))) (.c (.c (.c .n)))
                intro x hx; dsimp only at hx; simp only [List.mem_append, List.mem_singleton] at hx; rcases hx with hx | rfl
                · exact hinv x hx
                · assumption
                all_goals (dsimp only; simp only [List.length_cons]; omega)
            · first | omega | contradiction
end Go.Proofs.YtddogeicmhbidaaGreatDoor
namespace Go.Proofs.YtddogeicmhbidaaGreatDoor
open Go Go.AM
set_option linter.unusedSimpArgs false
set_option linter.unusedVariables false
set_option maxRecDepth 100000
set_option maxHeartbeats 2000000

theorem line_none {l : List UInt8} (hs : l.length ≤ 262144) (h : readB l = none) : Fun Tryz.prog 39 [.lit (str l)] (Ret (.tup [.agg zeroB.c, .lit (.bool false)]) []) := by
  by_cases h5 : (splitG 0 32 l).length < 5
  · exact line_short l hs h5
  · rcases hW : splitG 0 32 l with _ | ⟨m, _ | ⟨a, _ | ⟨c, _ | ⟨k, _ | ⟨d, r⟩⟩⟩⟩⟩
    · exact absurd (by rw [hW]; simp) h5
    · exact absurd (by rw [hW]; simp) h5
    · exact absurd (by rw [hW]; simp) h5
    · exact absurd (by rw [hW]; simp) h5
    · exact absurd (by rw [hW]; simp) h5
    · have h1 := line_long l m a c k d r hs hW
      rw [h] at h1
      exact h1
theorem line_some {l : List UInt8} {x : Bar} (hs : l.length ≤ 262144) (h : readB l = some x) : Fun Tryz.prog 39 [.lit (str l)] (Ret (.tup [.agg x.c, .lit (.bool true)]) []) := by
  by_cases h5 : (splitG 0 32 l).length < 5
  · rw [readB_short h5] at h; cases h
  · rcases hW : splitG 0 32 l with _ | ⟨m, _ | ⟨a, _ | ⟨c, _ | ⟨k, _ | ⟨d, r⟩⟩⟩⟩⟩
    · exact absurd (by rw [hW]; simp) h5
    · exact absurd (by rw [hW]; simp) h5
    · exact absurd (by rw [hW]; simp) h5
    · exact absurd (by rw [hW]; simp) h5
    · exact absurd (by rw [hW]; simp) h5
    · have h1 := line_long l m a c k d r hs hW
      rw [h] at h1
      exact h1
theorem parse_long {s : List UInt8} (h : ¬ s.length ≤ 262144) : parseV s = [] ∧ parseL s = 0 ∧ parseC s = 0 ∧ parseE s = 4 := by
  have h1 : parseL s = 0 := if_neg h
  exact ⟨if_neg fun g => h g.1, h1, if_pos h1, if_neg h⟩
theorem parse_bad {s : List UInt8} {x : List Bar} {n : Int} (h : s.length ≤ 262144) (hr : readR s = (x, n)) (hn : ¬ n = 0) : parseV s = [] ∧ parseL s = n ∧ parseC s = 1 ∧ parseE s = 7 := by
  have h2 : (readR s).2 = n := by rw [hr]
  have h1 : parseL s = n := (if_pos h).trans h2
  exact ⟨if_neg fun g => hn (h2.symm.trans g.2.1), h1, if_neg (by rw [h1]; exact hn), (if_pos h).trans (if_neg (by rw [h2]; exact hn))⟩
theorem parse_arg {s : List UInt8} {x : List Bar} (h : s.length ≤ 262144) (hr : readR s = (x, 0)) (hx : ¬ okSched x) : parseV s = [] ∧ parseL s = 0 ∧ parseC s = 0 ∧ parseE s = 1 := by
  have h2 : (readR s).2 = 0 := by rw [hr]
  have h3 : ¬ okSched (readR s).1 := by rw [hr]; exact hx
  have h1 : parseL s = 0 := (if_pos h).trans h2
  exact ⟨if_neg fun g => h3 g.2.2, h1, if_pos h1, (if_pos h).trans ((if_pos h2).trans (if_neg h3))⟩
theorem parse_ok {s : List UInt8} {x : List Bar} (h : s.length ≤ 262144) (hr : readR s = (x, 0)) (hx : okSched x) : parseV s = x ∧ parseL s = 0 ∧ parseC s = 0 ∧ parseE s = 0 := by
  have h2 : (readR s).2 = 0 := by rw [hr]
  have h3 : okSched (readR s).1 := by rw [hr]; exact hx
  have h1 : parseL s = 0 := (if_pos h).trans h2
  exact ⟨(if_pos ⟨h, h2, h3⟩).trans (by rw [hr]), h1, if_pos h1, (if_pos h).trans ((if_pos h2).trans (if_pos h3))⟩
theorem Parse_fun (z : List UInt8) (hz : z.length ≤ 140737488355328) : Fun Tryz.prog 15 [.lit (str z)] (Ret (.tup [.sh 5 ((parseV z).map Bar.c), .agg [.lit (.int .i64 (parseL z)), .lit (.int .i64 (parseC z))], .lit (.int .i64 (parseE z))]) []) := by
  refine Fun.of (nt := 49) (rs := [.tmp 2, .cell 3 40, .tmp 4]) Tryz.func15 rfl rfl rfl rfl rfl ?_
  refine Ev.sr fun K hK => S.o q.as (S.nn (q.al am_ze40) (S.o q.as (S.end (hK _ ?_))))
  clear hK K
  refine Ev.seq ?_
  refine Ev.sr fun K hK => S.o q.mv (S.o (q.slen am_el9 am_un9) (S.o q.gtr (S.end (hK _ ?_))))
  clear hK K
  refine Ev.cd (fun c1 => ?_) (fun c1 => ?_)
  · first
  | (first | omega | contradiction)
  | obtain ⟨e1, e2, e3, e4⟩ := parse_long (s := z) (by omega)
    rw [e1, e2, e3, e4]
    refine Ev.sr fun K hK => S.o (q.bd [_, _] am_ze40 am_pl40) (S.o q.as (S.sv [_, _] true [] am_in40 am_cl40 (h := S.o q.as (S.end (hK _ ?_)))))
    clear hK K
    refine Ev.weaken (Wk.nsh Bar.c 2 5) ?_
    refine Ev.ret ?_
    refine Ev.retv3 (res_t (res_c [_, _] am_ag40 am_cl40 (res_t res_n))) ?_
    refine ⟨?_, rfl⟩
    first | rfl | (rw [e1, e2, e3, e4]; done) | (rw [e1, e2, e3, e4] <;> rfl)
  · first
  | (first | omega | contradiction)
  | refine Ev.skip ?_
    show Ev _ _ _ _
    have hz2 : z.length ≤ 262144 := by omega
    refine Ev.sr fun K hK => S.o q.as (S.end (hK _ ?_))
    clear hK K
    refine Ev.seq ?_
    refine Ev.block ?_
    refine Ev.weaken (Wk.nown Bar.c 5 49 5) ?_
    refine Ev.loopU (ι := {q : List Bar × List UInt8 // readL (splitG 0 10 q.2) q.1 = readR z ∧ q.1.length + q.2.length ≤ z.length ∧ schedW q.1}) [1, 0] [3] (fun ⟨(bs, r), _⟩ => [(0, .lit (str (r))), (5, .als 0 0 (bs).length)]) (fun ⟨(bs, r), _⟩ => [(0, ⟨true, 49, 5, (bs).map Bar.c, true⟩), (1, ⟨false, 40, 2, [[.lit (.int .i64 (0)), .lit (.int .i64 (0))]], true⟩)]) (fun ⟨(bs, r), _⟩ => r.length) ⟨([], z), rfl, by simp, fun x hx => by cases hx⟩ (.c .n) (keep_c (he := (by first | rfl | (simp; done))) (h := (keep_c (he := (by first | rfl | (simp; done))) (h := keep_n)))) (slots_c (he := (by first | rfl | (simp; done) | (congr 2; omega))) (h := (slots_c (he := (by first | rfl | (simp; done) | (congr 2; omega))) (h := trivial)))) ?_
    rintro ⟨⟨bs, r⟩, hr, hl, hw⟩ R0 hR0
    dsimp only [List.cons_append, List.nil_append, List.length_cons, List.length_nil]
    simp only at hr hl hw
    rcases r with _ | ⟨r0, r'⟩
    · rw [show readL (splitG 0 10 []) bs = (bs, 0) by simp [splitG, readL]] at hr; simp only [List.length_nil] at hl
      refine Ev.seq ?_
      refine Ev.sr fun K hK => S.o q.mv (S.o q.snes (S.end (hK _ ?_)))
      clear hK K
      refine Ev.cn (fun c2 => ?_) (fun c2 => ?_)
      · first | omega | contradiction
      · first
      | (first | omega | contradiction)
      | refine Ev.exit ?_
        refine hR0 _ _ ?_
        show Ev _ _ _ _
        refine Ev.seq ?_
        refine Ev.weaken (Wk.frz 5 [_]) ?_
        refine Ev.sr fun K hK => S.o q.mv (S.c0 (hF := schedValid_fun _ (by omega) (by assumption)) (h := S.o q.not (S.end (hK _ ?_))))
        clear hK K
        refine Ev.cn (fun c3 => ?_) (fun c3 => ?_)
        · first
        | (first | omega | contradiction)
        | obtain ⟨e1, e2, e3, e4⟩ := parse_arg hz2 hr.symm ‹¬ okSched bs›
          refine Ev.sr fun K hK => S.o (q.bd [_, _] am_ze40 am_pl40) (S.o q.as (S.sv [_, _] true [] am_in40 am_cl40 (h := S.o q.as (S.end (hK _ ?_)))))
          clear hK K
          refine Ev.weaken (Wk.nsh Bar.c 2 5) ?_
          refine Ev.ret ?_
          refine Ev.retv3 (res_t (res_c [_, _] am_ag40 am_cl40 (res_t res_n))) ?_
          refine ⟨?_, rfl⟩
          first | rfl | (rw [e1, e2, e3, e4]; done) | (rw [e1, e2, e3, e4] <;> rfl)
        · first
        | (first | omega | contradiction)
        | refine Ev.skip ?_
          show Ev _ _ _ _
          obtain ⟨e1, e2, e3, e4⟩ := parse_ok hz2 hr.symm ‹okSched bs›
          refine Ev.sr fun K hK => S.o q.mv (S.o (q.bd [_, _] am_ze40 am_pl40) (S.o q.as (S.sv [_, _] true [] am_in40 am_cl40 (h := S.o q.as (S.end (hK _ ?_))))))
          clear hK K
          refine Ev.ret ?_
          refine Ev.retv3 (res_t (res_c [_, _] am_ag40 am_cl40 (res_t res_n))) ?_
          refine ⟨?_, rfl⟩
          first | rfl | (rw [e1, e2, e3, e4]; done) | (rw [e1, e2, e3, e4] <;> rfl)
    · obtain ⟨R, hR⟩ : ∃ R, r0 :: r' = R := ⟨_, rfl⟩
      have hRne : R ≠ [] := by rw [← hR]; simp
      rw [hR] at hr hl ⊢
      obtain ⟨q1, q2, q3, q4, q5⟩ := read_cut R bs hRne
      obtain ⟨⟨l, t, e⟩, hcut⟩ : ∃ p, cutB 10 R = p := ⟨_, rfl⟩
      rw [hcut] at q1 q2 q3 q4 q5
      simp only at q1 q2 q3 q4 q5
      have hRl : (r0 :: r').length = R.length := by rw [hR]
      refine Ev.seq ?_
      refine Ev.sr fun K hK => S.o q.mv (S.o q.snes (S.end (hK _ ?_)))
      clear hK K
      refine Ev.cn (fun c4 => ?_) (fun c4 => ?_)
      · first
      | (first | omega | contradiction)
      | refine Ev.skip ?_
        show Ev _ _ _ _
        refine Ev.block ?_
        refine Ev.sr fun K hK => S.o q.mv (S.c0 (hF := strCut_fun _ 10 (by omega)) (h := S.o q.mv (S.o q.ex (S.o q.ex (S.o q.ex (S.o q.as (S.o q.as (S.o q.as (S.end (hK _ ?_))))))))))
        clear hK K
        rw [hcut]
        refine Ev.sr fun K hK => S.o q.mv ?_
        rcases hb : readB l with _ | x
        · skip
          refine S.c0 (hF := line_none (by omega) hb) (h := S.o q.mv (S.o q.ex (S.o q.ex (S.nn (q.al am_ze49) (S.sv [_, _, _, _, _] true [_, _] am_in49 am_cl49 (h := S.o q.as (S.end (hK _ ?_))))))))
          clear hK K
          refine Ev.seq ?_
          refine Ev.sr fun K hK => S.o q.mv (S.o q.notf (S.o q.mv (S.sk (S.sk (S.o q.pt (S.end (hK _ ?_)))))))
          clear hK K
          refine Ev.ct ?_
          obtain ⟨e1, e2, e3, e4⟩ := parse_bad (n := (bs.length : Int) + 1) (x := []) hz2 (by rw [← hr]; first | exact q3 ‹e = false› | exact q3 (by simpa using ‹(!e) = true›) | (cases he : e; (exact q3 he); (exact q4 he hb))) (by omega)
          refine Ev.sr fun K hK => S.o q.mv (S.o (q.lena am_el22) (S.o q.add (S.o (q.bd [_, _] am_ze40 am_pl40) (S.o q.as (S.sv [_, _] true [_, _] am_in40 am_cl40 (h := S.o q.as (S.end (hK _ ?_))))))))
          clear hK K
          refine Ev.weaken (Wk.nsh Bar.c 2 5) ?_
          refine Ev.ret ?_
          refine hR0 _ _ ?_
          refine Ev.retv3 (res_t (res_c [_, _] am_ag40 am_cl40 (res_t res_n))) ?_
          refine ⟨?_, rfl⟩
          first | rfl | (rw [e1, e2, e3, e4]; done) | (rw [e1, e2, e3, e4] <;> rfl)
        · skip
          refine S.c0 (hF := line_some (by omega) hb) (h := S.o q.mv (S.o q.ex (S.o q.ex (S.nn (q.al am_ze49) (S.sv [_, _, _, _, _] true [_, _] am_in49 am_cl49 (h := S.o q.as (S.end (hK _ ?_))))))))
          clear hK K
          refine Ev.seq ?_
          refine Ev.sr fun K hK => S.o q.mv (S.o q.nott (S.o q.mv (S.o q.mv (S.o q.not (S.o q.pf (S.end (hK _ ?_)))))))
          clear hK K
          refine Ev.c (fun c5 => ?_) (fun c5 => ?_)
          · first
          | (first | omega | contradiction)
          | obtain ⟨e1, e2, e3, e4⟩ := parse_bad (n := (bs.length : Int) + 1) (x := []) hz2 (by rw [← hr]; first | exact q3 ‹e = false› | exact q3 (by simpa using ‹(!e) = true›) | (cases he : e; (exact q3 he); (exact q4 he hb))) (by omega)
            refine Ev.sr fun K hK => S.o q.mv (S.o (q.lena am_el22) (S.o q.add (S.o (q.bd [_, _] am_ze40 am_pl40) (S.o q.as (S.sv [_, _] true [_, _] am_in40 am_cl40 (h := S.o q.as (S.end (hK _ ?_))))))))
            clear hK K
            refine Ev.weaken (Wk.nsh Bar.c 2 5) ?_
            refine Ev.ret ?_
            refine hR0 _ _ ?_
            refine Ev.retv3 (res_t (res_c [_, _] am_ag40 am_cl40 (res_t res_n))) ?_
            refine ⟨?_, rfl⟩
            first | rfl | (rw [e1, e2, e3, e4]; done) | (rw [e1, e2, e3, e4] <;> rfl)
          · first
          | (first | omega | contradiction)
          | refine Ev.skip ?_
            show Ev _ _ _ _
            refine Ev.sr fun K hK => S.o q.mv (S.o (q.lvA [_, _, _, _, _] am_ag49 am_cl49) (S.nn (q.bs [[_, _, _, _, _]] true am_el22 am_ze49 am_cl49) (S.ap' [_, _, _] am_el22 am_ze49 am_cl49 am_by49 (hh := head_own') (hr := (rows_lit [x])) (h := S.o q.as (S.end (hK _ ?_))))))
            clear hK K
            refine Ev.region_S fun K hK => S.o q.mv (S.o q.as (S.end (hK _ ?_)))
            clear hK K
            refine hR0 _ _ ?_
            refine roundU [4, 1] [3] ⟨(bs ++ [x], t), ?_, ?_, ?_⟩ ?_ (keep_c (he := (by first | rfl | (simp; done))) (h := (keep_c (he := (by first | rfl | (simp; done))) (h := keep_n)))) (slots_c (he := (by first | rfl | (simp; done) | (congr 2; omega))) (h := (slots_c (he := (by first | rfl | (simp; done) | (congr 2; omega))) (h := trivial)))) (.c .n)
            all_goals first | (exact (q5 x (by first | assumption | simpa using ‹(!e) = false›) hb).symm.trans hr) | (dsimp only; omega) | (simp only [List.length_append, List.length_singleton]; omega) | (intro y hy; simp only [List.mem_append, List.mem_singleton] at hy; rcases hy with hy | rfl; (exact hw y hy); (have := readB_w hb; exact ⟨by omega, by omega⟩))
            all_goals (dsimp only; omega)
      · first | omega | contradiction
end Go.Proofs.YtddogeicmhbidaaGreatDoor
