/-
  Chapter 23: the example.
  Conditions: none.
-/
import Derived.Test.YthiockdlhehhoaaDoorDm6
import Derived.Test.YthiockdlhehhoaaDoorDm7
namespace Go.Proofs.YthiockdlhehhoaaDoor
open Go Go.AM
set_option linter.unusedSimpArgs false
set_option linter.unusedVariables false
set_option maxRecDepth 100000
set_option maxHeartbeats 1000000

def exD : Dem := ⟨[109], ⟨0, 0, 0, 0, 300, 60⟩, [(0, 500), (1000, 800), (3000, 0)]⟩
theorem exD_w : exD.w := ⟨by decide, by decide⟩
theorem exD_ok : okDem exD := by decide +kernel
theorem decd {u : Nat} (h : ¬ u < 10) : Go.Lib.decDigits u = Go.Lib.decDigits (u / 10) ++ [UInt8.ofNat (48 + u % 10)] := by rw [Go.Lib.decDigits, dif_neg h]
theorem decs {u : Nat} (h : u < 10) : Go.Lib.decDigits u = [UInt8.ofNat (48 + u)] := by rw [Go.Lib.decDigits, dif_pos h]
theorem it0 : Go.Lib.itoa 0 = [48] := by rw [show Go.Lib.itoa 0 = Go.Lib.decDigits 0 from if_neg (by decide), decs (by decide)]; rfl
theorem it300 : Go.Lib.itoa 300 = [51, 48, 48] := by rw [show Go.Lib.itoa 300 = Go.Lib.decDigits 300 from if_neg (by decide), decd (by decide), decd (by decide), decs (by decide)]; rfl
theorem it60 : Go.Lib.itoa 60 = [54, 48] := by rw [show Go.Lib.itoa 60 = Go.Lib.decDigits 60 from if_neg (by decide), decd (by decide), decs (by decide)]; rfl
theorem it500 : Go.Lib.itoa 500 = [53, 48, 48] := by rw [show Go.Lib.itoa 500 = Go.Lib.decDigits 500 from if_neg (by decide), decd (by decide), decd (by decide), decs (by decide)]; rfl
theorem it1000 : Go.Lib.itoa 1000 = [49, 48, 48, 48] := by rw [show Go.Lib.itoa 1000 = Go.Lib.decDigits 1000 from if_neg (by decide), decd (by decide), decd (by decide), decd (by decide), decs (by decide)]; rfl
theorem it800 : Go.Lib.itoa 800 = [56, 48, 48] := by rw [show Go.Lib.itoa 800 = Go.Lib.decDigits 800 from if_neg (by decide), decd (by decide), decd (by decide), decs (by decide)]; rfl
theorem it3000 : Go.Lib.itoa 3000 = [51, 48, 48, 48] := by rw [show Go.Lib.itoa 3000 = Go.Lib.decDigits 3000 from if_neg (by decide), decd (by decide), decd (by decide), decd (by decide), decs (by decide)]; rfl
def exT : List UInt8 := [100, 101, 109, 97, 110, 100, 32, 109, 32, 121, 32, 48, 32, 51, 48, 48, 32, 122, 32, 48, 32, 54, 48, 32, 48, 32, 53, 48, 48, 32, 49, 48, 48, 48, 32, 56, 48, 48, 32, 51, 48, 48, 48, 32, 48, 10]
theorem exT_eq : txV [exD] = exT ∧ txE [exD] = 0 := by
  have h : okDems [exD] := (okOne exD).2 exD_ok
  refine ⟨(if_pos h).trans ?_, if_pos h⟩
  simp only [textL, textD, headT, stepsT, numsT, exD, List.flatMap_cons, List.flatMap_nil, it0, it300, it60, it500, it1000, it800, it3000]
  rfl
theorem example_fun : Fun Tryd.prog 16 [] (Ret (.agg exD.c) []) := by
  refine Fun.of (nt := 8) (rs := [.cell 0 42]) Tryd.func16 rfl rfl rfl rfl rfl ?_
  refine Ev.sr fun K hK => S.nn (q.al am_ze42) (S.end (hK _ ?_))
  clear hK K
  refine Ev.sr fun K hK => S.o (q.bd [_, _, _] am_ze24 am_pl24) (S.o (q.bd [_, _, _, _, _, _] am_ze26 am_pl26) (S.o (q.bd [_, _] am_ze40 am_pl40) (S.o (q.bd [_, _] am_ze40 am_pl40) (S.o (q.bd [_, _] am_ze40 am_pl40) (S.nn (q.bs [[_, _], [_, _], [_, _]] true am_el31 am_ze40 am_cl40) (SeqL.weaken (Wk.frzl (f := pairC) [(⟨_, _⟩ : Int × Int), (⟨_, _⟩ : Int × Int), (⟨_, _⟩ : Int × Int)] 6 [_]) (S.o (q.bd [_, _, _, _, _, _, _, _] am_ze42 am_pl42) (S.sv [_, _, _, _, _, _, _, _] true [] am_in42 am_cl42 (h := S.end (hK _ ?_))))))))))
  clear hK K
  refine Ev.ret ?_
  refine Ev.retv1 (res_c [_, _, _, _, _, _, _, _] am_ag42 am_cl42 res_n) ?_
  refine ⟨?_, rfl⟩
  rfl
theorem exPeak_fun : Fun Tryd.prog 15 [.agg exD.c] (Ret (.tup [.lit (.int .i64 800), .lit (.int .i64 1000), .lit (.int .i64 0)]) []) := by
  have h := demPeak_fun exD exD_w
  rwa [show pkS exD = (1000, 800) from (if_pos exD_ok).trans (by decide), show pkE exD = 0 from (if_pos exD_ok).trans (by decide)] at h
def exS : Dem := ⟨[109], ⟨0, 0, 0, 0, 300, 60⟩, [(0, 750), (1000, 1200), (3000, 0)]⟩
theorem exScaled_fun : Fun Tryd.prog 17 [.agg exD.c, .lit (.int .i64 3), .lit (.int .i64 2)] (Ret (.tup [.agg exS.c, .lit (.int .i64 0)]) []) := by
  have h := demScaled_fun exD 3 2 exD_w
  obtain ⟨e1, e2⟩ := sc_ok (num := 3) (den := 2) exD_ok (by decide) (by decide)
  rw [e1, e2] at h
  exact h
theorem exIn_fun : Fun Tryd.prog 18 [.agg exD.c, .agg (Bx.c ⟨100, 50, 40, 900, 50, 40⟩)] (Ret (.tup [.lit (.bool true), .lit (.int .i64 0)]) []) := by
  have h := demIn_fun exD ⟨100, 50, 40, 900, 50, 40⟩ exD_w
  have h1 : inDV exD ⟨100, 50, 40, 900, 50, 40⟩ := ⟨exD_ok, by decide, by decide, by decide, by decide⟩
  have h2 : inDE exD ⟨100, 50, 40, 900, 50, 40⟩ = 0 := by unfold inDE okE1; exact if_pos ⟨h1.1, h1.2.1⟩
  rwa [decide_eq_true h1, h2] at h
theorem exText_fun : Fun Tryd.prog 19 [.sh 8 ([exD].map Dem.c)] (Ret (.tup [.lit (str exT), .lit (.int .i64 0)]) []) := by
  have h := demText_fun [exD] (by decide) (demW_one exD_w)
  rwa [exT_eq.1, exT_eq.2] at h
theorem awake_fun : Fun Tryd.prog 4 [] (Ret (.lit (.bool true)) []) := by
  refine Fun.of (nt := 78) (rs := [.tmp 0]) Tryd.func4 rfl rfl rfl rfl rfl ?_
  refine Ev.sr fun K hK => S.o q.as (S.end (hK _ ?_))
  clear hK K
  refine Ev.sr fun K hK => S.c0 (hF := example_fun) (h := S.c0 (hF := exPeak_fun) (h := S.o q.mv (S.o q.ex (S.o q.ex (S.o q.ex (S.o q.as (S.o q.as (S.o q.as (S.end (hK _ ?_))))))))))
  clear hK K
  refine Ev.sr fun K hK => S.c0 (hF := example_fun) (h := S.c0 (hF := exScaled_fun) (h := S.o q.mv (S.o q.ex (S.o q.ex (S.nn (q.al am_ze42) (S.sv [_, _, _, _, _, _, _, _] true [] am_in42 am_cl42 (h := S.o q.as (S.end (hK _ ?_)))))))))
  clear hK K
  refine Ev.sr fun K hK => S.c0 (hF := example_fun) (h := S.o (q.bd [_, _, _] am_ze24 am_pl24) (S.o (q.bd [_, _, _] am_ze24 am_pl24) (S.o (q.bd [_, _, _, _, _, _] am_ze26 am_pl26) (S.c0 (hF := exIn_fun) (h := S.o q.mv (S.o q.ex (S.o q.ex (S.o q.as (S.o q.as (S.end (hK _ ?_)))))))))))
  clear hK K
  refine Ev.sr fun K hK => S.c0 (hF := example_fun) (h := S.nn (q.bs [[_, _, _, _, _, _, _, _]] true am_el22 am_ze42 am_cl42) ?_)
  refine SeqL.weaken (Wk.frzl (f := Dem.c) [exD] 31 [_]) ?_
  refine S.c0 (hF := exText_fun) (h := S.o q.mv (S.o q.ex (S.o q.ex (S.o q.as (S.o q.as (S.end (hK _ ?_)))))))
  clear hK K
  refine Ev.sr fun K hK => S.o q.mv (S.o q.eql (S.bd q.mv (fun c1 => ?_) (fun c1 => ?_)))
  · first
  | (first | omega | contradiction)
  | refine S.o q.mv (S.o q.eql (S.o q.pt (S.bd q.mv (fun c2 => ?_) (fun c2 => ?_))))
    · first
    | (first | omega | contradiction)
    | refine S.o q.mv (S.o q.eql (S.o q.pt (S.bd q.mv (fun c3 => ?_) (fun c3 => ?_))))
      · first
      | (first | omega | contradiction)
      | refine S.o q.mv (S.o q.eql (S.o q.pt (S.bd q.mv (fun c4 => ?_) (fun c4 => ?_))))
        · first
        | (first | omega | contradiction)
        | refine S.o (q.fa 7 am_fi42_2 am_cl31) (S.o (q.lv am_ag31) (S.o (q.lens am_el31) (S.o q.eql (S.o q.pt (S.bd q.mv (fun c5 => ?_) (fun c5 => ?_))))))
          · first
          | (first | omega | contradiction)
          | refine S.o (q.fa 7 am_fi42_2 am_cl31) (S.o (q.lv am_ag31) (S.o (q.ix am_el31 am_cl40 (hl := (by first | exact ati (show ([((0 : Int), (750 : Int)), (1000, 1200), (3000, 0)] : List (Int × Int))[1]? = some (1000, 1200) from rfl) (by omega) | exact atig (by omega)))) (S.o (q.fs 1 am_fi40_1 am_cl3) (S.o (q.ls am_ag3) (S.o q.eql (S.o q.pt (S.bd q.mv (fun c6 => ?_) (fun c6 => ?_))))))))
            · first
            | (first | omega | contradiction)
            | refine S.o q.mv (S.o q.eql (S.o q.pt (S.bd q.mv (fun c7 => ?_) (fun c7 => ?_))))
              · first
              | (first | omega | contradiction)
              | refine S.o q.mv (S.o q.pt (S.o q.mv (S.o q.mv (S.o q.eql (S.o q.pt (S.bd q.mv (fun c8 => ?_) (fun c8 => ?_)))))))
                · first
                | (first | omega | contradiction)
                | refine S.o q.mv (S.o q.seqs (S.o q.pt (S.o q.as (S.end (hK _ ?_)))))
                  clear hK K
                  refine Ev.ret ?_
                  refine Ev.ret1 ?_
                  refine ⟨?_, rfl⟩
                  first | rfl | exact lawT rfl | exact lawT (by decide) | (exfalso; omega) | contradiction | (exfalso; simp [exT] at *; done)
                · first
                | (first | omega | contradiction)
                | refine S.sk (S.sk (S.o q.pf (S.o q.as (S.end (hK _ ?_)))))
                  clear hK K
                  refine Ev.ret ?_
                  refine Ev.ret1 ?_
                  refine ⟨?_, rfl⟩
                  first | rfl | exact lawT rfl | exact lawT (by decide) | (exfalso; omega) | contradiction | (exfalso; simp [exT] at *; done)
              · first
              | (first | omega | contradiction)
              | refine S.sk (S.o q.pf (S.o q.mv (S.sk (S.sk (S.o q.pf (S.o q.mv (S.sk (S.sk (S.o q.pf (S.o q.as (S.end (hK _ ?_))))))))))))
                clear hK K
                refine Ev.ret ?_
                refine Ev.ret1 ?_
                refine ⟨?_, rfl⟩
                first | rfl | exact lawT rfl | exact lawT (by decide) | (exfalso; omega) | contradiction | (exfalso; simp [exT] at *; done)
            · first
            | (first | omega | contradiction)
            | refine S.sk (S.sk (S.o q.pf (S.o q.mv (S.sk (S.o q.pf (S.o q.mv (S.sk (S.sk (S.o q.pf (S.o q.mv (S.sk (S.sk (S.o q.pf (S.o q.as (S.end (hK _ ?_))))))))))))))))
              clear hK K
              refine Ev.ret ?_
              refine Ev.ret1 ?_
              refine ⟨?_, rfl⟩
              first | rfl | exact lawT rfl | exact lawT (by decide) | (exfalso; omega) | contradiction | (exfalso; simp [exT] at *; done)
          · first
          | (first | omega | contradiction)
          | refine S.sk (S.sk (S.sk (S.sk (S.sk (S.sk (S.o q.pf (S.o q.mv (S.sk (S.sk (S.o q.pf (S.o q.mv (S.sk (S.o q.pf (S.o q.mv (S.sk (S.sk (S.o q.pf (S.o q.mv (S.sk (S.sk (S.o q.pf (S.o q.as (S.end (hK _ ?_))))))))))))))))))))))))
            clear hK K
            refine Ev.ret ?_
            refine Ev.ret1 ?_
            refine ⟨?_, rfl⟩
            first | rfl | exact lawT rfl | exact lawT (by decide) | (exfalso; omega) | contradiction | (exfalso; simp [exT] at *; done)
        · first
        | (first | omega | contradiction)
        | refine S.sk (S.sk (S.sk (S.sk (S.o q.pf (S.o q.mv (S.sk (S.sk (S.sk (S.sk (S.sk (S.sk (S.o q.pf (S.o q.mv (S.sk (S.sk (S.o q.pf (S.o q.mv (S.sk (S.o q.pf (S.o q.mv (S.sk (S.sk (S.o q.pf (S.o q.mv (S.sk (S.sk (S.o q.pf (S.o q.as (S.end (hK _ ?_))))))))))))))))))))))))))))))
          clear hK K
          refine Ev.ret ?_
          refine Ev.ret1 ?_
          refine ⟨?_, rfl⟩
          first | rfl | exact lawT rfl | exact lawT (by decide) | (exfalso; omega) | contradiction | (exfalso; simp [exT] at *; done)
      · first
      | (first | omega | contradiction)
      | refine S.sk (S.sk (S.o q.pf (S.o q.mv (S.sk (S.sk (S.sk (S.sk (S.o q.pf (S.o q.mv (S.sk (S.sk (S.sk (S.sk (S.sk (S.sk (S.o q.pf (S.o q.mv (S.sk (S.sk (S.o q.pf (S.o q.mv (S.sk (S.o q.pf (S.o q.mv (S.sk (S.sk (S.o q.pf (S.o q.mv (S.sk (S.sk (S.o q.pf (S.o q.as (S.end (hK _ ?_))))))))))))))))))))))))))))))))))
        clear hK K
        refine Ev.ret ?_
        refine Ev.ret1 ?_
        refine ⟨?_, rfl⟩
        first | rfl | exact lawT rfl | exact lawT (by decide) | (exfalso; omega) | contradiction | (exfalso; simp [exT] at *; done)
    · first
    | (first | omega | contradiction)
    | refine S.sk (S.sk (S.o q.pf (S.o q.mv (S.sk (S.sk (S.o q.pf (S.o q.mv (S.sk (S.sk (S.sk (S.sk (S.o q.pf (S.o q.mv (S.sk (S.sk (S.sk (S.sk (S.sk (S.sk (S.o q.pf (S.o q.mv (S.sk (S.sk (S.o q.pf (S.o q.mv (S.sk (S.o q.pf (S.o q.mv (S.sk (S.sk (S.o q.pf (S.o q.mv (S.sk (S.sk (S.o q.pf (S.o q.as (S.end (hK _ ?_))))))))))))))))))))))))))))))))))))))
      clear hK K
      refine Ev.ret ?_
      refine Ev.ret1 ?_
      refine ⟨?_, rfl⟩
      first | rfl | exact lawT rfl | exact lawT (by decide) | (exfalso; omega) | contradiction | (exfalso; simp [exT] at *; done)
  · first
  | (first | omega | contradiction)
  | refine S.sk (S.sk (S.o q.pf (S.o q.mv (S.sk (S.sk (S.o q.pf (S.o q.mv (S.sk (S.sk (S.o q.pf (S.o q.mv (S.sk (S.sk (S.sk (S.sk (S.o q.pf (S.o q.mv (S.sk (S.sk (S.sk (S.sk (S.sk (S.sk (S.o q.pf (S.o q.mv (S.sk (S.sk (S.o q.pf (S.o q.mv (S.sk (S.o q.pf (S.o q.mv (S.sk (S.sk (S.o q.pf (S.o q.mv (S.sk (S.sk (S.o q.pf (S.o q.as (S.end (hK _ ?_))))))))))))))))))))))))))))))))))))))))))
    clear hK K
    refine Ev.ret ?_
    refine Ev.ret1 ?_
    refine ⟨?_, rfl⟩
    first | rfl | exact lawT rfl | exact lawT (by decide) | (exfalso; omega) | contradiction | (exfalso; simp [exT] at *; done)
end Go.Proofs.YthiockdlhehhoaaDoor
