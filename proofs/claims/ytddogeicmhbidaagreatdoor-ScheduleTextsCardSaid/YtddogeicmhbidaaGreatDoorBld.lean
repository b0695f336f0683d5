/-
  strings.Builder: writing, and what was written.
  Conditions: none.
-/
import Derived.Test.YtddogeicmhbidaaGreatDoorAmBld
import Derived.Test.YtddogeicmhbidaaGreatDoorBase
namespace Go.Proofs.YtddogeicmhbidaaGreatDoor
open Go Go.AM
set_option linter.unusedSimpArgs false
set_option linter.unusedVariables false
set_option maxRecDepth 100000
theorem copyUsed_fun (l : List UInt8) : FunR Tryz.prog 58 [.adr 0 0 0] [(0, ⟨false, 67, 2, [[.adr 0 0 0, .als 1 0 l.length]], false⟩), (1, ⟨true, 5, 1, l.map byteC, true⟩)] 2 (Ret (.tup []) [(0, ⟨false, 67, 2, [[.adr 0 0 0, .als 1 0 l.length]], false⟩), (1, ⟨true, 5, 1, l.map byteC, true⟩)]) := by
  refine FunR.of (nt := 20) (rs := []) Tryz.func58 rfl rfl rfl rfl rfl ?_
  refine Ev.sr fun K hK => S.o q.mv (S.o q.nc (S.o (q.fa 0 am_fi67_0 am_cl64) (S.o (q.lv am_ag64) (S.peqa (by kernel_rfl : Tryz.prog.underlying 64 = some (.pointer 67)) (h := S.end (hK _ ?_))))))
  clear hK K
  refine Ev.cf ?_
  refine Ev.sr fun K hK => S.o q.mv (S.o q.nc (S.o (q.fa 0 am_fi67_0 am_cl64) (S.o (q.lv am_ag64) (S.o q.mv (S.pne (by kernel_rfl : Tryz.prog.underlying 64 = some (.pointer 67)) (by kernel_rfl) (h := S.end (hK _ ?_)))))))
  clear hK K
  refine Ev.cf ?_
  refine Ev.skip ?_
  show endR _ _ _ _ Exit.ret _
  refine Ev.rr0 [0, 1] (keepR_d (h := (keepR_c (h := keepR_n)))) leads2 ?_
  refine ⟨?_, ?_⟩
  all_goals rfl
theorem copyFresh_fun (l : List UInt8) : FunR Tryz.prog 58 [.adr 0 0 0] [(0, ⟨false, 67, 2, [[.lit (.pointer none), .als 1 0 l.length]], false⟩), (1, ⟨true, 5, 1, l.map byteC, true⟩)] 2 (Ret (.tup []) [(0, ⟨false, 67, 2, [[.adr 0 0 0, .als 1 0 l.length]], false⟩), (1, ⟨true, 5, 1, l.map byteC, true⟩)]) := by
  refine FunR.of (nt := 20) (rs := []) Tryz.func58 rfl rfl rfl rfl rfl ?_
  refine Ev.sr fun K hK => S.o q.mv (S.o q.nc (S.o (q.fa 0 am_fi67_0 am_cl64) (S.o (q.lv am_ag64) (S.peq (by kernel_rfl : Tryz.prog.underlying 64 = some (.pointer 67)) (h := S.end (hK _ ?_))))))
  clear hK K
  refine Ev.ct ?_
  refine Ev.region_S fun K hK => S.o q.mv (S.o q.mv (S.p2u (by kernel_rfl : Tryz.prog.underlying 64 = some (.pointer 67)) (by kernel_rfl) (by kernel_rfl) (h := S.same (f := 93) (fn := Tryz.f93) Tryz.func93 (by kernel_rfl) (by kernel_rfl) (by kernel_rfl) (by kernel_rfl) (h := S.u2p (by kernel_rfl) (by kernel_rfl : Tryz.prog.underlying 64 = some (.pointer 67)) (by kernel_rfl) (by kernel_rfl) (h := S.o q.nc (S.o (q.fa 0 am_fi67_0 am_cl64) (S.sv [_, _] false [_] am_in64 am_cl64 (h := S.end (hK _ ?_)))))))))
  clear hK K
  show endR _ _ _ _ Exit.ret _
  refine Ev.rr0 [0, 1] (keepR_d (h := (keepR_c (h := keepR_n)))) leads2 ?_
  refine ⟨?_, ?_⟩
  all_goals rfl
theorem writeUsed_fun (l s : List UInt8) (hl : l.length + s.length ≤ 100000000000) : FunR Tryz.prog 34 [.adr 0 0 0, .lit (str s)] [(0, ⟨false, 67, 2, [[.adr 0 0 0, .als 1 0 l.length]], false⟩), (1, ⟨true, 5, 1, l.map byteC, true⟩)] 2
    (Ret (.tup [.lit (.int .i64 (s.length : Int)), .lit .nilIface]) [(0, ⟨false, 67, 2, [[.adr 0 0 0, .als 2 0 (l ++ s).length]], false⟩), (2, ⟨true, 5, 1, (l ++ s).map byteC, true⟩)]) := by
  refine FunR.of (nt := 19) (rs := [.tmp 4, .tmp 5]) Tryz.func34 rfl rfl rfl rfl rfl ?_
  refine Ev.sr fun K hK => S.o q.as (S.o q.as (S.end (hK _ ?_)))
  clear hK K
  refine Ev.sr fun K hK => S.o q.mv (S.cR [0, 1] 2 [_, _] (hob := (keep_d (he := rfl) (h := (keep_c (he := rfl) (h := keep_n))))) (hF := copyUsed_fun l) (hn' := belowL rfl rfl) (h := S.end (hK _ ?_)))
  clear hK K
  refine Ev.sr fun K hK => S.o q.mv (S.o q.mv (S.o q.nc (S.o (q.fa 1 am_fi67_1 am_cl65) (S.o (q.lv am_ag65) (S.o q.mv (S.aps [_] am_el65 am_un9 am_ze5 am_cl5 am_by5 (hh := (head_own' (f := byteC))) (h := S.o q.nc (S.o (q.fa 1 am_fi67_1 am_cl65) (S.sv [_, _] false [_] am_in65 am_cl65 (h := S.end (hK _ ?_)))))))))))
  clear hK K
  refine Ev.sr fun K hK => S.o q.mv (S.o (q.slen am_el9 am_un9) (S.o q.as (S.o q.as (S.end (hK _ ?_)))))
  clear hK K
  refine Ev.ret ?_
  refine Ev.rr2 [0, 1, 2] (keepR_d (h := (keepR_g (h := (keepR_c (h := keepR_n)))))) (leadsB rfl) ?_
  refine ⟨?_, ?_⟩
  all_goals rfl
theorem writeFresh_fun (l s : List UInt8) (hl : l.length + s.length ≤ 100000000000) : FunR Tryz.prog 34 [.adr 0 0 0, .lit (str s)] [(0, ⟨false, 67, 2, [[.lit (.pointer none), .als 1 0 l.length]], false⟩), (1, ⟨true, 5, 1, l.map byteC, true⟩)] 2
    (Ret (.tup [.lit (.int .i64 (s.length : Int)), .lit .nilIface]) [(0, ⟨false, 67, 2, [[.adr 0 0 0, .als 2 0 (l ++ s).length]], false⟩), (2, ⟨true, 5, 1, (l ++ s).map byteC, true⟩)]) := by
  refine FunR.of (nt := 19) (rs := [.tmp 4, .tmp 5]) Tryz.func34 rfl rfl rfl rfl rfl ?_
  refine Ev.sr fun K hK => S.o q.as (S.o q.as (S.end (hK _ ?_)))
  clear hK K
  refine Ev.sr fun K hK => S.o q.mv (S.cR [0, 1] 2 [_, _] (hob := (keep_d (he := rfl) (h := (keep_c (he := rfl) (h := keep_n))))) (hF := copyFresh_fun l) (hn' := belowL rfl rfl) (h := S.end (hK _ ?_)))
  clear hK K
  refine Ev.sr fun K hK => S.o q.mv (S.o q.mv (S.o q.nc (S.o (q.fa 1 am_fi67_1 am_cl65) (S.o (q.lv am_ag65) (S.o q.mv (S.aps [_] am_el65 am_un9 am_ze5 am_cl5 am_by5 (hh := (head_own' (f := byteC))) (h := S.o q.nc (S.o (q.fa 1 am_fi67_1 am_cl65) (S.sv [_, _] false [_] am_in65 am_cl65 (h := S.end (hK _ ?_)))))))))))
  clear hK K
  refine Ev.sr fun K hK => S.o q.mv (S.o (q.slen am_el9 am_un9) (S.o q.as (S.o q.as (S.end (hK _ ?_)))))
  clear hK K
  refine Ev.ret ?_
  refine Ev.rr2 [0, 1, 2] (keepR_d (h := (keepR_g (h := (keepR_c (h := keepR_n)))))) (leadsB rfl) ?_
  refine ⟨?_, ?_⟩
  all_goals rfl
theorem string_fun (l : List UInt8) (hl : 0 < l.length) : FunR Tryz.prog 36 [.adr 0 0 0] [(0, ⟨false, 67, 2, [[.adr 0 0 0, .als 1 0 l.length]], false⟩), (1, ⟨true, 5, 1, l.map byteC, true⟩)] 2 (Ret (.lit (str l)) [(0, ⟨false, 67, 2, [[.adr 0 0 0, .als 1 0 l.length]], false⟩)]) := by
  refine FunR.of (nt := 14) (rs := [.tmp 2]) Tryz.func36 rfl rfl rfl rfl rfl ?_
  refine Ev.sr fun K hK => S.o q.as (S.end (hK _ ?_))
  clear hK K
  refine Ev.sm (tbs [(0, 0), (1, 1), (2, 3), (3, 7), (4, 15), (0, 0), (6, 32), (7, 96), (8, 224), (9, 480), (10, 1023), (11, 2047)]) 10 fun K hK => M.o q.mv (M.o q.nc (M.o (q.fa 1 am_fi67_1 am_cl65) (M.o (q.lv am_ag65) (M.o (q.usd (by omega)) (M.o q.mv (M.o q.nc (M.o (q.fa 1 am_fi67_1 am_cl65) (M.o (q.lv am_ag65) (M.o (q.lena am_el65) (M.end [_, _] (h := S.ust [_] (by kernel_rfl : Tryz.prog.underlying 98 = some (.pointer 5)) am_cl5 (by omega) (h := S.o q.as (S.end (hK _ ?_))))))))))))))
  clear hK K
  refine Ev.ret ?_
  refine Ev.rr1 [0, 1] (keepR_d (h := (keepR_g (h := keepR_n)))) leads2 ?_
  refine ⟨?_, ?_⟩
  all_goals rfl
theorem string0_fun : FunR Tryz.prog 36 [.adr 0 0 0] [(0, ⟨false, 67, 2, [[.lit (.pointer none), .lit (.slice none 0 0)]], true⟩)] 1 (Ret (.lit (str [])) [(0, ⟨false, 67, 2, [[.lit (.pointer none), .lit (.slice none 0 0)]], true⟩)]) := by
  refine FunR.of (nt := 14) (rs := [.tmp 2]) Tryz.func36 rfl rfl rfl rfl rfl ?_
  refine Ev.sr fun K hK => S.o q.as (S.end (hK _ ?_))
  clear hK K
  refine Ev.sm (tbs [(0, 0), (1, 1), (2, 3), (3, 7), (4, 15), (0, 0), (6, 32), (7, 96), (8, 224), (9, 480), (10, 1023), (11, 2047)]) 10 fun K hK => M.o q.mv (M.o q.nc (M.o (q.fa 1 am_fi67_1 am_cl65) (M.o (q.lv am_ag65) (M.o q.usd0 (M.o q.mv (M.o q.nc (M.o (q.fa 1 am_fi67_1 am_cl65) (M.o (q.lv am_ag65) (M.o (q.lenn am_el65) (M.end [_] (h := S.ust0 (h := S.o q.as (S.end (hK _ ?_))))))))))))))
  clear hK K
  refine Ev.ret ?_
  refine Ev.rr1 [0] (keepR_c (h := keepR_n)) leads1 ?_
  refine ⟨?_, ?_⟩
  all_goals rfl
end Go.Proofs.YtddogeicmhbidaaGreatDoor
