/-
  strings.Builder: writing, and what was written.
  Conditions: none.
-/
import Derived.Test.YtnbjmckhongidaaGreatDoorAmBld
import Derived.Test.YtnbjmckhongidaaGreatDoorBase
import Derived.Test.YtnbjmckhongidaaGreatDoorAmJoin
import Derived.Shelf.Lay
import Derived.Ground.NamesProg
import Derived.Shelf.Strings.BuilderX
namespace Go.Proofs.YtnbjmckhongidaaGreatDoor
open Go Go.AM
set_option linter.unusedSimpArgs false
set_option linter.unusedVariables false
set_option maxRecDepth 100000
theorem copyUsed_fun (l : List UInt8) : FunR Tryz.prog 32 [.adr 0 0 0] [(0, ⟨false, 50, 2, [[.adr 0 0 0, .als 1 0 l.length]], false⟩), (1, ⟨true, 5, 1, l.map byteC, true⟩)] 2 (Ret (.tup []) [(0, ⟨false, 50, 2, [[.adr 0 0 0, .als 1 0 l.length]], false⟩), (1, ⟨true, 5, 1, l.map byteC, true⟩)]) := by
  refine FunR.of (nt := 20) (rs := []) Tryz.func32 rfl rfl rfl rfl rfl ?_
  refine Ev.sr fun K hK => S.o q.mv (S.o q.nc (S.o (q.fa 0 am_fi50_0 am_cl47) (S.o (q.lv am_ag47) (S.peqa (by kernel_rfl : Tryz.prog.underlying 47 = some (.pointer 50)) (h := S.end (hK _ ?_))))))
  clear hK K
  refine Ev.cf ?_
  refine Ev.sr fun K hK => S.o q.mv (S.o q.nc (S.o (q.fa 0 am_fi50_0 am_cl47) (S.o (q.lv am_ag47) (S.o q.mv (S.pne (by kernel_rfl : Tryz.prog.underlying 47 = some (.pointer 50)) (by kernel_rfl) (h := S.end (hK _ ?_)))))))
  clear hK K
  refine Ev.cf ?_
  refine Ev.skip ?_
  show endR _ _ _ _ Exit.ret _
  refine Ev.rr0 [0, 1] (keepR_d (h := (keepR_c (h := keepR_n)))) leads2 ?_
  refine ⟨?_, ?_⟩
  all_goals rfl
theorem copyFresh_fun (l : List UInt8) : FunR Tryz.prog 32 [.adr 0 0 0] [(0, ⟨false, 50, 2, [[.lit (.pointer none), .als 1 0 l.length]], false⟩), (1, ⟨true, 5, 1, l.map byteC, true⟩)] 2 (Ret (.tup []) [(0, ⟨false, 50, 2, [[.adr 0 0 0, .als 1 0 l.length]], false⟩), (1, ⟨true, 5, 1, l.map byteC, true⟩)]) := by
  refine FunR.of (nt := 20) (rs := []) Tryz.func32 rfl rfl rfl rfl rfl ?_
  refine Ev.sr fun K hK => S.o q.mv (S.o q.nc (S.o (q.fa 0 am_fi50_0 am_cl47) (S.o (q.lv am_ag47) (S.peq (by kernel_rfl : Tryz.prog.underlying 47 = some (.pointer 50)) (h := S.end (hK _ ?_))))))
  clear hK K
  refine Ev.ct ?_
  refine Ev.region_S fun K hK => S.o q.mv (S.o q.mv (S.p2u (by kernel_rfl : Tryz.prog.underlying 47 = some (.pointer 50)) (by kernel_rfl) (by kernel_rfl) (h := S.same (f := 48) (fn := Tryz.f48) Tryz.func48 (by kernel_rfl) (by kernel_rfl) (by kernel_rfl) (by kernel_rfl) (h := S.u2p (by kernel_rfl) (by kernel_rfl : Tryz.prog.underlying 47 = some (.pointer 50)) (by kernel_rfl) (by kernel_rfl) (h := S.o q.nc (S.o (q.fa 0 am_fi50_0 am_cl47) (S.sv [_, _] false [_] am_in47 am_cl47 (h := S.end (hK _ ?_)))))))))
  clear hK K
  show endR _ _ _ _ Exit.ret _
  refine Ev.rr0 [0, 1] (keepR_d (h := (keepR_c (h := keepR_n)))) leads2 ?_
  refine ⟨?_, ?_⟩
  all_goals rfl
theorem writeUsed_fun (l s : List UInt8) (hl : l.length + s.length ≤ 100000000000) : FunR Tryz.prog 16 [.adr 0 0 0, .lit (str s)] [(0, ⟨false, 50, 2, [[.adr 0 0 0, .als 1 0 l.length]], false⟩), (1, ⟨true, 5, 1, l.map byteC, true⟩)] 2
    (Ret (.tup [.lit (.int .i64 (s.length : Int)), .lit .nilIface]) [(0, ⟨false, 50, 2, [[.adr 0 0 0, .als 2 0 (l ++ s).length]], false⟩), (2, ⟨true, 5, 1, (l ++ s).map byteC, true⟩)]) := by
  refine FunR.of (nt := 19) (rs := [.tmp 4, .tmp 5]) Tryz.func16 rfl rfl rfl rfl rfl ?_
  refine Ev.sr fun K hK => S.o q.as (S.o q.as (S.end (hK _ ?_)))
  clear hK K
  refine Ev.sr fun K hK => S.o q.mv (S.cR [0, 1] 2 [_, _] (hob := (keep_d (he := rfl) (h := (keep_c (he := rfl) (h := keep_n))))) (hF := copyUsed_fun l) (hn' := belowL rfl rfl) (h := S.end (hK _ ?_)))
  clear hK K
  refine Ev.sr fun K hK => S.o q.mv (S.o q.mv (S.o q.nc (S.o (q.fa 1 am_fi50_1 am_cl48) (S.o (q.lv am_ag48) (S.o q.mv (S.aps [_] am_el48 am_un9 am_ze5 am_cl5 am_by5 (hh := (head_own' (f := byteC))) (h := S.o q.nc (S.o (q.fa 1 am_fi50_1 am_cl48) (S.sv [_, _] false [_] am_in48 am_cl48 (h := S.end (hK _ ?_)))))))))))
  clear hK K
  refine Ev.sr fun K hK => S.o q.mv (S.o (q.slen am_el9 am_un9) (S.o q.as (S.o q.as (S.end (hK _ ?_)))))
  clear hK K
  refine Ev.ret ?_
  refine Ev.rr2 [0, 1, 2] (keepR_d (h := (keepR_g (h := (keepR_c (h := keepR_n)))))) (leadsB rfl) ?_
  refine ⟨?_, ?_⟩
  all_goals rfl
theorem writeFresh_fun (l s : List UInt8) (hl : l.length + s.length ≤ 100000000000) : FunR Tryz.prog 16 [.adr 0 0 0, .lit (str s)] [(0, ⟨false, 50, 2, [[.lit (.pointer none), .als 1 0 l.length]], false⟩), (1, ⟨true, 5, 1, l.map byteC, true⟩)] 2
    (Ret (.tup [.lit (.int .i64 (s.length : Int)), .lit .nilIface]) [(0, ⟨false, 50, 2, [[.adr 0 0 0, .als 2 0 (l ++ s).length]], false⟩), (2, ⟨true, 5, 1, (l ++ s).map byteC, true⟩)]) := by
  refine FunR.of (nt := 19) (rs := [.tmp 4, .tmp 5]) Tryz.func16 rfl rfl rfl rfl rfl ?_
  refine Ev.sr fun K hK => S.o q.as (S.o q.as (S.end (hK _ ?_)))
  clear hK K
  refine Ev.sr fun K hK => S.o q.mv (S.cR [0, 1] 2 [_, _] (hob := (keep_d (he := rfl) (h := (keep_c (he := rfl) (h := keep_n))))) (hF := copyFresh_fun l) (hn' := belowL rfl rfl) (h := S.end (hK _ ?_)))
  clear hK K
  refine Ev.sr fun K hK => S.o q.mv (S.o q.mv (S.o q.nc (S.o (q.fa 1 am_fi50_1 am_cl48) (S.o (q.lv am_ag48) (S.o q.mv (S.aps [_] am_el48 am_un9 am_ze5 am_cl5 am_by5 (hh := (head_own' (f := byteC))) (h := S.o q.nc (S.o (q.fa 1 am_fi50_1 am_cl48) (S.sv [_, _] false [_] am_in48 am_cl48 (h := S.end (hK _ ?_)))))))))))
  clear hK K
  refine Ev.sr fun K hK => S.o q.mv (S.o (q.slen am_el9 am_un9) (S.o q.as (S.o q.as (S.end (hK _ ?_)))))
  clear hK K
  refine Ev.ret ?_
  refine Ev.rr2 [0, 1, 2] (keepR_d (h := (keepR_g (h := (keepR_c (h := keepR_n)))))) (leadsB rfl) ?_
  refine ⟨?_, ?_⟩
  all_goals rfl
theorem string_fun (l : List UInt8) (hl : 0 < l.length) : FunR Tryz.prog 19 [.adr 0 0 0] [(0, ⟨false, 50, 2, [[.adr 0 0 0, .als 1 0 l.length]], false⟩), (1, ⟨true, 5, 1, l.map byteC, true⟩)] 2 (Ret (.lit (str l)) [(0, ⟨false, 50, 2, [[.adr 0 0 0, .als 1 0 l.length]], false⟩)]) := by
  refine FunR.of (nt := 14) (rs := [.tmp 2]) Tryz.func19 rfl rfl rfl rfl rfl ?_
  refine Ev.sr fun K hK => S.o q.as (S.end (hK _ ?_))
  clear hK K
  refine Ev.sm (tbs [(0, 0), (1, 1), (2, 3), (3, 7), (4, 15), (0, 0), (6, 32), (7, 96), (8, 224), (9, 480), (10, 1023), (11, 2047)]) 10 fun K hK => M.o q.mv (M.o q.nc (M.o (q.fa 1 am_fi50_1 am_cl48) (M.o (q.lv am_ag48) (M.o (q.usd (by omega)) (M.o q.mv (M.o q.nc (M.o (q.fa 1 am_fi50_1 am_cl48) (M.o (q.lv am_ag48) (M.o (q.lena am_el48) (M.end [_, _] (h := S.ust [_] (by kernel_rfl : Tryz.prog.underlying 80 = some (.pointer 5)) am_cl5 (by omega) (h := S.o q.as (S.end (hK _ ?_))))))))))))))
  clear hK K
  refine Ev.ret ?_
  refine Ev.rr1 [0, 1] (keepR_d (h := (keepR_g (h := keepR_n)))) leads2 ?_
  refine ⟨?_, ?_⟩
  all_goals rfl
theorem string0_fun : FunR Tryz.prog 19 [.adr 0 0 0] [(0, ⟨false, 50, 2, [[.lit (.pointer none), .lit (.slice none 0 0)]], true⟩)] 1 (Ret (.lit (str [])) [(0, ⟨false, 50, 2, [[.lit (.pointer none), .lit (.slice none 0 0)]], true⟩)]) := by
  refine FunR.of (nt := 14) (rs := [.tmp 2]) Tryz.func19 rfl rfl rfl rfl rfl ?_
  refine Ev.sr fun K hK => S.o q.as (S.end (hK _ ?_))
  clear hK K
  refine Ev.sm (tbs [(0, 0), (1, 1), (2, 3), (3, 7), (4, 15), (0, 0), (6, 32), (7, 96), (8, 224), (9, 480), (10, 1023), (11, 2047)]) 10 fun K hK => M.o q.mv (M.o q.nc (M.o (q.fa 1 am_fi50_1 am_cl48) (M.o (q.lv am_ag48) (M.o q.usd0 (M.o q.mv (M.o q.nc (M.o (q.fa 1 am_fi50_1 am_cl48) (M.o (q.lv am_ag48) (M.o (q.lenn am_el48) (M.end [_] (h := S.ust0 (h := S.o q.as (S.end (hK _ ?_))))))))))))))
  clear hK K
  refine Ev.ret ?_
  refine Ev.rr1 [0] (keepR_c (h := keepR_n)) leads1 ?_
  refine ⟨?_, ?_⟩
  all_goals rfl
end Go.Proofs.YtnbjmckhongidaaGreatDoor
namespace Go.Proofs.YtnbjmckhongidaaGreatDoor
open Go Go.AM
set_option linter.unusedSimpArgs false
set_option linter.unusedVariables false
set_option maxRecDepth 100000
set_option maxHeartbeats 2000000

open Go.Shelf in
shelf_lay Lays.n241 Nm 241 at Tryz as lays241
theorem bext : Go.Proofs.Builder.Extra Tryz.prog lays241_ren where
  sizeBuilder := by kernel_rfl
  liesBuilder := by kernel_rfl
  t5 := Tryz.underlying5
  a5 := Tryz.isAgg5
  z5 := Tryz.sizeOf5
  v5 := Tryz.zeroValue5
  infoByte := by kernel_rfl
  cellsByte := by kernel_rfl
  sizeByte := by kernel_rfl
  neB5 := by decide
theorem copyNil_fun : FunR Tryz.prog 32 [.adr 0 0 0] [(0, ⟨false, 50, 2, [[.lit (.pointer none), .lit (.slice none 0 0)]], true⟩)] 1 (Ret (.tup []) [(0, ⟨false, 50, 2, [[.adr 0 0 0, .lit (.slice none 0 0)]], false⟩)]) := by
  refine FunR.of (nt := 20) (rs := []) Tryz.func32 rfl rfl rfl rfl rfl ?_
  refine Ev.sr fun K hK => S.o q.mv (S.o q.nc (S.o (q.fa 0 am_fi50_0 am_cl47) (S.o (q.lv am_ag47) (S.peq (by kernel_rfl : Tryz.prog.underlying 47 = some (.pointer 50)) (h := S.end (hK _ ?_))))))
  clear hK K
  refine Ev.ct ?_
  refine Ev.region_S fun K hK => S.o q.mv (S.o q.mv (S.p2u (by kernel_rfl : Tryz.prog.underlying 47 = some (.pointer 50)) (by kernel_rfl) (by kernel_rfl) (h := S.same (f := 48) (fn := Tryz.f48) Tryz.func48 (by kernel_rfl) (by kernel_rfl) (by kernel_rfl) (by kernel_rfl) (h := S.u2p (by kernel_rfl) (by kernel_rfl : Tryz.prog.underlying 47 = some (.pointer 50)) (by kernel_rfl) (by kernel_rfl) (h := S.o q.nc (S.o (q.fa 0 am_fi50_0 am_cl47) (S.sv [_, _] false [] am_in47 am_cl47 (h := S.end (hK _ ?_)))))))))
  clear hK K
  show endR _ _ _ _ Exit.ret _
  refine Ev.rr0 [0] (keepR_d (h := keepR_n)) leads1 ?_
  refine ⟨?_, ?_⟩
  all_goals rfl
theorem grow1_fun {n : Int} (h0 : 0 ≤ n) (hn : n ≤ 281474976710656) : FunR Tryz.prog 49 [.adr 0 0 0, .lit (.int .i64 n)] [(0, ⟨false, 50, 2, [[.adr 0 0 0, .lit (.slice none 0 0)]], false⟩)] 1 (Ret (.tup []) [(0, ⟨false, 50, 2, [[.adr 0 0 0, .als 1 0 0]], false⟩), (1, ⟨true, 5, 1, [], true⟩)]) := grow_R lays241 bext ⟨_, Tryz.func49, rfl, rfl⟩ h0 hn
theorem grow0_fun {n : Int} (h0 : 0 < n) (hn : n ≤ 281474976710656) : FunR Tryz.prog 33 [.adr 0 0 0, .lit (.int .i64 n)] [(0, ⟨false, 50, 2, [[.lit (.pointer none), .lit (.slice none 0 0)]], true⟩)] 1 (Ret (.tup []) [(0, ⟨false, 50, 2, [[.adr 0 0 0, .als 1 0 0]], false⟩), (1, ⟨true, 5, 1, [], true⟩)]) := by
  refine FunR.of (nt := 25) (rs := []) Tryz.func33 rfl rfl rfl rfl rfl ?_
  refine Ev.sr fun K hK => S.o q.mv (S.cR [0] 1 [_] (hob := (keep_c (he := rfl) (h := keep_n))) (hF := copyNil_fun) (hn' := belowL rfl rfl) (h := S.end (hK _ ?_)))
  clear hK K
  refine Ev.seq ?_
  refine Ev.sr fun K hK => S.o q.mv (S.o q.lss (S.end (hK _ ?_)))
  clear hK K
  refine Ev.cd (fun c1 => ?_) (fun c1 => ?_)
  · first
  | (first | omega | contradiction)
  | omega
  · first
  | (first | omega | contradiction)
  | refine Ev.skip ?_
    show Ev _ _ _ _
    refine Ev.sm (tbs [(0, 0), (1, 1), (2, 3), (3, 7), (4, 15), (0, 0), (6, 32), (7, 96), (8, 224), (9, 480), (10, 1023), (0, 0), (12, 4095)]) 13 fun K hK => M.o q.mv (M.o q.nc (M.o (q.fa 1 am_fi50_1 am_cl48) (M.o (q.lv am_ag48) (M.o (q.cap0 am_el48) (M.o q.mv (M.o q.nc (M.o (q.fa 1 am_fi50_1 am_cl48) (M.o (q.lv am_ag48) (M.o (q.lenn am_el48) (M.o q.sub (M.o q.mv (M.o q.lss (M.end [_] (h := S.end (hK _ ?_)))))))))))))))
    clear hK K
    refine Ev.cd (fun c2 => ?_) (fun c2 => ?_)
    · first
    | (first | omega | contradiction)
    | refine Ev.region_S fun K hK => S.o q.mv (S.o q.mv (S.cR [0] 54 [_, _] (hob := (keep_d (he := rfl) (h := keep_n))) (hF := grow1_fun (by omega) (by omega)) (hn' := belowL rfl rfl) (h := S.end (hK _ ?_))))
      clear hK K
      show endR _ _ _ _ Exit.ret _
      refine Ev.rr0 [0, 53] (keepR_d (h := (keepR_c (h := keepR_n)))) (leadsB rfl) ?_
      refine ⟨?_, ?_⟩
      all_goals rfl
    · first
    | (first | omega | contradiction)
    | refine Ev.skip ?_
      show endR _ _ _ _ Exit.ret _
      refine Ev.rr0 [0] (keepR_d (h := keepR_n)) leads1 ?_
      refine ⟨?_, ?_⟩
      all_goals rfl

def sepcat (sep : List UInt8) (l : List (List UInt8)) : List UInt8 := (l.map fun y => sep ++ y).flatten
/-- Words, joined. -/
def joinS (sep : List UInt8) : List (List UInt8) → List UInt8
  | [] => []
  | x :: l => x ++ sepcat sep l
theorem sepcat_snoc (sep : List UInt8) (l : List (List UInt8)) (x : List UInt8) : sepcat sep (l ++ [x]) = sepcat sep l ++ sep ++ x := by simp [sepcat]
theorem sepcat_pos {sep : List UInt8} {l : List (List UInt8)} (h : 1 ≤ l.length) (hs : 0 < sep.length) : 0 < (sepcat sep l).length := by
  cases l with
  | nil => simp at h
  | cons x l =>
    simp only [sepcat, List.map_cons, List.flatten_cons, List.length_append]
    omega
def lenS (l : List (List UInt8)) : Int := (l.map fun x => (x.length : Int)).sum
theorem lenS_snoc (l : List (List UInt8)) (x : List UInt8) : lenS (l ++ [x]) = lenS l + x.length := by simp [lenS]
theorem lenS_bd : ∀ l : List (List UInt8), (∀ x ∈ l, x.length ≤ 1000000) → 0 ≤ lenS l ∧ lenS l ≤ 1000000 * l.length := by
  refine snoc_ind (fun _ => by simp [lenS]) ?_
  intro l s ih h
  have := ih fun b hb => h b (by simp [hb])
  have := h s (by simp)
  rw [lenS_snoc, List.length_append, List.length_singleton]
  omega
theorem sepcat_len (sep : List UInt8) : ∀ l : List (List UInt8), (∀ x ∈ l, x.length ≤ 1000000) → (sepcat sep l).length ≤ (sep.length + 1000000) * l.length := by
  refine snoc_ind (fun _ => by simp [sepcat]) ?_
  intro l s ih h
  have := ih fun b hb => h b (by simp [hb])
  have := h s (by simp)
  rw [sepcat_snoc, List.length_append, List.length_append, List.length_append, List.length_singleton, Nat.mul_add]
  omega
theorem join_room {b : Int} (hb : 1 ≤ b) (hb2 : b ≤ 1000) (h : (1 : Int) ≥ 9223372036854775807 / b) : False := by
  have : (2 : Int) ≤ 9223372036854775807 / b := (Int.le_ediv_iff_mul_le (by omega)).2 (by omega)
  omega
theorem tail_eq (x : List UInt8) (r : List (List UInt8)) : ((x :: r).drop (1 : Int).toNat).take (((((x :: r).map strC).length : Int)).toNat - (1 : Int).toNat) = r := by simp
theorem join_fun (xs : List (List UInt8)) (h2 : xs.length ≤ 1000) (he : ∀ x ∈ xs, x.length ≤ 1000000) : Fun Tryz.prog 17 [.sh 1 (xs.map strC), .lit (str [32])] (Ret (.lit (str (joinS [32] xs))) []) := by
  have hone : (([32] : List UInt8).length : Int) = 1 := rfl
  refine Fun.of (nt := 75) (rs := [.tmp 4]) Tryz.func17 rfl rfl rfl rfl rfl ?_
  refine Ev.sr fun K hK => S.o q.as (S.end (hK _ ?_))
  clear hK K
  refine Ev.seq ?_
  refine Ev.sr fun K hK => S.o q.mv (S.o (q.lens am_el57) (S.end (hK _ ?_)))
  clear hK K
  refine Ev.block ?_
  refine Ev.sr fun K hK => S.o q.eql (S.o q.as (S.end (hK _ ?_)))
  clear hK K
  refine Ev.cd (fun c1 => ?_) (fun c1 => ?_)
  · first
  | (first | omega | contradiction)
  | obtain rfl : xs = [] := List.eq_nil_of_length_eq_zero (by omega)
    refine Ev.sr fun K hK => S.o q.as (S.end (hK _ ?_))
    clear hK K
    refine Ev.ret ?_
    refine Ev.ret1 ?_
    refine ⟨?_, rfl⟩
    first | rfl | (simp only [joinS, sepcat, List.map_nil, List.flatten_nil, List.append_nil]; done)
  · first
  | (first | omega | contradiction)
  | refine Ev.sr fun K hK => S.o q.eql (S.o q.as (S.end (hK _ ?_)))
    clear hK K
    refine Ev.cd (fun c2 => ?_) (fun c2 => ?_)
    · first
    | (first | omega | contradiction)
    | obtain ⟨x0, rfl⟩ : ∃ x0, xs = [x0] := List.length_eq_one_iff.1 (by omega)
      have hx0 : [x0][0]? = some x0 := rfl
      refine Ev.sr fun K hK => S.o q.mv (S.o (q.ix am_el57 am_cl9 (hl := (by first | exact ati hx0 (by omega) | exact atig (by omega)))) (S.o (q.ls am_ag9) (S.o q.as (S.end (hK _ ?_)))))
      clear hK K
      refine Ev.ret ?_
      refine Ev.ret1 ?_
      refine ⟨?_, rfl⟩
      first | rfl | (simp only [joinS, sepcat, List.map_nil, List.flatten_nil, List.append_nil]; done)
    · first
    | (first | omega | contradiction)
    | refine Ev.skip ?_
      show Ev _ _ _ _
      obtain ⟨x0, r, rfl⟩ : ∃ x0 r, xs = x0 :: r := by
        cases xs with
        | nil => simp at *
        | cons x r => exact ⟨x, r, rfl⟩
      have hx0 : (x0 :: r)[0]? = some x0 := rfl
      have hrl : ((x0 :: r).length : Int) = r.length + 1 := by simp
      have hrn : 1 ≤ r.length := by omega
      have hxl := he x0 (by simp)
      refine Ev.sr fun K hK => S.o q.as (S.end (hK _ ?_))
      clear hK K
      refine Ev.seq ?_
      refine Ev.sr fun K hK => S.o q.mv (S.o (q.slen am_el9 am_un9) (S.o q.gtr (S.end (hK _ ?_))))
      clear hK K
      refine Ev.cd (fun c3 => ?_) (fun c3 => ?_)
      · first
      | (first | omega | contradiction)
      | refine Ev.seq ?_
        refine Ev.sr fun K hK => S.o q.mv (S.o (q.slen am_el9 am_un9) (S.o q.mv (S.o (q.lens am_el57) (S.o q.sub (S.o q.quo ?_)))))
        simp only [hone]
        refine S.o q.geq (S.end (hK _ ?_))
        clear hK K
        refine Ev.cd (fun c4 => ?_) (fun c4 => ?_)
        · first
        | (first | omega | contradiction)
        | exact (join_room (b := (((x0 :: r).length : Int) - 1)) (by omega) (by omega) ‹_›).elim
        · first
        | (first | omega | contradiction)
        | refine Ev.skip ?_
          show Ev _ _ _ _
          refine Ev.region_S fun K hK => S.o q.mv (S.o q.mv (S.o (q.slen am_el9 am_un9) (S.o q.mv (S.o (q.lens am_el57) (S.o q.sub ?_)))))
          simp only [hone]
          refine S.o q.mul (S.o q.add (S.o q.as (S.end (hK _ ?_))))
          clear hK K
          show Ev _ _ _ _
          refine Ev.seq ?_
          refine Ev.sr fun K hK => S.o q.mv (S.o (q.lens am_el57) (S.o q.mv (S.end (hK _ ?_))))
          clear hK K
          refine Ev.block ?_
          refine Ev.loopU (ι := {p : List (List UInt8) × List (List UInt8) // p.1 ++ p.2 = (x0 :: r) ∧ True}) [] [0, 1, 4, 39, 40] (fun ⟨(pre, suf), _⟩ => [(41, .lit (.int .i64 ((pre.length : Int)))), (5, .lit (.int .i64 ((r.length : Int) + lenS pre)))]) (fun ⟨(pre, suf), _⟩ => []) (fun ⟨(pre, suf), _⟩ => suf.length) ⟨([], (x0 :: r)), rfl, trivial⟩ (.c (.c (.c (.c (.c .n))))) keep_n (slots_c (he := (by first | rfl | (congr 2; simp; done))) (h := (slots_c (he := (by first | rfl | exact iE (by rw [lenS_snoc]; omega) | exact iE (by simp only [lenS, List.map_nil, List.sum_nil]; omega))) (h := trivial)))) ?_
          rintro ⟨⟨pre, suf⟩, hp, hinv⟩ R1 hR1
          dsimp only [List.cons_append, List.nil_append, List.length_cons, List.length_nil]
          simp only at hp hinv
          have hpl : pre.length + suf.length = ((x0 :: r)).length := by rw [← hp, List.length_append]
          rcases suf with _ | ⟨s, suf⟩
          · rw [List.append_nil] at hp; subst hp; simp only [List.length_nil] at hpl
            obtain ⟨l1, l2⟩ := lenS_bd (x0 :: r) he
            refine Ev.sr fun K hK => S.o q.lss (S.end (hK _ ?_))
            clear hK K
            refine Ev.ud (fun c5 => ?_) (fun c5 => ?_)
            · first | omega | contradiction
            · first
            | (first | omega | contradiction)
            | refine Ev.exit ?_
              refine hR1 _ _ ?_
              show Ev _ _ _ _
              refine Ev.sr fun K hK => S.nn (q.al am_ze50) (S.end (hK _ ?_))
              clear hK K
              refine Ev.sr fun K hK => S.o q.mv (S.cR [0] 2 [_, _] (hob := (keep_c (he := rfl) (h := keep_n))) (hF := grow0_fun (by omega) (by omega)) (hn' := belowL rfl rfl) (h := S.end (hK _ ?_)))
              clear hK K
              refine Ev.sr fun K hK => S.o q.mv (S.o (q.ix am_el57 am_cl9 (hl := (by first | exact ati hx0 (by omega) | exact atig (by omega)))) (S.o (q.ls am_ag9) (S.cR [0, 1] 3 [_, _] (hob := (keep_d (he := rfl) (h := (keep_c (he := rfl) (h := keep_n))))) (hF := writeUsed_fun ([]) _ (by simp only [List.length_nil]; omega)) (hn' := belowL rfl rfl) (h := S.end (hK _ ?_)))))
              clear hK K
              refine Ev.seq ?_
              refine Ev.sr fun K hK => S.o q.mv (S.o (q.sh am_el57 am_cl9) ?_)
              rw [tail_eq]
              refine S.o (q.lens am_el57) (S.o q.mv (S.end (hK _ ?_)))
              clear hK K
              refine Ev.block ?_
              refine Ev.loopU (ι := {p : List (List UInt8) × List (List UInt8) // p.1 ++ p.2 = r ∧ True}) [0, 2] [0, 1, 4, 5, 8, 39, 40, 41, 42, 56, 58, 59, 60, 62, 63, 64] (fun ⟨(pre, suf), _⟩ => [(65, .lit (.int .i64 ((pre.length : Int))))]) (fun ⟨(pre, suf), _⟩ => [(0, ⟨false, 50, 2, [[bp (true) 0, .als 1 0 (x0 ++ sepcat [32] pre).length]], false⟩), (1, ⟨true, 5, 1, (x0 ++ sepcat [32] pre).map byteC, true⟩)]) (fun ⟨(pre, suf), _⟩ => suf.length) ⟨([], r), rfl, trivial⟩ (.c (.c (.c (.c (.c (.c (.c (.c (.c (.c (.c (.c (.c (.c (.c (.c .n)))))))))))))))) (keep_d (hr := (by first | exact rfl | exact bp_ren rfl rfl)) (he := (by first | rfl | (simp only [sepcat_snoc, List.append_assoc]; done) | (simp only [sepcat_snoc, List.append_assoc] <;> rfl) | (simp only [sepcat, List.map_nil, List.flatten_nil, List.append_nil, List.nil_append]; done) | (simp only [sepcat, List.map_nil, List.flatten_nil, List.append_nil, List.nil_append] <;> rfl))) (h := (keep_c (he := (by first | rfl | (simp only [sepcat_snoc, List.append_assoc]; done) | (simp only [sepcat_snoc, List.append_assoc] <;> rfl) | (simp only [sepcat, List.map_nil, List.flatten_nil, List.append_nil, List.nil_append]; done) | (simp only [sepcat, List.map_nil, List.flatten_nil, List.append_nil, List.nil_append] <;> rfl))) (h := keep_n)))) (slots_c (he := (by first | rfl | (congr 2; simp; done))) (h := trivial)) ?_
              rintro ⟨⟨pre, suf⟩, hp, hinv⟩ R3 hR3
              dsimp only [List.cons_append, List.nil_append, List.length_cons, List.length_nil]
              simp only at hp hinv
              have hpl : pre.length + suf.length = (r).length := by rw [← hp, List.length_append]
              rcases suf with _ | ⟨s, suf⟩
              · rw [List.append_nil] at hp; subst pre; simp only [List.length_nil] at hpl
                have hsp := sepcat_pos (sep := [32]) hrn (by decide)
                refine Ev.sr fun K hK => S.o q.lss (S.end (hK _ ?_))
                clear hK K
                refine Ev.ud (fun c6 => ?_) (fun c6 => ?_)
                · first | omega | contradiction
                · first
                | (first | omega | contradiction)
                | refine Ev.exit ?_
                  refine hR3 _ _ ?_
                  show Ev _ _ _ _
                  refine Ev.sr fun K hK => S.cR [0, 1] 2 [_] (hob := (keep_d (he := rfl) (h := (keep_c (he := rfl) (h := keep_n))))) (hF := string_fun _ (by rw [List.length_append]; omega)) (hn' := belowL rfl rfl) (h := S.o q.as (S.end (hK _ ?_)))
                  clear hK K
                  refine Ev.ret ?_
                  refine Ev.ret1 ?_
                  refine ⟨?_, rfl⟩
                  first | rfl | (simp only [joinS, sepcat, List.map_nil, List.flatten_nil, List.append_nil]; done)
              · simp only [List.length_cons] at hpl
                have hidx : (r)[pre.length]? = some s := by rw [← hp]; simp
                have hs := he s (by rw [← hp]; simp)
                have hsc := sepcat_len [32] pre (fun x hx => he x (by rw [← hp]; simp [hx]))
                simp only [List.length_cons, List.length_nil] at hsc
                refine Ev.sr fun K hK => S.o q.lss (S.end (hK _ ?_))
                clear hK K
                refine Ev.ud (fun c7 => ?_) (fun c7 => ?_)
                · first
                | (first | omega | contradiction)
                | refine Ev.seq ?_
                  refine Ev.block ?_
                  refine Ev.sr fun K hK => S.o (q.ix am_el57 am_cl9 (hl := (by first | exact ati hx0 (by omega) | exact ati hidx (by omega) | exact atig (by omega)))) (S.o (q.ls am_ag9) (S.o q.as (S.end (hK _ ?_))))
                  clear hK K
                  refine Ev.sr fun K hK => S.o q.mv (S.cR [0, 1] 3 [_, _] (hob := (keep_d (he := rfl) (h := (keep_c (he := rfl) (h := keep_n))))) (hF := writeUsed_fun (x0 ++ sepcat [32] pre) _ (by simp only [List.length_append, List.length_cons, List.length_nil]; omega)) (hn' := belowL rfl rfl) (h := S.end (hK _ ?_)))
                  clear hK K
                  refine Ev.region_S fun K hK => S.o q.mv (S.cR [0, 2] 4 [_, _] (hob := (keep_d (he := rfl) (h := (keep_c (he := rfl) (h := keep_n))))) (hF := writeUsed_fun ((x0 ++ sepcat [32] pre) ++ [32]) _ (by simp only [List.length_append, List.length_cons, List.length_nil]; omega)) (hn' := belowL rfl rfl) (h := S.end (hK _ ?_)))
                  clear hK K
                  show Ev _ _ _ _
                  refine Ev.region_S fun K hK => S.o q.add (S.o q.mv (S.end (hK _ ?_)))
                  clear hK K
                  refine hR3 _ _ ?_
                  refine roundU [0, 3] [0, 1, 4, 5, 8, 39, 40, 41, 42, 56, 58, 59, 60, 62, 63, 64] ⟨(pre ++ [s], suf), by rw [← hp]; simp, ?_⟩ ?_ (keep_d (hr := (by first | exact rfl | exact bp_ren rfl rfl)) (he := (by first | rfl | (simp only [sepcat_snoc, List.append_assoc]; done) | (simp only [sepcat_snoc, List.append_assoc] <;> rfl) | (simp only [sepcat, List.map_nil, List.flatten_nil, List.append_nil, List.nil_append]; done) | (simp only [sepcat, List.map_nil, List.flatten_nil, List.append_nil, List.nil_append] <;> rfl))) (h := (keep_c (he := (by first | rfl | (simp only [sepcat_snoc, List.append_assoc]; done) | (simp only [sepcat_snoc, List.append_assoc] <;> rfl) | (simp only [sepcat, List.map_nil, List.flatten_nil, List.append_nil, List.nil_append]; done) | (simp only [sepcat, List.map_nil, List.flatten_nil, List.append_nil, List.nil_append] <;> rfl))) (h := keep_n)))) (slots_c (he := (by first | rfl | (congr 2; simp; done))) (h := trivial)) (.c (.c (.c (.c (.c (.c (.c (.c (.c (.c (.c (.c (.c (.c (.c (.c .n))))))))))))))))
                  trivial
                  all_goals (dsimp only; simp only [List.length_cons]; omega)
                · first | omega | contradiction
          · simp only [List.length_cons] at hpl
            have hidx : ((x0 :: r))[pre.length]? = some s := by rw [← hp]; simp
            have hs := he s (by rw [← hp]; simp)
            obtain ⟨l1, l2⟩ := lenS_bd pre (fun x hx => he x (by rw [← hp]; simp [hx]))
            refine Ev.sr fun K hK => S.o q.lss (S.end (hK _ ?_))
            clear hK K
            refine Ev.ud (fun c8 => ?_) (fun c8 => ?_)
            · first
            | (first | omega | contradiction)
            | refine Ev.seq ?_
              refine Ev.block ?_
              refine Ev.sr fun K hK => S.o (q.ix am_el57 am_cl9 (hl := (by first | exact ati hx0 (by omega) | exact ati hidx (by omega) | exact atig (by omega)))) (S.o (q.ls am_ag9) (S.o q.as (S.end (hK _ ?_))))
              clear hK K
              refine Ev.seq ?_
              refine Ev.sr fun K hK => S.o q.mv (S.o (q.slen am_el9 am_un9) (S.o q.mv (S.o q.sub (S.o q.gtr (S.end (hK _ ?_))))))
              clear hK K
              refine Ev.cd (fun c9 => ?_) (fun c9 => ?_)
              · first
              | (first | omega | contradiction)
              | omega
              · first
              | (first | omega | contradiction)
              | refine Ev.skip ?_
                show Ev _ _ _ _
                refine Ev.region_S fun K hK => S.o q.mv (S.o q.mv (S.o (q.slen am_el9 am_un9) (S.o q.add (S.o q.as (S.end (hK _ ?_))))))
                clear hK K
                show Ev _ _ _ _
                refine Ev.region_S fun K hK => S.o q.add (S.o q.mv (S.end (hK _ ?_)))
                clear hK K
                refine hR1 _ _ ?_
                refine roundU [] [0, 1, 4, 39, 40] ⟨(pre ++ [s], suf), by rw [← hp]; simp, ?_⟩ ?_ keep_n (slots_c (he := (by first | rfl | (congr 2; simp; done))) (h := (slots_c (he := (by first | rfl | exact iE (by rw [lenS_snoc]; omega) | exact iE (by simp only [lenS, List.map_nil, List.sum_nil]; omega))) (h := trivial)))) (.c (.c (.c (.c (.c .n)))))
                trivial
                all_goals (dsimp only; simp only [List.length_cons]; omega)
            · first | omega | contradiction
      · first
      | (first | omega | contradiction)
      | refine Ev.skip ?_
        show Ev _ _ _ _
        refine Ev.seq ?_
        refine Ev.sr fun K hK => S.o q.mv (S.o (q.lens am_el57) (S.o q.mv (S.end (hK _ ?_))))
        clear hK K
        refine Ev.block ?_
        refine Ev.loopU (ι := {p : List (List UInt8) × List (List UInt8) // p.1 ++ p.2 = (x0 :: r) ∧ True}) [] [0, 1, 4, 39, 40] (fun ⟨(pre, suf), _⟩ => [(41, .lit (.int .i64 ((pre.length : Int)))), (5, .lit (.int .i64 ((r.length : Int) + lenS pre)))]) (fun ⟨(pre, suf), _⟩ => []) (fun ⟨(pre, suf), _⟩ => suf.length) ⟨([], (x0 :: r)), rfl, trivial⟩ (.c (.c (.c (.c (.c .n))))) keep_n (slots_c (he := (by first | rfl | (congr 2; simp; done))) (h := (slots_c (he := (by first | rfl | exact iE (by rw [lenS_snoc]; omega) | exact iE (by simp only [lenS, List.map_nil, List.sum_nil]; omega))) (h := trivial)))) ?_
        rintro ⟨⟨pre, suf⟩, hp, hinv⟩ R1 hR1
        dsimp only [List.cons_append, List.nil_append, List.length_cons, List.length_nil]
        simp only at hp hinv
        have hpl : pre.length + suf.length = ((x0 :: r)).length := by rw [← hp, List.length_append]
        rcases suf with _ | ⟨s, suf⟩
        · rw [List.append_nil] at hp; subst hp; simp only [List.length_nil] at hpl
          obtain ⟨l1, l2⟩ := lenS_bd (x0 :: r) he
          refine Ev.sr fun K hK => S.o q.lss (S.end (hK _ ?_))
          clear hK K
          refine Ev.ud (fun c10 => ?_) (fun c10 => ?_)
          · first | omega | contradiction
          · first
          | (first | omega | contradiction)
          | refine Ev.exit ?_
            refine hR1 _ _ ?_
            show Ev _ _ _ _
            refine Ev.sr fun K hK => S.nn (q.al am_ze50) (S.end (hK _ ?_))
            clear hK K
            refine Ev.sr fun K hK => S.o q.mv (S.cR [0] 2 [_, _] (hob := (keep_c (he := rfl) (h := keep_n))) (hF := grow0_fun (by omega) (by omega)) (hn' := belowL rfl rfl) (h := S.end (hK _ ?_)))
            clear hK K
            refine Ev.sr fun K hK => S.o q.mv (S.o (q.ix am_el57 am_cl9 (hl := (by first | exact ati hx0 (by omega) | exact atig (by omega)))) (S.o (q.ls am_ag9) (S.cR [0, 1] 3 [_, _] (hob := (keep_d (he := rfl) (h := (keep_c (he := rfl) (h := keep_n))))) (hF := writeUsed_fun ([]) _ (by simp only [List.length_nil]; omega)) (hn' := belowL rfl rfl) (h := S.end (hK _ ?_)))))
            clear hK K
            refine Ev.seq ?_
            refine Ev.sr fun K hK => S.o q.mv (S.o (q.sh am_el57 am_cl9) ?_)
            rw [tail_eq]
            refine S.o (q.lens am_el57) (S.o q.mv (S.end (hK _ ?_)))
            clear hK K
            refine Ev.block ?_
            refine Ev.loopU (ι := {p : List (List UInt8) × List (List UInt8) // p.1 ++ p.2 = r ∧ True}) [0, 2] [0, 1, 4, 5, 8, 39, 40, 41, 42, 56, 58, 59, 60, 62, 63, 64] (fun ⟨(pre, suf), _⟩ => [(65, .lit (.int .i64 ((pre.length : Int))))]) (fun ⟨(pre, suf), _⟩ => [(0, ⟨false, 50, 2, [[bp (true) 0, .als 1 0 (x0 ++ sepcat [32] pre).length]], false⟩), (1, ⟨true, 5, 1, (x0 ++ sepcat [32] pre).map byteC, true⟩)]) (fun ⟨(pre, suf), _⟩ => suf.length) ⟨([], r), rfl, trivial⟩ (.c (.c (.c (.c (.c (.c (.c (.c (.c (.c (.c (.c (.c (.c (.c (.c .n)))))))))))))))) (keep_d (hr := (by first | exact rfl | exact bp_ren rfl rfl)) (he := (by first | rfl | (simp only [sepcat_snoc, List.append_assoc]; done) | (simp only [sepcat_snoc, List.append_assoc] <;> rfl) | (simp only [sepcat, List.map_nil, List.flatten_nil, List.append_nil, List.nil_append]; done) | (simp only [sepcat, List.map_nil, List.flatten_nil, List.append_nil, List.nil_append] <;> rfl))) (h := (keep_c (he := (by first | rfl | (simp only [sepcat_snoc, List.append_assoc]; done) | (simp only [sepcat_snoc, List.append_assoc] <;> rfl) | (simp only [sepcat, List.map_nil, List.flatten_nil, List.append_nil, List.nil_append]; done) | (simp only [sepcat, List.map_nil, List.flatten_nil, List.append_nil, List.nil_append] <;> rfl))) (h := keep_n)))) (slots_c (he := (by first | rfl | (congr 2; simp; done))) (h := trivial)) ?_
            rintro ⟨⟨pre, suf⟩, hp, hinv⟩ R3 hR3
            dsimp only [List.cons_append, List.nil_append, List.length_cons, List.length_nil]
            simp only at hp hinv
            have hpl : pre.length + suf.length = (r).length := by rw [← hp, List.length_append]
            rcases suf with _ | ⟨s, suf⟩
            · rw [List.append_nil] at hp; subst pre; simp only [List.length_nil] at hpl
              have hsp := sepcat_pos (sep := [32]) hrn (by decide)
              refine Ev.sr fun K hK => S.o q.lss (S.end (hK _ ?_))
              clear hK K
              refine Ev.ud (fun c11 => ?_) (fun c11 => ?_)
              · first | omega | contradiction
              · first
              | (first | omega | contradiction)
              | refine Ev.exit ?_
                refine hR3 _ _ ?_
                show Ev _ _ _ _
                refine Ev.sr fun K hK => S.cR [0, 1] 2 [_] (hob := (keep_d (he := rfl) (h := (keep_c (he := rfl) (h := keep_n))))) (hF := string_fun _ (by rw [List.length_append]; omega)) (hn' := belowL rfl rfl) (h := S.o q.as (S.end (hK _ ?_)))
                clear hK K
                refine Ev.ret ?_
                refine Ev.ret1 ?_
                refine ⟨?_, rfl⟩
                first | rfl | (simp only [joinS, sepcat, List.map_nil, List.flatten_nil, List.append_nil]; done)
            · simp only [List.length_cons] at hpl
              have hidx : (r)[pre.length]? = some s := by rw [← hp]; simp
              have hs := he s (by rw [← hp]; simp)
              have hsc := sepcat_len [32] pre (fun x hx => he x (by rw [← hp]; simp [hx]))
              simp only [List.length_cons, List.length_nil] at hsc
              refine Ev.sr fun K hK => S.o q.lss (S.end (hK _ ?_))
              clear hK K
              refine Ev.ud (fun c12 => ?_) (fun c12 => ?_)
              · first
              | (first | omega | contradiction)
              | refine Ev.seq ?_
                refine Ev.block ?_
                refine Ev.sr fun K hK => S.o (q.ix am_el57 am_cl9 (hl := (by first | exact ati hx0 (by omega) | exact ati hidx (by omega) | exact atig (by omega)))) (S.o (q.ls am_ag9) (S.o q.as (S.end (hK _ ?_))))
                clear hK K
                refine Ev.sr fun K hK => S.o q.mv (S.cR [0, 1] 3 [_, _] (hob := (keep_d (he := rfl) (h := (keep_c (he := rfl) (h := keep_n))))) (hF := writeUsed_fun (x0 ++ sepcat [32] pre) _ (by simp only [List.length_append, List.length_cons, List.length_nil]; omega)) (hn' := belowL rfl rfl) (h := S.end (hK _ ?_)))
                clear hK K
                refine Ev.region_S fun K hK => S.o q.mv (S.cR [0, 2] 4 [_, _] (hob := (keep_d (he := rfl) (h := (keep_c (he := rfl) (h := keep_n))))) (hF := writeUsed_fun ((x0 ++ sepcat [32] pre) ++ [32]) _ (by simp only [List.length_append, List.length_cons, List.length_nil]; omega)) (hn' := belowL rfl rfl) (h := S.end (hK _ ?_)))
                clear hK K
                show Ev _ _ _ _
                refine Ev.region_S fun K hK => S.o q.add (S.o q.mv (S.end (hK _ ?_)))
                clear hK K
                refine hR3 _ _ ?_
                refine roundU [0, 3] [0, 1, 4, 5, 8, 39, 40, 41, 42, 56, 58, 59, 60, 62, 63, 64] ⟨(pre ++ [s], suf), by rw [← hp]; simp, ?_⟩ ?_ (keep_d (hr := (by first | exact rfl | exact bp_ren rfl rfl)) (he := (by first | rfl | (simp only [sepcat_snoc, List.append_assoc]; done) | (simp only [sepcat_snoc, List.append_assoc] <;> rfl) | (simp only [sepcat, List.map_nil, List.flatten_nil, List.append_nil, List.nil_append]; done) | (simp only [sepcat, List.map_nil, List.flatten_nil, List.append_nil, List.nil_append] <;> rfl))) (h := (keep_c (he := (by first | rfl | (simp only [sepcat_snoc, List.append_assoc]; done) | (simp only [sepcat_snoc, List.append_assoc] <;> rfl) | (simp only [sepcat, List.map_nil, List.flatten_nil, List.append_nil, List.nil_append]; done) | (simp only [sepcat, List.map_nil, List.flatten_nil, List.append_nil, List.nil_append] <;> rfl))) (h := keep_n)))) (slots_c (he := (by first | rfl | (congr 2; simp; done))) (h := trivial)) (.c (.c (.c (.c (.c (.c (.c (.c (.c (.c (.c (.c (.c (.c (.c (.c .n))))))))))))))))
                trivial
                all_goals (dsimp only; simp only [List.length_cons]; omega)
              · first | omega | contradiction
        · simp only [List.length_cons] at hpl
          have hidx : ((x0 :: r))[pre.length]? = some s := by rw [← hp]; simp
          have hs := he s (by rw [← hp]; simp)
          obtain ⟨l1, l2⟩ := lenS_bd pre (fun x hx => he x (by rw [← hp]; simp [hx]))
          refine Ev.sr fun K hK => S.o q.lss (S.end (hK _ ?_))
          clear hK K
          refine Ev.ud (fun c13 => ?_) (fun c13 => ?_)
          · first
          | (first | omega | contradiction)
          | refine Ev.seq ?_
            refine Ev.block ?_
            refine Ev.sr fun K hK => S.o (q.ix am_el57 am_cl9 (hl := (by first | exact ati hx0 (by omega) | exact ati hidx (by omega) | exact atig (by omega)))) (S.o (q.ls am_ag9) (S.o q.as (S.end (hK _ ?_))))
            clear hK K
            refine Ev.seq ?_
            refine Ev.sr fun K hK => S.o q.mv (S.o (q.slen am_el9 am_un9) (S.o q.mv (S.o q.sub (S.o q.gtr (S.end (hK _ ?_))))))
            clear hK K
            refine Ev.cd (fun c14 => ?_) (fun c14 => ?_)
            · first
            | (first | omega | contradiction)
            | omega
            · first
            | (first | omega | contradiction)
            | refine Ev.skip ?_
              show Ev _ _ _ _
              refine Ev.region_S fun K hK => S.o q.mv (S.o q.mv (S.o (q.slen am_el9 am_un9) (S.o q.add (S.o q.as (S.end (hK _ ?_))))))
              clear hK K
              show Ev _ _ _ _
              refine Ev.region_S fun K hK => S.o q.add (S.o q.mv (S.end (hK _ ?_)))
              clear hK K
              refine hR1 _ _ ?_
              refine roundU [] [0, 1, 4, 39, 40] ⟨(pre ++ [s], suf), by rw [← hp]; simp, ?_⟩ ?_ keep_n (slots_c (he := (by first | rfl | (congr 2; simp; done))) (h := (slots_c (he := (by first | rfl | exact iE (by rw [lenS_snoc]; omega) | exact iE (by simp only [lenS, List.map_nil, List.sum_nil]; omega))) (h := trivial)))) (.c (.c (.c (.c (.c .n)))))
              trivial
              all_goals (dsimp only; simp only [List.length_cons]; omega)
          · first | omega | contradiction
end Go.Proofs.YtnbjmckhongidaaGreatDoor
